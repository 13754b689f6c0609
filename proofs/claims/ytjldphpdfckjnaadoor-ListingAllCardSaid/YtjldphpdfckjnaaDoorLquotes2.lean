import Derived.Test.YtjldphpdfckjnaaDoorPlain
namespace Go.Proofs.YtjldphpdfckjnaaDoor
open Go.RowKit

theorem plainB_92 (b : UInt8) (name : Bool) (h : plainB b name = true) : b ≠ 92 := by
  intro e
  subst e
  cases name <;> simp [plainB] at h
theorem oct_quote (b : UInt8) : okOct (byteI (48 + (b.toNat : Int) / 64)) (byteI (48 + (b.toNat : Int) / 8 % 8)) (byteI (48 + (b.toNat : Int) % 8)) = true ∧
    byteI (octV (byteI (48 + (b.toNat : Int) / 64)) (byteI (48 + (b.toNat : Int) / 8 % 8)) (byteI (48 + (b.toNat : Int) % 8))) = b := by
  have hb := b.toNat_lt
  have e1 := byteI_toNat (48 + (b.toNat : Int) / 64) (by omega) (by omega)
  have e2 := byteI_toNat (48 + (b.toNat : Int) / 8 % 8) (by omega) (by omega)
  have e3 := byteI_toNat (48 + (b.toNat : Int) % 8) (by omega) (by omega)
  have ev : octV (byteI (48 + (b.toNat : Int) / 64)) (byteI (48 + (b.toNat : Int) / 8 % 8)) (byteI (48 + (b.toNat : Int) % 8)) = b.toNat := by unfold octV; omega
  refine ⟨?_, by rw [ev, byteI_of]⟩
  unfold okOct
  rw [ev]
  apply decide_eq_true
  omega
theorem dec_quoteL (name : Bool) (l : List UInt8) : dec (quoteL name l) = some l := by
  induction l with
  | nil => rfl
  | cons b l ih =>
    show dec (quote1 name b ++ quoteL name l) = _
    cases h : plainB b name
    · obtain ⟨h1, h2⟩ := oct_quote b
      simp only [quote1, h, Bool.false_eq_true, if_false, List.cons_append, List.nil_append]
      rw [dec.eq_def]
      simp [h1, h2, ih]
    · simp only [quote1, h, if_true, List.cons_append, List.nil_append]
      rw [dec.eq_def]
      simp [plainB_92 b name h, ih]
theorem quoteL_92 (name : Bool) (l : List UInt8) (h : quoteL name l = [92]) : False := by
  have := dec_quoteL name l
  rw [h] at this
  simp [dec] at this
theorem plain_quote (name : Bool) (l : List UInt8) : plainR name (quoteF name l) = (l, true) := by
  unfold quoteF
  by_cases h : l = []
  · subst h; simp [plainR]
  · rw [if_neg h]
    unfold plainR
    rw [if_neg (fun e => quoteL_92 name l e), dec_quoteL]
    simp [quoteF, h]
theorem plain_sound (name : Bool) (t : List UInt8) : ((plainR name t).2 = true ∧ quoteF name (plainR name t).1 = t) ∨ ((plainR name t).2 = false ∧ (plainR name t).1 = []) := by
  unfold plainR
  by_cases h : t = [92]
  · subst h; simp [quoteF]
  · rw [if_neg h]
    cases dec t with
    | none => simp
    | some o =>
      by_cases hq : quoteF name o = t
      · simp [hq]
      · simp [hq]
theorem quoteF_len (name : Bool) (l : List UInt8) : (quoteF name l).length ≤ 4 * l.length + 1 := by
  unfold quoteF
  split
  · simp
  · have := quoteL_len name l; omega
theorem plainR_len (name : Bool) (t : List UInt8) : (plainR name t).1.length ≤ t.length := by
  rcases plain_sound name t with ⟨h1, h2⟩ | ⟨h1, h2⟩
  · have h3 : (plainR name t).1.length ≤ (quoteF name (plainR name t).1).length := by
      unfold quoteF
      split
      · simp_all
      · unfold quoteL
        generalize (plainR name t).1 = l
        induction l with
        | nil => simp
        | cons b l ih =>
          have h1 : 1 ≤ (quote1 name b).length := by unfold quote1; split <;> simp
          simp only [List.flatMap_cons, List.length_append, List.length_cons]
          omega
    rw [h2] at h3
    exact h3
  · rw [h2]; simp
end Go.Proofs.YtjldphpdfckjnaaDoor
