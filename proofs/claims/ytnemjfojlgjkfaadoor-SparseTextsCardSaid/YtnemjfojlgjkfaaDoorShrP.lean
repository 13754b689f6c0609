/- Maps with holes: expanding and shrinking, in plain words. -/
import Derived.Test.YtnemjfojlgjkfaaDoorSparseD
import Derived.Test.YtnemjfojlgjkfaaDoorSpanB
import Derived.Test.YtnemjfojlgjkfaaDoorBlank
namespace Go.Proofs.YtnemjfojlgjkfaaDoor
open Go.RowKit

abbrev Pcs := List (Int × Int)
def clampI (d n : Int) : Int := max 0 (min d n)
/-- of how many bytes of the pieces the places lie ahead of a place -/
def covB : Pcs → Int → Int
  | [], _ => 0
  | p :: l, x => clampI (x - p.1) p.2 + covB l x
theorem covB_append (l m : Pcs) (x : Int) : covB (l ++ m) x = covB l x + covB m x := by
  induction l with
  | nil => simp [covB]
  | cons p l ih => rw [List.cons_append, covB, covB, ih]; omega
theorem hitB_append (l m : Pcs) (x : Int) : hitB (l ++ m) x = (hitB l x || hitB m x) := by
  unfold hitB; rw [List.any_append]
theorem pieLen_append (l m : Pcs) : pieLen (l ++ m) = pieLen l + pieLen m := by
  unfold pieLen; rw [List.map_append, List.sum_append]
theorem pieLen_cons (p : Int × Int) (l : Pcs) : pieLen (p :: l) = p.2 + pieLen l := by
  unfold pieLen; rw [List.map_cons, List.sum_cons]
theorem hitB_cons (p : Int × Int) (l : Pcs) (x : Int) : hitB (p :: l) x = (decide (p.1 ≤ x ∧ x < p.1 + p.2) || hitB l x) := rfl
theorem cov_ahead (l : Pcs) (x : Int) (h : ∀ p ∈ l, x ≤ p.1) (hn : ∀ p ∈ l, 0 ≤ p.2) : covB l x = 0 := by
  induction l with
  | nil => rfl
  | cons p l ih =>
    rw [covB, ih (fun q hq => h q (List.mem_cons_of_mem _ hq)) (fun q hq => hn q (List.mem_cons_of_mem _ hq))]
    have := h p (List.mem_cons_self ..)
    have := hn p (List.mem_cons_self ..)
    unfold clampI; omega
theorem hit_ahead (l : Pcs) (x : Int) (h : ∀ p ∈ l, x < p.1) : hitB l x = false := by
  unfold hitB
  rw [List.any_eq_false]
  intro p hp
  have := h p hp
  simp; omega
theorem cov_behind (l : Pcs) (x : Int) (h : ∀ p ∈ l, p.1 + p.2 ≤ x) (hn : ∀ p ∈ l, 0 ≤ p.2) : covB l x = pieLen l := by
  induction l with
  | nil => rfl
  | cons p l ih =>
    rw [covB, pieLen_cons, ih (fun q hq => h q (List.mem_cons_of_mem _ hq)) (fun q hq => hn q (List.mem_cons_of_mem _ hq))]
    have := h p (List.mem_cons_self ..)
    have := hn p (List.mem_cons_self ..)
    unfold clampI; omega
theorem hit_behind (l : Pcs) (x : Int) (h : ∀ p ∈ l, p.1 + p.2 ≤ x) : hitB l x = false := by
  unfold hitB
  rw [List.any_eq_false]
  intro p hp
  have := h p hp
  simp; omega
theorem cov_bound (l : Pcs) (x : Int) (hn : ∀ p ∈ l, 0 ≤ p.2) : 0 ≤ covB l x ∧ covB l x ≤ pieLen l := by
  induction l with
  | nil => exact ⟨Int.le_refl 0, Int.le_refl 0⟩
  | cons p l ih =>
    have := ih (fun q hq => hn q (List.mem_cons_of_mem _ hq))
    have := hn p (List.mem_cons_self ..)
    rw [covB, pieLen_cons]
    unfold clampI; omega
theorem cov_lt (l : Pcs) (x : Int) (hn : ∀ p ∈ l, 0 ≤ p.2) (h : hitB l x = true) : covB l x < pieLen l := by
  induction l with
  | nil => cases h
  | cons p l ih =>
    have hb := cov_bound l x (fun q hq => hn q (List.mem_cons_of_mem _ hq))
    have := hn p (List.mem_cons_self ..)
    rw [covB, pieLen_cons]
    rw [hitB_cons] at h
    by_cases hp : p.1 ≤ x ∧ x < p.1 + p.2
    · unfold clampI; omega
    · rw [decide_eq_false hp, Bool.false_or] at h
      have := ih (fun q hq => hn q (List.mem_cons_of_mem _ hq)) h
      unfold clampI; omega
/-- one place on -/
theorem cov_succ (size : Int) (l : Pcs) (x : Int) : ∀ e, pieB size e l = true → covB l (x + 1) = covB l x + (if hitB l x = true then 1 else 0) := by
  induction l with
  | nil => intro _ _; rfl
  | cons p l ih =>
    intro e h
    have hm := pieB_mem size (p :: l) e h p (List.mem_cons_self ..)
    simp only [pieB] at h
    split at h
    · cases h
    · have hml := pieB_mem size l _ h
      rw [covB, covB, hitB_cons]
      by_cases hp : x < p.1 + p.2
      · rw [cov_ahead l x (fun q hq => by have := hml q hq; omega) (fun q hq => by have := hml q hq; omega), cov_ahead l (x + 1) (fun q hq => by have := hml q hq; omega) (fun q hq => by have := hml q hq; omega), hit_ahead l x (fun q hq => by have := hml q hq; omega), Bool.or_false]
        by_cases h2 : p.1 ≤ x
        · rw [decide_eq_true ⟨h2, hp⟩, if_pos rfl]; unfold clampI; omega
        · rw [decide_eq_false (by omega), if_neg (by simp)]; unfold clampI; omega
      · rw [decide_eq_false (by omega), Bool.false_or, ih _ h]
        have : clampI (x + 1 - p.1) p.2 = clampI (x - p.1) p.2 := by unfold clampI; omega
        rw [this]; omega
theorem pieB_split (size : Int) (l : Pcs) : ∀ (e : Int) (k : Nat) (hk : k < l.length), pieB size e l = true → (∀ p ∈ l.take k, p.1 + p.2 ≤ l[k].1) ∧ ∀ p ∈ l.drop (k + 1), l[k].1 + l[k].2 ≤ p.1 := by
  induction l with
  | nil => intro _ k hk; cases hk
  | cons q l ih =>
    intro e k hk h
    simp only [pieB] at h
    split at h
    · cases h
    · have hml := pieB_mem size l _ h
      cases k with
      | zero =>
        refine ⟨fun p hp => (List.not_mem_nil hp).elim, fun p hp => ?_⟩
        have := hml p (by simpa using hp)
        simpa using this.1
      | succ k =>
        obtain ⟨h1, h2⟩ := ih _ k (by simpa using hk) h
        refine ⟨fun p hp => ?_, fun p hp => h2 p (by simpa using hp)⟩
        rw [List.take_succ_cons] at hp
        rcases List.mem_cons.1 hp with rfl | hp
        · have := hml (l[k]'(by simpa using hk)) (List.getElem_mem _)
          simpa using this.1
        · exact h1 p hp
/-- the byte at a place -/
def expAt (l : Pcs) (s : List UInt8) (x : Int) : UInt8 := if hitB l x = true then (s[(covB l x).toNat]?).getD 0 else 0
def expL (n : Nat) (l : Pcs) (s : List UInt8) : List UInt8 := (List.range n).map fun x : Nat => expAt l s x
theorem expL_len (n : Nat) (l : Pcs) (s : List UInt8) : (expL n l s).length = n := by simp [expL]
theorem expL_at (n : Nat) (l : Pcs) (s : List UInt8) (x : Nat) (h : x < n) : (expL n l s)[x]? = some (expAt l s x) := by
  unfold expL
  rw [List.getElem?_map, List.getElem?_range h]; rfl
theorem expL_nil (n : Nat) (s : List UInt8) : expL n [] s = List.replicate n 0 := by
  apply List.ext_getElem?
  intro j
  by_cases h : j < n
  · rw [expL_at n [] s j h, List.getElem?_replicate, if_pos h]; rfl
  · rw [List.getElem?_eq_none (by rw [expL_len]; omega), List.getElem?_eq_none (by simp; omega)]
theorem expL_succ (n : Nat) (l : Pcs) (s : List UInt8) : expL (n + 1) l s = expL n l s ++ [expAt l s n] := by
  unfold expL
  rw [List.range_succ, List.map_append]; rfl
/-- a text with another one put over it at a place -/
def putL (o : List UInt8) (at' : Nat) (b : List UInt8) : List UInt8 := o.take at' ++ b ++ o.drop (at' + b.length)
theorem expL_put (n : Nat) (l : Pcs) (s : List UInt8) (k : Nat) (hk : k < l.length) (e : Int) (h0 : 0 ≤ e) (h : pieB n e l = true) (hs : pieLen l ≤ s.length) :
    expL n (l.take (k + 1)) s = putL (expL n (l.take k) s) l[k].1.toNat ((s.drop (pieLen (l.take k)).toNat).take l[k].2.toNat) := by
  have hm := pieB_mem n l e h
  obtain ⟨h1, h2⟩ := pieB_split n l e k hk h
  have hq := hm l[k] (List.getElem_mem hk)
  have hmt : ∀ p ∈ l.take k, 0 ≤ p.2 := fun p hp => by have := hm p (List.mem_of_mem_take hp); omega
  have hcb := cov_bound (l.take k) 0 hmt
  have hsum : pieLen (l.take k) + l[k].2 ≤ pieLen l := by
    have e1 : l = l.take k ++ l[k] :: l.drop (k + 1) := by rw [← List.drop_eq_getElem_cons hk, List.take_append_drop]
    have e2 : pieLen l = pieLen (l.take k) + (l[k].2 + pieLen (l.drop (k + 1))) := by
      conv => lhs; rw [e1]
      rw [pieLen_append, pieLen_cons]
    have := (cov_bound (l.drop (k + 1)) 0 (fun p hp => by have := hm p (List.mem_of_mem_drop hp); omega))
    omega
  have htk : l.take (k + 1) = l.take k ++ [l[k]] := List.take_succ_eq_append_getElem hk
  have hA : ∀ x : Int, l[k].1 ≤ x → covB (l.take k) x = pieLen (l.take k) ∧ hitB (l.take k) x = false := fun x hx =>
    ⟨cov_behind _ _ (fun p hp => by have := h1 p hp; omega) hmt, hit_behind _ _ (fun p hp => by have := h1 p hp; omega)⟩
  rw [htk]
  clear htk hm h1 h2 h
  have hkk := hk
  generalize l[k] = q at *
  generalize l.take k = t at *
  obtain ⟨a, n2⟩ := q
  dsimp only at *
  generalize hP : pieLen t = P at *
  obtain ⟨a', rfl⟩ : ∃ a' : Nat, a = a' := ⟨a.toNat, by omega⟩
  obtain ⟨m, rfl⟩ : ∃ m : Nat, n2 = m := ⟨n2.toNat, by omega⟩
  obtain ⟨P', rfl⟩ : ∃ P' : Nat, P = P' := ⟨P.toNat, by omega⟩
  rw [Int.toNat_natCast, Int.toNat_natCast, Int.toNat_natCast]
  have hbl : ((s.drop P').take m).length = m := by rw [List.length_take, List.length_drop]; omega
  apply List.ext_getElem?
  intro x
  unfold putL
  rw [hbl]
  by_cases hx : x < n
  · rw [expL_at _ _ _ x hx]
    unfold expAt
    rw [hitB_append, covB_append, hitB_cons, covB]
    rcases Nat.lt_or_ge x a' with g | g
    · rw [List.append_assoc, List.getElem?_append_left (by rw [List.length_take, expL_len]; omega), List.getElem?_take_of_lt g, expL_at _ _ _ x hx]
      unfold expAt
      have e3 : clampI ((x : Int) - a') m = 0 := by unfold clampI; omega
      dsimp only
      rw [e3, decide_eq_false (by omega)]
      simp only [show hitB [] (x : Int) = false from rfl, show covB [] (x : Int) = 0 from rfl, Bool.or_false, Int.add_zero]
    · obtain ⟨e1, e2⟩ := hA x (by omega)
      rw [e1, e2, Bool.false_or]
      rcases Nat.lt_or_ge x (a' + m) with g2 | g2
      · rw [List.append_assoc, List.getElem?_append_right (by rw [List.length_take, expL_len]; omega), List.length_take, expL_len, List.getElem?_append_left (by rw [hbl]; omega)]
        have e3 : clampI ((x : Int) - a') m = x - a' := by unfold clampI; omega
        dsimp only
        rw [e3, decide_eq_true (by omega)]
        simp only [Bool.true_or, if_true, covB]
        rw [List.getElem?_take_of_lt (by omega), List.getElem?_drop, show ((P' : Int) + ((x : Int) - a' + 0)).toNat = P' + (x - min a' n) by omega]
        rw [List.getElem?_eq_getElem (by omega)]; rfl
      · rw [List.getElem?_append_right (by rw [List.length_append, List.length_take, expL_len, hbl]; omega), List.length_append, List.length_take, expL_len, hbl, List.getElem?_drop, show a' + m + (x - (min a' n + m)) = x by omega, expL_at _ _ _ x hx]
        unfold expAt
        dsimp only
        rw [decide_eq_false (by omega), e2]
        rfl
  · rw [List.getElem?_eq_none (by rw [expL_len]; omega), List.getElem?_eq_none (by simp only [List.length_append, List.length_take, List.length_drop, expL_len, hbl]; omega)]
end Go.Proofs.YtnemjfojlgjkfaaDoor
