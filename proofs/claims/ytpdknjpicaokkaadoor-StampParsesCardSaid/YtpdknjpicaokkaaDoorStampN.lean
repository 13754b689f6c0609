/- The document's Text; the law StampTexts. -/
import Derived.Test.YtpdknjpicaokkaaDoorStampF
namespace Go.Proofs.YtpdknjpicaokkaaDoor
open Go.RowKit Go.Lib

/-- the digits behind the point as the document writes them: from the place p on, till nothing is left -/
def tailD : Nat → Nat → List UInt8
  | 0, _ => []
  | p + 1, n => if n = 0 then [] else UInt8.ofNat (48 + n / 10 ^ p) :: tailD p (n % 10 ^ p)
theorem tailD_zero : ∀ p, tailD p 0 = []
  | 0 => rfl
  | p + 1 => by rw [tailD, if_pos rfl]
theorem tailD_ok : ∀ (p n : Nat), n < 10 ^ p → AllDg (tailD p n) ∧ (tailD p n).length ≤ p ∧ decN (tailD p n ++ List.replicate (p - (tailD p n).length) 48) = n ∧ (tailD p n).getLast? ≠ some 48
  | 0, n, h => by
    have : n = 0 := by simpa using h
    subst this
    exact ⟨fun c hc => (by cases hc), Nat.le_refl _, rfl, by simp [tailD]⟩
  | p + 1, n, h => by
    rw [tailD]
    by_cases h0 : n = 0
    · rw [if_pos h0, h0]
      refine ⟨fun c hc => (by cases hc), by simp, ?_, by simp⟩
      rw [List.nil_append]
      exact decN_zeros _
    · rw [if_neg h0]
      have hp : 0 < 10 ^ p := Nat.pow_pos (by decide)
      have hlt : n % 10 ^ p < 10 ^ p := Nat.mod_lt _ hp
      have hd : n / 10 ^ p < 10 := by
        rw [Nat.div_lt_iff_lt_mul hp]
        rw [Nat.pow_succ, Nat.mul_comm] at h
        exact h
      obtain ⟨i1, i2, i3, i4⟩ := tailD_ok p (n % 10 ^ p) hlt
      have hb := dig_byte (n / 10 ^ p) hd
      refine ⟨?_, by simp; omega, ?_, ?_⟩
      · intro c hc
        rcases List.mem_cons.1 hc with rfl | hc
        · unfold dg; rw [hb]; simp; omega
        · exact i1 c hc
      · have hl : (tailD p (n % 10 ^ p) ++ List.replicate (p - (tailD p (n % 10 ^ p)).length) 48).length = p := by
          rw [List.length_append, List.length_replicate]; omega
        rw [List.length_cons, show p + 1 - ((tailD p (n % 10 ^ p)).length + 1) = p - (tailD p (n % 10 ^ p)).length by omega, List.cons_append, decN_cons _ p _ hl, i3, hb]
        have := Nat.div_add_mod n (10 ^ p)
        rw [Nat.add_sub_cancel_left, Nat.mul_comm]
        exact this
      · cases ht : tailD p (n % 10 ^ p) with
        | nil =>
          rw [List.getLast?_singleton]
          intro e
          have e := congrArg UInt8.toNat (Option.some.inj e)
          rw [hb] at e
          have h48 : (48 : UInt8).toNat = 48 := rfl
          rw [h48] at e
          have hz : n % 10 ^ p = 0 := by
            cases p with
            | zero => simp [Nat.mod_one]
            | succ p =>
              rw [tailD] at ht
              by_cases hz : n % 10 ^ (p + 1) = 0
              · exact hz
              · rw [if_neg hz] at ht; cases ht
          have := Nat.div_add_mod n (10 ^ p)
          rw [hz, show n / 10 ^ p = 0 by omega] at this
          exact h0 (by simpa using this.symm)
        | cons c l =>
          rw [List.getLast?_cons_cons]
          rw [ht] at i4
          exact i4
theorem decN_inj : ∀ (k : Nat) (a b : List UInt8), a.length = k → b.length = k → AllDg a → AllDg b → decN a = decN b → a = b
  | 0, a, b, ha, hb, _, _, _ => by rw [List.eq_nil_of_length_eq_zero ha, List.eq_nil_of_length_eq_zero hb]
  | k + 1, a, b, ha, hb, da, db, h => by
    have na : a ≠ [] := by intro e; subst e; cases ha
    have nb : b ≠ [] := by intro e; subst e; cases hb
    have ea := List.dropLast_concat_getLast na
    have eb := List.dropLast_concat_getLast nb
    have ga := of_decide_eq_true (da _ (List.getLast_mem na))
    have gb := of_decide_eq_true (db _ (List.getLast_mem nb))
    rw [← ea, ← eb, decN_snoc, decN_snoc] at h
    have h1 : decN a.dropLast = decN b.dropLast := by omega
    have h2 : a.getLast na = b.getLast nb := UInt8.toNat_inj.1 (by omega)
    have h3 := decN_inj k a.dropLast b.dropLast (by simp; omega) (by simp; omega) (fun c hc => da c ((List.dropLast_sublist a).subset hc)) (fun c hc => db c ((List.dropLast_sublist b).subset hc)) h1
    rw [← ea, ← eb, h3, h2]
theorem strip_unique (c : UInt8) : ∀ (m k : Nat) (a b : List UInt8), a.getLast? ≠ some c → b.getLast? ≠ some c → a ++ List.replicate m c = b ++ List.replicate k c → a = b
  | 0, 0, a, b, _, _, h => by simpa using h
  | 0, k + 1, a, b, ha, _, h => by
    exfalso
    apply ha
    rw [List.replicate_zero, List.append_nil] at h
    rw [h, List.replicate_succ', ← List.append_assoc, List.getLast?_append]
    rfl
  | m + 1, 0, a, b, _, hb, h => by
    exfalso
    apply hb
    rw [List.replicate_zero, List.append_nil] at h
    rw [← h, List.replicate_succ', ← List.append_assoc, List.getLast?_append]
    rfl
  | m + 1, k + 1, a, b, ha, hb, h => by
    rw [List.replicate_succ', List.replicate_succ', ← List.append_assoc, ← List.append_assoc] at h
    exact strip_unique c m k a b ha hb (List.append_cancel_right h)
theorem trimB_last (l : List UInt8) (c : UInt8) : (trimRightB l c).getLast? ≠ some c := by
  unfold trimRightB
  rw [List.getLast?_reverse]
  intro h
  have := List.head?_dropWhile_not (· == c) l.reverse
  rw [h] at this
  simp at this
theorem tail_frac (n : Nat) (h : n < 1000000000) : tailD 9 n = fracT n := by
  obtain ⟨t1, t2, t3, t4⟩ := tailD_ok 9 n (by simpa using h)
  obtain ⟨_, f2, f3, f4⟩ := digs_big n h
  obtain ⟨e1, e2⟩ := trim_eq0 (frac9 n) 48
  have hall : AllDg (tailD 9 n ++ List.replicate (9 - (tailD 9 n).length) 48) := by
    intro c hc
    rcases List.mem_append.1 hc with hc | hc
    · exact t1 c hc
    · rw [List.eq_of_mem_replicate hc]; rfl
  have h9 := decN_inj 9 (tailD 9 n ++ List.replicate (9 - (tailD 9 n).length) 48) (frac9 n) (by rw [List.length_append, List.length_replicate]; omega) f2 hall f3 (by rw [t3, f4])
  rw [e1] at h9
  exact strip_unique 48 _ _ _ _ t4 (trimB_last _ 48) h9
end Go.Proofs.YtpdknjpicaokkaaDoor
