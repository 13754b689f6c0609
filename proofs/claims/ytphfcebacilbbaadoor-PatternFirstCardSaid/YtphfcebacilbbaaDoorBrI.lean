/- Plain laws of a bracket: a text that begins otherwise; a bracket that is turned over. -/
import Derived.Test.YtphfcebacilbbaaDoorBrF
namespace Go.Proofs.YtphfcebacilbbaaDoor
open Go.RowKit

theorem byteF_pos {gl : Bool} {q : List UInt8} {b : UInt8} {n : Nat} (h : byteF gl q = some (b, n)) : 1 ≤ n := by
  unfold byteF at h
  split at h
  · cases hc : closedF (q.drop 2) [46, 93] with
    | none => rw [hc] at h; cases h
    | some c => rw [hc] at h; cases h; decide
  · split at h
    · cases hc : q[1]? with
      | none => rw [hc] at h; cases h
      | some c => rw [hc] at h; cases h; decide
    · cases hc : q[0]? with
      | none => rw [hc] at h; cases h
      | some c => rw [hc] at h; cases h; decide
theorem itemF_pos {gl : Bool} {q : List UInt8} {c : Nat → Bool} {n : Nat} (h : itemF gl q = some (c, n)) : 1 ≤ n := by
  unfold itemF at h
  split at h
  · cases hc : namedF (q.drop 2) with
    | none => rw [hc] at h; cases h
    | some c => rw [hc] at h; cases h; show 1 ≤ c.2 + 2; omega
  · split at h
    · cases hc : closedF (q.drop 2) [61, 93] with
      | none => rw [hc] at h; cases h
      | some c => rw [hc] at h; cases h; decide
    · cases hb : byteF gl q with
      | none => rw [hb] at h; cases h
      | some an =>
        obtain ⟨a, n'⟩ := an
        rw [hb] at h
        have hp := byteF_pos hb
        replace h : (if (preB (q.drop n') [45] && !preB (q.drop n') [45, 93]) = true then
            if (preB (q.drop (n' + 1)) [91, 58] || preB (q.drop (n' + 1)) [91, 61]) = true then none
            else match byteF gl (q.drop (n' + 1)) with
            | none => none
            | some (b, m) => if b < a then none else some (rangeP a.toNat b.toNat, n' + 1 + m)
          else some (rangeP a.toNat a.toNat, n')) = some (c, n) := h
        split at h
        · split at h
          · cases h
          · cases hb2 : byteF gl (q.drop (n' + 1)) with
            | none => rw [hb2] at h; cases h
            | some bm =>
              obtain ⟨b, m'⟩ := bm
              rw [hb2] at h
              replace h : (if b < a then none else some (rangeP a.toNat b.toNat, n' + 1 + m')) = some (c, n) := h
              split at h
              · cases h
              · cases h; omega
        · cases h; exact hp
theorem itemsA_shift (gl : Bool) (a : UInt8) (t : List UInt8) : ∀ (f : Nat) (first : Bool) (k : Nat) (p : Nat → Bool), itemsA gl (a :: t) f first (k + 1) p = (itemsA gl t f first k p).map fun r => (r.1, r.2 + 1)
  | 0, _, _, _ => rfl
  | f + 1, first, k, p => by
    have ih := fun k p => itemsA_shift gl a t f false k p
    unfold itemsA
    rw [List.getElem?_cons_succ, List.drop_succ_cons]
    cases t[k]? with
    | none => rfl
    | some c =>
      dsimp only
      by_cases h : (c == 93 && !first) = true
      · rw [if_pos h, if_pos h]; rfl
      · rw [if_neg h, if_neg h]
        cases itemF gl (t.drop k) with
        | none => rfl
        | some rn =>
          dsimp only
          rw [show k + 1 + rn.2 = k + rn.2 + 1 by omega]
          exact ih _ _
theorem itemsA_fuel (gl : Bool) (s : List UInt8) : ∀ (f : Nat) (first : Bool) (k : Nat) (p : Nat → Bool), s.length + 1 ≤ f + k → itemsA gl s (f + 1) first k p = itemsA gl s f first k p
  | 0, first, k, p, h => by
    show (match s[k]? with | none => none | some c => _) = none
    rw [List.getElem?_eq_none (by omega)]
  | f + 1, first, k, p, h => by
    have ih := fun k p => itemsA_fuel gl s f false k p
    rw [itemsA]
    conv => rhs; rw [itemsA]
    cases s[k]? with
    | none => rfl
    | some c =>
      dsimp only
      by_cases h2 : (c == 93 && !first) = true
      · rw [if_pos h2, if_pos h2]
      · rw [if_neg h2, if_neg h2]
        cases hf : itemF gl (s.drop k) with
        | none => rfl
        | some rn =>
          obtain ⟨r, n⟩ := rn
          have := itemF_pos hf
          exact ih _ _ (by omega)
theorem itemsA_lt (gl : Bool) (s : List UInt8) : ∀ (f : Nat) (first : Bool) (k : Nat) (p q : Nat → Bool) (n : Nat), itemsA gl s f first k p = some (q, n) → n < s.length
  | 0, _, _, _, _, _, h => by cases h
  | f + 1, first, k, p, q, n, h => by
    rw [itemsA] at h
    cases hk : s[k]? with
    | none => rw [hk] at h; cases h
    | some c =>
      rw [hk] at h
      dsimp only at h
      by_cases h2 : (c == 93 && !first) = true
      · rw [if_pos h2] at h
        cases h
        exact (List.getElem?_eq_some_iff.1 hk).1
      · rw [if_neg h2] at h
        cases hf : itemF gl (s.drop k) with
        | none => rw [hf] at h; cases h
        | some rn =>
          rw [hf] at h
          exact itemsA_lt gl s f false _ _ q n h
theorem parseP_le {s : List UInt8} {k : Nat} {gl : Bool} {p : Nat → Bool} {n : Nat} (h : parseP s k gl = some (p, n)) : n ≤ s.length := by
  unfold parseP at h
  cases hi : itemsA gl s (s.length + 1) true (k + 1 + (if turnB gl (s.drop (k + 1)) = true then 1 else 0)) noneP with
  | none => rw [hi] at h; cases h
  | some r =>
    obtain ⟨q, n'⟩ := r
    rw [hi] at h
    have := itemsA_lt gl s _ _ _ _ _ _ hi
    have e : n' + 1 = n := (Prod.mk.inj (Option.some.inj h)).2
    omega
/-- what stands in a bracket that is not turned, and in one that is -/
theorem turn_two (gl : Bool) (l : List UInt8) (h1 : preB l [94] = false) (h2 : preB l [33] = false) :
    parseP (91 :: l) 0 gl = (itemsA gl l (l.length + 1) true 0 noneP).map (fun r => (r.1, r.2 + 2)) ∧
    parseP (91 :: 94 :: l) 0 gl = (itemsA gl l (l.length + 1) true 0 noneP).map (fun r => (notP r.1, r.2 + 3)) := by
  have e1 : turnB gl l = false := by unfold turnB; rw [h1, h2]; simp
  have e2 : turnB gl (94 :: l) = true := by unfold turnB; simp [preB, Lib.hasPrefix]
  constructor
  · unfold parseP
    rw [show (91 :: l).drop (0 + 1) = l from rfl, e1]
    simp only [Bool.false_eq_true, if_false, List.length_cons, Nat.add_zero]
    rw [itemsA_shift, itemsA_fuel gl l (l.length + 1) true 0 noneP (by omega), Option.map_map]
    rfl
  · unfold parseP
    rw [show (91 :: 94 :: l).drop (0 + 1) = 94 :: l from rfl, e2]
    simp only [if_true, List.length_cons]
    rw [itemsA_shift gl 91 (94 :: l) _ true 1, itemsA_shift gl 94 l _ true 0, itemsA_fuel gl l (l.length + 1 + 1) true 0 noneP (by omega), itemsA_fuel gl l (l.length + 1) true 0 noneP (by omega), Option.map_map, Option.map_map]
    rfl
end Go.Proofs.YtphfcebacilbbaaDoor
