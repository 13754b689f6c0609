/- A bracket's scan: any item; all items. -/
import Derived.Test.YtphfcebacilbbaaDoorBrE
namespace Go.Proofs.YtphfcebacilbbaaDoor
open Go.RowKit
attribute [local irreducible] wordP

theorem item_any (g : Nat) (s : List UInt8) (k : Nat) (gl : Bool) (p : Nat → Bool) (hk : k ≤ s.length) (hs : s.length ≤ 1000000) (w : World) (hw : ScB w g s k gl p) (m : Int) (hm : w.cell? ⟨2, 0, none⟩ = some (.int .i64 m)) (hg : 2 ≠ g) :
    Calls Tryd.prog 37 #[.pointer (some ⟨g, 0, none⟩)] w fun e w' => NmQ g s k gl p (itemF gl (s.drop k)) w e w' := by
  unfold itemF
  by_cases h1 : preB (s.drop k) [91, 58] = true
  · rw [if_pos h1]
    exact item_named g s k gl p hk hs w hw m hm hg h1
  rw [if_neg h1]
  have h1' : preB (s.drop k) [91, 58] = false := by simpa using h1
  by_cases h2 : preB (s.drop k) [91, 61] = true
  · rw [if_pos h2]
    exact item_eq g s k gl p hk hs w hw h1' h2
  rw [if_neg h2]
  have h2' : preB (s.drop k) [91, 61] = false := by simpa using h2
  cases hb : byteF gl (s.drop k) with
  | none => exact item_none g s k gl p hk hs w hw h1' h2' hb
  | some an =>
    obtain ⟨a, n⟩ := an
    show Calls _ _ _ _ fun e w' => NmQ g s k gl p (if (preB ((s.drop k).drop n) [45] && !preB ((s.drop k).drop n) [45, 93]) = true then
      if (preB ((s.drop k).drop (n + 1)) [91, 58] || preB ((s.drop k).drop (n + 1)) [91, 61]) = true then none
      else match byteF gl ((s.drop k).drop (n + 1)) with
      | none => none
      | some (b, m) => if b < a then none else some (rangeP a.toNat b.toNat, n + 1 + m)
      else some (rangeP a.toNat a.toNat, n)) w e w'
    rw [List.drop_drop, List.drop_drop, ← Nat.add_assoc]
    by_cases h3 : (preB (s.drop (k + n)) [45] && !preB (s.drop (k + n)) [45, 93]) = true
    · rw [if_pos h3]
      obtain ⟨h3a, h3b⟩ := Bool.and_eq_true_iff.1 h3
      have h3c : preB (s.drop (k + n)) [45, 93] = false := by simpa using h3b
      by_cases h4 : (preB (s.drop (k + n + 1)) [91, 58] || preB (s.drop (k + n + 1)) [91, 61]) = true
      · rw [if_pos h4]
        exact item_bad g s k gl p hk hs w hw h1' h2' a n hb h3a h3c _ _ (by rw [List.drop_drop]) (by rw [List.drop_drop]) h4
      · rw [if_neg h4]
        have h4' : (preB (s.drop (k + n + 1)) [91, 58] || preB (s.drop (k + n + 1)) [91, 61]) = false := by simpa using h4
        obtain ⟨h5, h6⟩ := Bool.or_eq_false_iff.1 h4'
        cases hb2 : byteF gl (s.drop (k + n + 1)) with
        | none => exact item_none2 g s k gl p hk hs w hw h1' h2' a n hb h3a h3c (by rw [List.drop_drop]; exact h5) (by rw [List.drop_drop]; exact h6) hb2
        | some bm =>
          obtain ⟨b, m'⟩ := bm
          show Calls _ _ _ _ fun e w' => NmQ g s k gl p (if b < a then none else some (rangeP a.toNat b.toNat, n + 1 + m')) w e w'
          by_cases h7 : b < a
          · rw [if_pos h7]
            exact item_less g s k gl p hk hs w hw h1' h2' a n hb h3a h3c (by rw [List.drop_drop]; exact h5) (by rw [List.drop_drop]; exact h6) b m' hb2 h7
          · rw [if_neg h7]
            exact item_run g s k gl p hk hs w hw h1' h2' a n hb h3a h3c (by rw [List.drop_drop]; exact h5) (by rw [List.drop_drop]; exact h6) b m' hb2 h7
    · rw [if_neg h3]
      exact item_byte g s k gl p hk hs w hw h1' h2' a n hb _ _ rfl rfl (by simpa using h3)
/-- all items from a place on: their bytes, and where the closing sign stands -/
def itemsA (gl : Bool) (s : List UInt8) : Nat → Bool → Nat → (Nat → Bool) → Option ((Nat → Bool) × Nat)
  | 0, _, _, _ => none
  | f + 1, first, k, p => match s[k]? with
    | none => none
    | some c => if (c == 93 && !first) = true then some (p, k) else match itemF gl (s.drop k) with
      | none => none
      | some (r, n) => itemsA gl s f false (k + n) (orP p r)
def turnB (gl : Bool) (q : List UInt8) : Bool := preB q [94] || (gl && preB q [33])
/-- a bracket at a place where one begins: its set, and the place behind -/
def parseP (s : List UInt8) (at' : Nat) (gl : Bool) : Option ((Nat → Bool) × Nat) :=
  (itemsA gl s (s.length + 1) true (at' + 1 + (if turnB gl (s.drop (at' + 1)) = true then 1 else 0)) noneP).map fun r => (if turnB gl (s.drop (at' + 1)) = true then notP r.1 else r.1, r.2 + 1)
end Go.Proofs.YtphfcebacilbbaaDoor
