/- The document's globs: plain laws of one token. -/
import Derived.Test.YtphfcebacilbbaaDoorGlobM
import Derived.Test.YtphfcebacilbbaaDoorSetsP
namespace Go.Proofs.YtphfcebacilbbaaDoor
open Go.RowKit
attribute [local irreducible] wordP

theorem other_nat (b : UInt8) : (65 ≤ b.toNat ∧ b.toNat ≤ 90 ∧ (otherB b).toNat = b.toNat + 32) ∨ (97 ≤ b.toNat ∧ b.toNat ≤ 122 ∧ (otherB b).toNat = b.toNat - 32) ∨ (¬ (65 ≤ b.toNat ∧ b.toNat ≤ 90) ∧ ¬ (97 ≤ b.toNat ∧ b.toNat ≤ 122) ∧ (otherB b).toNat = b.toNat) := by
  have := all_bytes (fun b => (decide (65 ≤ b.toNat) && decide (b.toNat ≤ 90) && decide ((otherB b).toNat = b.toNat + 32)) || (decide (97 ≤ b.toNat) && decide (b.toNat ≤ 122) && decide ((otherB b).toNat = b.toNat - 32)) || (!(decide (65 ≤ b.toNat) && decide (b.toNat ≤ 90)) && !(decide (97 ≤ b.toNat) && decide (b.toNat ≤ 122)) && decide ((otherB b).toNat = b.toNat))) (by decide +kernel) b
  simp only [Bool.or_eq_true, Bool.and_eq_true, decide_eq_true_eq, Bool.not_eq_true', Bool.and_eq_false_iff, decide_eq_false_iff_not] at this
  rcases this with (⟨⟨h1, h2⟩, h3⟩ | ⟨⟨h1, h2⟩, h3⟩) | ⟨⟨h1, h2⟩, h3⟩
  · exact Or.inl ⟨h1, h2, h3⟩
  · exact Or.inr (Or.inl ⟨h1, h2, h3⟩)
  · exact Or.inr (Or.inr ⟨by omega, by omega, h3⟩)
/-- a set tells a byte in both cases just if it tells it, or its other case -/
theorem fold_is (p : Nat → Bool) (b : UInt8) : (p b.toNat || foldP p b.toNat) = (p b.toNat || p (otherB b).toNat) := by
  rcases other_nat b with ⟨h1, h2, h3⟩ | ⟨h1, h2, h3⟩ | ⟨h1, h2, h3⟩
  · have e : foldP p b.toNat = (p b.toNat || p (b.toNat + 32)) := by
      have n1 : ¬ 97 ≤ b.toNat := by omega
      simp [foldP, h1, h2, n1]
    rw [e, h3]
    cases p b.toNat <;> simp
  · have e : foldP p b.toNat = (p b.toNat || p (b.toNat - 32)) := by
      have n1 : ¬ b.toNat ≤ 90 := by omega
      simp [foldP, h1, h2, n1]
    rw [e, h3]
    cases p b.toNat <;> simp
  · have e : foldP p b.toNat = p b.toNat := by
      have n1 : (decide (65 ≤ b.toNat) && decide (b.toNat ≤ 90)) = false := by
        rw [Bool.and_eq_false_iff]
        by_cases h : 65 ≤ b.toNat
        · exact Or.inr (decide_eq_false (fun h5 => h1 ⟨h, h5⟩))
        · exact Or.inl (decide_eq_false h)
      have n2 : (decide (97 ≤ b.toNat) && decide (b.toNat ≤ 122)) = false := by
        rw [Bool.and_eq_false_iff]
        by_cases h : 97 ≤ b.toNat
        · exact Or.inr (decide_eq_false (fun h5 => h2 ⟨h, h5⟩))
        · exact Or.inl (decide_eq_false h)
      unfold foldP
      rw [n1, n2]
      simp
    rw [e, h3]
theorem in_set (p : Nat → Bool) (b : UInt8) : inL b (bytesP p) = p b.toNat := by
  have h := ofP_in (bytesP p) b.toNat (by have := b.toNat_lt; omega)
  rw [show UInt8.ofNat b.toNat = b by simp] at h
  rw [h, ofP_bytes p b.toNat (by have := b.toNat_lt; omega)]
end Go.Proofs.YtphfcebacilbbaaDoor
