/- A glob's tokens are no more than may be. -/
import Derived.Test.YtphfcebacilbbaaDoorGlobD
namespace Go.Proofs.YtphfcebacilbbaaDoor
open Go.RowKit

theorem parseG_len (s : List UInt8) : ∀ (f k : Nat) (out l : List Tk) (a e : Nat), out.length ≤ 1024 → parseG s f k out = some (l, a, e) → l.length ≤ 1024 := by
  intro f
  induction f with
  | zero => intro k out l a e _ h; cases h
  | succ f ih =>
    intro k out l a e ho h
    rw [parseG] at h
    by_cases h1 : s.length ≤ k
    · rw [if_pos h1] at h; cases h; exact ho
    · rw [if_neg h1] at h
      by_cases h2 : out.length = 1024
      · rw [if_pos h2] at h; cases h; simp
      · rw [if_neg h2] at h
        cases ht : tokF s k with
        | none => rw [ht] at h; cases h; simp
        | some tn =>
          rw [ht] at h
          exact ih _ _ _ _ _ (by rw [List.length_append, List.length_singleton]; omega) h
end Go.Proofs.YtphfcebacilbbaaDoor
