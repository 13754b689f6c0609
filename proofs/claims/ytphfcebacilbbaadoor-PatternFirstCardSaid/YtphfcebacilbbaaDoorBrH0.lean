/- A bracket at a place of a text: its two ways. -/
import Derived.Test.YtphfcebacilbbaaDoorBrG
import Derived.Test.YtphfcebacilbbaaDoorBrI
namespace Go.Proofs.YtphfcebacilbbaaDoor
open Go.RowKit
attribute [local irreducible] wordP

theorem Parse_some (s : List UInt8) (k : Nat) (gl : Bool) (p : Nat → Bool) (n : Nat) (hs : s.length ≤ 1000000) (h : s[k]? = some 91) (hp : parseP s k gl = some (p, n)) (m : Int) (w : World) (hm : w.cell? ⟨2, 0, none⟩ = some (.int .i64 m)) :
    Calls Tryd.prog 21 #[.string (S s), .int .i64 k, .bool gl] w fun e w' => e = .returned (.tuple #[SetV p, .int .i64 n, .int .i64 0]) ∧ Below w.heap.size w w' := by
  have := Parse_is s k gl hs w h m hm
  rw [hp] at this
  exact this
theorem Parse_none (s : List UInt8) (k : Nat) (gl : Bool) (hs : s.length ≤ 1000000) (h : s[k]? = some 91) (hp : parseP s k gl = none) (m : Int) (w : World) (hm : w.cell? ⟨2, 0, none⟩ = some (.int .i64 m)) :
    Calls Tryd.prog 21 #[.string (S s), .int .i64 k, .bool gl] w fun e w' => e = .returned (.tuple #[SetV noneP, .int .i64 0, .int .i64 11]) ∧ Below w.heap.size w w' := by
  have := Parse_is s k gl hs w h m hm
  rw [hp] at this
  exact this
end Go.Proofs.YtphfcebacilbbaaDoor
