/- Texts put one behind the other, as equations of runs: for regions that draw their order. Plain helpers. -/
import Derived.Test.YtphfcebacilbbaaDoorKit
namespace Go.Proofs.YtphfcebacilbbaaDoor
open Go.RowKit

theorem cat_s (a b c : List UInt8) (hc : c = a ++ b) (h : a.length + b.length ≤ 1000000100) (W : World) : (Op.stringOp .add (S a) (S b)).run Tryd.prog W = .ok (.string (S c)) W := by
  subst hc
  exact (run_string_add_sum (P := Tryd.prog) W (S a) (S b) (by rw [S_size, S_size]; omega)).trans (by rw [S_append])
theorem cat_k1 (a : List UInt8) (x : UInt8) (c : List UInt8) (hc : c = a ++ [x]) (h : a.length ≤ 1000000000) (W : World) : (Op.stringOp .add (S a) ⟨#[x]⟩).run Tryd.prog W = .ok (.string (S c)) W :=
  cat_s a [x] c hc (by rw [List.length_singleton]; omega) W
theorem k1_cat (x : UInt8) (b c : List UInt8) (hc : c = x :: b) (h : b.length ≤ 1000000000) (W : World) : (Op.stringOp .add ⟨#[x]⟩ (S b)).run Tryd.prog W = .ok (.string (S c)) W :=
  cat_s [x] b c hc (by rw [List.length_singleton]; omega) W
theorem k4_cat (x y z t : UInt8) (b c : List UInt8) (hc : c = x :: y :: z :: t :: b) (h : b.length ≤ 1000000000) (W : World) : (Op.stringOp .add ⟨#[x, y, z, t]⟩ (S b)).run Tryd.prog W = .ok (.string (S c)) W :=
  cat_s [x, y, z, t] b c hc (by have e : ([x, y, z, t] : List UInt8).length = 4 := rfl; omega) W
end Go.Proofs.YtphfcebacilbbaaDoor
