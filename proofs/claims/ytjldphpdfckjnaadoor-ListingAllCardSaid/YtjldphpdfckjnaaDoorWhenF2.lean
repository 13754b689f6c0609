/- r29.Number, walked. -/
import Derived.Test.YtjldphpdfckjnaaDoorWhenP
namespace Go.Proofs.YtjldphpdfckjnaaDoor
open Go.RowKit

theorem ret_int29 {a b : Int} (h : a = b) : Ending.returned (.int .i64 a) = .returned (.int .i64 b) := by rw [h]
theorem rnum_any (y m d : Int) (w : World) (h1 : 1 ≤ y) (h2 : y ≤ 9999) (h3 : 1 ≤ m) (h4 : m ≤ 12) (h5 : 1 ≤ d) (h6 : d ≤ 31) :
    Calls Tryd.prog 80 #[.int .i64 y, .int .i64 m, .int .i64 d] w fun e w' => e = .returned (.int .i64 (refNum y m d)) ∧ w = w' := by
  go_enter Tryd.func80, Tryd.ntmps80
  go_wp2_with fail
  all_goals
    go_ret
    refine ⟨ret_int29 ?_, rfl⟩
    unfold refNum
    split <;> first | rfl | omega
end Go.Proofs.YtjldphpdfckjnaaDoor
