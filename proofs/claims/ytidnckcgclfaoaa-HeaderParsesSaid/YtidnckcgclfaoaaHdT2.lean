/- Heads of members: the document's within, walked. -/
import Derived.Test.YtidnckcgclfaoaaHdT
namespace Go.Proofs.Ytidnckcgclfaoaa
open Go.RowKit

def inB (v m : Int) : Bool := decide (0 ≤ v ∧ v < m)
set_option maxRecDepth 100000 in
theorem within_any (v m : Int) (w : World) : Calls Try.prog 26 #[.int .i64 v, .int .i64 m] w fun e w' => e = .returned (.bool (inB v m)) ∧ w = w' := by
  by_cases h : v ≥ 0
  · by_cases h2 : v < m
    · have HM : Hid (inB v m = true) := Lib.hid (decide_eq_true ⟨h, h2⟩)
      go_enter Try.func26, Try.ntmps26
      go_wp2_with fail
      go_ret
      exact ⟨by rw [HM.out]; rfl, rfl⟩
    · have HM : Hid (inB v m = false) := Lib.hid (decide_eq_false (fun e => h2 e.2))
      go_enter Try.func26, Try.ntmps26
      go_wp2_with fail
      go_ret
      exact ⟨by rw [HM.out]; rfl, rfl⟩
  · have HM : Hid (inB v m = false) := Lib.hid (decide_eq_false (fun e => h e.1))
    go_enter Try.func26, Try.ntmps26
    go_wp2_with fail
    go_ret
    exact ⟨by rw [HM.out]; rfl, rfl⟩
end Go.Proofs.Ytidnckcgclfaoaa
