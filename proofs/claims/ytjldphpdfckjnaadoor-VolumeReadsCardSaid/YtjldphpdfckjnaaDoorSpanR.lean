/- span's numbers: right, rest, Blocks. -/
import Derived.Test.YtjldphpdfckjnaaDoorKit
namespace Go.Proofs.YtjldphpdfckjnaaDoor
open Go.RowKit

theorem right_yes (n : Int) (w : World) (h0 : 0 ≤ n) (h1 : n ≤ 1099511627776) :
    Calls Tryd.prog 61 #[.int .i64 n] w fun e w' => e = .returned (.bool true) ∧ w = w' := by
  go_enter Tryd.func61, Tryd.ntmps61
  go_wp2
  go_ret
  exact ⟨by first | rfl | (simp; done) | (simp; omega), rfl⟩
theorem right_no (n : Int) (w : World) (h : n < 0 ∨ 1099511627776 < n) :
    Calls Tryd.prog 61 #[.int .i64 n] w fun e w' => e = .returned (.bool false) ∧ w = w' := by
  rcases h with h | h
  · go_enter Tryd.func61, Tryd.ntmps61
    go_wp2
    go_ret
    exact ⟨by first | rfl | (simp; done) | (simp; omega), rfl⟩
  · have h2 : 0 ≤ n := by omega
    go_enter Tryd.func61, Tryd.ntmps61
    go_wp2
    go_ret
    exact ⟨by first | rfl | (simp; done) | (simp; omega), rfl⟩
def restI (n : Int) : Int := (512 - n % 512) % 512
theorem rest_any (n : Int) (w : World) (h0 : 0 ≤ n) (h1 : n ≤ 1099511627776) :
    Calls Tryd.prog 62 #[.int .i64 n] w fun e w' => e = .returned (.int .i64 (restI n)) ∧ w = w' := by
  go_enter Tryd.func62, Tryd.ntmps62
  go_wp2
  go_ret
  exact ⟨rfl, rfl⟩
theorem restI_bd (n : Int) : 0 ≤ restI n ∧ restI n < 512 := by unfold restI; omega
end Go.Proofs.YtjldphpdfckjnaaDoor
