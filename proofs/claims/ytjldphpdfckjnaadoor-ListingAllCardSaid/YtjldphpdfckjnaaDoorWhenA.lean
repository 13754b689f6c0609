import Derived.Test.YtjldphpdfckjnaaDoorKit
namespace Go.Proofs.YtjldphpdfckjnaaDoor
open Go.RowKit

def leapB (y : Int) : Bool := y % 4 == 0 && (y % 100 != 0 || y % 400 == 0)
def aheadI (year : Int) : Int := 365 * (year - 1) + (year - 1) / 4 - (year - 1) / 100 + (year - 1) / 400
def febI (y : Int) : Int := if leapB y = true then 29 else 28
/-- the months' lengths -/
def MonV (f : Int) : Value := .agg #[.int .i64 31, .int .i64 f, .int .i64 31, .int .i64 30, .int .i64 31, .int .i64 30, .int .i64 31, .int .i64 31, .int .i64 30, .int .i64 31, .int .i64 30, .int .i64 31]

theorem leap_any (y : Int) (w : World) (h0 : 0 ≤ y) (h1 : y ≤ 20000) :
    Calls Tryd.prog 160 #[.int .i64 y] w fun e w' => e = .returned (.bool (leapB y)) ∧ w = w' := by
  go_enter Tryd.func160, Tryd.ntmps160
  go_wp2
  all_goals (go_ret; refine ⟨?_, rfl⟩; simp only [leapB]; congr 2; first | (simp_all; done) | (simp_all; omega))

theorem ahead_any (y : Int) (w : World) (h0 : 1 ≤ y) (h1 : y ≤ 20000) :
    Calls Tryd.prog 140 #[.int .i64 y] w fun e w' => e = .returned (.int .i64 (aheadI y)) ∧ w = w' := by
  go_enter Tryd.func140, Tryd.ntmps140
  go_wp2
  go_ret
  exact ⟨rfl, rfl⟩

set_option maxRecDepth 100000 in
theorem months_any (y : Int) (w : World) (h0 : 0 ≤ y) (h1 : y ≤ 20000) :
    Calls Tryd.prog 141 #[.int .i64 y] w fun e w' => e = .returned (MonV (febI y)) ∧ Below w.heap.size w w' := by
  go_enter Tryd.func141, Tryd.ntmps141
  go_wp2_with fail
  refine (leap_any _ _ h0 h1).mono ?_
  rintro e w1 ⟨rfl, rfl⟩
  by_cases hl : leapB y = true
  · rw [hl]
    have H := Lib.hid hl
    clear hl
    go_wp2
    exact bodyPost_ret (v := MonV (febI y)) (by simp [results, Tryd.results141, go_sem, MonV, febI, H.out]) rfl ⟨rfl, by go_grown⟩
  · simp only [Bool.not_eq_true] at hl
    rw [hl]
    have H := Lib.hid hl
    clear hl
    go_wp2
    exact bodyPost_ret (v := MonV (febI y)) (by simp [results, Tryd.results141, go_sem, MonV, febI, H.out]) rfl ⟨rfl, by go_grown⟩
end Go.Proofs.YtjldphpdfckjnaaDoor
