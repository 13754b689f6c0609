import Derived.Test.YtpfblnegaipgdaaKit
namespace Go.Proofs.Ytpfblnegaipgdaa
open Go.RowKit

def leapB (y : Int) : Bool := y % 4 == 0 && (y % 100 != 0 || y % 400 == 0)
def aheadI (year : Int) : Int := 365 * (year - 1) + (year - 1) / 4 - (year - 1) / 100 + (year - 1) / 400
def febI (y : Int) : Int := if leapB y = true then 29 else 28
/-- the months' lengths -/
def MonV (f : Int) : Value := .agg #[.int .i64 31, .int .i64 f, .int .i64 31, .int .i64 30, .int .i64 31, .int .i64 30, .int .i64 31, .int .i64 31, .int .i64 30, .int .i64 31, .int .i64 30, .int .i64 31]

theorem leap_any (y : Int) (w : World) (h0 : 0 ≤ y) (h1 : y ≤ 20000) :
    Calls Try.prog 31 #[.int .i64 y] w fun e w' => e = .returned (.bool (leapB y)) ∧ w = w' := by
  go_enter Try.func31, Try.ntmps31
  go_wp2
  all_goals (go_ret; refine ⟨?_, rfl⟩; simp only [leapB]; congr 2; first | (simp_all; done) | (simp_all; omega))

theorem ahead_any (y : Int) (w : World) (h0 : 1 ≤ y) (h1 : y ≤ 20000) :
    Calls Try.prog 23 #[.int .i64 y] w fun e w' => e = .returned (.int .i64 (aheadI y)) ∧ w = w' := by
  go_enter Try.func23, Try.ntmps23
  go_wp2
  go_ret
  exact ⟨rfl, rfl⟩

def wdI (n : Int) : Int := (n % 7 + 4) % 7
theorem weekday_any (n : Int) (w : World) (h0 : -9223372036854775808 ≤ n) (h1 : n ≤ 9223372036854775807) :
    Calls Try.prog 16 #[.int .i64 n] w fun e w' => e = .returned (.int .i64 (wdI n)) ∧ w = w' := by
  go_enter Try.func16, Try.ntmps16
  have hm : n.tmod 7 = if 0 ≤ n then n % 7 else -((-n) % 7) := by
    split
    · rename_i h; exact Int.tmod_eq_emod_of_nonneg h
    · rename_i h
      have h2 := Int.neg_tmod (-n) 7
      rw [Int.neg_neg] at h2
      rw [h2, Int.tmod_eq_emod_of_nonneg (by omega)]
  go_wp2
  all_goals
    go_ret
    refine ⟨?_, rfl⟩
    show Ending.returned (Value.int IntKind.i64 _) = Ending.returned (Value.int IntKind.i64 _)
    unfold wdI
    congr 2
    omega

set_option maxRecDepth 100000 in
theorem months_any (y : Int) (w : World) (h0 : 0 ≤ y) (h1 : y ≤ 20000) :
    Calls Try.prog 22 #[.int .i64 y] w fun e w' => e = .returned (MonV (febI y)) ∧ Below w.heap.size w w' := by
  go_enter Try.func22, Try.ntmps22
  go_wp2_with fail
  refine (leap_any _ _ h0 h1).mono ?_
  rintro e w1 ⟨rfl, rfl⟩
  by_cases hl : leapB y = true
  · rw [hl]
    have H := Lib.hid hl
    clear hl
    go_wp2
    exact bodyPost_ret (v := MonV (febI y)) (by simp [results, Try.results22, go_sem, MonV, febI, H.out]) rfl ⟨rfl, by go_grown⟩
  · simp only [Bool.not_eq_true] at hl
    rw [hl]
    have H := Lib.hid hl
    clear hl
    go_wp2
    exact bodyPost_ret (v := MonV (febI y)) (by simp [results, Try.results22, go_sem, MonV, febI, H.out]) rfl ⟨rfl, by go_grown⟩
end Go.Proofs.Ytpfblnegaipgdaa
