import Derived.Test.YtjldphpdfckjnaaDoorWhenB
namespace Go.Proofs.YtjldphpdfckjnaaDoor
open Go.RowKit

def DayV (y m d e : Int) : Value := .tuple #[.int .i64 y, .int .i64 m, .int .i64 d, .int .i64 e]
set_option maxRecDepth 100000 in
set_option maxHeartbeats 1000000 in
theorem day_no (n : Int) (w : World) (h : n < -719162 ∨ 2932896 < n) (n0 : -9223372036854775808 ≤ n) (n1 : n ≤ 9223372036854775807) :
    Calls Tryd.prog 113 #[.int .i64 n] w fun e w' => e = .returned (DayV 0 0 0 6) ∧ w = w' := by
  have hm := ahead_max
  have H := Lib.hid hm
  clear hm
  rcases h with h | h
  · go_enter Tryd.func113, Tryd.ntmps113
    go_wp2
    exact bodyPost_ret (v := DayV 0 0 0 6) (by simp [results, Tryd.results113, go_sem, DayV]) rfl ⟨rfl, rfl⟩
  · have h' : ¬ n < -719162 := by omega
    go_enter Tryd.func113, Tryd.ntmps113
    go_wp2_with fail
    refine (ahead_any 10000 _ (by omega) (by omega)).mono ?_
    rintro e w' ⟨rfl, rfl⟩
    rw [H.out]
    go_wp2
    exact bodyPost_ret (v := DayV 0 0 0 6) (by simp [results, Tryd.results113, go_sem, DayV]) rfl ⟨rfl, rfl⟩

set_option maxRecDepth 100000 in
set_option maxHeartbeats 1000000 in
theorem day_yes (n : Int) (w : World) (h0 : -719162 ≤ n) (h1 : n ≤ 2932896) :
    Calls Tryd.prog 113 #[.int .i64 n] w fun e w' => (∃ y m d, mayB y m d = true ∧ numI y m d = n ∧ e = .returned (DayV y m d 0)) ∧ Below w.heap.size w w' := by
  have H := Lib.hid ahead_max
  have hg := ahead_guess (n + 719162) (by omega)
  go_enter Tryd.func113, Tryd.ntmps113
  go_wp2_with fail
  refine (ahead_any 10000 _ (by omega) (by omega)).mono ?_
  rintro e w' ⟨rfl, rfl⟩
  rw [H.out]
  go_wp2
  go_loop [2] (fun t => ∃ y : Int, 1 ≤ y ∧ y ≤ 9999 ∧ aheadI y ≤ n + 719162 ∧ t = .int .i64 y) (fun t => (9999 - intOf t).toNat)
  case atStart => exact ⟨_, by omega, by omega, hg, rfl⟩
  case round =>
    obtain ⟨y, y1, y2, hA, rfl⟩ := hrel
    go_wp2_with fail
    refine (ahead_any (y + 1) _ (by omega) (by omega)).mono ?_
    rintro e w' ⟨rfl, rfl⟩
    by_cases hc : aheadI (y + 1) ≤ n + 719162
    · have hlt : y < 9999 := by
        rcases Int.lt_or_le y 9999 with h | h
        · exact h
        · have : y = 9999 := by omega
          subst this
          have := H.out
          have e : (9999 : Int) + 1 = 10000 := rfl
          rw [e] at hc
          omega
      go_wp2
      go_round
      case rel => exact ⟨y + 1, by omega, by omega, hc, rfl⟩
      case measure => simp [intOf]; omega
    · have hbd := ahead_bd y y1 (by omega)
      have hS := ahead_succ y y1
      have hf := feb_bd y
      have HS := Lib.hid hS
      have hrest : n + 719162 - aheadI y < 337 + febI y := by omega
      clear hS
      go_wp2_with fail
      refine (ahead_any y _ (by omega) (by omega)).mono ?_
      rintro e w' ⟨rfl, rfl⟩
      go_wp2_with fail
      refine (months_any y _ (by omega) (by omega)).mono ?_
      rintro e w1 ⟨rfl, hb⟩
      go_wp2
      go_loop [3, 6, 35] (fun mo r i => ∃ k : Nat, k ≤ 12 ∧ i = .int .i64 k ∧ mo = .int .i64 (k + 1) ∧ 0 ≤ n + 719162 - aheadI y - cumI (febI y) k ∧ r = .int .i64 (n + 719162 - aheadI y - cumI (febI y) k)) (fun _ _ i => 12 - (intOf i).toNat)
      case atStart => exact ⟨0, by omega, rfl, rfl, by rw [cum_0]; omega, by rw [cum_0, Int.sub_zero]⟩
      case round =>
        obtain ⟨k, hk, rfl, rfl, hr, rfl⟩ := hrel
        have hcb := cum_bd (febI y) k hf hk
        have hlt : k < 12 := by
          rcases Nat.lt_or_ge k 12 with h | h
          · exact h
          · have : k = 12 := by omega
            subst this
            rw [cum_12] at hr
            omega
        have hmk := mon_bd (febI y) k hf hlt
        have HS2 := Lib.hid (cum_succ (febI y) k hlt)
        have hmi := fun w => mon_index (febI y) w k hlt
        by_cases hlt2 : n + 719162 - aheadI y - cumI (febI y) k < monAt (febI y) k
        · have hfin : mayB y ((k : Int) + 1) (n + 719162 - aheadI y - cumI (febI y) k + 1) = true ∧ numI y ((k : Int) + 1) (n + 719162 - aheadI y - cumI (febI y) k + 1) = n := by
            have e : ((k : Int) + 1).toNat - 1 = k := by omega
            refine ⟨(may_iff _ _ _).2 ⟨y1, y2, by omega, by omega, by omega, ?_⟩, ?_⟩
            · rw [len_mon _ _ (by omega) (by omega), e]; omega
            · unfold numI; rw [e]; omega
          have HF := Lib.hid hfin
          clear hfin
          go_wp2
          exact bodyPost_ret (v := DayV y ((k : Int) + 1) (n + 719162 - aheadI y - cumI (febI y) k + 1) 0) (by simp [results, Tryd.results113, go_sem, DayV]) rfl ⟨⟨_, _, _, HF.out.1, HF.out.2, rfl⟩, hb⟩
        · have hr2 : 0 ≤ n + 719162 - aheadI y - cumI (febI y) (k + 1) := by rw [HS2.out]; omega
          go_wp2
          go_round
          case rel => exact ⟨k + 1, by omega, by go_num, by go_num, hr2, by rw [HS2.out]; go_num⟩
          case measure => simp [intOf]; omega
end Go.Proofs.YtjldphpdfckjnaaDoor
