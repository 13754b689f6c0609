/- The law WhenTexts, walked. -/
import Derived.Test.YtjaiadfpdkjkpaaDoorWhenL
namespace Go.Proofs.YtjaiadfpdkjkpaaDoor
open Go.RowKit Go.Lib

theorem frac_len10 (n : Nat) (h : n < 1000000000) : fracN 10 n = if n = 0 then 0 else (fracT n).length := by
  by_cases h0 : n = 0
  · rw [if_pos h0, h0]; rfl
  · rw [if_neg h0]
    obtain ⟨_, hl, hd, hv⟩ := digs_big n h
    obtain ⟨he, hle⟩ := trim_eq0 (frac9 n) 48
    have hf : trimRightB (frac9 n) 48 = fracT n := rfl
    rw [hf, hl] at he hle
    obtain ⟨hb, _⟩ := fracT_ok n h h0
    obtain ⟨hne, _, hdg⟩ := (digB_iff _ _).1 hb
    have hval : decN (fracT n) * 10 ^ (9 - (fracT n).length) = n := by rw [← decN_app_zeros, ← he, hv]
    have hlt := decN_lt _ (fracT n) hdg rfl
    have hlast := trim_last (frac9 n) 48 (by rw [hf]; exact hne)
    have e := List.dropLast_concat_getLast hne
    have g := of_decide_eq_true (hdg _ (List.getLast_mem hne))
    have h10 : decN (fracT n) % 10 ≠ 0 := by
      rw [← e, decN_snoc]
      have : ((fracT n).getLast hne).toNat ≠ 48 := fun x => hlast (UInt8.toNat_inj.1 x)
      omega
    have := fracN_of (fracT n).length 10 (decN (fracT n)) hle (by omega) hlt (fun _ => h10)
    rw [hval] at this
    exact this
theorem num_first : refNum 1 1 1 = -719162 := by decide
theorem num_last : refNum 9999 12 31 = 2932896 := by decide
theorem rRight_any29 (s n : Int) (w : World) :
    Calls Tryd.prog 26 #[.int .i64 s, .int .i64 n] w fun e w' => e = .returned (.bool (rightB s n)) ∧ w' = w := rRight_any s n w
set_option maxRecDepth 100000 in
set_option maxHeartbeats 1000000 in
theorem lawTexts_arg (s n : Int) (w : World) (hr : rightB s n = false) :
    Calls Tryd.prog 8 #[.agg #[.int .i64 s, .int .i64 n]] w fun e w' => e = .returned (.bool true) ∧ Below w.heap.size w w' := by
  have hB0 := (Below.refl w.heap.size w).alloc (Nat.le_refl _) (.cells #[.int .i64 s, .int .i64 n] 41)
  have HT1 := Lib.hid (fun W => wText_arg s n hr W)
  have HR := Lib.hid (show ∀ W : World, Calls Tryd.prog 26 #[.int .i64 s, .int .i64 n] W fun e w' => e = .returned (.bool false) ∧ w' = W from fun W => by rw [← hr]; exact rRight_any s n W)
  have HA := Lib.hid (StAt.new w s n)
  clear hr
  go_enter Tryd.func8, Tryd.ntmps8
  go_wp2_with fail
  refine (HT1.out _).mono ?_
  rintro e w1 ⟨rfl, hb1⟩
  have hB1 := chain hB0 hb1
  have hA1 := HA.out.below hb1 (by simp)
  have c0 := hA1.c0
  have c1 := hA1.c1
  have hg1 := hA1.lt
  clear HA hb1
  go_wp2_with fail
  refine (HR.out _).mono ?_
  rintro e w' ⟨rfl, rfl⟩
  go_wp2_with fail
  refine (awake29 _).mono ?_
  rintro e w2 ⟨rfl, hb2⟩
  go_wp2_with fail
  go_ret
  exact ⟨rfl, chain hB1 hb2⟩
set_option maxRecDepth 100000 in
set_option maxHeartbeats 1000000 in
theorem lawTexts_out (s n : Int) (w : World) (hr : rightB s n = true) (hq : s / 86400 < -719162 ∨ 2932896 < s / 86400) :
    Calls Tryd.prog 8 #[.agg #[.int .i64 s, .int .i64 n]] w fun e w' => e = .returned (.bool true) ∧ Below w.heap.size w w' := by
  obtain ⟨g1, g2, g3, g4⟩ := (right_iff s n).1 hr
  have hB0 := (Below.refl w.heap.size w).alloc (Nat.le_refl _) (.cells #[.int .i64 s, .int .i64 n] 41)
  have HT1 := Lib.hid (fun W => wText_out s n hr hq W)
  have HR := Lib.hid (show ∀ W : World, Calls Tryd.prog 26 #[.int .i64 s, .int .i64 n] W fun e w' => e = .returned (.bool true) ∧ w' = W from fun W => by rw [← hr]; exact rRight_any s n W)
  have N1 := Lib.hid (show ∀ W : World, Calls Tryd.prog 28 #[.int .i64 1, .int .i64 1, .int .i64 1] W fun e w' => e = .returned (.int .i64 (-719162)) ∧ W = w' from fun W => by rw [← num_first]; exact rnum_any 1 1 1 W (by decide) (by decide) (by decide) (by decide) (by decide) (by decide))
  have N2 := Lib.hid (show ∀ W : World, Calls Tryd.prog 28 #[.int .i64 9999, .int .i64 12, .int .i64 31] W fun e w' => e = .returned (.int .i64 2932896) ∧ W = w' from fun W => by rw [← num_last]; exact rnum_any 9999 12 31 W (by decide) (by decide) (by decide) (by decide) (by decide) (by decide))
  have HA := Lib.hid (StAt.new w s n)
  have hs : s < -62135596800 ∨ 253402300799 < s := by omega
  clear hr hq
  go_enter Tryd.func8, Tryd.ntmps8
  go_wp2_with fail
  refine (HT1.out _).mono ?_
  rintro e w1 ⟨rfl, hb1⟩
  have hB1 := chain hB0 hb1
  have hA1 := HA.out.below hb1 (by simp)
  have c0 := hA1.c0
  have c1 := hA1.c1
  have hg1 := hA1.lt
  clear HA hb1
  go_wp2_with fail
  refine (HR.out _).mono ?_
  rintro e w' ⟨rfl, rfl⟩
  go_wp2_with fail
  refine (N1.out _).mono ?_
  rintro e w' ⟨rfl, rfl⟩
  go_wp2_with fail
  refine (N2.out _).mono ?_
  rintro e w' ⟨rfl, rfl⟩
  rcases hs with hs | hs
  all_goals
    go_wp2_with fail
  all_goals
    refine (awake29 _).mono ?_
    rintro e w2 ⟨rfl, hb2⟩
    go_wp2_with fail
    go_ret
    exact ⟨rfl, chain hB1 hb2⟩
end Go.Proofs.YtjaiadfpdkjkpaaDoor
