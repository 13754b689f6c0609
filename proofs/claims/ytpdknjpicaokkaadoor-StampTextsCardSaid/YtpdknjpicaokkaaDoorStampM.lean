/- The law StampAdds, where the stamp and the nanoseconds may be. -/
import Derived.Test.YtpdknjpicaokkaaDoorStampK
namespace Go.Proofs.YtpdknjpicaokkaaDoor
open Go.RowKit

theorem good_back (s n k : Int) (h : goodB s n k = true) (hr : rightB (addS s n k) (addN n k) = true) : goodB (addS s n k) (addN n k) (-k) = true ∧ AdV (addS (addS s n k) (addN n k) (-k)) (addN (addN n k) (-k)) = StV s n 0 := by
  unfold goodB at h ⊢
  rw [Bool.and_eq_true, decide_eq_true_iff] at h
  obtain ⟨g1, g2, g3, g4⟩ := (right_iff s n).1 h.1
  obtain ⟨b1, b2, _, _⟩ := add_back s n k g3 g4
  refine ⟨?_, ?_⟩
  · rw [hr, Bool.true_and, decide_eq_true_iff]; omega
  · rw [b1, b2]
    unfold AdV
    rw [if_pos h.1]

set_option maxRecDepth 100000 in
set_option maxHeartbeats 8000000 in
theorem adds_p2y (s n k q r : Int) (w : World) (hT : TB w.heap.size w) (hk1 : -1152921504606846976 ≤ k) (hk2 : k ≤ 1152921504606846976) (g1 : -9007199254740991 ≤ s) (g2 : s ≤ 9007199254740991) (H : Hid (rightB s n = true)) (hq1 : -1152921505 ≤ q) (hq2 : q ≤ 1152921505) (T1 : Hid (k.tmod 1000000000 = r)) (HW : Hid (IntKind.i64.wrap (n + r) = n + r)) (k0 : 0 ≤ k) (e1 : k / 1000000000 = q) (e2 : k % 1000000000 = r) (j1 : 0 ≤ n + r) (j2 : n + r < 1000000000) (HA : Hid (∀ w : World, Calls Tryd.prog 55 #[.agg #[.int .i64 s, .int .i64 n], .int .i64 k] w fun e w' => e = .returned (StV (s + q) (n + r) 0) ∧ Below w.heap.size w w')) (HR : Hid (rightB (s + q) (n + r) = true)) (HB : Hid (∀ w : World, Calls Tryd.prog 55 #[.agg #[.int .i64 (s + q), .int .i64 (n + r)], .int .i64 (-k)] w fun e w' => e = .returned (StV s n 0) ∧ Below w.heap.size w w')) (c : Int) (HC : Hid (∀ w : World, Calls Tryd.prog 53 #[.agg #[.int .i64 (s + q), .int .i64 (n + r)], .agg #[.int .i64 s, .int .i64 n]] w fun e w' => e = .returned (.int .i64 c) ∧ Below w.heap.size w w')) (hc : (0 < k ∧ 0 < c) ∨ (¬ 0 < k ∧ ¬ 0 < c)) :
    Calls Tryd.prog 13 #[.agg #[.int .i64 s, .int .i64 n], .int .i64 k] w fun e w' => e = .returned (.bool true) ∧ Below w.heap.size w w' := by
  go_enter Tryd.func13, Tryd.ntmps13
  go_wp2_with fail
  refine (HA.out _).mono ?_
  rintro e w1 ⟨rfl, hb1⟩
  have hA1 := (StAt.new w s n).below hb1
  have hx1 : Below w.heap.size w w1 := ((Below.refl _ _).alloc (Nat.le_refl _) _).trans (hb1.mono (by simp))
  have hz1 := hA1.lt
  have HX1 := Lib.hid hx1
  have d0 := hA1.c0
  have d1 := hA1.c1
  clear hb1 hx1
  unfold StV Stp
  go_wp2_with fail
  refine (rRight_any s n _).mono ?_
  rintro e w2 ⟨rfl, hw2⟩
  subst hw2
  rw [H.out]
  go_wp2_with fail
  have t1 := T1.out
  have hw := HW.out
  go_quiet (fail)
  clear t1 hw
  go_wp2_with fail
  refine (rRight_any _ _ _).mono ?_
  rintro e w3 ⟨rfl, hw3⟩
  subst hw3
  rw [HR.out]
  go_wp2_with fail
  refine (HB.out _).mono ?_
  rintro e w4 ⟨rfl, hb4⟩
  have hU4 := (StAt.new w1 (s + q) (n + r)).below (w' := (w1.alloc (.cells #[.int .i64 (s + q), .int .i64 (n + r)] 67)).drewN nq) (belowDrewN (Below.refl _ _)) |>.below hb4
  have hA4 := (hA1.below ((Below.refl _ _).alloc (Nat.le_refl _) (.cells #[.int .i64 (s + q), .int .i64 (n + r)] 67))).below (w' := (w1.alloc (.cells #[.int .i64 (s + q), .int .i64 (n + r)] 67)).drewN nq) (belowDrewN (Below.refl _ _)) |>.below hb4
  have hx4 : Below w.heap.size w w4 := chainB0 (belowDrewN (HX1.out.alloc HX1.out.size _)) hb4
  have HX4 := Lib.hid hx4
  have hz4 := hU4.lt
  have hz5 := hA4.lt
  have b0 := hU4.c0
  have b1 := hU4.c1
  have b2 := hA4.c0
  have b3 := hA4.c1
  clear hx4 hb4 d0 d1
  unfold StV Stp
  go_wp2_with fail
  refine (HC.out _).mono ?_
  rintro e w5 ⟨rfl, hb5⟩
  have hx5 := chainB0 (HX4.out.alloc HX4.out.size _) hb5
  rcases hc with ⟨c1, c2⟩ | ⟨c1, c2⟩
  all_goals
    go_wp2_with fail
    refine (awake_any04 _ (tbOn hT hx5)).mono ?_
    rintro e w6 ⟨rfl, hb6⟩
    have hx6 := chainB0 hx5 hb6
    go_wp2_with fail
    go_ret
    exact ⟨rfl, hx6⟩

set_option maxRecDepth 100000 in
set_option maxHeartbeats 8000000 in
theorem adds_p2n (s n k q r : Int) (w : World) (hT : TB w.heap.size w) (hk1 : -1152921504606846976 ≤ k) (hk2 : k ≤ 1152921504606846976) (g1 : -9007199254740991 ≤ s) (g2 : s ≤ 9007199254740991) (H : Hid (rightB s n = true)) (hq1 : -1152921505 ≤ q) (hq2 : q ≤ 1152921505) (T1 : Hid (k.tmod 1000000000 = r)) (HW : Hid (IntKind.i64.wrap (n + r) = n + r)) (k0 : 0 ≤ k) (e1 : k / 1000000000 = q) (e2 : k % 1000000000 = r) (j1 : 0 ≤ n + r) (j2 : n + r < 1000000000) (HA : Hid (∀ w : World, Calls Tryd.prog 55 #[.agg #[.int .i64 s, .int .i64 n], .int .i64 k] w fun e w' => e = .returned (StV 0 0 6) ∧ Below w.heap.size w w')) (HR : Hid (rightB (s + q) (n + r) = false)) :
    Calls Tryd.prog 13 #[.agg #[.int .i64 s, .int .i64 n], .int .i64 k] w fun e w' => e = .returned (.bool true) ∧ Below w.heap.size w w' := by
  go_enter Tryd.func13, Tryd.ntmps13
  go_wp2_with fail
  refine (HA.out _).mono ?_
  rintro e w1 ⟨rfl, hb1⟩
  have hA1 := (StAt.new w s n).below hb1
  have hx1 : Below w.heap.size w w1 := ((Below.refl _ _).alloc (Nat.le_refl _) _).trans (hb1.mono (by simp))
  have hz1 := hA1.lt
  have HX1 := Lib.hid hx1
  have d0 := hA1.c0
  have d1 := hA1.c1
  clear hb1 hx1
  unfold StV Stp
  go_wp2_with fail
  refine (rRight_any s n _).mono ?_
  rintro e w2 ⟨rfl, hw2⟩
  subst hw2
  rw [H.out]
  go_wp2_with fail
  have t1 := T1.out
  have hw := HW.out
  go_quiet (fail)
  clear t1 hw
  go_wp2_with fail
  refine (rRight_any _ _ _).mono ?_
  rintro e w3 ⟨rfl, hw3⟩
  subst hw3
  rw [HR.out]
  go_wp2_with fail
  refine (awake_any04 _ (tbOn hT (belowDrewN (HX1.out.alloc HX1.out.size _)))).mono ?_
  rintro e w4 ⟨rfl, hb4⟩
  have hx4 := chainB0 (belowDrewN (HX1.out.alloc HX1.out.size _)) hb4
  go_wp2_with fail
  go_ret
  exact ⟨rfl, hx4⟩

set_option maxRecDepth 100000 in
set_option maxHeartbeats 8000000 in
theorem adds_p3y (s n k q r : Int) (w : World) (hT : TB w.heap.size w) (hk1 : -1152921504606846976 ≤ k) (hk2 : k ≤ 1152921504606846976) (g1 : -9007199254740991 ≤ s) (g2 : s ≤ 9007199254740991) (g3 : 0 ≤ n) (g4 : n < 1000000000) (H : Hid (rightB s n = true)) (hr1 : -1000000000 < r) (hr2 : r < 1000000000) (hq1 : -1152921505 ≤ q) (hq2 : q ≤ 1152921505) (T1 : Hid (k.tmod 1000000000 = r)) (HW : Hid (IntKind.i64.wrap (n + r) = n + r)) (k0 : 0 ≤ k) (e1 : k / 1000000000 = q) (e2 : k % 1000000000 = r) (j1 : 1000000000 ≤ n + r) (HA : Hid (∀ w : World, Calls Tryd.prog 55 #[.agg #[.int .i64 s, .int .i64 n], .int .i64 k] w fun e w' => e = .returned (StV (s + q + 1) (n + r - 1000000000) 0) ∧ Below w.heap.size w w')) (HR : Hid (rightB (s + q + 1) (n + r - 1000000000) = true)) (HB : Hid (∀ w : World, Calls Tryd.prog 55 #[.agg #[.int .i64 (s + q + 1), .int .i64 (n + r - 1000000000)], .int .i64 (-k)] w fun e w' => e = .returned (StV s n 0) ∧ Below w.heap.size w w')) (c : Int) (HC : Hid (∀ w : World, Calls Tryd.prog 53 #[.agg #[.int .i64 (s + q + 1), .int .i64 (n + r - 1000000000)], .agg #[.int .i64 s, .int .i64 n]] w fun e w' => e = .returned (.int .i64 c) ∧ Below w.heap.size w w')) (hc : 0 < k ∧ 0 < c) :
    Calls Tryd.prog 13 #[.agg #[.int .i64 s, .int .i64 n], .int .i64 k] w fun e w' => e = .returned (.bool true) ∧ Below w.heap.size w w' := by
  go_enter Tryd.func13, Tryd.ntmps13
  go_wp2_with fail
  refine (HA.out _).mono ?_
  rintro e w1 ⟨rfl, hb1⟩
  have hA1 := (StAt.new w s n).below hb1
  have hx1 : Below w.heap.size w w1 := ((Below.refl _ _).alloc (Nat.le_refl _) _).trans (hb1.mono (by simp))
  have hz1 := hA1.lt
  have HX1 := Lib.hid hx1
  have d0 := hA1.c0
  have d1 := hA1.c1
  clear hb1 hx1
  unfold StV Stp
  go_wp2_with fail
  refine (rRight_any s n _).mono ?_
  rintro e w2 ⟨rfl, hw2⟩
  subst hw2
  rw [H.out]
  go_wp2_with fail
  have t1 := T1.out
  have hw := HW.out
  go_quiet (fail)
  clear t1 hw
  go_wp2_with fail
  refine (rRight_any _ _ _).mono ?_
  rintro e w3 ⟨rfl, hw3⟩
  subst hw3
  rw [HR.out]
  go_wp2_with fail
  refine (HB.out _).mono ?_
  rintro e w4 ⟨rfl, hb4⟩
  have hU4 := (StAt.new w1 (s + q + 1) (n + r - 1000000000)).below (w' := (w1.alloc (.cells #[.int .i64 (s + q + 1), .int .i64 (n + r - 1000000000)] 67)).drewN nq) (belowDrewN (Below.refl _ _)) |>.below hb4
  have hA4 := (hA1.below ((Below.refl _ _).alloc (Nat.le_refl _) (.cells #[.int .i64 (s + q + 1), .int .i64 (n + r - 1000000000)] 67))).below (w' := (w1.alloc (.cells #[.int .i64 (s + q + 1), .int .i64 (n + r - 1000000000)] 67)).drewN nq) (belowDrewN (Below.refl _ _)) |>.below hb4
  have hx4 : Below w.heap.size w w4 := chainB0 (belowDrewN (HX1.out.alloc HX1.out.size _)) hb4
  have HX4 := Lib.hid hx4
  have hz4 := hU4.lt
  have hz5 := hA4.lt
  have b0 := hU4.c0
  have b1 := hU4.c1
  have b2 := hA4.c0
  have b3 := hA4.c1
  clear hx4 hb4 d0 d1
  unfold StV Stp
  go_wp2_with fail
  refine (HC.out _).mono ?_
  rintro e w5 ⟨rfl, hb5⟩
  have hx5 := chainB0 (HX4.out.alloc HX4.out.size _) hb5
  obtain ⟨c1, c2⟩ := hc
  all_goals
    go_wp2_with fail
    refine (awake_any04 _ (tbOn hT hx5)).mono ?_
    rintro e w6 ⟨rfl, hb6⟩
    have hx6 := chainB0 hx5 hb6
    go_wp2_with fail
    go_ret
    exact ⟨rfl, hx6⟩

set_option maxRecDepth 100000 in
set_option maxHeartbeats 8000000 in
theorem adds_p3n (s n k q r : Int) (w : World) (hT : TB w.heap.size w) (hk1 : -1152921504606846976 ≤ k) (hk2 : k ≤ 1152921504606846976) (g1 : -9007199254740991 ≤ s) (g2 : s ≤ 9007199254740991) (g3 : 0 ≤ n) (g4 : n < 1000000000) (H : Hid (rightB s n = true)) (hr1 : -1000000000 < r) (hr2 : r < 1000000000) (hq1 : -1152921505 ≤ q) (hq2 : q ≤ 1152921505) (T1 : Hid (k.tmod 1000000000 = r)) (HW : Hid (IntKind.i64.wrap (n + r) = n + r)) (k0 : 0 ≤ k) (e1 : k / 1000000000 = q) (e2 : k % 1000000000 = r) (j1 : 1000000000 ≤ n + r) (HA : Hid (∀ w : World, Calls Tryd.prog 55 #[.agg #[.int .i64 s, .int .i64 n], .int .i64 k] w fun e w' => e = .returned (StV 0 0 6) ∧ Below w.heap.size w w')) (HR : Hid (rightB (s + q + 1) (n + r - 1000000000) = false)) :
    Calls Tryd.prog 13 #[.agg #[.int .i64 s, .int .i64 n], .int .i64 k] w fun e w' => e = .returned (.bool true) ∧ Below w.heap.size w w' := by
  go_enter Tryd.func13, Tryd.ntmps13
  go_wp2_with fail
  refine (HA.out _).mono ?_
  rintro e w1 ⟨rfl, hb1⟩
  have hA1 := (StAt.new w s n).below hb1
  have hx1 : Below w.heap.size w w1 := ((Below.refl _ _).alloc (Nat.le_refl _) _).trans (hb1.mono (by simp))
  have hz1 := hA1.lt
  have HX1 := Lib.hid hx1
  have d0 := hA1.c0
  have d1 := hA1.c1
  clear hb1 hx1
  unfold StV Stp
  go_wp2_with fail
  refine (rRight_any s n _).mono ?_
  rintro e w2 ⟨rfl, hw2⟩
  subst hw2
  rw [H.out]
  go_wp2_with fail
  have t1 := T1.out
  have hw := HW.out
  go_quiet (fail)
  clear t1 hw
  go_wp2_with fail
  refine (rRight_any _ _ _).mono ?_
  rintro e w3 ⟨rfl, hw3⟩
  subst hw3
  rw [HR.out]
  go_wp2_with fail
  refine (awake_any04 _ (tbOn hT (belowDrewN (HX1.out.alloc HX1.out.size _)))).mono ?_
  rintro e w4 ⟨rfl, hb4⟩
  have hx4 := chainB0 (belowDrewN (HX1.out.alloc HX1.out.size _)) hb4
  go_wp2_with fail
  go_ret
  exact ⟨rfl, hx4⟩

set_option maxRecDepth 100000 in
set_option maxHeartbeats 8000000 in
theorem adds_m1y (s n k q r : Int) (w : World) (hT : TB w.heap.size w) (hk1 : -1152921504606846976 ≤ k) (hk2 : k ≤ 1152921504606846976) (g1 : -9007199254740991 ≤ s) (g2 : s ≤ 9007199254740991) (g3 : 0 ≤ n) (g4 : n < 1000000000) (H : Hid (rightB s n = true)) (hr1 : -1000000000 < r) (hr2 : r < 1000000000) (hq1 : -1152921505 ≤ q) (hq2 : q ≤ 1152921505) (T1 : Hid (k.tmod 1000000000 = r)) (HW : Hid (IntKind.i64.wrap (n + r) = n + r)) (k0 : k < 0) (e1 : k.tdiv 1000000000 = q) (j1 : n + r < 0) (HA : Hid (∀ w : World, Calls Tryd.prog 55 #[.agg #[.int .i64 s, .int .i64 n], .int .i64 k] w fun e w' => e = .returned (StV (s + q - 1) (n + r + 1000000000) 0) ∧ Below w.heap.size w w')) (HR : Hid (rightB (s + q - 1) (n + r + 1000000000) = true)) (HB : Hid (∀ w : World, Calls Tryd.prog 55 #[.agg #[.int .i64 (s + q - 1), .int .i64 (n + r + 1000000000)], .int .i64 (-k)] w fun e w' => e = .returned (StV s n 0) ∧ Below w.heap.size w w')) (c : Int) (HC : Hid (∀ w : World, Calls Tryd.prog 53 #[.agg #[.int .i64 (s + q - 1), .int .i64 (n + r + 1000000000)], .agg #[.int .i64 s, .int .i64 n]] w fun e w' => e = .returned (.int .i64 c) ∧ Below w.heap.size w w')) (hc : (0 < k ∧ 0 < c) ∨ (¬ 0 < k ∧ ¬ 0 < c)) :
    Calls Tryd.prog 13 #[.agg #[.int .i64 s, .int .i64 n], .int .i64 k] w fun e w' => e = .returned (.bool true) ∧ Below w.heap.size w w' := by
  go_enter Tryd.func13, Tryd.ntmps13
  go_wp2_with fail
  refine (HA.out _).mono ?_
  rintro e w1 ⟨rfl, hb1⟩
  have hA1 := (StAt.new w s n).below hb1
  have hx1 : Below w.heap.size w w1 := ((Below.refl _ _).alloc (Nat.le_refl _) _).trans (hb1.mono (by simp))
  have hz1 := hA1.lt
  have HX1 := Lib.hid hx1
  have d0 := hA1.c0
  have d1 := hA1.c1
  clear hb1 hx1
  unfold StV Stp
  go_wp2_with fail
  refine (rRight_any s n _).mono ?_
  rintro e w2 ⟨rfl, hw2⟩
  subst hw2
  rw [H.out]
  go_wp2_with fail
  have t1 := T1.out
  have hw := HW.out
  go_quiet (fail)
  clear t1 hw
  go_wp2_with fail
  refine (rRight_any _ _ _).mono ?_
  rintro e w3 ⟨rfl, hw3⟩
  subst hw3
  rw [HR.out]
  go_wp2_with fail
  refine (HB.out _).mono ?_
  rintro e w4 ⟨rfl, hb4⟩
  have hU4 := (StAt.new w1 (s + q - 1) (n + r + 1000000000)).below (w' := (w1.alloc (.cells #[.int .i64 (s + q - 1), .int .i64 (n + r + 1000000000)] 67)).drewN nq) (belowDrewN (Below.refl _ _)) |>.below hb4
  have hA4 := (hA1.below ((Below.refl _ _).alloc (Nat.le_refl _) (.cells #[.int .i64 (s + q - 1), .int .i64 (n + r + 1000000000)] 67))).below (w' := (w1.alloc (.cells #[.int .i64 (s + q - 1), .int .i64 (n + r + 1000000000)] 67)).drewN nq) (belowDrewN (Below.refl _ _)) |>.below hb4
  have hx4 : Below w.heap.size w w4 := chainB0 (belowDrewN (HX1.out.alloc HX1.out.size _)) hb4
  have HX4 := Lib.hid hx4
  have hz4 := hU4.lt
  have hz5 := hA4.lt
  have b0 := hU4.c0
  have b1 := hU4.c1
  have b2 := hA4.c0
  have b3 := hA4.c1
  clear hx4 hb4 d0 d1
  unfold StV Stp
  go_wp2_with fail
  refine (HC.out _).mono ?_
  rintro e w5 ⟨rfl, hb5⟩
  have hx5 := chainB0 (HX4.out.alloc HX4.out.size _) hb5
  rcases hc with ⟨c1, c2⟩ | ⟨c1, c2⟩
  all_goals
    go_wp2_with fail
    refine (awake_any04 _ (tbOn hT hx5)).mono ?_
    rintro e w6 ⟨rfl, hb6⟩
    have hx6 := chainB0 hx5 hb6
    go_wp2_with fail
    go_ret
    exact ⟨rfl, hx6⟩

set_option maxRecDepth 100000 in
set_option maxHeartbeats 8000000 in
theorem adds_m1n (s n k q r : Int) (w : World) (hT : TB w.heap.size w) (hk1 : -1152921504606846976 ≤ k) (hk2 : k ≤ 1152921504606846976) (g1 : -9007199254740991 ≤ s) (g2 : s ≤ 9007199254740991) (g3 : 0 ≤ n) (g4 : n < 1000000000) (H : Hid (rightB s n = true)) (hr1 : -1000000000 < r) (hr2 : r < 1000000000) (hq1 : -1152921505 ≤ q) (hq2 : q ≤ 1152921505) (T1 : Hid (k.tmod 1000000000 = r)) (HW : Hid (IntKind.i64.wrap (n + r) = n + r)) (k0 : k < 0) (e1 : k.tdiv 1000000000 = q) (j1 : n + r < 0) (HA : Hid (∀ w : World, Calls Tryd.prog 55 #[.agg #[.int .i64 s, .int .i64 n], .int .i64 k] w fun e w' => e = .returned (StV 0 0 6) ∧ Below w.heap.size w w')) (HR : Hid (rightB (s + q - 1) (n + r + 1000000000) = false)) :
    Calls Tryd.prog 13 #[.agg #[.int .i64 s, .int .i64 n], .int .i64 k] w fun e w' => e = .returned (.bool true) ∧ Below w.heap.size w w' := by
  go_enter Tryd.func13, Tryd.ntmps13
  go_wp2_with fail
  refine (HA.out _).mono ?_
  rintro e w1 ⟨rfl, hb1⟩
  have hA1 := (StAt.new w s n).below hb1
  have hx1 : Below w.heap.size w w1 := ((Below.refl _ _).alloc (Nat.le_refl _) _).trans (hb1.mono (by simp))
  have hz1 := hA1.lt
  have HX1 := Lib.hid hx1
  have d0 := hA1.c0
  have d1 := hA1.c1
  clear hb1 hx1
  unfold StV Stp
  go_wp2_with fail
  refine (rRight_any s n _).mono ?_
  rintro e w2 ⟨rfl, hw2⟩
  subst hw2
  rw [H.out]
  go_wp2_with fail
  have t1 := T1.out
  have hw := HW.out
  go_quiet (fail)
  clear t1 hw
  go_wp2_with fail
  refine (rRight_any _ _ _).mono ?_
  rintro e w3 ⟨rfl, hw3⟩
  subst hw3
  rw [HR.out]
  go_wp2_with fail
  refine (awake_any04 _ (tbOn hT (belowDrewN (HX1.out.alloc HX1.out.size _)))).mono ?_
  rintro e w4 ⟨rfl, hb4⟩
  have hx4 := chainB0 (belowDrewN (HX1.out.alloc HX1.out.size _)) hb4
  go_wp2_with fail
  go_ret
  exact ⟨rfl, hx4⟩

set_option maxRecDepth 100000 in
set_option maxHeartbeats 8000000 in
theorem adds_m2y (s n k q r : Int) (w : World) (hT : TB w.heap.size w) (hk1 : -1152921504606846976 ≤ k) (hk2 : k ≤ 1152921504606846976) (g1 : -9007199254740991 ≤ s) (g2 : s ≤ 9007199254740991) (H : Hid (rightB s n = true)) (hq1 : -1152921505 ≤ q) (hq2 : q ≤ 1152921505) (T1 : Hid (k.tmod 1000000000 = r)) (HW : Hid (IntKind.i64.wrap (n + r) = n + r)) (k0 : k < 0) (e1 : k.tdiv 1000000000 = q) (j1 : 0 ≤ n + r) (j2 : n + r < 1000000000) (HA : Hid (∀ w : World, Calls Tryd.prog 55 #[.agg #[.int .i64 s, .int .i64 n], .int .i64 k] w fun e w' => e = .returned (StV (s + q) (n + r) 0) ∧ Below w.heap.size w w')) (HR : Hid (rightB (s + q) (n + r) = true)) (HB : Hid (∀ w : World, Calls Tryd.prog 55 #[.agg #[.int .i64 (s + q), .int .i64 (n + r)], .int .i64 (-k)] w fun e w' => e = .returned (StV s n 0) ∧ Below w.heap.size w w')) (c : Int) (HC : Hid (∀ w : World, Calls Tryd.prog 53 #[.agg #[.int .i64 (s + q), .int .i64 (n + r)], .agg #[.int .i64 s, .int .i64 n]] w fun e w' => e = .returned (.int .i64 c) ∧ Below w.heap.size w w')) (hc : (0 < k ∧ 0 < c) ∨ (¬ 0 < k ∧ ¬ 0 < c)) :
    Calls Tryd.prog 13 #[.agg #[.int .i64 s, .int .i64 n], .int .i64 k] w fun e w' => e = .returned (.bool true) ∧ Below w.heap.size w w' := by
  go_enter Tryd.func13, Tryd.ntmps13
  go_wp2_with fail
  refine (HA.out _).mono ?_
  rintro e w1 ⟨rfl, hb1⟩
  have hA1 := (StAt.new w s n).below hb1
  have hx1 : Below w.heap.size w w1 := ((Below.refl _ _).alloc (Nat.le_refl _) _).trans (hb1.mono (by simp))
  have hz1 := hA1.lt
  have HX1 := Lib.hid hx1
  have d0 := hA1.c0
  have d1 := hA1.c1
  clear hb1 hx1
  unfold StV Stp
  go_wp2_with fail
  refine (rRight_any s n _).mono ?_
  rintro e w2 ⟨rfl, hw2⟩
  subst hw2
  rw [H.out]
  go_wp2_with fail
  have t1 := T1.out
  have hw := HW.out
  go_quiet (fail)
  clear t1 hw
  go_wp2_with fail
  refine (rRight_any _ _ _).mono ?_
  rintro e w3 ⟨rfl, hw3⟩
  subst hw3
  rw [HR.out]
  go_wp2_with fail
  refine (HB.out _).mono ?_
  rintro e w4 ⟨rfl, hb4⟩
  have hU4 := (StAt.new w1 (s + q) (n + r)).below (w' := (w1.alloc (.cells #[.int .i64 (s + q), .int .i64 (n + r)] 67)).drewN nq) (belowDrewN (Below.refl _ _)) |>.below hb4
  have hA4 := (hA1.below ((Below.refl _ _).alloc (Nat.le_refl _) (.cells #[.int .i64 (s + q), .int .i64 (n + r)] 67))).below (w' := (w1.alloc (.cells #[.int .i64 (s + q), .int .i64 (n + r)] 67)).drewN nq) (belowDrewN (Below.refl _ _)) |>.below hb4
  have hx4 : Below w.heap.size w w4 := chainB0 (belowDrewN (HX1.out.alloc HX1.out.size _)) hb4
  have HX4 := Lib.hid hx4
  have hz4 := hU4.lt
  have hz5 := hA4.lt
  have b0 := hU4.c0
  have b1 := hU4.c1
  have b2 := hA4.c0
  have b3 := hA4.c1
  clear hx4 hb4 d0 d1
  unfold StV Stp
  go_wp2_with fail
  refine (HC.out _).mono ?_
  rintro e w5 ⟨rfl, hb5⟩
  have hx5 := chainB0 (HX4.out.alloc HX4.out.size _) hb5
  rcases hc with ⟨c1, c2⟩ | ⟨c1, c2⟩
  all_goals
    go_wp2_with fail
    refine (awake_any04 _ (tbOn hT hx5)).mono ?_
    rintro e w6 ⟨rfl, hb6⟩
    have hx6 := chainB0 hx5 hb6
    go_wp2_with fail
    go_ret
    exact ⟨rfl, hx6⟩

set_option maxRecDepth 100000 in
set_option maxHeartbeats 8000000 in
theorem adds_m2n (s n k q r : Int) (w : World) (hT : TB w.heap.size w) (hk1 : -1152921504606846976 ≤ k) (hk2 : k ≤ 1152921504606846976) (g1 : -9007199254740991 ≤ s) (g2 : s ≤ 9007199254740991) (H : Hid (rightB s n = true)) (hq1 : -1152921505 ≤ q) (hq2 : q ≤ 1152921505) (T1 : Hid (k.tmod 1000000000 = r)) (HW : Hid (IntKind.i64.wrap (n + r) = n + r)) (k0 : k < 0) (e1 : k.tdiv 1000000000 = q) (j1 : 0 ≤ n + r) (j2 : n + r < 1000000000) (HA : Hid (∀ w : World, Calls Tryd.prog 55 #[.agg #[.int .i64 s, .int .i64 n], .int .i64 k] w fun e w' => e = .returned (StV 0 0 6) ∧ Below w.heap.size w w')) (HR : Hid (rightB (s + q) (n + r) = false)) :
    Calls Tryd.prog 13 #[.agg #[.int .i64 s, .int .i64 n], .int .i64 k] w fun e w' => e = .returned (.bool true) ∧ Below w.heap.size w w' := by
  go_enter Tryd.func13, Tryd.ntmps13
  go_wp2_with fail
  refine (HA.out _).mono ?_
  rintro e w1 ⟨rfl, hb1⟩
  have hA1 := (StAt.new w s n).below hb1
  have hx1 : Below w.heap.size w w1 := ((Below.refl _ _).alloc (Nat.le_refl _) _).trans (hb1.mono (by simp))
  have hz1 := hA1.lt
  have HX1 := Lib.hid hx1
  have d0 := hA1.c0
  have d1 := hA1.c1
  clear hb1 hx1
  unfold StV Stp
  go_wp2_with fail
  refine (rRight_any s n _).mono ?_
  rintro e w2 ⟨rfl, hw2⟩
  subst hw2
  rw [H.out]
  go_wp2_with fail
  have t1 := T1.out
  have hw := HW.out
  go_quiet (fail)
  clear t1 hw
  go_wp2_with fail
  refine (rRight_any _ _ _).mono ?_
  rintro e w3 ⟨rfl, hw3⟩
  subst hw3
  rw [HR.out]
  go_wp2_with fail
  refine (awake_any04 _ (tbOn hT (belowDrewN (HX1.out.alloc HX1.out.size _)))).mono ?_
  rintro e w4 ⟨rfl, hb4⟩
  have hx4 := chainB0 (belowDrewN (HX1.out.alloc HX1.out.size _)) hb4
  go_wp2_with fail
  go_ret
  exact ⟨rfl, hx4⟩

set_option maxRecDepth 100000 in
set_option maxHeartbeats 8000000 in
theorem adds_m3y (s n k q r : Int) (w : World) (hT : TB w.heap.size w) (hk1 : -1152921504606846976 ≤ k) (hk2 : k ≤ 1152921504606846976) (g1 : -9007199254740991 ≤ s) (g2 : s ≤ 9007199254740991) (g3 : 0 ≤ n) (g4 : n < 1000000000) (H : Hid (rightB s n = true)) (hr1 : -1000000000 < r) (hr2 : r < 1000000000) (hq1 : -1152921505 ≤ q) (hq2 : q ≤ 1152921505) (T1 : Hid (k.tmod 1000000000 = r)) (HW : Hid (IntKind.i64.wrap (n + r) = n + r)) (k0 : k < 0) (e1 : k.tdiv 1000000000 = q) (j1 : 1000000000 ≤ n + r) (HA : Hid (∀ w : World, Calls Tryd.prog 55 #[.agg #[.int .i64 s, .int .i64 n], .int .i64 k] w fun e w' => e = .returned (StV (s + q + 1) (n + r - 1000000000) 0) ∧ Below w.heap.size w w')) (HR : Hid (rightB (s + q + 1) (n + r - 1000000000) = true)) (HB : Hid (∀ w : World, Calls Tryd.prog 55 #[.agg #[.int .i64 (s + q + 1), .int .i64 (n + r - 1000000000)], .int .i64 (-k)] w fun e w' => e = .returned (StV s n 0) ∧ Below w.heap.size w w')) (c : Int) (HC : Hid (∀ w : World, Calls Tryd.prog 53 #[.agg #[.int .i64 (s + q + 1), .int .i64 (n + r - 1000000000)], .agg #[.int .i64 s, .int .i64 n]] w fun e w' => e = .returned (.int .i64 c) ∧ Below w.heap.size w w')) (hc : (0 < k ∧ 0 < c) ∨ (¬ 0 < k ∧ ¬ 0 < c)) :
    Calls Tryd.prog 13 #[.agg #[.int .i64 s, .int .i64 n], .int .i64 k] w fun e w' => e = .returned (.bool true) ∧ Below w.heap.size w w' := by
  go_enter Tryd.func13, Tryd.ntmps13
  go_wp2_with fail
  refine (HA.out _).mono ?_
  rintro e w1 ⟨rfl, hb1⟩
  have hA1 := (StAt.new w s n).below hb1
  have hx1 : Below w.heap.size w w1 := ((Below.refl _ _).alloc (Nat.le_refl _) _).trans (hb1.mono (by simp))
  have hz1 := hA1.lt
  have HX1 := Lib.hid hx1
  have d0 := hA1.c0
  have d1 := hA1.c1
  clear hb1 hx1
  unfold StV Stp
  go_wp2_with fail
  refine (rRight_any s n _).mono ?_
  rintro e w2 ⟨rfl, hw2⟩
  subst hw2
  rw [H.out]
  go_wp2_with fail
  have t1 := T1.out
  have hw := HW.out
  go_quiet (fail)
  clear t1 hw
  go_wp2_with fail
  refine (rRight_any _ _ _).mono ?_
  rintro e w3 ⟨rfl, hw3⟩
  subst hw3
  rw [HR.out]
  go_wp2_with fail
  refine (HB.out _).mono ?_
  rintro e w4 ⟨rfl, hb4⟩
  have hU4 := (StAt.new w1 (s + q + 1) (n + r - 1000000000)).below (w' := (w1.alloc (.cells #[.int .i64 (s + q + 1), .int .i64 (n + r - 1000000000)] 67)).drewN nq) (belowDrewN (Below.refl _ _)) |>.below hb4
  have hA4 := (hA1.below ((Below.refl _ _).alloc (Nat.le_refl _) (.cells #[.int .i64 (s + q + 1), .int .i64 (n + r - 1000000000)] 67))).below (w' := (w1.alloc (.cells #[.int .i64 (s + q + 1), .int .i64 (n + r - 1000000000)] 67)).drewN nq) (belowDrewN (Below.refl _ _)) |>.below hb4
  have hx4 : Below w.heap.size w w4 := chainB0 (belowDrewN (HX1.out.alloc HX1.out.size _)) hb4
  have HX4 := Lib.hid hx4
  have hz4 := hU4.lt
  have hz5 := hA4.lt
  have b0 := hU4.c0
  have b1 := hU4.c1
  have b2 := hA4.c0
  have b3 := hA4.c1
  clear hx4 hb4 d0 d1
  unfold StV Stp
  go_wp2_with fail
  refine (HC.out _).mono ?_
  rintro e w5 ⟨rfl, hb5⟩
  have hx5 := chainB0 (HX4.out.alloc HX4.out.size _) hb5
  rcases hc with ⟨c1, c2⟩ | ⟨c1, c2⟩
  all_goals
    go_wp2_with fail
    refine (awake_any04 _ (tbOn hT hx5)).mono ?_
    rintro e w6 ⟨rfl, hb6⟩
    have hx6 := chainB0 hx5 hb6
    go_wp2_with fail
    go_ret
    exact ⟨rfl, hx6⟩

set_option maxRecDepth 100000 in
set_option maxHeartbeats 8000000 in
theorem adds_m3n (s n k q r : Int) (w : World) (hT : TB w.heap.size w) (hk1 : -1152921504606846976 ≤ k) (hk2 : k ≤ 1152921504606846976) (g1 : -9007199254740991 ≤ s) (g2 : s ≤ 9007199254740991) (g3 : 0 ≤ n) (g4 : n < 1000000000) (H : Hid (rightB s n = true)) (hr1 : -1000000000 < r) (hr2 : r < 1000000000) (hq1 : -1152921505 ≤ q) (hq2 : q ≤ 1152921505) (T1 : Hid (k.tmod 1000000000 = r)) (HW : Hid (IntKind.i64.wrap (n + r) = n + r)) (k0 : k < 0) (e1 : k.tdiv 1000000000 = q) (j1 : 1000000000 ≤ n + r) (HA : Hid (∀ w : World, Calls Tryd.prog 55 #[.agg #[.int .i64 s, .int .i64 n], .int .i64 k] w fun e w' => e = .returned (StV 0 0 6) ∧ Below w.heap.size w w')) (HR : Hid (rightB (s + q + 1) (n + r - 1000000000) = false)) :
    Calls Tryd.prog 13 #[.agg #[.int .i64 s, .int .i64 n], .int .i64 k] w fun e w' => e = .returned (.bool true) ∧ Below w.heap.size w w' := by
  go_enter Tryd.func13, Tryd.ntmps13
  go_wp2_with fail
  refine (HA.out _).mono ?_
  rintro e w1 ⟨rfl, hb1⟩
  have hA1 := (StAt.new w s n).below hb1
  have hx1 : Below w.heap.size w w1 := ((Below.refl _ _).alloc (Nat.le_refl _) _).trans (hb1.mono (by simp))
  have hz1 := hA1.lt
  have HX1 := Lib.hid hx1
  have d0 := hA1.c0
  have d1 := hA1.c1
  clear hb1 hx1
  unfold StV Stp
  go_wp2_with fail
  refine (rRight_any s n _).mono ?_
  rintro e w2 ⟨rfl, hw2⟩
  subst hw2
  rw [H.out]
  go_wp2_with fail
  have t1 := T1.out
  have hw := HW.out
  go_quiet (fail)
  clear t1 hw
  go_wp2_with fail
  refine (rRight_any _ _ _).mono ?_
  rintro e w3 ⟨rfl, hw3⟩
  subst hw3
  rw [HR.out]
  go_wp2_with fail
  refine (awake_any04 _ (tbOn hT (belowDrewN (HX1.out.alloc HX1.out.size _)))).mono ?_
  rintro e w4 ⟨rfl, hb4⟩
  have hx4 := chainB0 (belowDrewN (HX1.out.alloc HX1.out.size _)) hb4
  go_wp2_with fail
  go_ret
  exact ⟨rfl, hx4⟩

set_option maxHeartbeats 4000000 in
theorem lawAdds (s n k : Int) (w : World) (_ : -9223372036854775808 ≤ k) (_ : k ≤ 9223372036854775807) (hT : TB w.heap.size w) :
    Calls Tryd.prog 13 #[.agg #[.int .i64 s, .int .i64 n], .int .i64 k] w fun e w' => e = .returned (.bool true) ∧ Below w.heap.size w w' := by
  cases h : goodB s n k with
  | false => exact adds_no s n k h w hT
  | true =>
    have HA := Lib.hid (fun w => add_yes s n k h w)
    have HBk := Lib.hid (fun hr => good_back s n k h hr)
    have hg := h
    unfold goodB at h
    rw [Bool.and_eq_true, decide_eq_true_iff] at h
    obtain ⟨hr, hk1, hk2⟩ := h
    obtain ⟨g1, g2, g3, g4⟩ := (right_iff s n).1 hr
    have H := Lib.hid hr
    obtain ⟨q, r, hkk, hr1, hr2, hq1, hq2, t1, t2, t3⟩ := quo_parts k ⟨hk1, hk2⟩
    have hcm := add_cmp s n k g3 g4
    have HCM := Lib.hid (fun w => Cmp_any (addS s n k) (addN n k) s n w)
    have hcc : (0 < k ∧ 0 < cmpI (addS s n k) (addN n k) s n) ∨ (¬ 0 < k ∧ ¬ 0 < cmpI (addS s n k) (addN n k) s n) := by
      by_cases h0 : 0 < k
      · exact .inl ⟨h0, by rw [hcm.1 h0]; decide⟩
      · exact .inr ⟨h0, by have := hcm.2 (by omega); omega⟩
    have HW : Hid (IntKind.i64.wrap (n + r) = n + r) := Lib.hid (IntWalk.i64_in _ (by omega))
    have T1 := Lib.hid t1
    have hB : ∀ W : World, rightB (addS s n k) (addN n k) = true → Calls Tryd.prog 55 #[.agg #[.int .i64 (addS s n k), .int .i64 (addN n k)], .int .i64 (-k)] W fun e w' => e = .returned (StV s n 0) ∧ Below W.heap.size W w' := fun W hR => by
      obtain ⟨b1, b2⟩ := good_back s n k hg hR
      have := add_yes _ _ _ b1 W
      rw [b2] at this
      exact this
    have hAy : rightB (addS s n k) (addN n k) = true → AdV (addS s n k) (addN n k) = StV (addS s n k) (addN n k) 0 := fun e => by unfold AdV; rw [if_pos e]
    have hAn : rightB (addS s n k) (addN n k) = false → AdV (addS s n k) (addN n k) = StV 0 0 6 := fun e => by unfold AdV; rw [e, if_neg (by decide)]
    have HA2 := HA.out
    have HC2 := HCM.out
    clear hcm HBk HA HCM
    by_cases hk : 0 ≤ k
    · obtain ⟨e1, e2⟩ := t3 hk
      rcases add_parts s n k q r hkk hr1 hr2 g3 g4 with ⟨j1, a1, a2⟩ | ⟨j1, j2, a1, a2⟩ | ⟨j1, a1, a2⟩
      · exfalso
        omega
      · rw [a1, a2] at HA2 HC2 hcc hB hAy hAn
        cases hR : rightB (s + q) (n + r) with
        | true =>
          rw [hAy hR] at HA2
          exact adds_p2y s n k q r w hT hk1 hk2 g1 g2 H hq1 hq2 T1 HW hk e1 e2 j1 j2 (Lib.hid HA2) (Lib.hid hR) (Lib.hid fun W => hB W hR) _ (Lib.hid HC2) hcc
        | false =>
          rw [hAn hR] at HA2
          exact adds_p2n s n k q r w hT hk1 hk2 g1 g2 H hq1 hq2 T1 HW hk e1 e2 j1 j2 (Lib.hid HA2) (Lib.hid hR)
      · rw [a1, a2] at HA2 HC2 hcc hB hAy hAn
        cases hR : rightB (s + q + 1) (n + r - 1000000000) with
        | true =>
          rw [hAy hR] at HA2
          exact adds_p3y s n k q r w hT hk1 hk2 g1 g2 g3 g4 H hr1 hr2 hq1 hq2 T1 HW hk e1 e2 j1 (Lib.hid HA2) (Lib.hid hR) (Lib.hid fun W => hB W hR) _ (Lib.hid HC2) (hcc.resolve_right fun x => by omega)
        | false =>
          rw [hAn hR] at HA2
          exact adds_p3n s n k q r w hT hk1 hk2 g1 g2 g3 g4 H hr1 hr2 hq1 hq2 T1 HW hk e1 e2 j1 (Lib.hid HA2) (Lib.hid hR)
    · have hk' : k < 0 := by omega
      rcases add_parts s n k q r hkk hr1 hr2 g3 g4 with ⟨j1, a1, a2⟩ | ⟨j1, j2, a1, a2⟩ | ⟨j1, a1, a2⟩
      · rw [a1, a2] at HA2 HC2 hcc hB hAy hAn
        cases hR : rightB (s + q - 1) (n + r + 1000000000) with
        | true =>
          rw [hAy hR] at HA2
          exact adds_m1y s n k q r w hT hk1 hk2 g1 g2 g3 g4 H hr1 hr2 hq1 hq2 T1 HW hk' t2 j1 (Lib.hid HA2) (Lib.hid hR) (Lib.hid fun W => hB W hR) _ (Lib.hid HC2) hcc
        | false =>
          rw [hAn hR] at HA2
          exact adds_m1n s n k q r w hT hk1 hk2 g1 g2 g3 g4 H hr1 hr2 hq1 hq2 T1 HW hk' t2 j1 (Lib.hid HA2) (Lib.hid hR)
      · rw [a1, a2] at HA2 HC2 hcc hB hAy hAn
        cases hR : rightB (s + q) (n + r) with
        | true =>
          rw [hAy hR] at HA2
          exact adds_m2y s n k q r w hT hk1 hk2 g1 g2 H hq1 hq2 T1 HW hk' t2 j1 j2 (Lib.hid HA2) (Lib.hid hR) (Lib.hid fun W => hB W hR) _ (Lib.hid HC2) hcc
        | false =>
          rw [hAn hR] at HA2
          exact adds_m2n s n k q r w hT hk1 hk2 g1 g2 H hq1 hq2 T1 HW hk' t2 j1 j2 (Lib.hid HA2) (Lib.hid hR)
      · rw [a1, a2] at HA2 HC2 hcc hB hAy hAn
        cases hR : rightB (s + q + 1) (n + r - 1000000000) with
        | true =>
          rw [hAy hR] at HA2
          exact adds_m3y s n k q r w hT hk1 hk2 g1 g2 g3 g4 H hr1 hr2 hq1 hq2 T1 HW hk' t2 j1 (Lib.hid HA2) (Lib.hid hR) (Lib.hid fun W => hB W hR) _ (Lib.hid HC2) hcc
        | false =>
          rw [hAn hR] at HA2
          exact adds_m3n s n k q r w hT hk1 hk2 g1 g2 g3 g4 H hr1 hr2 hq1 hq2 T1 HW hk' t2 j1 (Lib.hid HA2) (Lib.hid hR)

end Go.Proofs.YtpdknjpicaokkaaDoor
