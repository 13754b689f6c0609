/- The law SparseShrinks, walked. -/
import Derived.Test.YtnemjfojlgjkfaaDoorShrP2
import Derived.Test.YtnemjfojlgjkfaaDoorShrF
namespace Go.Proofs.YtnemjfojlgjkfaaDoor
open Go.RowKit
attribute [local go_sem ↓] Go.wp_at_zero Go.wp_at_succ

theorem shr_right (s : List UInt8) (hs : s.length ≤ 6000) : mapB s.length (shrS s (nB s)).1 = true ∧ pieLen (shrS s (nB s)).1 = (shrS s (nB s)).2.length ∧ expL s.length (shrS s (nB s)).1 (shrS s (nB s)).2 = s ∧ (shrS s (nB s)).1.length ≤ 20 := by
  have hn : 512 * nB s < s.length + 512 ∧ s.length ≤ 512 * nB s := by unfold nB; omega
  have hI := shrI s (nB s) hn.1
  have hc := hI.cnt
  have hr := hI.right
  refine ⟨?_, hI.len, shr_exp s (nB s) hn.2 hn.1, by omega⟩
  unfold mapB
  rw [if_neg (by omega)]
  exact hr
set_option maxRecDepth 100000 in
set_option maxHeartbeats 4000000 in
theorem shrinks_main (s : List UInt8) (w : World) (hs : s.length ≤ 6000) (hT : TB w.heap.size w) :
    Calls Tryd.prog 3 #[.string (S s)] w fun e w' => e = .returned (.bool true) ∧ Below w.heap.size w w' := by
  obtain ⟨R1, R2, R3, R4⟩ := shr_right s hs
  have hI : ¬ (6000 : Int) < (s.length : Int) := by omega
  have hsl := shrS_len s (nB s)
  have hnb : nB s ≤ 13 := by unfold nB; omega
  have hS1 := Shrink_any s hs
  have hS2 := rShrink_any s hs
  unfold ShrPost at hS1
  unfold RShrPost at hS2
  have HE : Hid (∀ v W, PieV W v (shrS s (nB s)).1 → Calls Tryd.prog 10 #[.agg #[.int .i64 s.length, v], .string (S (shrS s (nB s)).2)] W fun e w' => e = .returned (.tuple #[.string (S s), .int .i64 0]) ∧ Below W.heap.size W w') := Lib.hid (fun v W hv => by
    have := sExpand_yes s.length _ v (shrS s (nB s)).2 (by omega) hs W hv R1 R2.symm
    rw [R3] at this
    exact this)
  have HP : Hid (∀ v W, PieV W v (shrS s (nB s)).1 → Calls Tryd.prog 12 #[.agg #[.int .i64 s.length, v]] W fun e w' => ∃ u, e = .returned (.agg #[.int .i64 s.length, u]) ∧ PieV w' u (shrS s (nB s)).1 ∧ Below W.heap.size W w') := Lib.hid (fun v W hv => plain_any40 _ _ v W hv (by omega))
  have HSa : Hid (∀ v u W, PieV W v (shrS s (nB s)).1 → PieV W u (shrS s (nB s)).1 → Calls Tryd.prog 11 #[.agg #[.int .i64 s.length, v], .agg #[.int .i64 s.length, u]] W fun e w' => e = .returned (.bool true) ∧ Below W.heap.size W w') := Lib.hid (fun v u W hv hu => same_yes _ _ v u W hv hu (by omega))
  have HR : Hid (∀ v W, PieV W v (shrS s (nB s)).1 → Calls Tryd.prog 13 #[.agg #[.int .i64 s.length, v]] W fun e w' => e = .returned (.bool true) ∧ Below W.heap.size W w') := Lib.hid (fun v W hv => by
    have := Right_any s.length _ v W hv
    rw [R1] at this
    exact this)
  have HL : Hid (∀ v W, PieV W v (shrS s (nB s)).1 → Calls Tryd.prog 14 #[.agg #[.int .i64 s.length, v]] W fun e w' => e = .returned (.int .i64 (shrS s (nB s)).2.length) ∧ Below W.heap.size W w') := Lib.hid (fun v W hv => by
    have := Len_any s.length _ v W hv
    unfold sLen at this
    rw [if_pos R1, R2] at this
    exact this)
  have hbl : (shrS s (nB s)).2.length ≤ 7000 := by omega
  have HA : Hid (∀ W, Below w.heap.size w W → Calls Tryd.prog 7 #[] W fun e w' => e = .returned (.bool true) ∧ Below W.heap.size W w') := Lib.hid (fun W h => awake40 W (hT.at h h.size))
  have HS1 := Lib.hid hS1
  have HS2 := Lib.hid hS2
  clear R1 R2 R3 R4 hsl hnb hS1 hS2
  generalize (shrS s (nB s)).1 = l at *
  generalize (shrS s (nB s)).2 = b at *
  have hT0 := Lib.hid hT
  clear hT
  go_enter Tryd.func3, Tryd.ntmps3
  go_wp2_with fail
  refine (HS1.out w).mono ?_
  rintro e w1 ⟨v, rfl, hv, hb1⟩
  obtain ⟨va, vc, rfl⟩ := hv.shape
  have hD := (Below.refl w1.heap.size w1).alloc (Nat.le_refl _) (.cells #[.int .i64 s.length, .slice va l.length vc] 25)
  have hM2 := MapAt.new w1 s.length (.slice va l.length vc)
  have hv2 := hv.below hD (Nat.le_refl _)
  have hB2 : Below w.heap.size w (w1.alloc (.cells #[.int .i64 s.length, .slice va l.length vc] 25)) := hb1.alloc hb1.size _
  clear hv hD
  go_upto_region 4 with fail
  generalize w1.alloc (.cells #[.int .i64 s.length, .slice va l.length vc] 25) = w2 at *
  generalize w1.heap.size = g3 at *
  go_wp2_with fail
  refine (HS2.out w2).mono ?_
  rintro e w3 ⟨u, rfl, hu, hb3⟩
  obtain ⟨ua, uc, rfl⟩ := hu.shape
  have hM3 := hM2.below hb3
  have hv3 := hv2.below hb3 (Nat.le_refl _)
  have hB3 := hB2.trans (hb3.mono hB2.size)
  have hD := (Below.refl w3.heap.size w3).alloc (Nat.le_refl _) (.cells #[.int .i64 s.length, .slice ua l.length uc] 31)
  have hR4 := RMapAt.new w3 s.length (.slice ua l.length uc)
  have hM4 := hM3.below hD
  have hv4 := hv3.below hD (Nat.le_refl _)
  have hu4 := hu.below hD (Nat.le_refl _)
  have hB4 : Below w.heap.size w (w3.alloc (.cells #[.int .i64 s.length, .slice ua l.length uc] 31)) := hB3.alloc hB3.size _
  have m0 := hM4.c0
  have m1 := hM4.c1
  clear hM2 hv2 hB2 hM3 hv3 hB3 hu hD hb1 hb3 HS1 HS2
  go_upto_region 5 with fail
  generalize w3.alloc (.cells #[.int .i64 s.length, .slice ua l.length uc] 31) = w4 at *
  generalize w3.heap.size = g6 at *
  go_wp2_with fail
  refine (HE.out _ _ hv4).mono ?_
  rintro e w5 ⟨rfl, hb5⟩
  have hM5 := hM4.below hb5
  have hR5 := hR4.below hb5
  have hv5 := hv4.below hb5 (Nat.le_refl _)
  have hu5 := hu4.below hb5 (Nat.le_refl _)
  have hB5 := hB4.trans (hb5.mono hB4.size)
  clear hM4 hR4 hv4 hu4 hB4 m0 m1 hb5 HE
  have HK : Hid (∀ W, Below w5.heap.size w5 W → W.cell? ⟨g3, 0, none⟩ = some (.int .i64 s.length) ∧ W.cell? ⟨g3, 1, none⟩ = some (.slice va l.length vc) ∧ W.cell? ⟨g6, 0, none⟩ = some (.int .i64 s.length) ∧ W.cell? ⟨g6, 1, none⟩ = some (.slice ua l.length uc) ∧ Below w5.heap.size w5 W) := Lib.hid (fun W h => ⟨(hM5.under h hM5.lt).c0, (hM5.under h hM5.lt).c1, (hR5.under h hR5.lt).c0, (hR5.under h hR5.lt).c1, h⟩)
  have HP5 : Hid (∀ W, Below w5.heap.size w5 W → Calls Tryd.prog 12 #[.agg #[.int .i64 s.length, .slice va l.length vc]] W fun e w' => ∃ u, e = .returned (.agg #[.int .i64 s.length, u]) ∧ PieV w' u l ∧ Below W.heap.size W w') := Lib.hid (fun W h => HP.out _ W (hv5.below h (Nat.le_refl _)))
  have HR5 : Hid (∀ W, Below w5.heap.size w5 W → Calls Tryd.prog 13 #[.agg #[.int .i64 s.length, .slice va l.length vc]] W fun e w' => e = .returned (.bool true) ∧ Below W.heap.size W w') := Lib.hid (fun W h => HR.out _ W (hv5.below h (Nat.le_refl _)))
  have HL5 : Hid (∀ W, Below w5.heap.size w5 W → Calls Tryd.prog 14 #[.agg #[.int .i64 s.length, .slice va l.length vc]] W fun e w' => e = .returned (.int .i64 b.length) ∧ Below W.heap.size W w') := Lib.hid (fun W h => HL.out _ W (hv5.below h (Nat.le_refl _)))
  have HS5 : Hid (∀ x W, PieV W x l → Below w5.heap.size w5 W → Calls Tryd.prog 11 #[.agg #[.int .i64 s.length, x], .agg #[.int .i64 s.length, .slice ua l.length uc]] W fun e w' => e = .returned (.bool true) ∧ Below W.heap.size W w') := Lib.hid (fun x W hx h => HSa.out x _ W hx (hu5.below h (Nat.le_refl _)))
  have HA5 : Hid (∀ W, Below w5.heap.size w5 W → Calls Tryd.prog 7 #[] W fun e w' => e = .returned (.bool true) ∧ Below W.heap.size W w') := Lib.hid (fun W h => HA.out W (hB5.trans (h.mono hB5.size)))
  have hq0 : Below w5.heap.size w5 w5.drew := (Below.refl _ _).drew
  obtain ⟨x0, x1, x2, x3, x4⟩ := HK.out _ hq0
  clear HP HR HL HSa HA hM5 hR5 hv5 hu5 x4
  go_upto_region 6 with fail
  go_region_held3 (fun W => W.cell? ⟨g3, 0, none⟩ = some (.int .i64 s.length) ∧ W.cell? ⟨g3, 1, none⟩ = some (.slice va l.length vc) ∧ W.cell? ⟨g6, 0, none⟩ = some (.int .i64 s.length) ∧ W.cell? ⟨g6, 1, none⟩ = some (.slice ua l.length uc) ∧ Below w5.heap.size w5 W) (first | exact HK.out _ hqe | exact HK.out _ hqd | exact HK.out _ hqc | exact HK.out _ hqb | exact HK.out _ hqa | exact HK.out _ hq0) (first
    | (go_at_call 12; refine (HP5.out _ hq0).mono ?_; rintro e w6 ⟨pu, rfl, hpu, hb6⟩; have hqa : Below w5.heap.size w5 w6 := hq0.trans (hb6.mono hq0.size))
    | (go_at_call 11; refine (HS5.out _ _ hpu hqa).mono ?_; rintro e w7 ⟨rfl, hb7⟩; have hqb : Below w5.heap.size w5 w7 := hqa.trans (hb7.mono hqa.size))
    | (go_at_call 13; refine (HR5.out _ hqb).mono ?_; rintro e w8 ⟨rfl, hb8⟩; have hqc : Below w5.heap.size w5 w8 := hqb.trans (hb8.mono hqb.size))
    | (go_at_call 14; refine (HL5.out _ hqc).mono ?_; rintro e w9 ⟨rfl, hb9⟩; have hqd : Below w5.heap.size w5 w9 := hqc.trans (hb9.mono hqc.size))
    | (go_at_call 7; refine (HA5.out _ hqd).mono ?_; rintro e w10 ⟨rfl, hb10⟩; have hqe : Below w5.heap.size w5 w10 := hqd.trans (hb10.mono hqd.size)))
  all_goals
    go_wp2_with fail
    go_ret
    exact ⟨rfl, hB5.trans (hqe.mono hB5.size)⟩
theorem lawShrinks (s : ByteArray) (w : World) (hs : s.size ≤ maxLen) (hT : TB w.heap.size w) :
    Calls Tryd.prog 3 #[.string s] w fun e w' => e = .returned (.bool true) ∧ Below w.heap.size w w' := by
  unfold maxLen at hs
  by_cases h : 6000 < s.size
  · have hI : (6000 : Int) < (s.size : Int) := by omega
    have HA := Lib.hid (awake40 w hT)
    clear hT
    go_enter Tryd.func3, Tryd.ntmps3
    go_wp2_with fail
    refine HA.out.mono ?_
    rintro e w1 ⟨rfl, hb1⟩
    go_wp2_with fail
    go_ret
    exact ⟨rfl, hb1⟩
  · exact shrinks_main s.data.toList w (by rw [size_len]; omega) hT
end Go.Proofs.YtnemjfojlgjkfaaDoor
