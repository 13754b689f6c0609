/- The law SparseCuts, walked. -/
import Derived.Test.YtnemjfojlgjkfaaDoorShrD
import Derived.Test.YtnemjfojlgjkfaaDoorShrI
import Derived.Test.YtnemjfojlgjkfaaDoorShrL
import Derived.Test.YtnemjfojlgjkfaaDoorSparseG
import Derived.Deep.RegionHeld3
import Derived.Deep.DrawnRows
namespace Go.Proofs.YtnemjfojlgjkfaaDoor
open Go.RowKit
attribute [local go_sem ↓] Go.wp_at_zero Go.wp_at_succ

theorem cut_mapB {size f t : Int} {l : Pcs} (h : mapB size l = true) (h0 : 0 ≤ f) (h1 : f ≤ t) (h2 : t ≤ size) : mapB (t - f) (cutL f t l) = true := by
  obtain ⟨g1, g2, g3⟩ := mapB_size h
  have hl := cutL_len f t l
  unfold mapB at h ⊢
  rw [if_neg (by omega)] at h ⊢
  exact cutL_right size f t l 0 h 0 (by omega)
theorem PieV.shape {w : World} {v : Value} {l : Pcs} (h : PieV w v l) : ∃ a c, v = .slice a l.length c := by
  obtain ⟨a, c, rfl, _⟩ := h
  exact ⟨a, c, rfl⟩
set_option maxRecDepth 100000 in
set_option maxHeartbeats 4000000 in
theorem lawCuts (size : Int) (l : Pcs) (v : Value) (f t x : Int) (w : World) (hv : PieV w v l) (hf0 : -9223372036854775808 ≤ f) (hf1 : f ≤ 9223372036854775807) (ht0 : -9223372036854775808 ≤ t) (ht1 : t ≤ 9223372036854775807) (hx0 : -9223372036854775808 ≤ x) (hx1 : x ≤ 9223372036854775807) (hT : TB w.heap.size w) :
    Calls Tryd.prog 4 #[.agg #[.int .i64 size, v], .int .i64 f, .int .i64 t, .int .i64 x] w fun e w' => e = .returned (.bool true) ∧ Below w.heap.size w w' := by
  have hM0 := MapAt.new w size v
  have hb0 := (Below.refl w.heap.size w).alloc (Nat.le_refl _) (.cells #[.int .i64 size, v] 25)
  have hv0 := hv.below hb0 (Nat.le_refl _)
  have HA : Hid (∀ W, Below w.heap.size w W → Calls Tryd.prog 7 #[] W fun e w' => e = .returned (.bool true) ∧ Below W.heap.size W w') := Lib.hid (fun W h => awake40 W (hT.at h h.size))
  have m0 := hM0.c0
  have m1 := hM0.c1
  obtain ⟨a, c, rfl⟩ := hv.shape
  by_cases hbig : 20 < l.length
  · have hI : (20 : Int) < (l.length : Int) := by omega
    go_enter Tryd.func4, Tryd.ntmps4
    go_upto_region 1 with fail
    generalize w.alloc (.cells #[.int .i64 size, .slice a l.length c] 25) = W at *
    go_wp2_with fail
    refine (HA.out _ hb0).mono ?_
    rintro e w1 ⟨rfl, hb1⟩
    go_wp2_with fail
    go_ret
    exact ⟨rfl, hb0.trans (hb1.mono hb0.size)⟩
  · have hI : ¬ (20 : Int) < (l.length : Int) := by omega
    have hP := Lib.hid (plain_any40 size l _ _ hv0 (by omega))
    go_enter Tryd.func4, Tryd.ntmps4
    go_upto_region 1 with fail
    generalize w.alloc (.cells #[.int .i64 size, .slice a l.length c] 25) = W at *
    go_wp2_with fail
    refine hP.out.mono ?_
    rintro e w1 ⟨u, rfl, hu, hb1⟩
    have hM1 := hM0.below hb1
    have hv1 := hv0.below hb1 (Nat.le_refl _)
    have hB1 := hb0.trans (hb1.mono hb0.size)
    obtain ⟨ua, uc, rfl⟩ := hu.shape
    clear hP hM0 hv0 m0 m1 hb1
    have hD := (Below.refl w1.heap.size w1).alloc (Nat.le_refl _) (.cells #[.int .i64 size, .slice ua l.length uc] 31)
    have hM2 := hM1.below hD
    have hR2 := RMapAt.new w1 size (.slice ua l.length uc)
    have hv2 := hv1.below hD (Nat.le_refl _)
    have hu2 := hu.below hD (Nat.le_refl _)
    have hB2 : Below w.heap.size w (w1.alloc (.cells #[.int .i64 size, .slice ua l.length uc] 31)) := hB1.alloc hB1.size _
    have m0 := hM2.c0
    have m1 := hM2.c1
    have hC := Lib.hid (mCut_any size l _ f t _ hv2 hf0 hf1 ht0 ht1)
    clear hM1 hv1 hu hD hB1
    go_upto_region 4 with fail
    generalize w1.alloc (.cells #[.int .i64 size, .slice ua l.length uc] 31) = w2 at *
    generalize w1.heap.size = gr at *
    go_wp2_with fail
    refine hC.out.mono ?_
    rintro e w3 ⟨z, vq, q, er, rfl, hq, hb3, hE⟩
    have hM3 := hM2.below hb3
    have hR3 := hR2.below hb3
    have hv3 := hv2.below hb3 (Nat.le_refl _)
    have hu3 := hu2.below hb3 (Nat.le_refl _)
    have hB3 := hB2.trans (hb3.mono hB2.size)
    obtain ⟨qa, qc, rfl⟩ := hq.shape
    have HE := Lib.hid hE
    clear hC hM2 hR2 hv2 hu2 m0 m1 hb3 hB2 hE
    have hD := (Below.refl w3.heap.size w3).alloc (Nat.le_refl _) (.cells #[.int .i64 z, .slice qa q.length qc] 25)
    have hM4 := hM3.below hD
    have hR4 := hR3.below hD
    have hQ4 := MapAt.new w3 z (.slice qa q.length qc)
    have hv4 := hv3.below hD (Nat.le_refl _)
    have hu4 := hu3.below hD (Nat.le_refl _)
    have hq4 := hq.below hD (Nat.le_refl _)
    have hB4 : Below w.heap.size w (w3.alloc (.cells #[.int .i64 z, .slice qa q.length qc] 25)) := hB3.alloc hB3.size _
    have n0 := hR4.c0
    have n1 := hR4.c1
    have hRR := Lib.hid (rRight_any40 size l _ _ hu4)
    clear hM3 hR3 hv3 hu3 hq hD hB3
    go_upto_region 5 with fail
    generalize w3.alloc (.cells #[.int .i64 z, .slice qa q.length qc] 25) = w4 at *
    generalize w3.heap.size = gq at *
    go_wp2_with fail
    refine hRR.out.mono ?_
    rintro e w5 ⟨rfl, hb5⟩
    have hM5 := hM4.below hb5
    have hR5 := hR4.below hb5
    have hQ5 := hQ4.below hb5
    have hv5 := hv4.below hb5 (Nat.le_refl _)
    have hu5 := hu4.below hb5 (Nat.le_refl _)
    have hq5 := hq4.below hb5 (Nat.le_refl _)
    have hB5 := hB4.trans (hb5.mono hB4.size)
    clear hRR hM4 hR4 hQ4 hv4 hu4 hq4 n0 n1 hb5 hB4
    have hE := HE.out
    unfold CutE at hE
    have k0 := hQ5.c0
    have k1 := hQ5.c1
    have a0 := hM5.c0
    have a1 := hM5.c1
    have r0 := hR5.c0
    have r1 := hR5.c1
    cases hr : mapB size l
    · rw [hr, if_pos rfl] at hE
      obtain ⟨rfl, rfl, rfl⟩ := hE
      clear HE
      go_wp2_with fail
      refine (HA.out _ hB5).mono ?_
      rintro e w6 ⟨rfl, hb6⟩
      go_wp2_with fail
      go_ret
      exact ⟨rfl, hB5.trans (hb6.mono hB5.size)⟩
    · rw [hr, if_neg (by decide)] at hE
      obtain ⟨g1, g2, g3⟩ := mapB_size hr
      have HK : Hid (∀ W, Below w5.heap.size w5 W → W.cell? ⟨w.heap.size, 0, none⟩ = some (.int .i64 size) ∧ W.cell? ⟨w.heap.size, 1, none⟩ = some (.slice a l.length c) ∧ W.cell? ⟨gr, 0, none⟩ = some (.int .i64 size) ∧ W.cell? ⟨gr, 1, none⟩ = some (.slice ua l.length uc) ∧ W.cell? ⟨gq, 0, none⟩ = some (.int .i64 z) ∧ W.cell? ⟨gq, 1, none⟩ = some (.slice qa q.length qc) ∧ Below w5.heap.size w5 W) := Lib.hid (fun W h => ⟨(hM5.under h hM5.lt).c0, (hM5.under h hM5.lt).c1, (hR5.under h hR5.lt).c0, (hR5.under h hR5.lt).c1, (hQ5.under h hQ5.lt).c0, (hQ5.under h hQ5.lt).c1, h⟩)
      have HH : Hid (∀ W, Below w5.heap.size w5 W → Calls Tryd.prog 17 #[.agg #[.int .i64 size, .slice a l.length c], .int .i64 x] W fun e w' => e = .returned (.bool (holeB size l x)) ∧ Below W.heap.size W w') := Lib.hid (fun W h => by
        have := Hole_any size l _ x W (hv5.below h (Nat.le_refl _))
        unfold sHole at this
        rw [hr, Bool.true_and] at this
        exact this)
      have HRH : Hid (∀ y W, Below w5.heap.size w5 W → Calls Tryd.prog 18 #[.agg #[.int .i64 size, .slice ua l.length uc], .int .i64 y] W fun e w' => e = .returned (.bool (holeB size l y)) ∧ Below W.heap.size W w') := Lib.hid (fun y W h => rHole_any size l _ y W (hu5.below h (Nat.le_refl _)) hr)
      have HRH1 := Lib.hid (HRH.out x)
      have hq0 : Below w5.heap.size w5 w5.drew := (Below.refl _ _).drew
      obtain ⟨x0, x1, x2, x3, x4, x5, x6⟩ := HK.out _ hq0
      generalize holeB size l x = hb at HH HRH1
      go_upto_region 7 with fail
      go_cut [51] (fun v51 wx => v51 = .bool false ∧ Below w5.heap.size w5 wx)
      case first =>
        clear k0 k1 a0 a1 r0 r1 HE hE
        go_region_held3 (fun W => W.cell? ⟨w.heap.size, 0, none⟩ = some (.int .i64 size) ∧ W.cell? ⟨w.heap.size, 1, none⟩ = some (.slice a l.length c) ∧ W.cell? ⟨gr, 0, none⟩ = some (.int .i64 size) ∧ W.cell? ⟨gr, 1, none⟩ = some (.slice ua l.length uc) ∧ W.cell? ⟨gq, 0, none⟩ = some (.int .i64 z) ∧ W.cell? ⟨gq, 1, none⟩ = some (.slice qa q.length qc) ∧ Below w5.heap.size w5 W) (first | exact HK.out _ hqd | exact HK.out _ hqc | exact HK.out _ hqb | exact HK.out _ hqa | exact HK.out _ hq0) (first
          | (go_at_call 17; refine (HH.out _ (by first | exact hqb | exact hq0)).mono ?_; rintro e w6 ⟨rfl, hb6⟩; have hqa : Below w5.heap.size w5 w6 := by first | exact hqb.trans (hb6.mono hqb.size) | exact hq0.trans (hb6.mono hq0.size))
          | (go_at_call 18; refine (HRH1.out _ (by first | exact hqa | exact hq0)).mono ?_; rintro e w6 ⟨rfl, hb6⟩; have hqb : Below w5.heap.size w5 w6 := by first | exact hqa.trans (hb6.mono hqa.size) | exact hq0.trans (hb6.mono hq0.size)))
        all_goals
          go_wp2_with fail
          go_meet
          exact ⟨by simp, by first | exact hqb | exact hqa⟩
      case rest =>
        obtain ⟨rfl, hbc⟩ := hcut
        obtain ⟨y0, y1, y2, y3, y4, y5, y6⟩ := HK.out _ hbc
        have hBc := hB5.trans (hbc.mono hB5.size)
        clear x0 x1 x2 x3 x4 x5 x6 hq0 k0 k1 a0 a1 r0 r1 HH HRH1 y6
        by_cases hbad : f < 0 ∨ t < f ∨ size < t
        · rw [if_pos hbad] at hE
          obtain ⟨rfl, rfl, rfl⟩ := hE
          clear HE
          have HA2 := Lib.hid (HA.out _ hBc)
          clear HA
          go_wp2_with fail
          all_goals
            refine HA2.out.mono ?_
            rintro e w6 ⟨rfl, hb6⟩
            go_wp2_with fail
            go_ret
            exact ⟨rfl, hBc.trans (hb6.mono hBc.size)⟩
        · rw [if_neg hbad] at hE
          obtain ⟨rfl, rfl, hqe⟩ := hE
          obtain ⟨q1, q2, q3⟩ : 0 ≤ f ∧ f ≤ t ∧ t ≤ size := by omega
          have hcm : mapB (t - f) q = true := by rw [hqe]; exact cut_mapB hr q1 q2 q3
          have HRt : Hid (∀ W, Below w5.heap.size w5 W → Calls Tryd.prog 13 #[.agg #[.int .i64 (t - f), .slice qa q.length qc]] W fun e w' => e = .returned (.bool true) ∧ Below W.heap.size W w') := Lib.hid (fun W h => by
            have := Right_any (t - f) q _ W (hq5.below h (Nat.le_refl _))
            rw [hcm] at this
            exact this)
          have HHq : Hid (∀ W, Below w5.heap.size w5 W → Calls Tryd.prog 17 #[.agg #[.int .i64 (t - f), .slice qa q.length qc], .int .i64 x] W fun e w' => e = .returned (.bool (holeB (t - f) q x)) ∧ Below W.heap.size W w') := Lib.hid (fun W h => by
            have := Hole_any (t - f) q _ x W (hq5.below h (Nat.le_refl _))
            unfold sHole at this
            rw [hcm, Bool.true_and] at this
            exact this)
          have HQE := Lib.hid hqe
          clear hqe HE hbad hcm
          go_wp2_with fail
          refine (HRt.out _ hbc).mono ?_
          rintro e w6 ⟨rfl, hb6⟩
          have hbd := hbc.trans (hb6.mono hbc.size)
          obtain ⟨z0, z1, z2, z3, z4, z5, z6⟩ := HK.out _ hbd
          have hBd := hB5.trans (hbd.mono hB5.size)
          clear y0 y1 y2 y3 y4 y5 z6 hb6
          by_cases hout : x < 0 ∨ t - f ≤ x
          · have hno : holeB (t - f) q x = false := by
              unfold holeB
              exact decide_eq_false (fun g => by omega)
            rw [hno] at HHq
            have HHq2 := Lib.hid (HHq.out _ hbd)
            clear hno HHq
            go_wp2_with fail
            all_goals
              refine HHq2.out.mono ?_
              rintro e w7 ⟨rfl, hb7⟩
              have hbe := hBd.trans (hb7.mono hBd.size)
              go_wp2_with fail
              refine (HA.out _ hbe).mono ?_
              rintro e w8 ⟨rfl, hb8⟩
              go_wp2_with fail
              go_ret
              exact ⟨rfl, hbe.trans (hb8.mono hbe.size)⟩
          · have hx2 : 0 ≤ x ∧ x < t - f := by omega
            obtain ⟨hx3, hx4⟩ := hx2
            have hch : holeB (t - f) q x = holeB size l (f + x) := by rw [HQE.out]; exact cut_hole size f t l x q1 q3 hx3 hx4
            rw [hch] at HHq
            have HRH2 := Lib.hid (HRH.out (f + x))
            clear hch hout HRH
            have hq1 : Below w5.heap.size w5 w6.drew := hbd.drew
            obtain ⟨x0, x1, x2, x3, x4, x5, x6⟩ := HK.out _ hq1
            have HA2 : Hid (∀ W, Below w5.heap.size w5 W → Calls Tryd.prog 7 #[] W fun e w' => e = .returned (.bool true) ∧ Below W.heap.size W w') := Lib.hid (fun W h => HA.out W (hB5.trans (h.mono hB5.size)))
            clear HA
            have e0 : IntKind.i64.wrap (f + x) = f + x := IntWalk.i64_in _ (by omega)
            cases hhb : holeB size l (f + x)
            all_goals
              rw [hhb] at HHq HRH2
              go_upto_region 15 with fail
              go_region_held3 (fun W => W.cell? ⟨w.heap.size, 0, none⟩ = some (.int .i64 size) ∧ W.cell? ⟨w.heap.size, 1, none⟩ = some (.slice a l.length c) ∧ W.cell? ⟨gr, 0, none⟩ = some (.int .i64 size) ∧ W.cell? ⟨gr, 1, none⟩ = some (.slice ua l.length uc) ∧ W.cell? ⟨gq, 0, none⟩ = some (.int .i64 (t - f)) ∧ W.cell? ⟨gq, 1, none⟩ = some (.slice qa q.length qc) ∧ Below w5.heap.size w5 W) (first | exact HK.out _ hqc | exact HK.out _ hqb | exact HK.out _ hqa | exact HK.out _ hq1) (first
                | (go_at_call 17; refine (HHq.out _ (by first | exact hqb | exact hq1)).mono ?_; rintro e w7 ⟨rfl, hb7⟩; have hqa : Below w5.heap.size w5 w7 := by first | exact hqb.trans (hb7.mono hqb.size) | exact hq1.trans (hb7.mono hq1.size))
                | (go_at_call 18; refine (HRH2.out _ (by first | exact hqa | exact hq1)).mono ?_; rintro e w7 ⟨rfl, hb7⟩; have hqb : Below w5.heap.size w5 w7 := by first | exact hqa.trans (hb7.mono hqa.size) | exact hq1.trans (hb7.mono hq1.size))
                | (go_at_call 7; refine (HA2.out _ (by first | exact hqb | exact hqa)).mono ?_; rintro e w7 ⟨rfl, hb7⟩; have hqc : Below w5.heap.size w5 w7 := by first | exact hqb.trans (hb7.mono hqb.size) | exact hqa.trans (hb7.mono hqa.size)))
              all_goals
                go_wp2_with fail
                go_ret
                exact ⟨rfl, hB5.trans (hqc.mono hB5.size)⟩
end Go.Proofs.YtnemjfojlgjkfaaDoor
