/- The law SparseExpands, walked. -/
import Derived.Test.YtnemjfojlgjkfaaDoorShrI
import Derived.Test.YtnemjfojlgjkfaaDoorShrL
import Derived.Test.YtnemjfojlgjkfaaDoorShrN
import Derived.Test.YtnemjfojlgjkfaaDoorShrO
import Derived.Test.YtnemjfojlgjkfaaDoorSparseG
import Derived.Deep.RegionHeld3
import Derived.Deep.DrawnRows
namespace Go.Proofs.YtnemjfojlgjkfaaDoor
open Go.RowKit
attribute [local go_sem ↓] Go.wp_at_zero Go.wp_at_succ

/-- what Expand tells: a text, an error's number -/
def ExpP (size : Int) (l : Pcs) (s : List UInt8) (t : List UInt8) (e : Int) : Prop :=
  if mapB size l = false then t = [] ∧ e = 1 else if 16777216 < size then t = [] ∧ e = 12 else if (s.length : Int) < pieLen l then t = [] ∧ e = 3 else if pieLen l < (s.length : Int) then t = [] ∧ e = 2 else t = expL size.toNat l s ∧ e = 0
theorem sExpand_any (size : Int) (l : Pcs) (v : Value) (s : List UInt8) (hs : s.length ≤ 1000000) (w : World) (hv : PieV w v l) (hn : mapB size l = true → size ≤ 16777216 → size ≤ 6000) :
    ∃ t e, (Calls Tryd.prog 10 #[.agg #[.int .i64 size, v], .string (S s)] w fun en w' => en = .returned (.tuple #[.string (S t), .int .i64 e]) ∧ Below w.heap.size w w') ∧ ExpP size l s t e := by
  cases hr : mapB size l
  · exact ⟨[], 1, sExpand_no size l v s w hv hr, by unfold ExpP; rw [if_pos hr]; exact ⟨rfl, rfl⟩⟩
  · have hr' : ¬ mapB size l = false := by rw [hr]; decide
    by_cases hb : 16777216 < size
    · refine ⟨[], 12, ?_, by unfold ExpP; rw [if_neg hr', if_pos hb]; exact ⟨rfl, rfl⟩⟩
      have := sExpand_err size l v s w hv hr (Or.inl hb)
      unfold expE at this
      rw [if_pos hb] at this
      exact this
    · by_cases h1 : (s.length : Int) < pieLen l
      · refine ⟨[], 3, ?_, by unfold ExpP; rw [if_neg hr', if_neg hb, if_pos h1]; exact ⟨rfl, rfl⟩⟩
        have := sExpand_err size l v s w hv hr (Or.inr (by omega))
        unfold expE at this
        rw [if_neg hb, if_pos h1] at this
        exact this
      · by_cases h2 : pieLen l < (s.length : Int)
        · refine ⟨[], 2, ?_, by unfold ExpP; rw [if_neg hr', if_neg hb, if_neg h1, if_pos h2]; exact ⟨rfl, rfl⟩⟩
          have := sExpand_err size l v s w hv hr (Or.inr (by omega))
          unfold expE at this
          rw [if_neg hb, if_neg h1] at this
          exact this
        · obtain ⟨g1, g2, g3⟩ := mapB_size hr
          have h6 := hn hr (by omega)
          obtain ⟨n, rfl⟩ : ∃ n : Nat, size = n := ⟨size.toNat, by omega⟩
          exact ⟨_, _, sExpand_yes n l v s hs (by omega) w hv hr (by omega), by unfold ExpP; rw [if_neg hr', if_neg hb, if_neg h1, if_neg h2, Int.toNat_natCast]; exact ⟨rfl, rfl⟩⟩
set_option maxRecDepth 100000 in
set_option maxHeartbeats 4000000 in
theorem expands_awake (size : Int) (l : Pcs) (v : Value) (s : ByteArray) (w : World) (hv : PieV w v l) (hT : TB w.heap.size w) (hsz : s.size ≤ 9223372036854775807) (h : 20 < l.length ∨ 3000 < s.size ∨ (3000 < size ∧ size ≤ 16777216)) :
    Calls Tryd.prog 5 #[.agg #[.int .i64 size, v], .string s] w fun e w' => e = .returned (.bool true) ∧ Below w.heap.size w w' := by
  have hM0 := MapAt.new w size v
  have hb0 := (Below.refl w.heap.size w).alloc (Nat.le_refl _) (.cells #[.int .i64 size, v] 25)
  have HA := Lib.hid (awake40 _ (hT.at hb0 hb0.size))
  have m0 := hM0.c0
  have m1 := hM0.c1
  obtain ⟨a, c, rfl⟩ := hv.shape
  clear hv hT
  have hsI : (s.size : Int) ≤ 9223372036854775807 := by omega
  by_cases h1 : 20 < l.length
  · have hI : (20 : Int) < (l.length : Int) := by omega
    clear h
    go_enter Tryd.func5, Tryd.ntmps5
    go_upto_region 1 with fail
    generalize w.alloc (.cells #[.int .i64 size, .slice a l.length c] 25) = W at *
    go_wp2_with fail
    refine HA.out.mono ?_
    rintro e w1 ⟨rfl, hb1⟩
    go_wp2_with fail
    go_ret
    exact ⟨rfl, hb0.trans (hb1.mono hb0.size)⟩
  · have hI : ¬ (20 : Int) < (l.length : Int) := by omega
    by_cases h2 : 3000 < s.size
    · have hI2 : (3000 : Int) < (s.size : Int) := by omega
      clear h
      go_enter Tryd.func5, Tryd.ntmps5
      go_upto_region 1 with fail
      generalize w.alloc (.cells #[.int .i64 size, .slice a l.length c] 25) = W at *
      go_wp2_with fail
      refine HA.out.mono ?_
      rintro e w1 ⟨rfl, hb1⟩
      go_wp2_with fail
      go_ret
      exact ⟨rfl, hb0.trans (hb1.mono hb0.size)⟩
    · have hI2 : ¬ (3000 : Int) < (s.size : Int) := by omega
      obtain ⟨h3, h4⟩ : 3000 < size ∧ size ≤ 16777216 := by
        rcases h with h | h | h
        · exact absurd h h1
        · exact absurd h h2
        · exact h
      clear h
      go_enter Tryd.func5, Tryd.ntmps5
      go_upto_region 1 with fail
      generalize w.alloc (.cells #[.int .i64 size, .slice a l.length c] 25) = W at *
      go_wp2_with fail
      refine HA.out.mono ?_
      rintro e w1 ⟨rfl, hb1⟩
      go_wp2_with fail
      go_ret
      exact ⟨rfl, hb0.trans (hb1.mono hb0.size)⟩
set_option maxRecDepth 100000 in
set_option maxHeartbeats 4000000 in
theorem expands_main (size : Int) (l : Pcs) (v : Value) (s : List UInt8) (w : World) (hv : PieV w v l) (hT : TB w.heap.size w) (h1 : l.length ≤ 20) (h2 : s.length ≤ 3000) (h3 : ¬ (3000 < size ∧ size ≤ 16777216)) :
    Calls Tryd.prog 5 #[.agg #[.int .i64 size, v], .string (S s)] w fun e w' => e = .returned (.bool true) ∧ Below w.heap.size w w' := by
  have hM0 := MapAt.new w size v
  have hb0 := (Below.refl w.heap.size w).alloc (Nat.le_refl _) (.cells #[.int .i64 size, v] 25)
  have hv0 := hv.below hb0 (Nat.le_refl _)
  have HA : Hid (∀ W, Below w.heap.size w W → Calls Tryd.prog 7 #[] W fun e w' => e = .returned (.bool true) ∧ Below W.heap.size W w') := Lib.hid (fun W h => awake40 W (hT.at h h.size))
  have m0 := hM0.c0
  have m1 := hM0.c1
  obtain ⟨a, c, rfl⟩ := hv.shape
  have hI : ¬ (20 : Int) < (l.length : Int) := by omega
  have hI2 : ¬ (3000 : Int) < (s.length : Int) := by omega
  have hI3 : size ≤ 3000 ∨ 16777216 < size := by omega
  have hP := Lib.hid (plain_any40 size l _ _ hv0 (by omega))
  have hT0 := Lib.hid hT
  clear h3 hT
  go_enter Tryd.func5, Tryd.ntmps5
  go_upto_region 1 with fail
  generalize w.alloc (.cells #[.int .i64 size, .slice a l.length c] 25) = W at *
  go_cut [26] (fun v26 wx => v26 = .bool false ∧ W = wx)
  case first =>
    rcases hI3 with h | h
    · have hx : ¬ (3000 : Int) < size := by omega
      go_wp2_with fail
      go_meet
      exact ⟨rfl, rfl⟩
    · have hx : (3000 : Int) < size := by omega
      have hy : ¬ size ≤ 16777216 := by omega
      go_wp2_with fail
      go_meet
      exact ⟨rfl, rfl⟩
  obtain ⟨rfl, rfl⟩ := hcut
  go_wp2_with fail
  refine hP.out.mono ?_
  rintro e w1 ⟨u, rfl, hu, hb1⟩
  have hM1 := hM0.below hb1
  have hv1 := hv0.below hb1 (Nat.le_refl _)
  have hB1 := hb0.trans (hb1.mono hb0.size)
  obtain ⟨ua, uc, rfl⟩ := hu.shape
  clear hP hM0 hv0 m0 m1 hb1
  have hD := (Below.refl w1.heap.size w1).alloc (Nat.le_refl _) (.cells #[.int .i64 size, .slice ua l.length uc] 31)
  have hM2 := hM1.below hD
  have hR2 := RMapAt.new w1 size (.slice ua l.length uc)
  have hv2 := hv1.below hD (Nat.le_refl _)
  have hu2 := hu.below hD (Nat.le_refl _)
  have hB2 : Below w.heap.size w (w1.alloc (.cells #[.int .i64 size, .slice ua l.length uc] 31)) := hB1.alloc hB1.size _
  have m0 := hM2.c0
  have m1 := hM2.c1
  obtain ⟨tt, er, hCx, hE⟩ := sExpand_any size l _ s (by omega) _ hv2 (fun _ _ => by omega)
  have hC := Lib.hid hCx
  have HE := Lib.hid hE
  clear hM1 hv1 hu hD hB1 hCx hE
  go_upto_region 4 with fail
  generalize w1.alloc (.cells #[.int .i64 size, .slice ua l.length uc] 31) = w2 at *
  generalize w1.heap.size = gr at *
  go_wp2_with fail
  refine hC.out.mono ?_
  rintro e w5 ⟨rfl, hb3⟩
  have hM5 := hM2.below hb3
  have hR5 := hR2.below hb3
  have hv5 := hv2.below hb3 (Nat.le_refl _)
  have hu5 := hu2.below hb3 (Nat.le_refl _)
  have hB5 := hB2.trans (hb3.mono hB2.size)
  clear hC hM2 hR2 hv2 hu2 m0 m1 hb3 hB2
  have HK : Hid (∀ W, Below w5.heap.size w5 W → W.cell? ⟨w.heap.size, 0, none⟩ = some (.int .i64 size) ∧ W.cell? ⟨w.heap.size, 1, none⟩ = some (.slice a l.length c) ∧ W.cell? ⟨gr, 0, none⟩ = some (.int .i64 size) ∧ W.cell? ⟨gr, 1, none⟩ = some (.slice ua l.length uc) ∧ Below w5.heap.size w5 W) := Lib.hid (fun W h => ⟨(hM5.under h hM5.lt).c0, (hM5.under h hM5.lt).c1, (hR5.under h hR5.lt).c0, (hR5.under h hR5.lt).c1, h⟩)
  have HR : Hid (∀ W, Below w5.heap.size w5 W → Calls Tryd.prog 13 #[.agg #[.int .i64 size, .slice a l.length c]] W fun e w' => e = .returned (.bool (mapB size l)) ∧ Below W.heap.size W w') := Lib.hid (fun W h => Right_any size l _ W (hv5.below h (Nat.le_refl _)))
  have HRR : Hid (∀ W, Below w5.heap.size w5 W → Calls Tryd.prog 16 #[.agg #[.int .i64 size, .slice ua l.length uc]] W fun e w' => e = .returned (.bool (mapB size l)) ∧ Below W.heap.size W w') := Lib.hid (fun W h => rRight_any40 size l _ W (hu5.below h (Nat.le_refl _)))
  have HLn : Hid (∀ W, Below w5.heap.size w5 W → Calls Tryd.prog 14 #[.agg #[.int .i64 size, .slice a l.length c]] W fun e w' => e = .returned (.int .i64 (sLen size l)) ∧ Below W.heap.size W w') := Lib.hid (fun W h => Len_any size l _ W (hv5.below h (Nat.le_refl _)))
  have HHo : Hid (∀ W, Below w5.heap.size w5 W → Calls Tryd.prog 17 #[.agg #[.int .i64 size, .slice a l.length c], .int .i64 0] W fun e w' => e = .returned (.bool (sHole size l 0)) ∧ Below W.heap.size W w') := Lib.hid (fun W h => Hole_any size l _ 0 W (hv5.below h (Nat.le_refl _)))
  have HA5 : Hid (∀ W, Below w5.heap.size w5 W → Calls Tryd.prog 7 #[] W fun e w' => e = .returned (.bool true) ∧ Below W.heap.size W w') := Lib.hid (fun W h => HA.out W (hB5.trans (h.mono hB5.size)))
  have hq0 : Below w5.heap.size w5 w5.drew := (Below.refl _ _).drew
  obtain ⟨x0, x1, x2, x3, x4⟩ := HK.out _ hq0
  cases hr : mapB size l
  · rw [hr] at HR HRR
    have hE := HE.out
    unfold ExpP at hE
    rw [if_pos hr] at hE
    obtain ⟨rfl, rfl⟩ := hE
    have hsl : sLen size l = 0 := by unfold sLen; rw [if_neg (by rw [hr]; decide)]
    have hsh : sHole size l 0 = false := by unfold sHole; rw [hr]; rfl
    rw [hsl] at HLn
    rw [hsh] at HHo
    clear hsl hsh HE HA hv5 hu5 hM5 hR5 hr
    go_upto_region 5 with fail
    go_cut [40] (fun v40 wx => v40 = .bool false ∧ Below w5.heap.size w5 wx)
    case first =>
      go_region_held3 (fun W => W.cell? ⟨w.heap.size, 0, none⟩ = some (.int .i64 size) ∧ W.cell? ⟨w.heap.size, 1, none⟩ = some (.slice a l.length c) ∧ W.cell? ⟨gr, 0, none⟩ = some (.int .i64 size) ∧ W.cell? ⟨gr, 1, none⟩ = some (.slice ua l.length uc) ∧ Below w5.heap.size w5 W) (first | exact HK.out _ hqb | exact HK.out _ hqa | exact HK.out _ hq0) (first
        | (go_at_call 13; refine (HR.out _ (by first | exact hqb | exact hq0)).mono ?_; rintro e w6 ⟨rfl, hb6⟩; have hqa : Below w5.heap.size w5 w6 := by first | exact hqb.trans (hb6.mono hqb.size) | exact hq0.trans (hb6.mono hq0.size))
        | (go_at_call 16; refine (HRR.out _ (by first | exact hqa | exact hq0)).mono ?_; rintro e w6 ⟨rfl, hb6⟩; have hqb : Below w5.heap.size w5 w6 := by first | exact hqa.trans (hb6.mono hqa.size) | exact hq0.trans (hb6.mono hq0.size)))
      all_goals
        go_wp2_with fail
        go_meet
        exact ⟨rfl, by first | exact hqb | exact hqa⟩
    obtain ⟨rfl, hbc⟩ := hcut
    obtain ⟨y0, y1, y2, y3, y4⟩ := HK.out _ hbc
    clear x0 x1 x2 x3 x4 hq0
    go_wp2_with fail
    refine (HRR.out _ hbc).mono ?_
    rintro e w6 ⟨rfl, hb6⟩
    have hbd := hbc.trans (hb6.mono hbc.size)
    obtain ⟨z0, z1, z2, z3, z4⟩ := HK.out _ hbd
    clear y0 y1 y2 y3 y4
    go_wp2_with fail
    refine (HLn.out _ hbd).mono ?_
    rintro e w7 ⟨rfl, hb7⟩
    have hbe := hbd.trans (hb7.mono hbd.size)
    obtain ⟨y0, y1, y2, y3, y4⟩ := HK.out _ hbe
    clear z0 z1 z2 z3 z4
    go_wp2_with fail
    refine (HHo.out _ hbe).mono ?_
    rintro e w8 ⟨rfl, hb8⟩
    have hbf := hbe.trans (hb8.mono hbe.size)
    go_wp2_with fail
    refine (HA5.out _ hbf).mono ?_
    rintro e w9 ⟨rfl, hb9⟩
    go_wp2_with fail
    go_ret
    exact ⟨rfl, hB5.trans ((hbf.trans (hb9.mono hbf.size)).mono hB5.size)⟩
  · rw [hr] at HR HRR
    have HRL : Hid (∀ W, Below w5.heap.size w5 W → Calls Tryd.prog 19 #[.agg #[.int .i64 size, .slice ua l.length uc]] W fun e w' => e = .returned (.int .i64 (pieLen l)) ∧ Below W.heap.size W w') := Lib.hid (fun W h => rLen_any40 size l _ W (hu5.below h (Nat.le_refl _)) hr)
    have hsl : sLen size l = pieLen l := by unfold sLen; rw [if_pos hr]
    rw [hsl] at HLn
    obtain ⟨g1, g2, g3⟩ := mapB_size hr
    have hE := HE.out
    unfold ExpP at hE
    rw [if_neg (by rw [hr]; decide)] at hE
    have HE2 := Lib.hid hE
    have HRE : Hid (size ≤ 3000 → (s.length : Int) = pieLen l → ∀ W, Below w5.heap.size w5 W → Calls Tryd.prog 20 #[.agg #[.int .i64 size, .slice ua l.length uc], .string (S s)] W fun e w' => e = .returned (.string (S (expL size.toNat l s))) ∧ Below W.heap.size W w') := Lib.hid (fun h3 h4 W h => by
      obtain ⟨n, rfl⟩ : ∃ n : Nat, size = n := ⟨size.toNat, by omega⟩
      rw [Int.toNat_natCast]
      exact rExpand_any n l _ s (by omega) (by omega) W (hu5.below h (Nat.le_refl _)) hr h4)
    clear hsl hE HE HA hv5 hu5 hM5 hR5 hr HHo
    generalize pieLen l = pl at *
    go_upto_region 5 with fail
    go_cut [40] (fun v40 wx => v40 = .bool false ∧ Below w5.heap.size w5 wx)
    case first =>
      go_region_held3 (fun W => W.cell? ⟨w.heap.size, 0, none⟩ = some (.int .i64 size) ∧ W.cell? ⟨w.heap.size, 1, none⟩ = some (.slice a l.length c) ∧ W.cell? ⟨gr, 0, none⟩ = some (.int .i64 size) ∧ W.cell? ⟨gr, 1, none⟩ = some (.slice ua l.length uc) ∧ Below w5.heap.size w5 W) (first | exact HK.out _ hqb | exact HK.out _ hqa | exact HK.out _ hq0) (first
        | (go_at_call 13; refine (HR.out _ (by first | exact hqb | exact hq0)).mono ?_; rintro e w6 ⟨rfl, hb6⟩; have hqa : Below w5.heap.size w5 w6 := by first | exact hqb.trans (hb6.mono hqb.size) | exact hq0.trans (hb6.mono hq0.size))
        | (go_at_call 16; refine (HRR.out _ (by first | exact hqa | exact hq0)).mono ?_; rintro e w6 ⟨rfl, hb6⟩; have hqb : Below w5.heap.size w5 w6 := by first | exact hqa.trans (hb6.mono hqa.size) | exact hq0.trans (hb6.mono hq0.size)))
      all_goals
        go_wp2_with fail
        go_meet
        exact ⟨rfl, by first | exact hqb | exact hqa⟩
    obtain ⟨rfl, hbc⟩ := hcut
    obtain ⟨y0, y1, y2, y3, y4⟩ := HK.out _ hbc
    clear x0 x1 x2 x3 x4 hq0
    go_wp2_with fail
    refine (HRR.out _ hbc).mono ?_
    rintro e w6 ⟨rfl, hb6⟩
    have hbd := hbc.trans (hb6.mono hbc.size)
    have hq1 : Below w5.heap.size w5 w6.drew := hbd.drew
    obtain ⟨x0, x1, x2, x3, x4⟩ := HK.out _ hq1
    clear y0 y1 y2 y3 y4 HR HRR
    go_upto_region 9 with fail
    go_cut [67] (fun v67 wx => v67 = .bool false ∧ Below w5.heap.size w5 wx)
    case first =>
      go_region_held3 (fun W => W.cell? ⟨w.heap.size, 0, none⟩ = some (.int .i64 size) ∧ W.cell? ⟨w.heap.size, 1, none⟩ = some (.slice a l.length c) ∧ W.cell? ⟨gr, 0, none⟩ = some (.int .i64 size) ∧ W.cell? ⟨gr, 1, none⟩ = some (.slice ua l.length uc) ∧ Below w5.heap.size w5 W) (first | exact HK.out _ hqb | exact HK.out _ hqa | exact HK.out _ hq1) (first
        | (go_at_call 14; refine (HLn.out _ (by first | exact hqb | exact hq1)).mono ?_; rintro e w7 ⟨rfl, hb7⟩; have hqa : Below w5.heap.size w5 w7 := by first | exact hqb.trans (hb7.mono hqb.size) | exact hq1.trans (hb7.mono hq1.size))
        | (go_at_call 19; refine (HRL.out _ (by first | exact hqa | exact hq1)).mono ?_; rintro e w7 ⟨rfl, hb7⟩; have hqb : Below w5.heap.size w5 w7 := by first | exact hqa.trans (hb7.mono hqa.size) | exact hq1.trans (hb7.mono hq1.size)))
      all_goals
        go_wp2_with fail
        go_meet
        exact ⟨by simp, by first | exact hqb | exact hqa⟩
    obtain ⟨rfl, hbe⟩ := hcut
    obtain ⟨y0, y1, y2, y3, y4⟩ := HK.out _ hbe
    clear x0 x1 x2 x3 x4 hq1 HLn hbc hbd hb6
    have hE := HE2.out
    clear HE2
    by_cases hb : 16777216 < size
    · rw [if_pos hb] at hE
      obtain ⟨rfl, rfl⟩ := hE
      go_wp2_with fail
      refine (HA5.out _ hbe).mono ?_
      rintro e w9 ⟨rfl, hb9⟩
      go_wp2_with fail
      go_ret
      exact ⟨rfl, hB5.trans ((hbe.trans (hb9.mono hbe.size)).mono hB5.size)⟩
    · rw [if_neg hb] at hE
      have hsz : size ≤ 3000 := by omega
      go_wp2_with fail
      refine (HRL.out _ hbe).mono ?_
      rintro e w8 ⟨rfl, hb8⟩
      have hbf := hbe.trans (hb8.mono hbe.size)
      obtain ⟨z0, z1, z2, z3, z4⟩ := HK.out _ hbf
      clear y0 y1 y2 y3 y4
      by_cases hl1 : (s.length : Int) < pl
      · rw [if_pos hl1] at hE
        obtain ⟨rfl, rfl⟩ := hE
        go_wp2_with fail
        refine (HA5.out _ hbf).mono ?_
        rintro e w9 ⟨rfl, hb9⟩
        go_wp2_with fail
        go_ret
        exact ⟨rfl, hB5.trans ((hbf.trans (hb9.mono hbf.size)).mono hB5.size)⟩
      · rw [if_neg hl1] at hE
        go_wp2_with fail
        refine (HRL.out _ hbf).mono ?_
        rintro e w10 ⟨rfl, hb10⟩
        have hbg := hbf.trans (hb10.mono hbf.size)
        obtain ⟨y0, y1, y2, y3, y4⟩ := HK.out _ hbg
        clear z0 z1 z2 z3 z4
        by_cases hl2 : pl < (s.length : Int)
        · rw [if_pos hl2] at hE
          obtain ⟨rfl, rfl⟩ := hE
          go_wp2_with fail
          refine (HA5.out _ hbg).mono ?_
          rintro e w9 ⟨rfl, hb9⟩
          go_wp2_with fail
          go_ret
          exact ⟨rfl, hB5.trans ((hbg.trans (hb9.mono hbg.size)).mono hB5.size)⟩
        · rw [if_neg hl2] at hE
          obtain ⟨rfl, rfl⟩ := hE
          have HX := Lib.hid (HRE.out hsz (by omega) _ hbg)
          clear HRE HRL
          generalize expL size.toNat l s = xx at *
          go_wp2_with fail
          refine HX.out.mono ?_
          rintro e w11 ⟨rfl, hb11⟩
          have hbh := hbg.trans (hb11.mono hbg.size)
          go_wp2_with fail
          refine (HA5.out _ hbh).mono ?_
          rintro e w9 ⟨rfl, hb9⟩
          go_wp2_with fail
          go_ret
          exact ⟨rfl, hB5.trans ((hbh.trans (hb9.mono hbh.size)).mono hB5.size)⟩
theorem lawExpands (size : Int) (l : Pcs) (v : Value) (s : ByteArray) (w : World) (hv : PieV w v l) (hs : s.size ≤ maxLen) (hT : TB w.heap.size w) :
    Calls Tryd.prog 5 #[.agg #[.int .i64 size, v], .string s] w fun e w' => e = .returned (.bool true) ∧ Below w.heap.size w w' := by
  unfold maxLen at hs
  by_cases h : 20 < l.length ∨ 3000 < s.size ∨ (3000 < size ∧ size ≤ 16777216)
  · exact expands_awake size l v s w hv hT hs h
  · have h2 : s.data.toList.length ≤ 3000 := by rw [size_len]; omega
    exact expands_main size l v s.data.toList w hv hT (by omega) h2 (by omega)
end Go.Proofs.YtnemjfojlgjkfaaDoor
