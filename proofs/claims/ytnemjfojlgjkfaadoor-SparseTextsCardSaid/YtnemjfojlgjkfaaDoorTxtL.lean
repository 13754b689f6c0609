/- The law SparseTexts, walked. -/
import Derived.Test.YtnemjfojlgjkfaaDoorTxtC
import Derived.Test.YtnemjfojlgjkfaaDoorTxtD
import Derived.Test.YtnemjfojlgjkfaaDoorTxtE
import Derived.Test.YtnemjfojlgjkfaaDoorShrI
import Derived.Test.YtnemjfojlgjkfaaDoorShrL
import Derived.Deep.RegionHeld3
import Derived.Deep.DrawnRows
namespace Go.Proofs.YtnemjfojlgjkfaaDoor
open Go.RowKit
attribute [local go_sem ↓] Go.wp_at_zero Go.wp_at_succ

theorem pcsL_rest (s : List UInt8) : ∀ (n : Nat) (r : List UInt8) (out : Pcs), (∃ k, k ≤ s.length ∧ s.drop k = r) → (pcsL n r out).2.2 = 0 → ∃ k, k ≤ s.length ∧ s.drop k = (pcsL n r out).2.1
  | 0, _, _, h, _ => h
  | n + 1, r, out, h, h0 => by
    rw [pcsL] at h0 ⊢
    by_cases h1 : (numL r).2.2 = 0
    · rw [if_neg (by rw [h1]; decide)] at h0 ⊢
      by_cases h2 : (numL (numL r).2.1).2.2 = 0
      · rw [if_neg (by rw [h2]; decide)] at h0 ⊢
        exact pcsL_rest s n _ _ (numL_rest s _ (numL_rest s r h h1) h2) h0
      · rw [if_pos h2] at h0
        exact absurd h0 h2
    · rw [if_pos h1] at h0
      exact absurd h0 h1
theorem parL_rest (s : List UInt8) : ((parL s).2.2.2 = 0 → s.drop (s.length - (parL s).2.2.1.length) = (parL s).2.2.1) ∧ ((parL s).2.2.2 ≠ 0 → (parL s).2.2.1 = []) ∧ (parL s).2.1.length ≤ 4096 := by
  have h0 : ∃ k, k ≤ s.length ∧ s.drop k = s := ⟨0, Nat.zero_le _, rfl⟩
  unfold parL
  by_cases h1 : (numL s).2.2 = 0
  · rw [if_neg (by rw [h1]; decide)]
    by_cases h2 : 4096 < (numL s).1
    · rw [if_pos h2]
      exact ⟨fun h => absurd h (by decide), fun _ => rfl, Nat.zero_le _⟩
    · rw [if_neg h2]
      by_cases h3 : (numL (numL s).2.1).2.2 = 0
      · rw [if_neg (by rw [h3]; decide)]
        have hr := numL_rest s _ (numL_rest s s h0 h1) h3
        by_cases h4 : (pcsL (numL s).1 (numL (numL s).2.1).2.1 []).2.2 = 0
        · rw [if_neg (by rw [h4]; decide)]
          by_cases h5 : mapB (numL (numL s).2.1).1 (pcsL (numL s).1 (numL (numL s).2.1).2.1 []).1 = true
          · rw [if_pos h5]
            obtain ⟨k, hk, hd⟩ := pcsL_rest s _ _ _ hr h4
            refine ⟨fun _ => rest_drop s _ k hk hd, fun h => absurd rfl h, (mapB_size h5).2.2⟩
          · rw [if_neg h5]
            exact ⟨fun h => absurd h (by decide), fun _ => rfl, Nat.zero_le _⟩
        · rw [if_pos h4]
          exact ⟨fun h => absurd h h4, fun _ => rfl, Nat.zero_le _⟩
      · rw [if_pos h3]
        exact ⟨fun h => absurd h h3, fun _ => rfl, Nat.zero_le _⟩
  · rw [if_pos h1]
    exact ⟨fun h => absurd h h1, fun _ => rfl, Nat.zero_le _⟩
theorem txM_len (size : Int) (l : Pcs) (hr : mapB size l = true) (hl : l.length ≤ 20) : (txM size l).length ≤ 1000 := by
  obtain ⟨g1, g2, g3⟩ := mapB_size hr
  have hm := mapB_mem hr
  have h1 := lineI_len (l.length : Int) (by omega) (by omega)
  have h2 := lineI_len size g1 g2
  have h3 := pieT_len l (fun p hp => by have := hm p hp; omega)
  unfold pieT at h3
  unfold txM
  rw [List.length_append, List.length_append]
  omega
set_option maxRecDepth 100000 in
set_option maxHeartbeats 4000000 in
theorem texts_awake (size : Int) (l : Pcs) (v : Value) (s : ByteArray) (w : World) (hv : PieV w v l) (hT : TB w.heap.size w) (hsz : s.size ≤ 9223372036854775807) (h : 20 < l.length ∨ 400 < s.size) :
    Calls Tryd.prog 6 #[.agg #[.int .i64 size, v], .string s] w fun e w' => e = .returned (.bool true) ∧ Below w.heap.size w w' := by
  have hM0 := MapAt.new w size v
  have hb0 := (Below.refl w.heap.size w).alloc (Nat.le_refl _) (.cells #[.int .i64 size, v] 25)
  have HA := Lib.hid (awake40 _ (hT.at hb0 hb0.size))
  have m0 := hM0.c0
  have m1 := hM0.c1
  obtain ⟨a, c, rfl⟩ := hv.shape
  clear hv hT
  have hsI : (s.size : Int) ≤ 9223372036854775807 := by omega
  by_cases h1 : 20 < l.length
  · have hI : (20 : Int) < (l.length : Int) := by omega
    clear h
    go_enter Tryd.func6, Tryd.ntmps6
    go_upto_region 1 with fail
    generalize w.alloc (.cells #[.int .i64 size, .slice a l.length c] 25) = W at *
    go_wp2_with fail
    refine HA.out.mono ?_
    rintro e w1 ⟨rfl, hb1⟩
    go_wp2_with fail
    go_ret
    exact ⟨rfl, hb0.trans (hb1.mono hb0.size)⟩
  · have hI : ¬ (20 : Int) < (l.length : Int) := by omega
    have hI2 : (400 : Int) < (s.size : Int) := by omega
    clear h
    go_enter Tryd.func6, Tryd.ntmps6
    go_upto_region 1 with fail
    generalize w.alloc (.cells #[.int .i64 size, .slice a l.length c] 25) = W at *
    go_wp2_with fail
    refine HA.out.mono ?_
    rintro e w1 ⟨rfl, hb1⟩
    go_wp2_with fail
    go_ret
    exact ⟨rfl, hb0.trans (hb1.mono hb0.size)⟩
set_option maxRecDepth 100000 in
set_option maxHeartbeats 4000000 in
theorem texts_main (size : Int) (l : Pcs) (v : Value) (s : List UInt8) (w : World) (hv : PieV w v l) (hT : TB w.heap.size w) (h1 : l.length ≤ 20) (h2 : s.length ≤ 400) :
    Calls Tryd.prog 6 #[.agg #[.int .i64 size, v], .string (S s)] w fun e w' => e = .returned (.bool true) ∧ Below w.heap.size w w' := by
  have hM0 := MapAt.new w size v
  have hb0 := (Below.refl w.heap.size w).alloc (Nat.le_refl _) (.cells #[.int .i64 size, v] 25)
  have hv0 := hv.below hb0 (Nat.le_refl _)
  have HA : Hid (∀ W, Below w.heap.size w W → Calls Tryd.prog 7 #[] W fun e w' => e = .returned (.bool true) ∧ Below W.heap.size W w') := Lib.hid (fun W h => awake40 W (hT.at h h.size))
  have m0 := hM0.c0
  have m1 := hM0.c1
  obtain ⟨a, c, rfl⟩ := hv.shape
  have hI : ¬ (20 : Int) < (l.length : Int) := by omega
  have hI2 : ¬ (400 : Int) < (s.length : Int) := by omega
  have hP := Lib.hid (plain_any40 size l _ _ hv0 (by omega))
  have hT0 := Lib.hid hT
  clear hT
  go_enter Tryd.func6, Tryd.ntmps6
  go_upto_region 1 with fail
  generalize w.alloc (.cells #[.int .i64 size, .slice a l.length c] 25) = W at *
  go_wp2_with fail
  refine hP.out.mono ?_
  rintro e w1 ⟨u, rfl, hu, hb1⟩
  have hM1 := hM0.below hb1
  have hv1 := hv0.below hb1 (Nat.le_refl _)
  have hB1 := hb0.trans (hb1.mono hb0.size)
  obtain ⟨ua, uc, rfl⟩ := hu.shape
  clear hP hM0 hv0 m0 m1 hb1
  have hD := (Below.refl w1.heap.size w1).alloc (Nat.le_refl _) (.cells #[.int .i64 size, .slice ua l.length uc] 31)
  have hM2 := hM1.below hD
  have hR2 := RMapAt.new w1 size (.slice ua l.length uc)
  have hv2 := hv1.below hD (Nat.le_refl _)
  have hu2 := hu.below hD (Nat.le_refl _)
  have hB2 : Below w.heap.size w (w1.alloc (.cells #[.int .i64 size, .slice ua l.length uc] 31)) := hB1.alloc hB1.size _
  have m0 := hM2.c0
  have m1 := hM2.c1
  clear hM1 hv1 hu hD hB1
  go_upto_region 4 with fail
  generalize w1.alloc (.cells #[.int .i64 size, .slice ua l.length uc] 31) = w2 at *
  generalize w1.heap.size = gr at *
  obtain ⟨tx, er, hTx, hTE⟩ : ∃ tx er, (Calls Tryd.prog 21 #[.agg #[.int .i64 size, .slice a l.length c]] w2 fun e w' => e = .returned (.tuple #[.string (S tx), .int .i64 er]) ∧ Below w2.heap.size w2 w') ∧ ((mapB size l = true ∧ tx = txM size l ∧ er = 0) ∨ (mapB size l = false ∧ tx = [] ∧ er = (1 : Int))) := by
    cases hr : mapB size l
    · exact ⟨[], 1, sText_no size l _ w2 hv2 hr, Or.inr ⟨rfl, rfl, rfl⟩⟩
    · exact ⟨_, 0, sText_yes size l _ w2 hv2 hr (hT0.out.at hB2 hB2.size), Or.inl ⟨rfl, rfl, rfl⟩⟩
  have HTx := Lib.hid hTx
  have HTE := Lib.hid hTE
  clear hTx hTE
  go_wp2_with fail
  refine HTx.out.mono ?_
  rintro e w3 ⟨rfl, hb3⟩
  have hR3 := hR2.below hb3
  have hu3 := hu2.below hb3 (Nat.le_refl _)
  have hB3 := hB2.trans (hb3.mono hB2.size)
  have r0 := hR3.c0
  have r1 := hR3.c1
  have HRR := Lib.hid (rRight_any40 size l _ w3 hu3)
  clear HTx hM2 hR2 hv2 hu2 hb3 hB2 m0 m1
  go_wp2_with fail
  refine HRR.out.mono ?_
  rintro e w4 ⟨rfl, hb4⟩
  have hR4 := hR3.below hb4
  have hu4 := hu3.below hb4 (Nat.le_refl _)
  have hB4 := hB3.trans (hb4.mono hB3.size)
  clear HRR hR3 hu3 hB3 hb4 r0 r1
  go_upto_if 35 with fail
  go_cut [4] (fun v4 wx => v4 = .bool false ∧ Below w.heap.size w wx)
  case first =>
    rcases HTE.out with ⟨hr, rfl, rfl⟩ | ⟨hr, rfl, rfl⟩
    · have htl := txM_len size l hr h1
      have hcat := S_append (txM size l) s
      have hPr : Calls Tryd.prog 22 #[.string (S (txM size l ++ s))] w4 (fun e w' => ∃ v, e = .returned (.tuple #[.agg #[.int .i64 size, v], .string (S s), .int .i64 0]) ∧ PieV w' v l ∧ Below w4.heap.size w4 w') := by
        have := sParse_any (txM size l ++ s) (by rw [List.length_append]; omega) w4
        rw [parL_text size l hr s] at this
        exact this
      have HPr := Lib.hid hPr
      have HRT : Hid (∀ W, PieV W (.slice ua l.length uc) l → Calls Tryd.prog 23 #[.agg #[.int .i64 size, .slice ua l.length uc]] W fun e w' => e = .returned (.string (S (txM size l))) ∧ Below W.heap.size W w') := Lib.hid (fun W h => rText_any40 size l _ W h hr)
      rw [hr]
      clear HTE hPr hr
      have hcl : (txM size l ++ s).length ≤ 2000 := by rw [List.length_append]; omega
      generalize txM size l ++ s = cc at *
      generalize txM size l = tx at *
      go_wp2_with fail
      refine HPr.out.mono ?_
      rintro e w5 ⟨v8, rfl, h8, hb5⟩
      obtain ⟨a8, c8, rfl⟩ := h8.shape
      have hR5 := hR4.below hb5
      have hu5 := hu4.below hb5 (Nat.le_refl _)
      have hB5 := hB4.trans (hb5.mono hB4.size)
      have hD := (Below.refl w5.heap.size w5).alloc (Nat.le_refl _) (.cells #[.int .i64 size, .slice a8 l.length c8] 25)
      have hR6 := hR5.below hD
      have hQ6 := MapAt.new w5 size (.slice a8 l.length c8)
      have hu6 := hu5.below hD (Nat.le_refl _)
      have h86 := h8.below hD (Nat.le_refl _)
      have hB6 : Below w.heap.size w (w5.alloc (.cells #[.int .i64 size, .slice a8 l.length c8] 25)) := hB5.alloc hB5.size _
      clear HPr hR4 hu4 hB4 hb5 hR5 hu5 hB5 hD h8
      go_upto_region 7 with fail
      generalize w5.alloc (.cells #[.int .i64 size, .slice a8 l.length c8] 25) = w6 at *
      generalize w5.heap.size = gb at *
      have HK : Hid (∀ W, Below w6.heap.size w6 W → W.cell? ⟨gr, 0, none⟩ = some (.int .i64 size) ∧ W.cell? ⟨gr, 1, none⟩ = some (.slice ua l.length uc) ∧ W.cell? ⟨gb, 0, none⟩ = some (.int .i64 size) ∧ W.cell? ⟨gb, 1, none⟩ = some (.slice a8 l.length c8) ∧ Below w6.heap.size w6 W) := Lib.hid (fun W h => ⟨(hR6.under h hR6.lt).c0, (hR6.under h hR6.lt).c1, (hQ6.under h hQ6.lt).c0, (hQ6.under h hQ6.lt).c1, h⟩)
      have HRT6 : Hid (∀ W, Below w6.heap.size w6 W → Calls Tryd.prog 23 #[.agg #[.int .i64 size, .slice ua l.length uc]] W fun e w' => e = .returned (.string (S tx)) ∧ Below W.heap.size W w') := Lib.hid (fun W h => HRT.out W (hu6.below h (Nat.le_refl _)))
      have HP6 : Hid (∀ W, Below w6.heap.size w6 W → Calls Tryd.prog 12 #[.agg #[.int .i64 size, .slice a8 l.length c8]] W fun e w' => ∃ u, e = .returned (.agg #[.int .i64 size, u]) ∧ PieV w' u l ∧ Below W.heap.size W w') := Lib.hid (fun W h => plain_any40 size l _ W (h86.below h (Nat.le_refl _)) (by omega))
      have HS6 : Hid (∀ x W, PieV W x l → Below w6.heap.size w6 W → Calls Tryd.prog 11 #[.agg #[.int .i64 size, x], .agg #[.int .i64 size, .slice ua l.length uc]] W fun e w' => e = .returned (.bool true) ∧ Below W.heap.size W w') := Lib.hid (fun x W hx h => same_yes size l x _ W hx (hu6.below h (Nat.le_refl _)) (by omega))
      have hq0 : Below w6.heap.size w6 w6.drew := (Below.refl _ _).drew
      obtain ⟨x0, x1, x2, x3, x4⟩ := HK.out _ hq0
      clear hR6 hQ6 hu6 h86 HRT x4
      go_region_held3 (fun W => W.cell? ⟨gr, 0, none⟩ = some (.int .i64 size) ∧ W.cell? ⟨gr, 1, none⟩ = some (.slice ua l.length uc) ∧ W.cell? ⟨gb, 0, none⟩ = some (.int .i64 size) ∧ W.cell? ⟨gb, 1, none⟩ = some (.slice a8 l.length c8) ∧ Below w6.heap.size w6 W) (first | exact HK.out _ hqc | exact HK.out _ hqb | exact HK.out _ hqa | exact HK.out _ hq0) (first
        | (go_at_call 23; refine (HRT6.out _ hq0).mono ?_; rintro e w7 ⟨rfl, hb7⟩; have hqa : Below w6.heap.size w6 w7 := hq0.trans (hb7.mono hq0.size))
        | (go_at_call 12; refine (HP6.out _ hqa).mono ?_; rintro e w8 ⟨pu, rfl, hpu, hb8⟩; have hqb : Below w6.heap.size w6 w8 := hqa.trans (hb8.mono hqa.size))
        | (go_at_call 11; refine (HS6.out _ _ hpu hqb).mono ?_; rintro e w9 ⟨rfl, hb9⟩; have hqc : Below w6.heap.size w6 w9 := hqb.trans (hb9.mono hqb.size)))
      all_goals
        go_wp2_with fail
        go_meet
        exact ⟨rfl, hB6.trans (hqc.mono hB6.size)⟩
    · rw [hr]
      clear HTE
      go_wp2_with fail
      go_meet
      exact ⟨rfl, hB4⟩
  obtain ⟨rfl, hB⟩ := hcut
  have hA9 := Lib.hid (HA.out)
  obtain ⟨R1, R2, R3⟩ := parL_rest s
  have hPr := sParse_any s (by omega) wc
  have hRr := fun W => rParse_any40 s (by omega) W
  unfold ParV at hPr
  unfold RParV at hRr
  generalize parL s = P at *
  obtain ⟨z, q, r, er⟩ := P
  dsimp only at R1 R2 R3 hPr hRr
  obtain ⟨er2, her⟩ : ∃ er2 : Int, er2 = (er : Int) := ⟨_, rfl⟩
  simp only [← her] at hRr
  have HER := Lib.hid her
  obtain ⟨pl, hpl⟩ : ∃ pl : Nat, pl = (if er = 0 then s.length - r.length else 0) := ⟨_, rfl⟩
  simp only [← hpl] at hRr
  have HPL := Lib.hid hpl
  clear hpl
  have HPr := Lib.hid hPr
  have HRr := Lib.hid hRr
  clear hPr hRr her HA HTE hR4 hu4 hB4
  go_wp2_with fail
  refine HPr.out.mono ?_
  rintro e w5 ⟨v5, rfl, h5, hb5⟩
  obtain ⟨a5, c5, rfl⟩ := h5.shape
  have hB5 := hB.trans (hb5.mono hB.size)
  have hD := (Below.refl w5.heap.size w5).alloc (Nat.le_refl _) (.cells #[.int .i64 z, .slice a5 q.length c5] 25)
  have hQ6 := MapAt.new w5 z (.slice a5 q.length c5)
  have h6 := h5.below hD (Nat.le_refl _)
  have hB6 : Below w.heap.size w (w5.alloc (.cells #[.int .i64 z, .slice a5 q.length c5] 25)) := hB5.alloc hB5.size _
  clear HPr hb5 hB5 hD h5 hB
  go_upto_region 12 with fail
  generalize w5.alloc (.cells #[.int .i64 z, .slice a5 q.length c5] 25) = w6 at *
  generalize w5.heap.size = ga at *
  go_wp2_with fail
  refine (HRr.out w6).mono ?_
  rintro e w7 ⟨v7, rfl, h7, hb7⟩
  obtain ⟨a7, c7, rfl⟩ := h7.shape
  have hQ7 := hQ6.below hb7
  have h67 := h6.below hb7 (Nat.le_refl _)
  have hB7 := hB6.trans (hb7.mono hB6.size)
  have hD := (Below.refl w7.heap.size w7).alloc (Nat.le_refl _) (.cells #[.int .i64 z, .slice a7 q.length c7] 31)
  have hQ8 := hQ7.below hD
  have hR8 := RMapAt.new w7 z (.slice a7 q.length c7)
  have h68 := h67.below hD (Nat.le_refl _)
  have h78 := h7.below hD (Nat.le_refl _)
  have hB8 : Below w.heap.size w (w7.alloc (.cells #[.int .i64 z, .slice a7 q.length c7] 31)) := hB7.alloc hB7.size _
  clear HRr hb7 hB7 hD h7 h6 h67 hQ6 hQ7 hB6
  go_upto_region 13 with fail
  generalize w7.alloc (.cells #[.int .i64 z, .slice a7 q.length c7] 31) = w8 at *
  generalize w7.heap.size = gc at *
  have HK : Hid (∀ W, Below w8.heap.size w8 W → W.cell? ⟨ga, 0, none⟩ = some (.int .i64 z) ∧ W.cell? ⟨ga, 1, none⟩ = some (.slice a5 q.length c5) ∧ W.cell? ⟨gc, 0, none⟩ = some (.int .i64 z) ∧ W.cell? ⟨gc, 1, none⟩ = some (.slice a7 q.length c7) ∧ Below w8.heap.size w8 W) := Lib.hid (fun W h => ⟨(hQ8.under h hQ8.lt).c0, (hQ8.under h hQ8.lt).c1, (hR8.under h hR8.lt).c0, (hR8.under h hR8.lt).c1, h⟩)
  have HP8 : Hid (∀ W, Below w8.heap.size w8 W → Calls Tryd.prog 12 #[.agg #[.int .i64 z, .slice a5 q.length c5]] W fun e w' => ∃ u, e = .returned (.agg #[.int .i64 z, u]) ∧ PieV w' u q ∧ Below W.heap.size W w') := Lib.hid (fun W h => plain_any40 z q _ W (h68.below h (Nat.le_refl _)) R3)
  have HS8 : Hid (∀ x W, PieV W x q → Below w8.heap.size w8 W → Calls Tryd.prog 11 #[.agg #[.int .i64 z, x], .agg #[.int .i64 z, .slice a7 q.length c7]] W fun e w' => e = .returned (.bool true) ∧ Below W.heap.size W w') := Lib.hid (fun x W hx h => same_yes z q x _ W hx (h78.below h (Nat.le_refl _)) R3)
  have hq0 : Below w8.heap.size w8 w8.drew := (Below.refl _ _).drew
  obtain ⟨x0, x1, x2, x3, x4⟩ := HK.out _ hq0
  clear hQ8 hR8 h68 h78 x4
  have HR1 := Lib.hid R1
  have HR2 := Lib.hid R2
  clear R1 R2
  go_cut [95] (fun v95 wx => v95 = .bool false ∧ Below w8.heap.size w8 wx)
  case first =>
    have hee : ((er : Int) != er2) = false := by rw [HER.out]; simp
    have hee1 : ((er : Int) == er2) = true := by rw [HER.out]; simp
    have hee2 : decide ((er : Int) = er2) = true := by rw [HER.out]; simp
    go_region_held3 (fun W => W.cell? ⟨ga, 0, none⟩ = some (.int .i64 z) ∧ W.cell? ⟨ga, 1, none⟩ = some (.slice a5 q.length c5) ∧ W.cell? ⟨gc, 0, none⟩ = some (.int .i64 z) ∧ W.cell? ⟨gc, 1, none⟩ = some (.slice a7 q.length c7) ∧ Below w8.heap.size w8 W) (first | exact HK.out _ hqb | exact HK.out _ hqa | exact HK.out _ hq0) (first
      | (go_at_call 12; refine (HP8.out _ hq0).mono ?_; rintro e w9 ⟨pu, rfl, hpu, hb9⟩; have hqa : Below w8.heap.size w8 w9 := hq0.trans (hb9.mono hq0.size))
      | (go_at_call 11; refine (HS8.out _ _ hpu hqa).mono ?_; rintro e w10 ⟨rfl, hb10⟩; have hqb : Below w8.heap.size w8 w10 := hqa.trans (hb10.mono hqa.size)))
    all_goals
      go_wp2_with fail
      go_meet
      exact ⟨by first | rfl | simp, hqb⟩
  obtain ⟨rfl, hbc⟩ := hcut
  have hBc := hB8.trans (hbc.mono hB8.size)
  have HA2 := Lib.hid (hA9.out _ hBc)
  clear HK HP8 HS8 hq0 x0 x1 x2 x3 hA9
  by_cases he : er = 0
  · subst he
    have he2 : er2 = 0 := HER.out
    subst he2
    have hE : (S s).extract (s.length - r.length) s.length = S r := by rw [dropS1, HR1.out rfl]
    have hle : ((s.length - r.length : Nat) : Int) ≤ (s.length : Int) := by omega
    have hge : (0 : Int) ≤ ((s.length - r.length : Nat) : Int) := by omega
    have hpl : pl = s.length - r.length := by rw [HPL.out, if_pos rfl]
    rw [← hpl] at hE hle hge
    clear hpl HPL
    go_wp2_with fail
    refine HA2.out.mono ?_
    rintro e w11 ⟨rfl, hb11⟩
    go_wp2_with fail
    go_ret
    exact ⟨rfl, hBc.trans (hb11.mono hBc.size)⟩
  · have hr0 := HR2.out he
    subst hr0
    have heI : (er2 != 0) = true := by rw [HER.out]; simpa using he
    go_wp2_with fail
    refine HA2.out.mono ?_
    rintro e w11 ⟨rfl, hb11⟩
    go_wp2_with fail
    go_ret
    exact ⟨rfl, hBc.trans (hb11.mono hBc.size)⟩
theorem lawTexts40 (size : Int) (l : Pcs) (v : Value) (s : ByteArray) (w : World) (hv : PieV w v l) (hs : s.size ≤ maxLen) (hT : TB w.heap.size w) :
    Calls Tryd.prog 6 #[.agg #[.int .i64 size, v], .string s] w fun e w' => e = .returned (.bool true) ∧ Below w.heap.size w w' := by
  unfold maxLen at hs
  by_cases h : 20 < l.length ∨ 400 < s.size
  · exact texts_awake size l v s w hv hT hs h
  · have h2 : s.data.toList.length ≤ 400 := by rw [size_len]; omega
    exact texts_main size l v s.data.toList w hv hT (by omega) h2
end Go.Proofs.YtnemjfojlgjkfaaDoor
