/- sparse.Map.Cut, walked. -/
import Derived.Test.YtnemjfojlgjkfaaDoorShrB
import Derived.Test.YtnemjfojlgjkfaaDoorShrC
import Derived.Test.YtnemjfojlgjkfaaDoorLabel
import Derived.RegionTactic
import Derived.Outline
namespace Go.Proofs.YtnemjfojlgjkfaaDoor
open Go.RowKit

set_option maxRecDepth 100000 in
set_option maxHeartbeats 4000000 in
theorem mCut_any (size : Int) (l : Pcs) (v : Value) (f t : Int) (w : World) (hv : PieV w v l) (hf0 : -9223372036854775808 ≤ f) (hf1 : f ≤ 9223372036854775807) (ht0 : -9223372036854775808 ≤ t) (ht1 : t ≤ 9223372036854775807) :
    Calls Tryd.prog 15 #[.agg #[.int .i64 size, v], .int .i64 f, .int .i64 t] w (CutPost size l f t w) := by
  have hM0 := MapAt.new w size v
  have hx0 := (Below.refl w.heap.size w).alloc (Nat.le_refl _) (.cells #[.int .i64 size, v] 25)
  have hx1 := hx0.alloc hx0.size (.cells #[.int .i64 0, .slice none 0 0] 25)
  have hV0 := hv.below hx1 (Nat.le_refl _)
  have HR := Lib.hid (Right_any size l v _ hV0)
  have hM1 := hM0.below ((Below.refl _ _).alloc (Nat.le_refl _) (.cells #[.int .i64 0, .slice none 0 0] 25))
  have hM2 : MapAt ((w.alloc (.cells #[.int .i64 size, v] 25)).alloc (.cells #[.int .i64 0, .slice none 0 0] 25)) (w.heap.size + 1) 0 (.slice none 0 0) := by
    have := MapAt.new (w.alloc (.cells #[.int .i64 size, v] 25)) 0 (.slice none 0 0)
    simpa using this
  have m0 := hM1.c0
  have m1 := hM1.c1
  clear hM0
  cases hr : mapB size l
  · have HE := Lib.hid (show CutE size l f t 1 0 [] by unfold CutE; rw [if_pos hr]; exact ⟨rfl, rfl, rfl⟩)
    rw [hr] at HR
    clear hr hV0 hv
    go_enter Tryd.func15, Tryd.ntmps15
    go_wp2_with fail
    generalize (w.alloc (.cells #[.int .i64 size, v] 25)).alloc (.cells #[.int .i64 0, .slice none 0 0] 25) = W at *
    refine scope_l2 0 (fun _ _ => False) (fun _ _ => 0) rfl rfl (fun _ _ h => h.elim) (fun hJ => ?_)
    clear hJ
    go_wp2_with fail
    refine HR.out.mono ?_
    rintro e w1 ⟨rfl, hb1⟩
    have hx2 : Below w.heap.size w w1 := hx1.trans (hb1.mono hx1.size)
    have hM3 := hM2.below hb1
    have b0 := hM3.c0
    have b1 := hM3.c1
    have b2 := hM3.fz 0
    have b3 := hM3.fz 1
    go_wp2_with fail
    refine bodyPost_ret (v := .tuple #[.agg #[.int .i64 0, .slice none 0 0], .int .i64 1]) (by simp [results, Tryd.results15, go_sem, b0, b1]) rfl ?_
    exact CutPost.no ((hx2.setCell (by simp) _).setCell (by simp) _) HE.out
  · rw [hr] at HR
    obtain ⟨g1, g2, g3⟩ := mapB_size hr
    have hmem := mapB_mem hr
    by_cases hbad : f < 0 ∨ t < f ∨ size < t
    · have HE := Lib.hid (show CutE size l f t 6 0 [] by unfold CutE; rw [if_neg (by rw [hr]; decide), if_pos hbad]; exact ⟨rfl, rfl, rfl⟩)
      clear hr hV0 hv hmem
      go_enter Tryd.func15, Tryd.ntmps15
      go_wp2_with fail
      generalize (w.alloc (.cells #[.int .i64 size, v] 25)).alloc (.cells #[.int .i64 0, .slice none 0 0] 25) = W at *
      refine scope_l2 0 (fun _ _ => False) (fun _ _ => 0) rfl rfl (fun _ _ h => h.elim) (fun hJ => ?_)
      clear hJ
      go_wp2_with fail
      refine HR.out.mono ?_
      rintro e w1 ⟨rfl, hb1⟩
      have hx2 : Below w.heap.size w w1 := hx1.trans (hb1.mono hx1.size)
      have hM3 := hM2.below hb1
      have b0 := hM3.c0
      have b1 := hM3.c1
      have b2 := hM3.fz 0
      have b3 := hM3.fz 1
      have c0 := (hb1.cell (p := ⟨w.heap.size, 0, none⟩) hM1.lt).trans m0
      go_wp2_with fail
      all_goals
        refine bodyPost_ret (v := .tuple #[.agg #[.int .i64 0, .slice none 0 0], .int .i64 6]) (by simp [results, Tryd.results15, go_sem, b0, b1]) rfl ?_
        exact CutPost.no ((hx2.setCell (by simp) _).setCell (by simp) _) HE.out
    · obtain ⟨q1, q2, q3⟩ : 0 ≤ f ∧ f ≤ t ∧ t ≤ size := by omega
      go_enter Tryd.func15, Tryd.ntmps15
      go_wp2_with fail
      generalize (w.alloc (.cells #[.int .i64 size, v] 25)).alloc (.cells #[.int .i64 0, .slice none 0 0] 25) = W at *
      refine scope_l2 0 (fun _ _ => False) (fun _ _ => 0) rfl rfl (fun _ _ h => h.elim) (fun hJ => ?_)
      clear hJ
      go_wp2_with fail
      refine HR.out.mono ?_
      rintro e w1 ⟨rfl, hb1⟩
      have hx2 : Below w.heap.size w w1 := hx1.trans (hb1.mono hx1.size)
      have hM3 := hM2.below hb1
      have c0 := (hb1.cell (p := ⟨w.heap.size, 0, none⟩) hM1.lt).trans m0
      have c1 := (hb1.cell (p := ⟨w.heap.size, 1, none⟩) hM1.lt).trans m1
      go_wp2_with fail
      have hM4 := hM3.below ((Below.refl _ _).alloc (Nat.le_refl _) (.cells #[.int .i64 (t - f), .slice none 0 0] 25))
      have hM5 := MapAt.new w1 (t - f) (.slice none 0 0)
      have hx3 : Below w.heap.size w (w1.alloc (.cells #[.int .i64 (t - f), .slice none 0 0] 25)) := hx2.alloc hx2.size _
      have hV1 := hV0.below (hb1.alloc hb1.size (.cells #[.int .i64 (t - f), .slice none 0 0] 25)) (Nat.le_refl _)
      have hM6 := (hM1.below hb1).below ((Below.refl _ _).alloc (Nat.le_refl _) (.cells #[.int .i64 (t - f), .slice none 0 0] 25))
      have hgz : w1.heap.size < (w1.alloc (.cells #[.int .i64 (t - f), .slice none 0 0] 25)).heap.size := by simp
      have hg6 := hM3.lt
      have c2 := hM6.c1
      clear HR c0 c1 m0 m1 hM1 hM2 hM3 hV0 hM6
      generalize w1.alloc (.cells #[.int .i64 (t - f), .slice none 0 0] 25) = w2 at *
      generalize w1.heap.size = g8 at *
      try refine wp_label ?_
      have hown0 : OwnQ w2 (g8 + 1) (.slice none 0 0) (cutL f t (l.take 0)) := OwnR.nil _ _ _ _ _
      clear hV1 hb1 hx2 hx0 hx1
      obtain ⟨a, c, rfl, hcell⟩ := hv
      go_wp2_with fail
      go_loopw [40] (fun v40 wr => ∃ (k : Nat) (vq : Value), v40 = .int .i64 k ∧ k ≤ l.length ∧ OwnQ wr (g8 + 1) vq (cutL f t (l.take k)) ∧ MapAt wr g8 (t - f) vq ∧ MapAt wr (w.heap.size + 1) 0 (.slice none 0 0) ∧ Below w.heap.size w wr ∧ w2.heap.size ≤ wr.heap.size) (fun v40 _ => l.length - (intOf v40).toNat)
      case atStart => exact ⟨0, _, rfl, Nat.zero_le _, hown0, hM5, hM4, hx3, Nat.le_refl _⟩
      case round =>
        obtain ⟨k, vq, rfl, hk, hown, hM8, hM9, hb, hz2⟩ := hrel
        clear hown0 hM5 hM4 hx3
        by_cases hlt : k < l.length
        · obtain ⟨b, off, rfl, hbl, hcl⟩ := hcell (by omega)
          have hkI : (k : Int) < (l.length : Int) := by omega
          have hd := cutL_take f t l k hlt
          have hy0 := (hb.cell (p := ⟨b, off + k * 2, none⟩) hbl).trans (hcl k hlt).1
          have hy1 := (hb.cell (p := ⟨b, off + k * 2 + 1, none⟩) hbl).trans (hcl k hlt).2
          obtain ⟨hp, hq, hpq⟩ := hmem l[k] (List.getElem_mem hlt)
          have hlen := cutL_len f t (l.take k)
          rw [List.length_take] at hlen
          generalize l[k].1 = x at *
          generalize l[k].2 = y at *
          have HD := Lib.hid hd
          clear hd hcl hcell
          generalize cutL f t (l.take k) = q at *
          have hown2 := hown.alloc (.cells #[.int .i64 x, .int .i64 y] 57)
          have hb2 := hb.alloc hb.size (.cells #[.int .i64 x, .int .i64 y] 57)
          have hN8 := hM8.below ((Below.refl _ _).alloc (Nat.le_refl _) (.cells #[.int .i64 x, .int .i64 y] 57))
          have hN9 := hM9.below ((Below.refl _ _).alloc (Nat.le_refl _) (.cells #[.int .i64 x, .int .i64 y] 57))
          have hzw : w2.heap.size ≤ (wr.alloc (.cells #[.int .i64 x, .int .i64 y] 57)).heap.size := by simp; omega
          have p0 : (wr.alloc (.cells #[.int .i64 x, .int .i64 y] 57)).cell? ⟨wr.heap.size, 0, none⟩ = some (.int .i64 x) := by simp
          have p1 : (wr.alloc (.cells #[.int .i64 x, .int .i64 y] 57)).cell? ⟨wr.heap.size, 1, none⟩ = some (.int .i64 y) := by simp
          go_upto_region 9 with fail
          generalize wr.alloc (.cells #[.int .i64 x, .int .i64 y] 57) = w3 at *
          have eA : (if x < f then f else x) = max x f := by split <;> omega
          have eB : (if t < x + y then t else x + y) = min (x + y) t := by split <;> omega
          have EA := Lib.hid eA
          have EB := Lib.hid eB
          have hA0 : f ≤ max x f := by omega
          have hA1 : max x f ≤ 1099511627776 := by omega
          have hB0 : 0 ≤ min (x + y) t := by omega
          have hB1 : min (x + y) t ≤ t := by omega
          clear eA eB
          go_quiet (fail)
          have hD : Below w3.heap.size w3 (w3.drewN nq) := belowDrewN (Below.refl _ _)
          have hown3 := hown2.below hD (Nat.le_refl _)
          have hN8' := hN8.below hD
          have hN9' := hN9.below hD
          have hb3 := hb2.trans (hD.mono hb2.size)
          have hz3 := hD.size
          generalize w3.drewN nq = w4 at *
          simp only [EA.out, EB.out]
          clear EA EB
          generalize max x f = A at *
          generalize min (x + y) t = B at *
          by_cases hc : B ≤ A
          · have HN := Lib.hid (HD.out.trans (if_pos hc))
            clear HD
            go_wp2_with fail
            go_roundw
            case rel => exact ⟨k + 1, vq, by go_num, by omega, by rw [HN.out]; exact hown3, hN8', hN9', hb3, by omega⟩
            case measure => simp [intOf]; omega
          · have HN := Lib.hid (HD.out.trans (if_neg hc))
            have hc2 : A < B := by omega
            have d0 := hN8'.c1
            have d1 := hN8'.fz 1
            have hsep : SepG g8 vq := fun e => by have := (World.ownsRow.lt hown3 _ e.symm).1; omega
            have hql : q.length ≤ 1000000000 := by omega
            clear HD hc
            obtain ⟨va, vc, rfl⟩ := hown3.shape
            go_wp2_with (at_builtin; go_must (refine app_pie rfl _ _ rfl (g8 + 1) (.slice va q.length vc) q (A - f, B - A) _ rfl rfl hown3 rfl hql (by omega) ?_); intro v6 w6 hown6 hb6 hg6; have hN8'' := hN8'.grew hg6 hsep; obtain ⟨vb, vd, rfl⟩ := hown6.shape; have e1 := hN8''.c1; have e2 := hN8''.fz 1)
            have hsep6 : SepG g8 (.slice vb (q ++ [(A - f, B - A)]).length vd) := fun e => by have := (World.ownsRow.lt hown6 _ e.symm).1; omega
            have hN96 := hN9'.under hb6 (by omega)
            have hL : (q ++ [(A - f, B - A)]).length = q.length + 1 := by simp
            rw [hL] at hown6 hsep6
            go_roundw
            case rel => exact ⟨k + 1, _, by go_num, by omega, by rw [HN.out]; exact hown6.setOther _ _ _ hsep6, hN8''.put _, hN96.setOther _ _ _ (by omega), (hb3.trans (hb6.mono (by omega))).setCell (by simp; omega) _, by simp; have := hb6.size; omega⟩
            case measure => simp [intOf]; omega
        · have hk2 : k = l.length := by omega
          subst hk2
          rw [List.take_length] at hown
          have hPV := PieV.ofRows (hown.rows pc_len)
          have HE := Lib.hid (show CutE size l f t 0 (t - f) (cutL f t l) by unfold CutE; rw [if_neg (by rw [hr]; decide), if_neg hbad]; exact ⟨rfl, rfl, rfl⟩)
          have d0 := hM8.c0
          have d1 := hM8.c1
          have b0 := hM9.c0
          have b1 := hM9.c1
          have b2 := hM9.fz 0
          have b3 := hM9.fz 1
          obtain ⟨va, vc, rfl⟩ := hown.shape
          go_wp2_with fail
          refine bodyPost_ret (v := .tuple #[.agg #[.int .i64 (t - f), .slice va (cutL f t l).length vc], .int .i64 0]) (by simp [results, Tryd.results15, go_sem, b0, b1]) rfl ?_
          exact ⟨_, _, _, _, rfl, ((hown.setOther _ _ _ (fun e => by have := (World.ownsRow.lt hown _ e.symm).1; omega)).setOther _ _ _ (fun e => by have := (World.ownsRow.lt hown _ e.symm).1; omega)).pieV, (hb.setCell (by simp) _).setCell (by simp) _, HE.out⟩
end Go.Proofs.YtnemjfojlgjkfaaDoor
