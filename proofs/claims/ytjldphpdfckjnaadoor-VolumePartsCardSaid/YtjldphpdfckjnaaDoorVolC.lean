/- Volumes: volume.Read, walked. -/
import Derived.Test.YtjldphpdfckjnaaDoorVolB
import Derived.Test.YtjldphpdfckjnaaDoorRowAt
import Derived.Test.YtjldphpdfckjnaaDoorHdJ
import Derived.Test.YtjldphpdfckjnaaDoorHdT
import Derived.BigQuiet
namespace Go.Proofs.YtjldphpdfckjnaaDoor
open Go.RowKit

def LC (x : LabL) : List Value := [.int .i64 x.num, .int .i64 x.cnt, .int .i64 x.size, .int .i64 x.sum]
theorem LabV_eq (x : LabL) : LabV x = .agg (LC x).toArray := rfl
theorem LC_one (x : LabL) : (LC x).toArray.all (·.oneCell') = true := by simp [LC, Value.oneCell']
theorem chainB {w0 u v : World} {B : Nat} (h : Below B w0 u) (k : Below u.heap.size u v) (hB : B ≤ u.heap.size) : Below B w0 v := h.trans (k.mono hB)
theorem info_lab : (Tryd.prog.info? 31).map (·.size) = some 4 := by kernel_rfl
set_option maxRecDepth 100000 in
set_option maxHeartbeats 8000000 in
theorem vRead_any (v : List UInt8) (hv : v.length ≤ 1000000) (w : World) :
    Calls Tryd.prog 11 #[.string (S v)] w fun e w' => e = .returned (.tuple #[LabV (readV v).1, .string (S (readV v).2.1), .int .i64 (readV v).2.2]) ∧ Below w.heap.size w w' := by
  have hR0 : AtB (w.alloc (.cells #[.int .i64 0, .int .i64 0, .int .i64 0, .int .i64 0] 31)) w.heap.size 31 (LC noneL) := AtB.new w _ (LC noneL)
  have hx0 : Below w.heap.size w (w.alloc (.cells #[.int .i64 0, .int .i64 0, .int .i64 0, .int .i64 0] 31)) := (Below.refl _ _).alloc (Nat.le_refl _) _
  by_cases h0 : v.length < 512
  · have HF : Hid (readV v = (noneL, [], 3)) := Lib.hid (by unfold readV; rw [if_pos h0])
    have h0I : (v.length : Int) < 512 := by omega
    clear h0
    go_enter Tryd.func11, Tryd.ntmps11
    go_wp2_with (first | (refine rw_store rfl _ _ rfl _ rfl (LC noneL) (LC noneL) hR0 rfl info_lab rfl (LC_one _) _ w hx0 (Nat.le_refl _) ?_; intro w9 hR9 hb9 hk9))
    refine bodyPost_ret (results_rw3 Tryd.underlying31 rfl _ _ _ (LC noneL) rfl hR9 info_lab) rfl ⟨by rw [HF.out]; rfl, hb9⟩
  have h0I : ¬ (v.length : Int) < 512 := by omega
  have h0J : (512 : Int) ≤ (v.length : Int) := by omega
  have HF : Hid (readV v = (if (parseN (v.take 512)).2 ≠ 0 then (noneL, [], (parseN (v.take 512)).2) else if (parseN (v.take 512)).1.kind ≠ 86 ∨ (parseN (v.take 512)).1.name ≠ volN then (noneL, [], 5) else if (parseN (v.take 512)).1.gid = 0 ∨ (parseN (v.take 512)).1.gid ≤ (parseN (v.take 512)).1.uid then (noneL, [], 6) else if (unpF (v.drop 512) (parseN (v.take 512)).1.size).2 ≠ 0 then (noneL, [], (unpF (v.drop 512) (parseN (v.take 512)).1.size).2) else if (sumB (unpF (v.drop 512) (parseN (v.take 512)).1.size).1 : Int) ≠ (parseN (v.take 512)).1.time then (noneL, [], 4) else (⟨(parseN (v.take 512)).1.uid, (parseN (v.take 512)).1.gid, (parseN (v.take 512)).1.size, (parseN (v.take 512)).1.time⟩, (unpF (v.drop 512) (parseN (v.take 512)).1.size).1, 0))) := Lib.hid (by unfold readV; rw [if_neg h0])
  have e1 := take_S v 512
  have e2 := ext_from v 512
  have hdl : (v.drop 512).length ≤ 1000000 := by rw [List.length_drop]; omega
  have htk : (v.take 512).length ≤ 1000000 := by rw [List.length_take]; omega
  generalize v.take 512 = tk at *
  generalize v.drop 512 = d at *
  have HPA := Lib.hid (fun w => hParse_any tk w htk)
  have HUN := Lib.hid (fun n w => Unpad_any d hdl n w)
  generalize parseN tk = P at *
  obtain ⟨H1, c1⟩ := P
  clear h0 htk
  go_enter Tryd.func11, Tryd.ntmps11
  go_wp2_with fail
  refine (HPA.out _).mono ?_
  rintro e w2 ⟨rfl, hb2⟩
  have hR2 : AtB w2 w.heap.size 31 (LC noneL) := hR0.under hb2 (by simp)
  have hx2 : Below w.heap.size w w2 := hx0.trans (hb2.mono hx0.size)
  clear hR0 hx0 hb2 HPA
  have HP3 : HAt (w2.alloc (.cells (HC H1).toArray 68)) w2.heap.size H1 := AtB.new w2 _ (HC H1)
  have hR3 : AtB (w2.alloc (.cells (HC H1).toArray 68)) w.heap.size 31 (LC noneL) := hR2.alloc _
  have hx3 : Below w.heap.size w (w2.alloc (.cells (HC H1).toArray 68)) := hx2.alloc hx2.size _
  have hl2 : w.heap.size < w2.heap.size := hR2.lt
  clear hR2 hx2
  by_cases he : c1 = 0
  rotate_left
  · have hfb : ((c1 : Int) != 0) = true := bne_iff_ne.2 (by omega)
    replace HF : Hid (readV v = (noneL, [], c1)) := Lib.hid (by rw [HF.out, if_pos he])
    clear he
    go_wp2_with (first | (refine app_storeAll rfl _ _ _ rfl (HC noneH).toArray (HC H1).toArray rfl rfl info_head rfl (HC_one _) ?_; generalize (w2.alloc (.cells (HC H1).toArray 68)) = W3 at *; generalize w2.heap.size = g1 at *) | (refine rw_store rfl _ _ rfl _ rfl (LC noneL) (LC noneL) hR3 rfl info_lab rfl (LC_one _) _ w hx3 (Nat.le_refl _) ?_; intro w9 hR9 hb9 hk9))
    refine bodyPost_ret (results_rw3 Tryd.underlying31 rfl _ _ _ (LC noneL) rfl hR9 info_lab) rfl ⟨by rw [HF.out]; rfl, hb9⟩
  subst he
  replace HF := Lib.hid (HF.out.trans (if_neg (fun g => g rfl)))
  have hfb : (((0 : Nat) : Int) != 0) = false := rfl
  go_upto_region 6 with (first | (refine app_storeAll rfl _ _ _ rfl (HC noneH).toArray (HC H1).toArray rfl rfl info_head rfl (HC_one _) ?_; generalize (w2.alloc (.cells (HC H1).toArray 68)) = W3 at *; generalize w2.heap.size = g1 at *))
  have c0 : W3.cell? ⟨g1, 0, none⟩ = some (.string (S H1.name)) := HP3.cell 0
  have c2 : W3.cell? ⟨g1, 2, none⟩ = some (.int .u8 H1.kind.toNat) := HP3.cell 2
  by_cases hk : H1.kind = 86
  rotate_left
  · replace HF : Hid (readV v = (noneL, [], 5)) := Lib.hid (HF.out.trans (if_pos (.inl hk)))
    have hkb := byte_bne _ _ 86 rfl hk
    clear hk
    go_wp2_with (first | (refine rw_store rfl _ _ rfl _ rfl (LC noneL) (LC noneL) hR3 rfl info_lab rfl (LC_one _) _ w hx3 (Nat.le_refl _) ?_; intro w9 hR9 hb9 hk9))
    refine bodyPost_ret (results_rw3 Tryd.underlying31 rfl _ _ _ (LC noneL) rfl hR9 info_lab) rfl ⟨by rw [HF.out]; rfl, hb9⟩
  have hkb := byte_bne' _ _ 86 rfl hk
  by_cases hn : H1.name = volN
  rotate_left
  · replace HF : Hid (readV v = (noneL, [], 5)) := Lib.hid (HF.out.trans (if_pos (.inr hn)))
    have hnb : (H1.name != [118, 111, 108, 117, 109, 101]) = true := bne_iff_ne.2 hn
    have hnb2 : (H1.name == [118, 111, 108, 117, 109, 101]) = false := beq_eq_false_iff_ne.2 hn
    clear hk hn
    go_wp2_with (first | (refine rw_store rfl _ _ rfl _ rfl (LC noneL) (LC noneL) hR3 rfl info_lab rfl (LC_one _) _ w hx3 (Nat.le_refl _) ?_; intro w9 hR9 hb9 hk9))
    refine bodyPost_ret (results_rw3 Tryd.underlying31 rfl _ _ _ (LC noneL) rfl hR9 info_lab) rfl ⟨by rw [HF.out]; rfl, hb9⟩
  replace HF := Lib.hid (HF.out.trans (if_neg (fun g => g.elim (fun g => g hk) (fun g => g hn))))
  rw [hn] at c0
  have c4 : W3.cell? ⟨g1, 4, none⟩ = some (.int .i64 H1.uid) := HP3.cell 4
  have c5 : W3.cell? ⟨g1, 5, none⟩ = some (.int .i64 H1.gid) := HP3.cell 5
  have c6 : W3.cell? ⟨g1, 6, none⟩ = some (.int .i64 H1.size) := HP3.cell 6
  have c7 : W3.cell? ⟨g1, 7, none⟩ = some (.int .i64 H1.time) := HP3.cell 7
  unfold volN at c0
  clear hk hn HP3
  generalize H1.kind = kd at *
  generalize H1.uid = ui at *
  generalize H1.gid = gi at *
  generalize H1.size = sz at *
  generalize H1.time = ti at *
  by_cases hg0 : gi = 0
  · replace HF : Hid (readV v = (noneL, [], 6)) := Lib.hid (HF.out.trans (if_pos (.inl hg0)))
    have hgb : (gi == 0) = true := by rw [hg0]; rfl
    clear hg0
    go_wp2_with (first | (refine rw_store rfl _ _ rfl _ rfl (LC noneL) (LC noneL) hR3 rfl info_lab rfl (LC_one _) _ w hx3 (Nat.le_refl _) ?_; intro w9 hR9 hb9 hk9))
    refine bodyPost_ret (results_rw3 Tryd.underlying31 rfl _ _ _ (LC noneL) rfl hR9 info_lab) rfl ⟨by rw [HF.out]; rfl, hb9⟩
  have hgb : (gi == 0) = false := beq_eq_false_iff_ne.2 hg0
  by_cases hg1 : gi ≤ ui
  · replace HF : Hid (readV v = (noneL, [], 6)) := Lib.hid (HF.out.trans (if_pos (.inr hg1)))
    clear hg0
    go_wp2_with (first | (refine rw_store rfl _ _ rfl _ rfl (LC noneL) (LC noneL) hR3 rfl info_lab rfl (LC_one _) _ w hx3 (Nat.le_refl _) ?_; intro w9 hR9 hb9 hk9))
    refine bodyPost_ret (results_rw3 Tryd.underlying31 rfl _ _ _ (LC noneL) rfl hR9 info_lab) rfl ⟨by rw [HF.out]; rfl, hb9⟩
  replace HF := Lib.hid (HF.out.trans (if_neg (fun g => g.elim (fun g => hg0 g) (fun g => hg1 g))))
  have hg2 : ui < gi := by omega
  clear hg0 hg1
  have hul := unp_len d sz
  replace HUN := Lib.hid (fun w => HUN.out sz w)
  unfold unpV at HUN
  generalize unpF d sz = U at *
  obtain ⟨u, ce⟩ := U
  have hul : u.length ≤ 1000000 := Nat.le_trans hul hdl
  have HSU := Lib.hid (fun w => vsum_any u hul w)
  go_upto_region 10 with (fail)
  go_quiet ((go_at_call 29; exact Calls.quiet_of (HUN.out _)))
  have hD : Below W3.heap.size W3 (W3.drewN nq) := belowDrewN (Below.refl _ _)
  have hR4 := hR3.below hD
  have hx4 : Below w.heap.size w (W3.drewN nq) := belowDrewN hx3
  have d4 : (W3.drewN nq).cell? ⟨g1, 4, none⟩ = _ := c4
  have d5 : (W3.drewN nq).cell? ⟨g1, 5, none⟩ = _ := c5
  have d6 : (W3.drewN nq).cell? ⟨g1, 6, none⟩ = _ := c6
  have d7 : (W3.drewN nq).cell? ⟨g1, 7, none⟩ = _ := c7
  clear hD hR3 hx3 c0 c2 c4 c5 c6 c7 HUN hgb hg2 hkb
  generalize W3.drewN nq = W4 at *
  by_cases he : ce = 0
  rotate_left
  · have hcb : ((ce : Int) != 0) = true := bne_iff_ne.2 (by omega)
    replace HF : Hid (readV v = (noneL, [], ce)) := Lib.hid (HF.out.trans (if_pos he))
    clear he
    go_wp2_with (first | (refine rw_store rfl _ _ rfl _ rfl (LC noneL) (LC noneL) hR4 rfl info_lab rfl (LC_one _) _ w hx4 (Nat.le_refl _) ?_; intro w9 hR9 hb9 hk9))
    refine bodyPost_ret (results_rw3 Tryd.underlying31 rfl _ _ _ (LC noneL) rfl hR9 info_lab) rfl ⟨by rw [HF.out]; rfl, hb9⟩
  subst he
  replace HF := Lib.hid (HF.out.trans (if_neg (fun g => g rfl)))
  have hcb : (((0 : Nat) : Int) != 0) = false := rfl
  go_upto_region 13 with (fail)
  go_quiet ((go_at_call 30; exact qsame (HSU.out _)))
  have hD : Below W4.heap.size W4 (W4.drewN nq) := belowDrewN (Below.refl _ _)
  have hR5 := hR4.below hD
  have hx5 : Below w.heap.size w (W4.drewN nq) := belowDrewN hx4
  have f4 : (W4.drewN nq).cell? ⟨g1, 4, none⟩ = _ := d4
  have f5 : (W4.drewN nq).cell? ⟨g1, 5, none⟩ = _ := d5
  have f6 : (W4.drewN nq).cell? ⟨g1, 6, none⟩ = _ := d6
  have f7 : (W4.drewN nq).cell? ⟨g1, 7, none⟩ = _ := d7
  clear hD hR4 hx4 d4 d5 d6 d7 HSU
  generalize W4.drewN nq = W5 at *
  by_cases hs : (sumB u : Int) = ti
  rotate_left
  · have hsb : ((sumB u : Int) != ti) = true := bne_iff_ne.2 hs
    replace HF : Hid (readV v = (noneL, [], 4)) := Lib.hid (HF.out.trans (if_pos hs))
    clear hs
    generalize sumB u = su at *
    go_wp2_with (first | (refine rw_store rfl _ _ rfl _ rfl (LC noneL) (LC noneL) hR5 rfl info_lab rfl (LC_one _) _ w hx5 (Nat.le_refl _) ?_; intro w9 hR9 hb9 hk9))
    refine bodyPost_ret (results_rw3 Tryd.underlying31 rfl _ _ _ (LC noneL) rfl hR9 info_lab) rfl ⟨by rw [HF.out]; rfl, hb9⟩
  have hsb : ((sumB u : Int) != ti) = false := by rw [hs]; simp
  replace HF := Lib.hid (HF.out.trans (if_neg (fun g => g hs)))
  clear hs
  generalize sumB u = su at *
  go_wp2_with (first | (refine rw_store rfl _ _ rfl _ rfl (LC noneL) (LC (⟨ui, gi, sz, ti⟩ : LabL)) hR5 rfl info_lab rfl (LC_one _) _ w hx5 (Nat.le_refl _) ?_; intro w9 hR9 hb9 hk9))
  refine bodyPost_ret (results_rw3 Tryd.underlying31 rfl _ _ _ (LC (⟨ui, gi, sz, ti⟩ : LabL)) rfl hR9 info_lab) rfl ⟨by rw [HF.out]; rfl, hb9⟩
end Go.Proofs.YtjldphpdfckjnaaDoor
