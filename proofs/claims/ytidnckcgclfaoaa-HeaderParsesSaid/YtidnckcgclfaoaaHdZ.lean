/- The law HeaderParses, walked. -/
import Derived.Test.YtidnckcgclfaoaaHdY
import Derived.Test.YtidnckcgclfaoaaHdW
namespace Go.Proofs.Ytidnckcgclfaoaa
open Go.RowKit

set_option maxRecDepth 100000 in
set_option maxHeartbeats 8000000 in
theorem lawParses05 (h : HeadL) (spots : List (Nat × List UInt8)) (v : Value) (sl : Bool) (raw : List UInt8) (w : World) (hs : shortH h 140737488355328) (_hw : wfH h) (hv : SpotsV w v spots) (hp : ∀ p ∈ spots, p.1 < 65536 ∧ p.2.length ≤ 140737488355328) (hr : raw.length ≤ 140737488355328) :
    Calls Try.prog 3 #[HV h, v, .bool sl, .string (S raw)] w fun e w' => e = .returned (.bool true) ∧ Below w.heap.size w w' := by
  obtain ⟨w1, hw1⟩ : ∃ w1, w1 = w.alloc (.cells (HC h).toArray 23) := ⟨_, rfl⟩
  have HH1 : Hid (HAt w1 w.heap.size h) := Lib.hid (by rw [hw1]; exact AtB.new w _ (HC h))
  have HX1 : Hid (Below w.heap.size w w1) := Lib.hid (by rw [hw1]; exact (Below.refl _ _).alloc (Nat.le_refl _) _)
  have HW := Lib.hid hw1
  have HAW := Lib.hid awake05
  have HRF := Lib.hid (fun w => rFits_any h w hs)
  have HSV := Lib.hid hv
  have HSP := Lib.hid hp
  obtain ⟨a, c, rfl, _⟩ := hv
  rw [HV_eq]
  by_cases hbig : 600 < raw.length
  · have hbI : (raw.length : Int) > 600 := by omega
    clear hw1 hbig hs hp hr
    go_enter Try.func3, Try.ntmps3
    go_upto_region 1 with fail
    rw [← HW.out]
    go_wp2_with fail
    refine (HAW.out _).mono ?_
    rintro e w2 ⟨rfl, hb2⟩
    go_wp2_with fail
    go_ret
    exact ⟨rfl, HX1.out.trans (hb2.mono HX1.out.size)⟩
  have hbI : ¬ (raw.length : Int) > 600 := by omega
  by_cases hbig2 : 20 < spots.length
  · have hbI2 : (spots.length : Int) > 20 := by omega
    clear hw1 hbig hs hp hr hbig2
    go_enter Try.func3, Try.ntmps3
    go_upto_region 1 with fail
    rw [← HW.out]
    go_wp2_with fail
    refine (HAW.out _).mono ?_
    rintro e w2 ⟨rfl, hb2⟩
    go_wp2_with fail
    go_ret
    exact ⟨rfl, HX1.out.trans (hb2.mono HX1.out.size)⟩
  have hbI2 : ¬ (spots.length : Int) > 20 := by omega
  have HPA := Lib.hid (fun w => hParse_any raw w (by omega))
  have HPR := Lib.hid (fun w => rParseH_any raw w)
  generalize parseN raw = P at *
  obtain ⟨H1, e1⟩ := P
  have hee : ((e1 : Int) != (e1 : Int)) = false := by simp
  have HSN := Lib.hid (show spots.length ≤ 1000 by omega)
  clear hw1 hbig hbig2 hs hp hr
  go_enter Try.func3, Try.ntmps3
  go_upto_region 1 with fail
  rw [← HW.out]
  clear HW
  go_wp2_with fail
  refine (HPA.out _).mono ?_
  rintro e w2 ⟨rfl, hb2⟩
  have HX2 := Lib.hid (HX1.out.trans (hb2.mono HX1.out.size))
  have HH2 := Lib.hid (HH1.out.under hb2 HH1.out.lt)
  have HX3 : Hid (Below w.heap.size w (w2.alloc (.cells (HC H1).toArray 23))) := Lib.hid (HX2.out.alloc HX2.out.size _)
  have HH3 : Hid (HAt (w2.alloc (.cells (HC H1).toArray 23)) w.heap.size h) := Lib.hid (AtB.alloc HH2.out _)
  have HP3 : Hid (HAt (w2.alloc (.cells (HC H1).toArray 23)) w2.heap.size H1) := Lib.hid (AtB.new w2 _ (HC H1))
  have hl2 : w.heap.size < w2.heap.size := HH2.out.lt
  clear HX1 HH1 hb2 HX2 HH2 HPA
  go_wp2_with (refine app_storeAll rfl _ _ _ rfl (HC noneH).toArray (HC H1).toArray rfl rfl info_head rfl (HC_one _) ?_; generalize w2.alloc (.cells (HC H1).toArray 23) = W3 at *; generalize w2.heap.size = g1 at *)
  refine (HPR.out _).mono ?_
  rintro e w4 ⟨rfl, hb4⟩
  have HX4 := Lib.hid (HX3.out.trans (hb4.mono HX3.out.size))
  have HH4 := Lib.hid (HH3.out.under hb4 HH3.out.lt)
  have HP4 := Lib.hid (HP3.out.under hb4 HP3.out.lt)
  have HX5 : Hid (Below w.heap.size w (w4.alloc (.cells (HC H1).toArray 23))) := Lib.hid (HX4.out.alloc HX4.out.size _)
  have HH5 : Hid (HAt (w4.alloc (.cells (HC H1).toArray 23)) w.heap.size h) := Lib.hid (AtB.alloc HH4.out _)
  have HP5 : Hid (HAt (w4.alloc (.cells (HC H1).toArray 23)) g1 H1) := Lib.hid (AtB.alloc HP4.out _)
  have HQ5 : Hid (HAt (w4.alloc (.cells (HC H1).toArray 23)) w4.heap.size H1) := Lib.hid (AtB.new w4 _ (HC H1))
  have hl4 : g1 < w4.heap.size := HP4.out.lt
  clear HX3 HH3 HP3 hb4 HX4 HH4 HP4 HPR
  go_wp2_with (first | (refine app_storeAll rfl _ _ _ rfl (HC noneH).toArray (HC H1).toArray rfl rfl info_head rfl (HC_one _) ?_; generalize w4.alloc (.cells (HC H1).toArray 23) = W5 at *; generalize w4.heap.size = g2 at *) | (refine hl_load rfl _ rfl g1 rfl H1 HP5.out ?_) | (refine hl_load rfl _ rfl g2 rfl H1 HQ5.out ?_) | (refine hl_load rfl _ rfl w.heap.size rfl h HH5.out ?_))
  refine (HRF.out _).mono ?_
  rintro e w6 ⟨rfl, hb6⟩
  have HX6 := Lib.hid (HX5.out.trans (hb6.mono HX5.out.size))
  have HH6 := Lib.hid (HH5.out.under hb6 HH5.out.lt)
  have HP6 := Lib.hid (HP5.out.under hb6 HP5.out.lt)
  have HQ6 := Lib.hid (HQ5.out.under hb6 HQ5.out.lt)
  clear HX5 HH5 HP5 HQ5 hb6 HRF hee
  by_cases hf : fitsN h = 0
  rotate_left
  · have hfb : ((fitsN h : Int) != 0) = true := bne_iff_ne.2 (by omega)
    go_wp2_with fail
    refine (HAW.out _).mono ?_
    rintro e w7 ⟨rfl, hb7⟩
    go_wp2_with fail
    go_ret
    exact ⟨rfl, HX6.out.trans (hb7.mono HX6.out.size)⟩
  have HRB := Lib.hid (fun w => rBuild_any h w hf)
  have HBL := Lib.hid (build_fields h hf).len
  have hfb : ((fitsN h : Int) != 0) = false := by rw [hf]; rfl
  generalize buildN h = B at *
  clear hf
  go_wp2_with (refine hl_load rfl _ rfl w.heap.size rfl h HH6.out ?_)
  refine (HRB.out _).mono ?_
  rintro e w7 ⟨rfl, hb7⟩
  have HX7 := Lib.hid (HX6.out.trans (hb7.mono HX6.out.size))
  have HP7 := Lib.hid (HP6.out.under hb7 HP6.out.lt)
  have HQ7 := Lib.hid (HQ6.out.under hb7 HQ6.out.lt)
  have HSV7 := Lib.hid (RowsV.below HSV.out HX7.out (Nat.le_refl _))
  clear HX6 HH6 HP6 HQ6 hb7 HRB hfb
  go_wp2_with fail
  refine (spoilt_any B spots _ sl w7 HBL.out HSV7.out HSP.out HSN.out).mono ?_
  rintro e w8 ⟨t, htl, rfl, hb8⟩
  have HX8 := Lib.hid (HX7.out.trans (hb8.mono HX7.out.size))
  have HP8 := Lib.hid (HP7.out.under hb8 HP7.out.lt)
  have HQ8 := Lib.hid (HQ7.out.under hb8 HQ7.out.lt)
  have HPA := Lib.hid (fun w => hParse_any t w (by omega))
  have HPR := Lib.hid (fun w => rParseH_any t w)
  generalize parseN t = P at *
  obtain ⟨H2, e2⟩ := P
  have hee : ((e2 : Int) == (e2 : Int)) = true := by simp
  clear HX7 HP7 HQ7 HSV7 hb8 htl
  go_wp2_with fail
  refine (HPA.out _).mono ?_
  rintro e w9 ⟨rfl, hb9⟩
  have HX9 := Lib.hid (HX8.out.trans (hb9.mono HX8.out.size))
  have HP9 := Lib.hid (HP8.out.under hb9 HP8.out.lt)
  have HQ9 := Lib.hid (HQ8.out.under hb9 HQ8.out.lt)
  clear HX8 HP8 HQ8 hb9 HPA
  go_wp2_with (refine hl_store rfl _ _ rfl g1 rfl H1 H2 HP9.out rfl w.heap.size w HX9.out (by omega) ?_; intro wa hA hB hk; have HPa := Lib.hid hA; have HXa := Lib.hid hB; have HQa := Lib.hid (HQ9.out.same (hk _ (by omega))); clear hA hB hk)
  refine (HPR.out _).mono ?_
  rintro e wb ⟨rfl, hbb⟩
  have HXb := Lib.hid (HXa.out.trans (hbb.mono HXa.out.size))
  have HPb := Lib.hid (HPa.out.under hbb HPa.out.lt)
  have HQb := Lib.hid (HQa.out.under hbb HQa.out.lt)
  clear HX9 HP9 HQ9 HXa HPa HQa hbb HPR
  go_wp2_with (first | (refine hl_store rfl _ _ rfl g2 rfl H1 H2 HQb.out rfl w.heap.size w HXb.out (by omega) ?_; intro wd hA hB hk; have HQd := Lib.hid hA; have HXd := Lib.hid hB; have HPd := Lib.hid (HPb.out.same (hk _ (by omega))); clear hA hB hk) | (refine hl_load rfl _ rfl g1 rfl H2 HPd.out ?_) | (refine hl_load rfl _ rfl g2 rfl H2 HQd.out ?_))
  refine (HAW.out _).mono ?_
  rintro e we ⟨rfl, hbe⟩
  go_wp2_with fail
  go_ret
  exact ⟨rfl, HXd.out.trans (hbe.mono HXd.out.size)⟩
end Go.Proofs.Ytidnckcgclfaoaa
