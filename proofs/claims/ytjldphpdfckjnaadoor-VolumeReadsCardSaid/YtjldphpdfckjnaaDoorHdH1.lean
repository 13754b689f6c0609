/- Heads of members: header.Parse, walked, at a block of form 1. -/
import Derived.Test.YtjldphpdfckjnaaDoorHdG
import Derived.Deep.RegionHeld3
namespace Go.Proofs.YtjldphpdfckjnaaDoor
open Go.RowKit

set_option maxRecDepth 100000 in
set_option maxHeartbeats 8000000 in
theorem hParse_f1 (s : List UInt8) (w : World) (hs : s.length = 512) (hr : rightL s = true) (hf : formN (fldL s 257 8) = 1) :
    Calls Tryd.prog 28 #[.string (S s)] w fun e w' => e = .returned (.tuple #[HV (parseN s).1, .int .i64 (parseN s).2]) ∧ Below w.heap.size w w' := by
  have HP : Hid (parseN s = if errN s (rowsN 1) = 0 then (headN s 1, 0) else (noneH, errN s (rowsN 1))) := Lib.hid (by
    unfold parseN; rw [if_neg (not_not_intro hs), if_neg (by rw [hr]; decide), hf, if_neg (by decide)])
  have HEQ : Hid (errN s (rowsN 1) = errR s [1, 2, 3, 4, 5]) := Lib.hid rfl
  have HFH : Hid (headN s 1 = ⟨readT (cutN s 0), readT (cutN s 6), kindN (s.getD 156 0), (numR s 1).1, (numR s 2).1, (numR s 3).1, (numR s 4).1, (numR s 5).1, [], [], 0, 0, 1⟩) := Lib.hid rfl
  have HSR := Lib.hid (fun w => sRight_any s w (by omega))
  rw [hr] at HSR
  have HFM := Lib.hid (fun w => hform_any (fldL s 257 8) w)
  rw [hf] at HFM
  have hext : (S s).extract 257 265 = S (fldL s 257 8) := fld_ext s 257 265
  generalize fldL s 257 8 = M at *
  have h1b : ((s.length : Int) != 512) = false := by rw [hs]; rfl
  have h2I : (257 : Int) ≤ (s.length : Int) := by omega
  have h3I : (265 : Int) ≤ (s.length : Int) := by omega
  have h4I : (156 : Int) < (s.length : Int) := by omega
  have hks : 156 < (S s).size := by rw [S_size]; omega
  have HK : Hid (s.getD 156 0 = (S s)[156]'hks) := Lib.hid (getD_S s 156 hks)
  have HC0 := Lib.hid (fun w => hcut_any s 0 w hs (by decide))
  have HT0 := Lib.hid (fun w => tRead_any (cutN s 0) w (by rw [cut_len s 0 hs]; decide))
  have hl0 : (readT (cutN s 0)).length ≤ 155 := Nat.le_trans (List.takeWhile_sublist _).length_le (by rw [cut_len s 0 hs]; decide)
  have HC6 := Lib.hid (fun w => hcut_any s 6 w hs (by decide))
  have HT6 := Lib.hid (fun w => tRead_any (cutN s 6) w (by rw [cut_len s 6 hs]; decide))
  have hl6 : (readT (cutN s 6)).length ≤ 155 := Nat.le_trans (List.takeWhile_sublist _).length_le (by rw [cut_len s 6 hs]; decide)
  have HHS := Lib.hid hs
  clear hs hr hf
  have HR0 : Hid (HAt (w.alloc (.cells (HC noneH).toArray 68)) w.heap.size noneH) := Lib.hid (AtB.new w _ (HC noneH))
  have HX0 : Hid (Below w.heap.size w (w.alloc (.cells (HC noneH).toArray 68))) := Lib.hid ((Below.refl _ _).alloc (Nat.le_refl _) _)
  go_enter Tryd.func28, Tryd.ntmps28
  go_wp2_with fail
  refine (HSR.out _).mono ?_
  rintro e w1 ⟨rfl, hb1⟩
  have HR1 : Hid (HAt w1 w.heap.size noneH) := Lib.hid (HR0.out.under hb1 (by simp))
  have HX1 : Hid (Below w.heap.size w w1) := Lib.hid (HX0.out.trans (hb1.mono HX0.out.size))
  clear HR0 HX0 hb1 HSR
  go_wp2_with fail
  refine (HFM.out _).mono ?_
  rintro e w2 ⟨rfl, rfl⟩
  clear HFM hext
  have HH3 : Hid (HAt (w1.alloc (.cells (HC (⟨[], [], 0, 0, 0, 0, 0, 0, [], [], 0, 0, 1⟩ : HeadL)).toArray 68)) w1.heap.size (⟨[], [], 0, 0, 0, 0, 0, 0, [], [], 0, 0, 1⟩ : HeadL)) := Lib.hid (AtB.new w1 _ (HC (⟨[], [], 0, 0, 0, 0, 0, 0, [], [], 0, 0, 1⟩ : HeadL)))
  have HR3 : Hid (HAt (w1.alloc (.cells (HC (⟨[], [], 0, 0, 0, 0, 0, 0, [], [], 0, 0, 1⟩ : HeadL)).toArray 68)) w.heap.size noneH) := Lib.hid (AtB.alloc HR1.out _)
  have HX3 : Hid (Below w.heap.size w (w1.alloc (.cells (HC (⟨[], [], 0, 0, 0, 0, 0, 0, [], [], 0, 0, 1⟩ : HeadL)).toArray 68))) := Lib.hid (HX1.out.alloc HX1.out.size _)
  have hgl : w.heap.size < w1.heap.size := HR1.out.lt
  clear HR1 HX1
  go_wp2_with (refine app_storeAll rfl _ _ _ rfl (HC noneH).toArray (HC (⟨[], [], 0, 0, 0, 0, 0, 0, [], [], 0, 0, 1⟩ : HeadL)).toArray rfl rfl info_head rfl (HC_one _) ?_; generalize w1.alloc (.cells (HC (⟨[], [], 0, 0, 0, 0, 0, 0, [], [], 0, 0, 1⟩ : HeadL)).toArray 68) = W at *; generalize w1.heap.size = g at *; have c12 : W.cell? ⟨g, 12, none⟩ = some (.int .i64 1) := (by rw [HH3.out.cell 12]; rfl); have hgW : g < W.heap.size := HH3.out.lt)
  have HRw : Hid (AtB ((W.alloc (.cells #[.int .i64 1, .int .i64 2, .int .i64 3, .int .i64 4, .int .i64 5] 3)).alloc (.cells #[.pointer (some ⟨g, 3, none⟩), .pointer (some ⟨g, 4, none⟩), .pointer (some ⟨g, 5, none⟩), .pointer (some ⟨g, 6, none⟩), .pointer (some ⟨g, 7, none⟩)] 100)) W.heap.size 3 ([1, 2, 3, 4, 5].map fun r => .int .i64 (r : Nat))) := Lib.hid ((AtB.new W 3 ([1, 2, 3, 4, 5].map fun r => .int .i64 (r : Nat))).alloc _)
  have HIn : Hid (AtB ((W.alloc (.cells #[.int .i64 1, .int .i64 2, .int .i64 3, .int .i64 4, .int .i64 5] 3)).alloc (.cells #[.pointer (some ⟨g, 3, none⟩), .pointer (some ⟨g, 4, none⟩), .pointer (some ⟨g, 5, none⟩), .pointer (some ⟨g, 6, none⟩), .pointer (some ⟨g, 7, none⟩)] 100)) (W.heap.size + 1) 100 ([1, 2, 3, 4, 5].map fun r => .pointer (some ⟨g, colOf r, none⟩))) := Lib.hid (by
    have := AtB.new (W.alloc (.cells #[.int .i64 1, .int .i64 2, .int .i64 3, .int .i64 4, .int .i64 5] 3)) 100 ([1, 2, 3, 4, 5].map fun r => .pointer (some ⟨g, colOf r, none⟩))
    rw [World.size_alloc] at this
    exact this)
  have HB4 : Hid (Below W.heap.size W ((W.alloc (.cells #[.int .i64 1, .int .i64 2, .int .i64 3, .int .i64 4, .int .i64 5] 3)).alloc (.cells #[.pointer (some ⟨g, 3, none⟩), .pointer (some ⟨g, 4, none⟩), .pointer (some ⟨g, 5, none⟩), .pointer (some ⟨g, 6, none⟩), .pointer (some ⟨g, 7, none⟩)] 100))) := Lib.hid (((Below.refl _ _).alloc (Nat.le_refl _) _).alloc (by simp) _)
  generalize ((W.alloc (.cells #[.int .i64 1, .int .i64 2, .int .i64 3, .int .i64 4, .int .i64 5] 3)).alloc (.cells #[.pointer (some ⟨g, 3, none⟩), .pointer (some ⟨g, 4, none⟩), .pointer (some ⟨g, 5, none⟩), .pointer (some ⟨g, 6, none⟩), .pointer (some ⟨g, 7, none⟩)] 100)) = W2 at *
  have HH4 := Lib.hid (HH3.out.under HB4.out hgW)
  have HR4 := Lib.hid (HR3.out.under HB4.out (by omega))
  have HX4 := Lib.hid (HX3.out.trans (HB4.out.mono HX3.out.size))
  clear HH3 HR3 HX3 c12
  refine (numbers_any s [1, 2, 3, 4, 5] W.heap.size 5 (W.heap.size + 1) 5 g (⟨[], [], 0, 0, 0, 0, 0, 0, [], [], 0, 0, 1⟩ : HeadL) W2 HHS.out (by intro r hr; simp only [List.mem_cons, List.not_mem_nil, or_false] at hr; unfold rowOk; omega) (by decide) (row_cells (fun r => .int .i64 (r : Nat)) HRw.out) (row_cells (fun r => .pointer (some ⟨g, colOf r, none⟩)) HIn.out) HRw.out.lt HIn.out.lt (by omega) (by omega) HH4.out).mono ?_
  rintro e w3 ⟨rfl, hb3, _, hz⟩
  have HR5 := Lib.hid (HR4.out.under hb3 hgl)
  have HX5 := Lib.hid (HX4.out.trans (hb3.mono (by omega)))
  have HZ := Lib.hid hz
  clear HRw HIn HB4 HH4 HR4 HX4 hb3 hz hgW
  by_cases he : errR s [1, 2, 3, 4, 5] = 0
  rotate_left
  · have heb : ((errR s [1, 2, 3, 4, 5] : Int) != 0) = true := bne_iff_ne.2 (by omega)
    have HFE : Hid (parseN s = (noneH, errR s [1, 2, 3, 4, 5])) := Lib.hid (by rw [HP.out, HEQ.out, if_neg he])
    clear he HZ
    generalize errR s [1, 2, 3, 4, 5] = E at *
    go_wp2_with (refine hl_store rfl _ _ rfl _ rfl noneH noneH HR5.out rfl _ w HX5.out (Nat.le_refl _) ?_; intro w9 hR9 hb9 hk9)
    refine bodyPost_ret (results_ht rfl _ _ _ noneH rfl hR9) rfl ⟨by rw [HFE.out]; rfl, hb9⟩
  have heb : ((errR s [1, 2, 3, 4, 5] : Int) != 0) = false := by rw [he]; rfl
  have HFE : Hid (parseN s = (headN s 1, 0)) := Lib.hid (by rw [HP.out, HEQ.out, if_pos he])
  have HH5 : Hid (HAt w3 g (⟨[], [], 0, (numR s 1).1, (numR s 2).1, (numR s 3).1, (numR s 4).1, (numR s 5).1, [], [], 0, 0, 1⟩ : HeadL)) := Lib.hid (HZ.out he)
  clear he HZ HP HEQ
  generalize errR s [1, 2, 3, 4, 5] = E at *
  generalize (numR s 1).1 = vm at *
  generalize (numR s 2).1 = vu at *
  generalize (numR s 3).1 = vg at *
  generalize (numR s 4).1 = vs at *
  generalize (numR s 5).1 = vt at *
  go_wp2_with fail
  refine (HC0.out _).mono ?_
  rintro e w4 ⟨rfl, hb⟩
  have HHn := Lib.hid (HH5.out.under hb HH5.out.lt)
  have HRn := Lib.hid (HR5.out.under hb HR5.out.lt)
  have HXn := Lib.hid (HX5.out.trans (hb.mono HX5.out.size))
  clear HH5 HR5 HX5 hb
  have HH5 := HHn
  have HR5 := HRn
  have HX5 := HXn
  clear HHn HRn HXn
  go_wp2_with fail
  refine (HT0.out _).mono ?_
  rintro e w5 ⟨rfl, hb⟩
  have HHn := Lib.hid (HH5.out.under hb HH5.out.lt)
  have HRn := Lib.hid (HR5.out.under hb HR5.out.lt)
  have HXn := Lib.hid (HX5.out.trans (hb.mono HX5.out.size))
  clear HH5 HR5 HX5 hb
  have HH5 := HHn
  have HR5 := HRn
  have HX5 := HXn
  clear HHn HRn HXn
  generalize readT (cutN s 0) = tn at *
  go_wp2_with fail
  refine (HC6.out _).mono ?_
  rintro e w6 ⟨rfl, hb⟩
  have HHn := Lib.hid (HH5.out.under hb HH5.out.lt)
  have HRn := Lib.hid (HR5.out.under hb HR5.out.lt)
  have HXn := Lib.hid (HX5.out.trans (hb.mono HX5.out.size))
  clear HH5 HR5 HX5 hb
  have HH5 := HHn
  have HR5 := HRn
  have HX5 := HXn
  clear HHn HRn HXn
  go_wp2_with fail
  refine (HT6.out _).mono ?_
  rintro e w7 ⟨rfl, hb⟩
  have HHn := Lib.hid (HH5.out.under hb HH5.out.lt)
  have HRn := Lib.hid (HR5.out.under hb HR5.out.lt)
  have HXn := Lib.hid (HX5.out.trans (hb.mono HX5.out.size))
  clear HH5 HR5 HX5 hb
  have HH5 := HHn
  have HR5 := HRn
  have HX5 := HXn
  clear HHn HRn HXn
  generalize readT (cutN s 6) = tl at *
  obtain ⟨c, hcc⟩ : ∃ c, (S s)[156]'hks = c := ⟨_, rfl⟩
  rw [hcc] at HK
  by_cases hc0 : c = 0
  · have hcb : ((c.toNat : Int) == 0) = true := by rw [hc0]; rfl
    have HKF : Hid (headN s 1 = (⟨tn, tl, 48, vm, vu, vg, vs, vt, [], [], 0, 0, 1⟩ : HeadL)) := Lib.hid (by rw [HFH.out, HK.out]; unfold kindN; rw [if_pos hc0])
    clear hc0
    go_wp2_with (first | (refine hl_set rfl 9 size_str _ _ rfl g 0 rfl (⟨[], [], 0, vm, vu, vg, vs, vt, [], [], 0, 0, 1⟩ : HeadL) HH5.out (by decide) (.string (S tn)) rfl rfl rfl (⟨tn, [], 0, vm, vu, vg, vs, vt, [], [], 0, 0, 1⟩ : HeadL) rfl _ w HX5.out (by omega) ?_; intro wa hA hB hK; have HHwa := Lib.hid hA; have HXwa := Lib.hid hB; have HRwa := Lib.hid (HR5.out.same (hK _ (by omega))); clear hA hB hK) | (refine hl_set rfl 9 size_str _ _ rfl g 1 rfl (⟨tn, [], 0, vm, vu, vg, vs, vt, [], [], 0, 0, 1⟩ : HeadL) HHwa.out (by decide) (.string (S tl)) rfl rfl rfl (⟨tn, tl, 0, vm, vu, vg, vs, vt, [], [], 0, 0, 1⟩ : HeadL) rfl _ w HXwa.out (by omega) ?_; intro wb hA hB hK; have HHwb := Lib.hid hA; have HXwb := Lib.hid hB; have HRwb := Lib.hid (HRwa.out.same (hK _ (by omega))); clear hA hB hK) | (refine hl_get rfl 3 _ rfl (noagg_int _) g 12 rfl (⟨tn, tl, 0, vm, vu, vg, vs, vt, [], [], 0, 0, 1⟩ : HeadL) HHwb.out (.int .i64 1) rfl ?_) | (refine hl_set rfl 5 size_u8 _ _ rfl g 2 rfl (⟨tn, tl, 0, vm, vu, vg, vs, vt, [], [], 0, 0, 1⟩ : HeadL) HHwb.out (by decide) (.int .u8 c.toNat) rfl rfl rfl (⟨tn, tl, c, vm, vu, vg, vs, vt, [], [], 0, 0, 1⟩ : HeadL) rfl _ w HXwb.out (by omega) ?_; intro wc hA hB hK; have HHwc := Lib.hid hA; have HXwc := Lib.hid hB; have HRwc := Lib.hid (HRwb.out.same (hK _ (by omega))); clear hA hB hK) | (refine hl_get rfl 5 _ rfl (noagg_u8 _) g 2 rfl (⟨tn, tl, c, vm, vu, vg, vs, vt, [], [], 0, 0, 1⟩ : HeadL) HHwc.out (.int .u8 c.toNat) rfl ?_) | (refine hl_set rfl 5 size_u8 _ _ rfl g 2 rfl (⟨tn, tl, c, vm, vu, vg, vs, vt, [], [], 0, 0, 1⟩ : HeadL) HHwc.out (by decide) (.int .u8 48) rfl rfl rfl (⟨tn, tl, 48, vm, vu, vg, vs, vt, [], [], 0, 0, 1⟩ : HeadL) rfl _ w HXwc.out (by omega) ?_; intro wd hA hB hK; have HHwd := Lib.hid hA; have HXwd := Lib.hid hB; have HRwd := Lib.hid (HRwc.out.same (hK _ (by omega))); clear hA hB hK) | (refine hl_load rfl _ rfl g rfl (⟨tn, tl, 48, vm, vu, vg, vs, vt, [], [], 0, 0, 1⟩ : HeadL) HHwd.out ?_) | (refine hl_store rfl _ _ rfl _ rfl noneH (⟨tn, tl, 48, vm, vu, vg, vs, vt, [], [], 0, 0, 1⟩ : HeadL) HRwd.out rfl _ w HXwd.out (Nat.le_refl _) ?_; intro w9 hR9 hb9 hk9))
    refine bodyPost_ret (results_ht rfl _ _ _ (⟨tn, tl, 48, vm, vu, vg, vs, vt, [], [], 0, 0, 1⟩ : HeadL) rfl hR9) rfl ⟨by rw [HFE.out, HKF.out]; rfl, hb9⟩
  · have hcb : ((c.toNat : Int) == 0) = false := byte_beq' c 0 0 rfl hc0
    have HKF : Hid (headN s 1 = (⟨tn, tl, c, vm, vu, vg, vs, vt, [], [], 0, 0, 1⟩ : HeadL)) := Lib.hid (by rw [HFH.out, HK.out]; unfold kindN; rw [if_neg hc0])
    clear hc0
    go_wp2_with (first | (refine hl_set rfl 9 size_str _ _ rfl g 0 rfl (⟨[], [], 0, vm, vu, vg, vs, vt, [], [], 0, 0, 1⟩ : HeadL) HH5.out (by decide) (.string (S tn)) rfl rfl rfl (⟨tn, [], 0, vm, vu, vg, vs, vt, [], [], 0, 0, 1⟩ : HeadL) rfl _ w HX5.out (by omega) ?_; intro wa hA hB hK; have HHwa := Lib.hid hA; have HXwa := Lib.hid hB; have HRwa := Lib.hid (HR5.out.same (hK _ (by omega))); clear hA hB hK) | (refine hl_set rfl 9 size_str _ _ rfl g 1 rfl (⟨tn, [], 0, vm, vu, vg, vs, vt, [], [], 0, 0, 1⟩ : HeadL) HHwa.out (by decide) (.string (S tl)) rfl rfl rfl (⟨tn, tl, 0, vm, vu, vg, vs, vt, [], [], 0, 0, 1⟩ : HeadL) rfl _ w HXwa.out (by omega) ?_; intro wb hA hB hK; have HHwb := Lib.hid hA; have HXwb := Lib.hid hB; have HRwb := Lib.hid (HRwa.out.same (hK _ (by omega))); clear hA hB hK) | (refine hl_get rfl 3 _ rfl (noagg_int _) g 12 rfl (⟨tn, tl, 0, vm, vu, vg, vs, vt, [], [], 0, 0, 1⟩ : HeadL) HHwb.out (.int .i64 1) rfl ?_) | (refine hl_set rfl 5 size_u8 _ _ rfl g 2 rfl (⟨tn, tl, 0, vm, vu, vg, vs, vt, [], [], 0, 0, 1⟩ : HeadL) HHwb.out (by decide) (.int .u8 c.toNat) rfl rfl rfl (⟨tn, tl, c, vm, vu, vg, vs, vt, [], [], 0, 0, 1⟩ : HeadL) rfl _ w HXwb.out (by omega) ?_; intro wc hA hB hK; have HHwc := Lib.hid hA; have HXwc := Lib.hid hB; have HRwc := Lib.hid (HRwb.out.same (hK _ (by omega))); clear hA hB hK) | (refine hl_get rfl 5 _ rfl (noagg_u8 _) g 2 rfl (⟨tn, tl, c, vm, vu, vg, vs, vt, [], [], 0, 0, 1⟩ : HeadL) HHwc.out (.int .u8 c.toNat) rfl ?_) | (refine hl_load rfl _ rfl g rfl (⟨tn, tl, c, vm, vu, vg, vs, vt, [], [], 0, 0, 1⟩ : HeadL) HHwc.out ?_) | (refine hl_store rfl _ _ rfl _ rfl noneH (⟨tn, tl, c, vm, vu, vg, vs, vt, [], [], 0, 0, 1⟩ : HeadL) HRwc.out rfl _ w HXwc.out (Nat.le_refl _) ?_; intro w9 hR9 hb9 hk9))
    refine bodyPost_ret (results_ht rfl _ _ _ (⟨tn, tl, c, vm, vu, vg, vs, vt, [], [], 0, 0, 1⟩ : HeadL) rfl hR9) rfl ⟨by rw [HFE.out, HKF.out]; rfl, hb9⟩
end Go.Proofs.YtjldphpdfckjnaaDoor
