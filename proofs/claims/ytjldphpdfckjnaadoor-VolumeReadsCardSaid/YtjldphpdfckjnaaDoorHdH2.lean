/- Heads of members: header.Parse, walked, at a block of form 2. -/
import Derived.Test.YtjldphpdfckjnaaDoorHdG
import Derived.Deep.RegionHeld3
namespace Go.Proofs.YtjldphpdfckjnaaDoor
open Go.RowKit

set_option maxRecDepth 100000 in
set_option maxHeartbeats 8000000 in
theorem hParse_f2 (s : List UInt8) (w : World) (hs : s.length = 512) (hr : rightL s = true) (hf : formN (fldL s 257 8) = 2) :
    Calls Tryd.prog 28 #[.string (S s)] w fun e w' => e = .returned (.tuple #[HV (parseN s).1, .int .i64 (parseN s).2]) ∧ Below w.heap.size w w' := by
  have HP : Hid (parseN s = if errN s (rowsN 2) = 0 then (headN s 2, 0) else (noneH, errN s (rowsN 2))) := Lib.hid (by
    unfold parseN; rw [if_neg (not_not_intro hs), if_neg (by rw [hr]; decide), hf, if_neg (by decide)])
  have HEQ : Hid (errN s (rowsN 2) = errR s [1, 2, 3, 4, 5, 9, 10]) := Lib.hid rfl
  have HFH : Hid (headN s 2 = ⟨joinL (readT (cutN s 11)) (readT (cutN s 0)), readT (cutN s 6), kindN (s.getD 156 0), (numR s 1).1, (numR s 2).1, (numR s 3).1, (numR s 4).1, (numR s 5).1, readT (cutN s 7), readT (cutN s 8), (numR s 9).1, (numR s 10).1, 2⟩) := Lib.hid rfl
  have HSR := Lib.hid (fun w => sRight_any s w (by omega))
  rw [hr] at HSR
  have HFM := Lib.hid (fun w => hform_any (fldL s 257 8) w)
  rw [hf] at HFM
  have hext : (S s).extract 257 265 = S (fldL s 257 8) := fld_ext s 257 265
  generalize fldL s 257 8 = M at *
  have h1b : ((s.length : Int) != 512) = false := by rw [hs]; rfl
  have h2I : (257 : Int) ≤ (s.length : Int) := by omega
  have h3I : (265 : Int) ≤ (s.length : Int) := by omega
  have h4I : (156 : Int) < (s.length : Int) := by omega
  have hks : 156 < (S s).size := by rw [S_size]; omega
  have HK : Hid (s.getD 156 0 = (S s)[156]'hks) := Lib.hid (getD_S s 156 hks)
  have HC0 := Lib.hid (fun w => hcut_any s 0 w hs (by decide))
  have HT0 := Lib.hid (fun w => tRead_any (cutN s 0) w (by rw [cut_len s 0 hs]; decide))
  have hl0 : (readT (cutN s 0)).length ≤ 155 := Nat.le_trans (List.takeWhile_sublist _).length_le (by rw [cut_len s 0 hs]; decide)
  have HC6 := Lib.hid (fun w => hcut_any s 6 w hs (by decide))
  have HT6 := Lib.hid (fun w => tRead_any (cutN s 6) w (by rw [cut_len s 6 hs]; decide))
  have hl6 : (readT (cutN s 6)).length ≤ 155 := Nat.le_trans (List.takeWhile_sublist _).length_le (by rw [cut_len s 6 hs]; decide)
  have HC7 := Lib.hid (fun w => hcut_any s 7 w hs (by decide))
  have HT7 := Lib.hid (fun w => tRead_any (cutN s 7) w (by rw [cut_len s 7 hs]; decide))
  have hl7 : (readT (cutN s 7)).length ≤ 155 := Nat.le_trans (List.takeWhile_sublist _).length_le (by rw [cut_len s 7 hs]; decide)
  have HC8 := Lib.hid (fun w => hcut_any s 8 w hs (by decide))
  have HT8 := Lib.hid (fun w => tRead_any (cutN s 8) w (by rw [cut_len s 8 hs]; decide))
  have hl8 : (readT (cutN s 8)).length ≤ 155 := Nat.le_trans (List.takeWhile_sublist _).length_le (by rw [cut_len s 8 hs]; decide)
  have HC11 := Lib.hid (fun w => hcut_any s 11 w hs (by decide))
  have HT11 := Lib.hid (fun w => tRead_any (cutN s 11) w (by rw [cut_len s 11 hs]; decide))
  have hl11 : (readT (cutN s 11)).length ≤ 155 := Nat.le_trans (List.takeWhile_sublist _).length_le (by rw [cut_len s 11 hs]; decide)
  have HHS := Lib.hid hs
  clear hs hr hf
  have HR0 : Hid (HAt (w.alloc (.cells (HC noneH).toArray 68)) w.heap.size noneH) := Lib.hid (AtB.new w _ (HC noneH))
  have HX0 : Hid (Below w.heap.size w (w.alloc (.cells (HC noneH).toArray 68))) := Lib.hid ((Below.refl _ _).alloc (Nat.le_refl _) _)
  go_enter Tryd.func28, Tryd.ntmps28
  go_wp2_with fail
  refine (HSR.out _).mono ?_
  rintro e w1 ⟨rfl, hb1⟩
  have HR1 : Hid (HAt w1 w.heap.size noneH) := Lib.hid (HR0.out.under hb1 (by simp))
  have HX1 : Hid (Below w.heap.size w w1) := Lib.hid (HX0.out.trans (hb1.mono HX0.out.size))
  clear HR0 HX0 hb1 HSR
  go_wp2_with fail
  refine (HFM.out _).mono ?_
  rintro e w2 ⟨rfl, rfl⟩
  clear HFM hext
  have HH3 : Hid (HAt (w1.alloc (.cells (HC (⟨[], [], 0, 0, 0, 0, 0, 0, [], [], 0, 0, 2⟩ : HeadL)).toArray 68)) w1.heap.size (⟨[], [], 0, 0, 0, 0, 0, 0, [], [], 0, 0, 2⟩ : HeadL)) := Lib.hid (AtB.new w1 _ (HC (⟨[], [], 0, 0, 0, 0, 0, 0, [], [], 0, 0, 2⟩ : HeadL)))
  have HR3 : Hid (HAt (w1.alloc (.cells (HC (⟨[], [], 0, 0, 0, 0, 0, 0, [], [], 0, 0, 2⟩ : HeadL)).toArray 68)) w.heap.size noneH) := Lib.hid (AtB.alloc HR1.out _)
  have HX3 : Hid (Below w.heap.size w (w1.alloc (.cells (HC (⟨[], [], 0, 0, 0, 0, 0, 0, [], [], 0, 0, 2⟩ : HeadL)).toArray 68))) := Lib.hid (HX1.out.alloc HX1.out.size _)
  have hgl : w.heap.size < w1.heap.size := HR1.out.lt
  clear HR1 HX1
  go_wp2_with (first | (refine app_storeAll rfl _ _ _ rfl (HC noneH).toArray (HC (⟨[], [], 0, 0, 0, 0, 0, 0, [], [], 0, 0, 2⟩ : HeadL)).toArray rfl rfl info_head rfl (HC_one _) ?_; generalize w1.alloc (.cells (HC (⟨[], [], 0, 0, 0, 0, 0, 0, [], [], 0, 0, 2⟩ : HeadL)).toArray 68) = W at *; generalize w1.heap.size = g at *; have c12 : W.cell? ⟨g, 12, none⟩ = some (.int .i64 2) := (by rw [HH3.out.cell 12]; rfl); have hgW : g < W.heap.size := HH3.out.lt) | (refine app_grow Tryd.underlying80 (z := .int .i64 0) (by_ := 8) (by kernel_rfl) rfl _ _ rfl W.heap.size 5 (W.heap.size + 2) 2 _ ([1, 2, 3, 4, 5].map fun r => Value.int .i64 (r : Nat)) ([9, 10].map fun r => Value.int .i64 (r : Nat)) rfl rfl rfl rfl (by decide) (by decide) (by decide) (fun j _ => (((AtB.new W 3 ([1, 2, 3, 4, 5].map fun r => Value.int .i64 (r : Nat))).alloc _).alloc _).cell j) (fun j _ => (AtB.new2 _ (W.heap.size + 2) 3 ([9, 10].map fun r => Value.int .i64 (r : Nat)) (by simp)).cell j) ?_; intro W3 cr g3 hg3 hb3 hz3 hc3; have HAi3 : Hid (AtB W3 (W.heap.size + 1) 100 ([1, 2, 3, 4, 5].map fun r => Value.pointer (some ⟨g, colOf r, none⟩))) := Lib.hid (((AtB.new2 (W.alloc (.cells #[.int .i64 1, .int .i64 2, .int .i64 3, .int .i64 4, .int .i64 5] 3)) (W.heap.size + 1) 100 ([1, 2, 3, 4, 5].map fun r => Value.pointer (some ⟨g, colOf r, none⟩)) (by simp)).alloc _).under hb3 (by simp)); have HC3 : Hid (CellsAt W3 g3 ([1, 2, 3, 4, 5, 9, 10].map fun r => Value.int .i64 (r : Nat))) := Lib.hid ⟨hz3, hc3⟩; have hg3W : W.heap.size + 3 = g3 := (by simpa using hg3.symm); have HB3 : Hid (Below W.heap.size W W3) := Lib.hid (((((Below.refl W.heap.size W).alloc (Nat.le_refl _) _).alloc (by simp only [World.size_alloc]; omega) _).alloc (by simp only [World.size_alloc]; omega) _).trans (hb3.mono (by simp only [World.size_alloc]; omega))); clear hb3 hz3 hc3 hg3; have HH4 := Lib.hid (HH3.out.under HB3.out hgW); have HR4 := Lib.hid (HR3.out.under HB3.out (by omega)); have HX4 := Lib.hid (HX3.out.trans (HB3.out.mono HX3.out.size)); have hg3l : g3 < W3.heap.size := HC3.out.1; clear HH3 HR3 HX3 c12 HB3) | (refine app_grow Tryd.underlying101 (z := .pointer none) (by_ := 8) (by kernel_rfl) rfl _ _ rfl (W.heap.size + 1) 5 W3.heap.size 2 _ ([1, 2, 3, 4, 5].map fun r => Value.pointer (some ⟨g, colOf r, none⟩)) ([9, 10].map fun r => Value.pointer (some ⟨g, colOf r, none⟩)) rfl rfl rfl rfl (by decide) (by decide) (by decide) (fun j _ => (HAi3.out.alloc _).cell j) (fun j _ => (AtB.new W3 100 ([9, 10].map fun r => Value.pointer (some ⟨g, colOf r, none⟩))).cell j) ?_; intro W4 cp g4 hg4 hb4 hz4 hc4; have HC4 : Hid (CellsAt W4 g4 ([1, 2, 3, 4, 5, 9, 10].map fun r => Value.pointer (some ⟨g, colOf r, none⟩))) := Lib.hid ⟨hz4, hc4⟩; have hg4W : W3.heap.size + 1 = g4 := (by simpa using hg4.symm); have HB4 : Hid (Below W3.heap.size W3 W4) := Lib.hid (((Below.refl W3.heap.size W3).alloc (Nat.le_refl _) _).trans (hb4.mono (by simp))); clear hb4 hz4 hc4 hg4; have HC3 := Lib.hid (HC3.out.under HB4.out hg3l); have HH5 := Lib.hid (HH4.out.under HB4.out (by omega)); have HR5 := Lib.hid (HR4.out.under HB4.out (by omega)); have HX5 := Lib.hid (HX4.out.trans (HB4.out.mono HX4.out.size)); clear HAi3 HH4 HR4 HX4 HB4))
  have hg3g : g < g3 := by omega
  have hg4g : g < g4 := by omega
  clear hg3W hg4W hgW hg3l
  refine (HC7.out _).mono ?_
  rintro e w5 ⟨rfl, hb⟩
  have HHn := Lib.hid (HH5.out.under hb HH5.out.lt)
  have HRn := Lib.hid (HR5.out.under hb HR5.out.lt)
  have HXn := Lib.hid (HX5.out.trans (hb.mono HX5.out.size))
  have HCr := Lib.hid (HC3.out.under hb HC3.out.1)
  have HCi := Lib.hid (HC4.out.under hb HC4.out.1)
  clear HH5 HR5 HX5 HC3 HC4 hb
  have HH5 := HHn
  have HR5 := HRn
  have HX5 := HXn
  have HC3 := HCr
  have HC4 := HCi
  clear HHn HRn HXn HCr HCi
  go_wp2_with fail
  refine (HT7.out _).mono ?_
  rintro e w6 ⟨rfl, hb⟩
  have HHn := Lib.hid (HH5.out.under hb HH5.out.lt)
  have HRn := Lib.hid (HR5.out.under hb HR5.out.lt)
  have HXn := Lib.hid (HX5.out.trans (hb.mono HX5.out.size))
  have HCr := Lib.hid (HC3.out.under hb HC3.out.1)
  have HCi := Lib.hid (HC4.out.under hb HC4.out.1)
  clear HH5 HR5 HX5 HC3 HC4 hb
  have HH5 := HHn
  have HR5 := HRn
  have HX5 := HXn
  have HC3 := HCr
  have HC4 := HCi
  clear HHn HRn HXn HCr HCi
  generalize readT (cutN s 7) = tu at *
  go_wp2_with fail
  refine (HC8.out _).mono ?_
  rintro e w7 ⟨rfl, hb⟩
  have HHn := Lib.hid (HH5.out.under hb HH5.out.lt)
  have HRn := Lib.hid (HR5.out.under hb HR5.out.lt)
  have HXn := Lib.hid (HX5.out.trans (hb.mono HX5.out.size))
  have HCr := Lib.hid (HC3.out.under hb HC3.out.1)
  have HCi := Lib.hid (HC4.out.under hb HC4.out.1)
  clear HH5 HR5 HX5 HC3 HC4 hb
  have HH5 := HHn
  have HR5 := HRn
  have HX5 := HXn
  have HC3 := HCr
  have HC4 := HCi
  clear HHn HRn HXn HCr HCi
  go_wp2_with fail
  refine (HT8.out _).mono ?_
  rintro e w8 ⟨rfl, hb⟩
  have HHn := Lib.hid (HH5.out.under hb HH5.out.lt)
  have HRn := Lib.hid (HR5.out.under hb HR5.out.lt)
  have HXn := Lib.hid (HX5.out.trans (hb.mono HX5.out.size))
  have HCr := Lib.hid (HC3.out.under hb HC3.out.1)
  have HCi := Lib.hid (HC4.out.under hb HC4.out.1)
  clear HH5 HR5 HX5 HC3 HC4 hb
  have HH5 := HHn
  have HR5 := HRn
  have HX5 := HXn
  have HC3 := HCr
  have HC4 := HCi
  clear HHn HRn HXn HCr HCi
  generalize readT (cutN s 8) = tg at *
  have HC35 := HC3
  have HC45 := HC4
  clear HC3 HC4
  go_wp2_with (first | (refine hl_set rfl 9 size_str _ _ rfl g 8 rfl (⟨[], [], 0, 0, 0, 0, 0, 0, [], [], 0, 0, 2⟩ : HeadL) HH5.out (by decide) (.string (S tu)) rfl rfl rfl (⟨[], [], 0, 0, 0, 0, 0, 0, tu, [], 0, 0, 2⟩ : HeadL) rfl _ w HX5.out (by omega) ?_; intro wx hA hB hK; have HHwx := Lib.hid hA; have HXwx := Lib.hid hB; have HRwx := Lib.hid (HR5.out.same (hK _ (by omega))); have HC3wx := Lib.hid (HC35.out.same (hK _ (by omega))); have HC4wx := Lib.hid (HC45.out.same (hK _ (by omega))); clear hA hB hK) | (refine hl_set rfl 9 size_str _ _ rfl g 9 rfl (⟨[], [], 0, 0, 0, 0, 0, 0, tu, [], 0, 0, 2⟩ : HeadL) HHwx.out (by decide) (.string (S tg)) rfl rfl rfl (⟨[], [], 0, 0, 0, 0, 0, 0, tu, tg, 0, 0, 2⟩ : HeadL) rfl _ w HXwx.out (by omega) ?_; intro wy hA hB hK; have HHwy := Lib.hid hA; have HXwy := Lib.hid hB; have HRwy := Lib.hid (HRwx.out.same (hK _ (by omega))); have HC3wy := Lib.hid (HC3wx.out.same (hK _ (by omega))); have HC4wy := Lib.hid (HC4wx.out.same (hK _ (by omega))); clear hA hB hK))
  clear HH5 HR5 HX5 HHwx HRwx HXwx HC3wx HC4wx HC35 HC45
  refine (numbers_any s [1, 2, 3, 4, 5, 9, 10] g3 _ g4 _ g (⟨[], [], 0, 0, 0, 0, 0, 0, tu, tg, 0, 0, 2⟩ : HeadL) wy HHS.out (by intro r hr; simp only [List.mem_cons, List.not_mem_nil, or_false] at hr; unfold rowOk; omega) (by decide) (HC3wy.out.rows (fun r => .int .i64 (r : Nat))) (HC4wy.out.rows (fun r => .pointer (some ⟨g, colOf r, none⟩))) HC3wy.out.1 HC4wy.out.1 (by omega) (by omega) HHwy.out).mono ?_
  rintro e w3 ⟨rfl, hb3, _, hz⟩
  have HR5 := Lib.hid (HRwy.out.under hb3 hgl)
  have HX5 := Lib.hid (HXwy.out.trans (hb3.mono (by omega)))
  have HZ := Lib.hid hz
  clear HHwy HRwy HXwy HC3wy HC4wy hb3 hz
  by_cases he : errR s [1, 2, 3, 4, 5, 9, 10] = 0
  rotate_left
  · have heb : ((errR s [1, 2, 3, 4, 5, 9, 10] : Int) != 0) = true := bne_iff_ne.2 (by omega)
    have HFE : Hid (parseN s = (noneH, errR s [1, 2, 3, 4, 5, 9, 10])) := Lib.hid (by rw [HP.out, HEQ.out, if_neg he])
    clear he HZ
    generalize errR s [1, 2, 3, 4, 5, 9, 10] = E at *
    go_wp2_with (refine hl_store rfl _ _ rfl _ rfl noneH noneH HR5.out rfl _ w HX5.out (Nat.le_refl _) ?_; intro w9 hR9 hb9 hk9)
    refine bodyPost_ret (results_ht rfl _ _ _ noneH rfl hR9) rfl ⟨by rw [HFE.out]; rfl, hb9⟩
  have heb : ((errR s [1, 2, 3, 4, 5, 9, 10] : Int) != 0) = false := by rw [he]; rfl
  have HFE : Hid (parseN s = (headN s 2, 0)) := Lib.hid (by rw [HP.out, HEQ.out, if_pos he])
  have HH5 : Hid (HAt w3 g (⟨[], [], 0, (numR s 1).1, (numR s 2).1, (numR s 3).1, (numR s 4).1, (numR s 5).1, tu, tg, (numR s 9).1, (numR s 10).1, 2⟩ : HeadL)) := Lib.hid (HZ.out he)
  clear he HZ HP HEQ
  generalize errR s [1, 2, 3, 4, 5, 9, 10] = E at *
  generalize (numR s 1).1 = vm at *
  generalize (numR s 2).1 = vu at *
  generalize (numR s 3).1 = vg at *
  generalize (numR s 4).1 = vs at *
  generalize (numR s 5).1 = vt at *
  generalize (numR s 9).1 = vj at *
  generalize (numR s 10).1 = vn at *
  go_wp2_with fail
  refine (HC0.out _).mono ?_
  rintro e w4 ⟨rfl, hb⟩
  have HHn := Lib.hid (HH5.out.under hb HH5.out.lt)
  have HRn := Lib.hid (HR5.out.under hb HR5.out.lt)
  have HXn := Lib.hid (HX5.out.trans (hb.mono HX5.out.size))
  clear HH5 HR5 HX5 hb
  have HH5 := HHn
  have HR5 := HRn
  have HX5 := HXn
  clear HHn HRn HXn
  go_wp2_with fail
  refine (HT0.out _).mono ?_
  rintro e w5 ⟨rfl, hb⟩
  have HHn := Lib.hid (HH5.out.under hb HH5.out.lt)
  have HRn := Lib.hid (HR5.out.under hb HR5.out.lt)
  have HXn := Lib.hid (HX5.out.trans (hb.mono HX5.out.size))
  clear HH5 HR5 HX5 hb
  have HH5 := HHn
  have HR5 := HRn
  have HX5 := HXn
  clear HHn HRn HXn
  generalize readT (cutN s 0) = tn at *
  go_wp2_with fail
  refine (HC6.out _).mono ?_
  rintro e w6 ⟨rfl, hb⟩
  have HHn := Lib.hid (HH5.out.under hb HH5.out.lt)
  have HRn := Lib.hid (HR5.out.under hb HR5.out.lt)
  have HXn := Lib.hid (HX5.out.trans (hb.mono HX5.out.size))
  clear HH5 HR5 HX5 hb
  have HH5 := HHn
  have HR5 := HRn
  have HX5 := HXn
  clear HHn HRn HXn
  go_wp2_with fail
  refine (HT6.out _).mono ?_
  rintro e w7 ⟨rfl, hb⟩
  have HHn := Lib.hid (HH5.out.under hb HH5.out.lt)
  have HRn := Lib.hid (HR5.out.under hb HR5.out.lt)
  have HXn := Lib.hid (HX5.out.trans (hb.mono HX5.out.size))
  clear HH5 HR5 HX5 hb
  have HH5 := HHn
  have HR5 := HRn
  have HX5 := HXn
  clear HHn HRn HXn
  generalize readT (cutN s 6) = tl at *
  obtain ⟨c, hcc⟩ : ∃ c, (S s)[156]'hks = c := ⟨_, rfl⟩
  rw [hcc] at HK
  go_upto_region 17 with (first | (refine hl_set rfl 9 size_str _ _ rfl g 0 rfl (⟨[], [], 0, vm, vu, vg, vs, vt, tu, tg, vj, vn, 2⟩ : HeadL) HH5.out (by decide) (.string (S tn)) rfl rfl rfl (⟨tn, [], 0, vm, vu, vg, vs, vt, tu, tg, vj, vn, 2⟩ : HeadL) rfl _ w HX5.out (by omega) ?_; intro wa hA hB hK; have HHwa := Lib.hid hA; have HXwa := Lib.hid hB; have HRwa := Lib.hid (HR5.out.same (hK _ (by omega))); clear hA hB hK) | (refine hl_set rfl 9 size_str _ _ rfl g 1 rfl (⟨tn, [], 0, vm, vu, vg, vs, vt, tu, tg, vj, vn, 2⟩ : HeadL) HHwa.out (by decide) (.string (S tl)) rfl rfl rfl (⟨tn, tl, 0, vm, vu, vg, vs, vt, tu, tg, vj, vn, 2⟩ : HeadL) rfl _ w HXwa.out (by omega) ?_; intro wb hA hB hK; have HHwb := Lib.hid hA; have HXwb := Lib.hid hB; have HRwb := Lib.hid (HRwa.out.same (hK _ (by omega))); clear hA hB hK) | (refine hl_get rfl 3 _ rfl (noagg_int _) g 12 rfl (⟨tn, tl, 0, vm, vu, vg, vs, vt, tu, tg, vj, vn, 2⟩ : HeadL) HHwb.out (.int .i64 2) rfl ?_))
  clear HH5 HX5 HR5 HHwa HXwa HRwa
  have HJ := Lib.hid (fun w => hjoin_any (readT (cutN s 11)) tn w (by omega) (by omega))
  generalize readT (cutN s 11) = tp at *
  go_cut [71] (fun v71 wz => v71 = .string (S s) ∧ Hid (HAt wz g (⟨(joinL tp tn), tl, 0, vm, vu, vg, vs, vt, tu, tg, vj, vn, 2⟩ : HeadL)) ∧ Hid (HAt wz w.heap.size noneH) ∧ Hid (Below w.heap.size w wz))
  case first =>
    have d0 : wb.cell? ⟨g, 0, none⟩ = some (.string (S tn)) := by rw [HHwb.out.cell 0]; rfl
    have f0 : wb.frozen? ⟨g, 0, none⟩ = false := HHwb.out.fz 0
    have hgb : g < wb.heap.size := HHwb.out.lt
    go_region_law (first | (go_simp; go_at_call 58; refine (HC11.out _).mono ?_; rintro e wc ⟨rfl, hbx⟩; have hbwc : Below wb.heap.size wb wc := ((Below.refl wb.heap.size wb).drew).trans hbx; have HHwc := Lib.hid (HHwb.out.under hbwc HHwb.out.lt); have dwc : wc.cell? ⟨g, 0, none⟩ = some (.string (S tn)) := (by rw [HHwc.out.cell 0]; rfl); have fwc : wc.frozen? ⟨g, 0, none⟩ = false := HHwc.out.fz 0; have HRwc := Lib.hid (HRwb.out.under hbwc HRwb.out.lt); have HXwc := Lib.hid (HXwb.out.trans (hbwc.mono HXwb.out.size)); clear hbx) | (go_simp; go_at_call 57; refine (HT11.out _).mono ?_; rintro e wd ⟨rfl, hbwd⟩; have HHwd := Lib.hid (HHwc.out.under hbwd HHwc.out.lt); have dwd : wd.cell? ⟨g, 0, none⟩ = some (.string (S tn)) := (by rw [HHwd.out.cell 0]; rfl); have fwd : wd.frozen? ⟨g, 0, none⟩ = false := HHwd.out.fz 0; have HRwd := Lib.hid (HRwc.out.under hbwd HRwc.out.lt); have HXwd := Lib.hid (HXwc.out.trans (hbwd.mono HXwc.out.size))) | (go_simp; go_at_call 60; refine (HJ.out _).mono ?_; rintro e we ⟨rfl, rfl⟩))
    all_goals (go_wp2_with fail; go_meet; exact ⟨rfl, Lib.hid (AtB.set HHwd.out 0 (.string (S (joinL tp tn)))), Lib.hid (HRwd.out.same (setCell_other _ _ _ _ _ (by omega))), Lib.hid (HXwd.out.setCell (by show w.heap.size ≤ g; omega) _)⟩)
  case rest =>
    clear HHwb HRwb HXwb HJ
    obtain ⟨rfl, HHwb, HRwb, HXwb⟩ := hcut
    rename_i wz
    by_cases hc0 : c = 0
    · have hcb : ((c.toNat : Int) == 0) = true := by rw [hc0]; rfl
      have HKF : Hid (headN s 2 = (⟨(joinL tp tn), tl, 48, vm, vu, vg, vs, vt, tu, tg, vj, vn, 2⟩ : HeadL)) := Lib.hid (by rw [HFH.out, HK.out]; unfold kindN; rw [if_pos hc0])
      clear hc0
      go_wp2_with (first | (refine hl_set rfl 5 size_u8 _ _ rfl g 2 rfl (⟨(joinL tp tn), tl, 0, vm, vu, vg, vs, vt, tu, tg, vj, vn, 2⟩ : HeadL) HHwb.out (by decide) (.int .u8 c.toNat) rfl rfl rfl (⟨(joinL tp tn), tl, c, vm, vu, vg, vs, vt, tu, tg, vj, vn, 2⟩ : HeadL) rfl _ w HXwb.out (by omega) ?_; intro wc hA hB hK; have HHwc := Lib.hid hA; have HXwc := Lib.hid hB; have HRwc := Lib.hid (HRwb.out.same (hK _ (by omega))); clear hA hB hK) | (refine hl_get rfl 5 _ rfl (noagg_u8 _) g 2 rfl (⟨(joinL tp tn), tl, c, vm, vu, vg, vs, vt, tu, tg, vj, vn, 2⟩ : HeadL) HHwc.out (.int .u8 c.toNat) rfl ?_) | (refine hl_set rfl 5 size_u8 _ _ rfl g 2 rfl (⟨(joinL tp tn), tl, c, vm, vu, vg, vs, vt, tu, tg, vj, vn, 2⟩ : HeadL) HHwc.out (by decide) (.int .u8 48) rfl rfl rfl (⟨(joinL tp tn), tl, 48, vm, vu, vg, vs, vt, tu, tg, vj, vn, 2⟩ : HeadL) rfl _ w HXwc.out (by omega) ?_; intro wd hA hB hK; have HHwd := Lib.hid hA; have HXwd := Lib.hid hB; have HRwd := Lib.hid (HRwc.out.same (hK _ (by omega))); clear hA hB hK) | (refine hl_load rfl _ rfl g rfl (⟨(joinL tp tn), tl, 48, vm, vu, vg, vs, vt, tu, tg, vj, vn, 2⟩ : HeadL) HHwd.out ?_) | (refine hl_store rfl _ _ rfl _ rfl noneH (⟨(joinL tp tn), tl, 48, vm, vu, vg, vs, vt, tu, tg, vj, vn, 2⟩ : HeadL) HRwd.out rfl _ w HXwd.out (Nat.le_refl _) ?_; intro w9 hR9 hb9 hk9))
      refine bodyPost_ret (results_ht rfl _ _ _ (⟨(joinL tp tn), tl, 48, vm, vu, vg, vs, vt, tu, tg, vj, vn, 2⟩ : HeadL) rfl hR9) rfl ⟨by rw [HFE.out, HKF.out]; rfl, hb9⟩
    · have hcb : ((c.toNat : Int) == 0) = false := byte_beq' c 0 0 rfl hc0
      have HKF : Hid (headN s 2 = (⟨(joinL tp tn), tl, c, vm, vu, vg, vs, vt, tu, tg, vj, vn, 2⟩ : HeadL)) := Lib.hid (by rw [HFH.out, HK.out]; unfold kindN; rw [if_neg hc0])
      clear hc0
      go_wp2_with (first | (refine hl_set rfl 5 size_u8 _ _ rfl g 2 rfl (⟨(joinL tp tn), tl, 0, vm, vu, vg, vs, vt, tu, tg, vj, vn, 2⟩ : HeadL) HHwb.out (by decide) (.int .u8 c.toNat) rfl rfl rfl (⟨(joinL tp tn), tl, c, vm, vu, vg, vs, vt, tu, tg, vj, vn, 2⟩ : HeadL) rfl _ w HXwb.out (by omega) ?_; intro wc hA hB hK; have HHwc := Lib.hid hA; have HXwc := Lib.hid hB; have HRwc := Lib.hid (HRwb.out.same (hK _ (by omega))); clear hA hB hK) | (refine hl_get rfl 5 _ rfl (noagg_u8 _) g 2 rfl (⟨(joinL tp tn), tl, c, vm, vu, vg, vs, vt, tu, tg, vj, vn, 2⟩ : HeadL) HHwc.out (.int .u8 c.toNat) rfl ?_) | (refine hl_load rfl _ rfl g rfl (⟨(joinL tp tn), tl, c, vm, vu, vg, vs, vt, tu, tg, vj, vn, 2⟩ : HeadL) HHwc.out ?_) | (refine hl_store rfl _ _ rfl _ rfl noneH (⟨(joinL tp tn), tl, c, vm, vu, vg, vs, vt, tu, tg, vj, vn, 2⟩ : HeadL) HRwc.out rfl _ w HXwc.out (Nat.le_refl _) ?_; intro w9 hR9 hb9 hk9))
      refine bodyPost_ret (results_ht rfl _ _ _ (⟨(joinL tp tn), tl, c, vm, vu, vg, vs, vt, tu, tg, vj, vn, 2⟩ : HeadL) rfl hR9) rfl ⟨by rw [HFE.out, HKF.out]; rfl, hb9⟩
end Go.Proofs.YtjldphpdfckjnaaDoor
