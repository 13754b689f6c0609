/- Heads of members: the document's Parse, walked, at a block of form 2. -/
import Derived.Test.YtjldphpdfckjnaaDoorHdI0
namespace Go.Proofs.YtjldphpdfckjnaaDoor
open Go.RowKit

set_option maxRecDepth 100000 in
set_option maxHeartbeats 8000000 in
theorem rParse_f2 (s : List UInt8) (w : World) (hs : s.length = 512) (hr : rightL s = true) (hf : fldL s 257 8 = [117, 115, 116, 97, 114, 0, 48, 48]) :
    Calls Tryd.prog 31 #[.string (S s)] w fun e w' => e = .returned (.tuple #[HV (parseN s).1, .int .i64 (parseN s).2]) ∧ Below w.heap.size w w' := by
  have hfn : formN (fldL s 257 8) = 2 := by rw [hf]; rfl
  have HP : Hid (parseN s = if errN s (rowsN 2) = 0 then (headN s 2, 0) else (noneH, errN s (rowsN 2))) := Lib.hid (by
    unfold parseN; rw [if_neg (not_not_intro hs), if_neg (by rw [hr]; decide), hfn, if_neg (by decide)])
  have HEQ : Hid (errN s (rowsN 2) = (if (numN s 100 8 false).2 = 0 then (if (numN s 108 8 false).2 = 0 then (if (numN s 116 8 false).2 = 0 then (if (numN s 124 12 false).2 = 0 then (if (numN s 136 12 true).2 = 0 then (if (numN s 329 8 false).2 = 0 then (if (numN s 337 8 false).2 = 0 then 0 else (numN s 337 8 false).2) else (numN s 329 8 false).2) else (numN s 136 12 true).2) else (numN s 124 12 false).2) else (numN s 116 8 false).2) else (numN s 108 8 false).2) else (numN s 100 8 false).2)) := Lib.hid rfl
  have HFH : Hid (headN s 2 = ⟨joinL (readT (fldL s 345 155)) (readT (fldL s 0 100)), readT (fldL s 157 100), kindN (s.getD 156 0), (numN s 100 8 false).1, (numN s 108 8 false).1, (numN s 116 8 false).1, (numN s 124 12 false).1, (numN s 136 12 true).1, readT (fldL s 265 32), readT (fldL s 297 32), (numN s 329 8 false).1, (numN s 337 8 false).1, 2⟩) := Lib.hid rfl
  have HSR := Lib.hid (fun w => rRightS_any s w)
  rw [hr] at HSR
  have hext : (S s).extract 257 265 = S [117, 115, 116, 97, 114, 0, 48, 48] := by rw [← hf]; exact fld_ext s 257 265
  have h1b : ((s.length : Int) != 512) = false := by rw [hs]; rfl
  have hb100 : (100 : Int) ≤ (s.length : Int) := by omega
  have hb156 : (156 : Int) ≤ (s.length : Int) := by omega
  have hb157 : (157 : Int) ≤ (s.length : Int) := by omega
  have hb257 : (257 : Int) ≤ (s.length : Int) := by omega
  have hb265 : (265 : Int) ≤ (s.length : Int) := by omega
  have hb297 : (297 : Int) ≤ (s.length : Int) := by omega
  have hb329 : (329 : Int) ≤ (s.length : Int) := by omega
  have hb345 : (345 : Int) ≤ (s.length : Int) := by omega
  have hb500 : (500 : Int) ≤ (s.length : Int) := by omega
  have h4I : (156 : Int) < (s.length : Int) := by omega
  have hks : 156 < (S s).size := by rw [S_size]; omega
  have HK : Hid (s.getD 156 0 = (S s)[156]'hks) := Lib.hid (getD_S s 156 hks)
  have HN0 := Lib.hid (fun w => rnumber_any s 100 8 false w hs (by decide) (by decide))
  have HN1 := Lib.hid (fun w => rnumber_any s 108 8 false w hs (by decide) (by decide))
  have HN2 := Lib.hid (fun w => rnumber_any s 116 8 false w hs (by decide) (by decide))
  have HN3 := Lib.hid (fun w => rnumber_any s 124 12 false w hs (by decide) (by decide))
  have HN4 := Lib.hid (fun w => rnumber_any s 136 12 true w hs (by decide) (by decide))
  have HN5 := Lib.hid (fun w => rnumber_any s 329 8 false w hs (by decide) (by decide))
  have HN6 := Lib.hid (fun w => rnumber_any s 337 8 false w hs (by decide) (by decide))
  have HT265 := Lib.hid (fun w => rRead2_any (fldL s 265 32) w (by rw [fld_len s 265 32 (by omega)]; decide))
  have hl265 : (readT (fldL s 265 32)).length ≤ 155 := Nat.le_trans (List.takeWhile_sublist _).length_le (by rw [fld_len s 265 32 (by omega)]; decide)
  have hx265 : (S s).extract 265 297 = S (fldL s 265 32) := fld_ext s 265 297
  have HT297 := Lib.hid (fun w => rRead2_any (fldL s 297 32) w (by rw [fld_len s 297 32 (by omega)]; decide))
  have hl297 : (readT (fldL s 297 32)).length ≤ 155 := Nat.le_trans (List.takeWhile_sublist _).length_le (by rw [fld_len s 297 32 (by omega)]; decide)
  have hx297 : (S s).extract 297 329 = S (fldL s 297 32) := fld_ext s 297 329
  have HT0 := Lib.hid (fun w => rRead2_any (fldL s 0 100) w (by rw [fld_len s 0 100 (by omega)]; decide))
  have hl0 : (readT (fldL s 0 100)).length ≤ 155 := Nat.le_trans (List.takeWhile_sublist _).length_le (by rw [fld_len s 0 100 (by omega)]; decide)
  have hx0 : (S s).extract 0 100 = S (fldL s 0 100) := fld_ext s 0 100
  have HT345 := Lib.hid (fun w => rRead2_any (fldL s 345 155) w (by rw [fld_len s 345 155 (by omega)]; decide))
  have hl345 : (readT (fldL s 345 155)).length ≤ 155 := Nat.le_trans (List.takeWhile_sublist _).length_le (by rw [fld_len s 345 155 (by omega)]; decide)
  have hx345 : (S s).extract 345 500 = S (fldL s 345 155) := fld_ext s 345 500
  have HT157 := Lib.hid (fun w => rRead2_any (fldL s 157 100) w (by rw [fld_len s 157 100 (by omega)]; decide))
  have hl157 : (readT (fldL s 157 100)).length ≤ 155 := Nat.le_trans (List.takeWhile_sublist _).length_le (by rw [fld_len s 157 100 (by omega)]; decide)
  have hx157 : (S s).extract 157 257 = S (fldL s 157 100) := fld_ext s 157 257
  clear hs hr hf hfn
  generalize numN s 100 8 false = V0 at *
  obtain ⟨vm, e0⟩ := V0
  generalize numN s 108 8 false = V1 at *
  obtain ⟨vu, e1⟩ := V1
  generalize numN s 116 8 false = V2 at *
  obtain ⟨vg, e2⟩ := V2
  generalize numN s 124 12 false = V3 at *
  obtain ⟨vs, e3⟩ := V3
  generalize numN s 136 12 true = V4 at *
  obtain ⟨vt, e4⟩ := V4
  generalize numN s 329 8 false = V5 at *
  obtain ⟨vj, e5⟩ := V5
  generalize numN s 337 8 false = V6 at *
  obtain ⟨vn, e6⟩ := V6
  generalize hT265 : readT (fldL s 265 32) = T265 at *
  generalize fldL s 265 32 = F265 at *
  clear hT265
  generalize hT297 : readT (fldL s 297 32) = T297 at *
  generalize fldL s 297 32 = F297 at *
  clear hT297
  generalize hT0 : readT (fldL s 0 100) = T0 at *
  generalize fldL s 0 100 = F0 at *
  clear hT0
  generalize hT345 : readT (fldL s 345 155) = T345 at *
  generalize fldL s 345 155 = F345 at *
  clear hT345
  generalize hT157 : readT (fldL s 157 100) = T157 at *
  generalize fldL s 157 100 = F157 at *
  clear hT157
  have HR0 : Hid (HAt (w.alloc (.cells #[.string ⟨#[]⟩, .string ⟨#[]⟩, .int .u8 0, .int .i64 0, .int .i64 0, .int .i64 0, .int .i64 0, .int .i64 0, .string ⟨#[]⟩, .string ⟨#[]⟩, .int .i64 0, .int .i64 0, .int .i64 0] 68)) w.heap.size noneH) := Lib.hid (AtB.new w _ (HC noneH))
  have HX0 : Hid (Below w.heap.size w (w.alloc (.cells #[.string ⟨#[]⟩, .string ⟨#[]⟩, .int .u8 0, .int .i64 0, .int .i64 0, .int .i64 0, .int .i64 0, .int .i64 0, .string ⟨#[]⟩, .string ⟨#[]⟩, .int .i64 0, .int .i64 0, .int .i64 0] 68))) := Lib.hid ((Below.refl _ _).alloc (Nat.le_refl _) _)
  go_enter Tryd.func31, Tryd.ntmps31
  go_wp2_with (refine app_storeAll2 rfl _ _ _ rfl (w.heap.size + 1) (by simp) (HC noneH).toArray (HC noneH).toArray rfl rfl info_head rfl (HC_one _) ?_; have HN1' : Hid (HAt ((w.alloc (.cells #[.string ⟨#[]⟩, .string ⟨#[]⟩, .int .u8 0, .int .i64 0, .int .i64 0, .int .i64 0, .int .i64 0, .int .i64 0, .string ⟨#[]⟩, .string ⟨#[]⟩, .int .i64 0, .int .i64 0, .int .i64 0] 68)).alloc (.cells (HC noneH).toArray 68)) (w.heap.size + 1) noneH) := Lib.hid (AtB.new2 _ _ _ (HC noneH) (by simp)); have HR1 : Hid (HAt ((w.alloc (.cells #[.string ⟨#[]⟩, .string ⟨#[]⟩, .int .u8 0, .int .i64 0, .int .i64 0, .int .i64 0, .int .i64 0, .int .i64 0, .string ⟨#[]⟩, .string ⟨#[]⟩, .int .i64 0, .int .i64 0, .int .i64 0] 68)).alloc (.cells (HC noneH).toArray 68)) w.heap.size noneH) := Lib.hid (AtB.alloc HR0.out _); have HX1 : Hid (Below w.heap.size w ((w.alloc (.cells #[.string ⟨#[]⟩, .string ⟨#[]⟩, .int .u8 0, .int .i64 0, .int .i64 0, .int .i64 0, .int .i64 0, .int .i64 0, .string ⟨#[]⟩, .string ⟨#[]⟩, .int .i64 0, .int .i64 0, .int .i64 0] 68)).alloc (.cells (HC noneH).toArray 68))) := Lib.hid (HX0.out.alloc HX0.out.size _); generalize hWa : (w.alloc (.cells #[.string ⟨#[]⟩, .string ⟨#[]⟩, .int .u8 0, .int .i64 0, .int .i64 0, .int .i64 0, .int .i64 0, .int .i64 0, .string ⟨#[]⟩, .string ⟨#[]⟩, .int .i64 0, .int .i64 0, .int .i64 0] 68)).alloc (.cells (HC noneH).toArray 68) = Wa at *; clear hWa HR0 HX0)
  refine (HSR.out _).mono ?_
  rintro e w1 ⟨rfl, rfl⟩
  have hga : w.heap.size + 1 < Wa.heap.size := HN1'.out.lt
  have HH2 : Hid (HAt (Wa.alloc (.cells (HC noneH).toArray 68)) Wa.heap.size noneH) := Lib.hid (AtB.new Wa _ (HC noneH))
  have HR2 : Hid (HAt (Wa.alloc (.cells (HC noneH).toArray 68)) w.heap.size noneH) := Lib.hid (AtB.alloc HR1.out _)
  have HZ2 : Hid (HAt (Wa.alloc (.cells (HC noneH).toArray 68)) (w.heap.size + 1) noneH) := Lib.hid (AtB.alloc HN1'.out _)
  have HX2 : Hid (Below w.heap.size w (Wa.alloc (.cells (HC noneH).toArray 68))) := Lib.hid (HX1.out.alloc HX1.out.size _)
  clear HSR HR1 HN1' HX1
  go_wp2_with (first | (refine app_storeAll rfl _ _ _ rfl (HC noneH).toArray (HC noneH).toArray rfl rfl info_head rfl (HC_one _) ?_; generalize Wa.alloc (.cells (HC noneH).toArray 68) = Wb at *; generalize Wa.heap.size = g at *) | (refine hl_set rfl 3 size_int _ _ rfl g 12 rfl noneH HH2.out (by decide) (.int .i64 2) rfl rfl rfl (⟨[], [], 0, 0, 0, 0, 0, 0, [], [], 0, 0, 2⟩ : HeadL) rfl _ w HX2.out (by omega) ?_; intro w0 hA hB hK; have HHw0 := Lib.hid hA; have HXw0 := Lib.hid hB; have HRw0 := Lib.hid (HR2.out.same (hK _ (by omega))); have HZw0 := Lib.hid (HZ2.out.same (hK _ (by omega))); clear hA hB hK HH2 HX2 HR2 HZ2))
  refine (HN0.out _).mono ?_
  rintro e w1 ⟨rfl, rfl⟩
  clear HN0
  by_cases he0 : e0 = 0
  rotate_left
  · have eb : ((e0 : Int) != 0) = true := bne_iff_ne.2 (by omega)
    have HFE : Hid (parseN s = (noneH, e0)) := Lib.hid (by
      have h : errN s (rowsN 2) = e0 := by rw [HEQ.out, if_neg he0]
      rw [HP.out, h, if_neg he0])
    clear he0
    go_wp2_with (first | (refine hl_set rfl 3 size_int _ _ rfl g 3 rfl (⟨[], [], 0, 0, 0, 0, 0, 0, [], [], 0, 0, 2⟩ : HeadL) HHw0.out (by decide) (.int .i64 vm) rfl rfl rfl (⟨[], [], 0, vm, 0, 0, 0, 0, [], [], 0, 0, 2⟩ : HeadL) rfl _ w HXw0.out (by omega) ?_; intro wz hA hB hK; have HHwz := Lib.hid hA; have HXwz := Lib.hid hB; have HRwz := Lib.hid (HRw0.out.same (hK _ (by omega))); have HZwz := Lib.hid (HZw0.out.same (hK _ (by omega))); clear hA hB hK HHw0 HXw0 HRw0 HZw0) | (refine hl_load rfl _ rfl _ rfl noneH HZwz.out ?_) | (refine hl_store rfl _ _ rfl _ rfl noneH noneH HRwz.out rfl _ w HXwz.out (Nat.le_refl _) ?_; intro w9 hR9 hb9 hk9))
    refine bodyPost_ret (results_ht rfl _ _ _ noneH rfl hR9) rfl ⟨by rw [HFE.out]; rfl, hb9⟩
  have eb0 : ((e0 : Int) != 0) = false := by rw [he0]; rfl
  go_wp2_with (first | (refine hl_set rfl 3 size_int _ _ rfl g 3 rfl (⟨[], [], 0, 0, 0, 0, 0, 0, [], [], 0, 0, 2⟩ : HeadL) HHw0.out (by decide) (.int .i64 vm) rfl rfl rfl (⟨[], [], 0, vm, 0, 0, 0, 0, [], [], 0, 0, 2⟩ : HeadL) rfl _ w HXw0.out (by omega) ?_; intro wn0 hA hB hK; have HHwn0 := Lib.hid hA; have HXwn0 := Lib.hid hB; have HRwn0 := Lib.hid (HRw0.out.same (hK _ (by omega))); have HZwn0 := Lib.hid (HZw0.out.same (hK _ (by omega))); clear hA hB hK HHw0 HXw0 HRw0 HZw0))
  clear eb0
  refine (HN1.out _).mono ?_
  rintro e w1 ⟨rfl, rfl⟩
  clear HN1
  by_cases he1 : e1 = 0
  rotate_left
  · have eb : ((e1 : Int) != 0) = true := bne_iff_ne.2 (by omega)
    have HFE : Hid (parseN s = (noneH, e1)) := Lib.hid (by
      have h : errN s (rowsN 2) = e1 := by rw [HEQ.out, if_pos he0, if_neg he1]
      rw [HP.out, h, if_neg he1])
    clear he1
    go_wp2_with (first | (refine hl_set rfl 3 size_int _ _ rfl g 4 rfl (⟨[], [], 0, vm, 0, 0, 0, 0, [], [], 0, 0, 2⟩ : HeadL) HHwn0.out (by decide) (.int .i64 vu) rfl rfl rfl (⟨[], [], 0, vm, vu, 0, 0, 0, [], [], 0, 0, 2⟩ : HeadL) rfl _ w HXwn0.out (by omega) ?_; intro wz hA hB hK; have HHwz := Lib.hid hA; have HXwz := Lib.hid hB; have HRwz := Lib.hid (HRwn0.out.same (hK _ (by omega))); have HZwz := Lib.hid (HZwn0.out.same (hK _ (by omega))); clear hA hB hK HHwn0 HXwn0 HRwn0 HZwn0) | (refine hl_load rfl _ rfl _ rfl noneH HZwz.out ?_) | (refine hl_store rfl _ _ rfl _ rfl noneH noneH HRwz.out rfl _ w HXwz.out (Nat.le_refl _) ?_; intro w9 hR9 hb9 hk9))
    refine bodyPost_ret (results_ht rfl _ _ _ noneH rfl hR9) rfl ⟨by rw [HFE.out]; rfl, hb9⟩
  have eb1 : ((e1 : Int) != 0) = false := by rw [he1]; rfl
  go_wp2_with (first | (refine hl_set rfl 3 size_int _ _ rfl g 4 rfl (⟨[], [], 0, vm, 0, 0, 0, 0, [], [], 0, 0, 2⟩ : HeadL) HHwn0.out (by decide) (.int .i64 vu) rfl rfl rfl (⟨[], [], 0, vm, vu, 0, 0, 0, [], [], 0, 0, 2⟩ : HeadL) rfl _ w HXwn0.out (by omega) ?_; intro wn1 hA hB hK; have HHwn1 := Lib.hid hA; have HXwn1 := Lib.hid hB; have HRwn1 := Lib.hid (HRwn0.out.same (hK _ (by omega))); have HZwn1 := Lib.hid (HZwn0.out.same (hK _ (by omega))); clear hA hB hK HHwn0 HXwn0 HRwn0 HZwn0))
  clear eb1
  refine (HN2.out _).mono ?_
  rintro e w1 ⟨rfl, rfl⟩
  clear HN2
  by_cases he2 : e2 = 0
  rotate_left
  · have eb : ((e2 : Int) != 0) = true := bne_iff_ne.2 (by omega)
    have HFE : Hid (parseN s = (noneH, e2)) := Lib.hid (by
      have h : errN s (rowsN 2) = e2 := by rw [HEQ.out, if_pos he0, if_pos he1, if_neg he2]
      rw [HP.out, h, if_neg he2])
    clear he2
    go_wp2_with (first | (refine hl_set rfl 3 size_int _ _ rfl g 5 rfl (⟨[], [], 0, vm, vu, 0, 0, 0, [], [], 0, 0, 2⟩ : HeadL) HHwn1.out (by decide) (.int .i64 vg) rfl rfl rfl (⟨[], [], 0, vm, vu, vg, 0, 0, [], [], 0, 0, 2⟩ : HeadL) rfl _ w HXwn1.out (by omega) ?_; intro wz hA hB hK; have HHwz := Lib.hid hA; have HXwz := Lib.hid hB; have HRwz := Lib.hid (HRwn1.out.same (hK _ (by omega))); have HZwz := Lib.hid (HZwn1.out.same (hK _ (by omega))); clear hA hB hK HHwn1 HXwn1 HRwn1 HZwn1) | (refine hl_load rfl _ rfl _ rfl noneH HZwz.out ?_) | (refine hl_store rfl _ _ rfl _ rfl noneH noneH HRwz.out rfl _ w HXwz.out (Nat.le_refl _) ?_; intro w9 hR9 hb9 hk9))
    refine bodyPost_ret (results_ht rfl _ _ _ noneH rfl hR9) rfl ⟨by rw [HFE.out]; rfl, hb9⟩
  have eb2 : ((e2 : Int) != 0) = false := by rw [he2]; rfl
  go_wp2_with (first | (refine hl_set rfl 3 size_int _ _ rfl g 5 rfl (⟨[], [], 0, vm, vu, 0, 0, 0, [], [], 0, 0, 2⟩ : HeadL) HHwn1.out (by decide) (.int .i64 vg) rfl rfl rfl (⟨[], [], 0, vm, vu, vg, 0, 0, [], [], 0, 0, 2⟩ : HeadL) rfl _ w HXwn1.out (by omega) ?_; intro wn2 hA hB hK; have HHwn2 := Lib.hid hA; have HXwn2 := Lib.hid hB; have HRwn2 := Lib.hid (HRwn1.out.same (hK _ (by omega))); have HZwn2 := Lib.hid (HZwn1.out.same (hK _ (by omega))); clear hA hB hK HHwn1 HXwn1 HRwn1 HZwn1))
  clear eb2
  refine (HN3.out _).mono ?_
  rintro e w1 ⟨rfl, rfl⟩
  clear HN3
  by_cases he3 : e3 = 0
  rotate_left
  · have eb : ((e3 : Int) != 0) = true := bne_iff_ne.2 (by omega)
    have HFE : Hid (parseN s = (noneH, e3)) := Lib.hid (by
      have h : errN s (rowsN 2) = e3 := by rw [HEQ.out, if_pos he0, if_pos he1, if_pos he2, if_neg he3]
      rw [HP.out, h, if_neg he3])
    clear he3
    go_wp2_with (first | (refine hl_set rfl 3 size_int _ _ rfl g 6 rfl (⟨[], [], 0, vm, vu, vg, 0, 0, [], [], 0, 0, 2⟩ : HeadL) HHwn2.out (by decide) (.int .i64 vs) rfl rfl rfl (⟨[], [], 0, vm, vu, vg, vs, 0, [], [], 0, 0, 2⟩ : HeadL) rfl _ w HXwn2.out (by omega) ?_; intro wz hA hB hK; have HHwz := Lib.hid hA; have HXwz := Lib.hid hB; have HRwz := Lib.hid (HRwn2.out.same (hK _ (by omega))); have HZwz := Lib.hid (HZwn2.out.same (hK _ (by omega))); clear hA hB hK HHwn2 HXwn2 HRwn2 HZwn2) | (refine hl_load rfl _ rfl _ rfl noneH HZwz.out ?_) | (refine hl_store rfl _ _ rfl _ rfl noneH noneH HRwz.out rfl _ w HXwz.out (Nat.le_refl _) ?_; intro w9 hR9 hb9 hk9))
    refine bodyPost_ret (results_ht rfl _ _ _ noneH rfl hR9) rfl ⟨by rw [HFE.out]; rfl, hb9⟩
  have eb3 : ((e3 : Int) != 0) = false := by rw [he3]; rfl
  go_wp2_with (first | (refine hl_set rfl 3 size_int _ _ rfl g 6 rfl (⟨[], [], 0, vm, vu, vg, 0, 0, [], [], 0, 0, 2⟩ : HeadL) HHwn2.out (by decide) (.int .i64 vs) rfl rfl rfl (⟨[], [], 0, vm, vu, vg, vs, 0, [], [], 0, 0, 2⟩ : HeadL) rfl _ w HXwn2.out (by omega) ?_; intro wn3 hA hB hK; have HHwn3 := Lib.hid hA; have HXwn3 := Lib.hid hB; have HRwn3 := Lib.hid (HRwn2.out.same (hK _ (by omega))); have HZwn3 := Lib.hid (HZwn2.out.same (hK _ (by omega))); clear hA hB hK HHwn2 HXwn2 HRwn2 HZwn2))
  clear eb3
  refine (HN4.out _).mono ?_
  rintro e w1 ⟨rfl, rfl⟩
  clear HN4
  by_cases he4 : e4 = 0
  rotate_left
  · have eb : ((e4 : Int) != 0) = true := bne_iff_ne.2 (by omega)
    have HFE : Hid (parseN s = (noneH, e4)) := Lib.hid (by
      have h : errN s (rowsN 2) = e4 := by rw [HEQ.out, if_pos he0, if_pos he1, if_pos he2, if_pos he3, if_neg he4]
      rw [HP.out, h, if_neg he4])
    clear he4
    go_wp2_with (first | (refine hl_set rfl 3 size_int _ _ rfl g 7 rfl (⟨[], [], 0, vm, vu, vg, vs, 0, [], [], 0, 0, 2⟩ : HeadL) HHwn3.out (by decide) (.int .i64 vt) rfl rfl rfl (⟨[], [], 0, vm, vu, vg, vs, vt, [], [], 0, 0, 2⟩ : HeadL) rfl _ w HXwn3.out (by omega) ?_; intro wz hA hB hK; have HHwz := Lib.hid hA; have HXwz := Lib.hid hB; have HRwz := Lib.hid (HRwn3.out.same (hK _ (by omega))); have HZwz := Lib.hid (HZwn3.out.same (hK _ (by omega))); clear hA hB hK HHwn3 HXwn3 HRwn3 HZwn3) | (refine hl_load rfl _ rfl _ rfl noneH HZwz.out ?_) | (refine hl_store rfl _ _ rfl _ rfl noneH noneH HRwz.out rfl _ w HXwz.out (Nat.le_refl _) ?_; intro w9 hR9 hb9 hk9))
    refine bodyPost_ret (results_ht rfl _ _ _ noneH rfl hR9) rfl ⟨by rw [HFE.out]; rfl, hb9⟩
  have eb4 : ((e4 : Int) != 0) = false := by rw [he4]; rfl
  go_wp2_with (first | (refine hl_set rfl 3 size_int _ _ rfl g 7 rfl (⟨[], [], 0, vm, vu, vg, vs, 0, [], [], 0, 0, 2⟩ : HeadL) HHwn3.out (by decide) (.int .i64 vt) rfl rfl rfl (⟨[], [], 0, vm, vu, vg, vs, vt, [], [], 0, 0, 2⟩ : HeadL) rfl _ w HXwn3.out (by omega) ?_; intro wn4 hA hB hK; have HHwn4 := Lib.hid hA; have HXwn4 := Lib.hid hB; have HRwn4 := Lib.hid (HRwn3.out.same (hK _ (by omega))); have HZwn4 := Lib.hid (HZwn3.out.same (hK _ (by omega))); clear hA hB hK HHwn3 HXwn3 HRwn3 HZwn3) | (refine hl_get rfl 3 _ rfl (noagg_int _) g 12 rfl (⟨[], [], 0, vm, vu, vg, vs, vt, [], [], 0, 0, 2⟩ : HeadL) HHwn4.out (.int .i64 2) rfl ?_))
  clear eb4
  refine (HN5.out _).mono ?_
  rintro e w1 ⟨rfl, rfl⟩
  clear HN5
  by_cases he5 : e5 = 0
  rotate_left
  · have eb : ((e5 : Int) != 0) = true := bne_iff_ne.2 (by omega)
    have HFE : Hid (parseN s = (noneH, e5)) := Lib.hid (by
      have h : errN s (rowsN 2) = e5 := by rw [HEQ.out, if_pos he0, if_pos he1, if_pos he2, if_pos he3, if_pos he4, if_neg he5]
      rw [HP.out, h, if_neg he5])
    clear he5
    go_wp2_with (first | (refine hl_set rfl 3 size_int _ _ rfl g 10 rfl (⟨[], [], 0, vm, vu, vg, vs, vt, [], [], 0, 0, 2⟩ : HeadL) HHwn4.out (by decide) (.int .i64 vj) rfl rfl rfl (⟨[], [], 0, vm, vu, vg, vs, vt, [], [], vj, 0, 2⟩ : HeadL) rfl _ w HXwn4.out (by omega) ?_; intro wz hA hB hK; have HHwz := Lib.hid hA; have HXwz := Lib.hid hB; have HRwz := Lib.hid (HRwn4.out.same (hK _ (by omega))); have HZwz := Lib.hid (HZwn4.out.same (hK _ (by omega))); clear hA hB hK HHwn4 HXwn4 HRwn4 HZwn4) | (refine hl_load rfl _ rfl _ rfl noneH HZwz.out ?_) | (refine hl_store rfl _ _ rfl _ rfl noneH noneH HRwz.out rfl _ w HXwz.out (Nat.le_refl _) ?_; intro w9 hR9 hb9 hk9))
    refine bodyPost_ret (results_ht rfl _ _ _ noneH rfl hR9) rfl ⟨by rw [HFE.out]; rfl, hb9⟩
  have eb5 : ((e5 : Int) != 0) = false := by rw [he5]; rfl
  go_wp2_with (first | (refine hl_set rfl 3 size_int _ _ rfl g 10 rfl (⟨[], [], 0, vm, vu, vg, vs, vt, [], [], 0, 0, 2⟩ : HeadL) HHwn4.out (by decide) (.int .i64 vj) rfl rfl rfl (⟨[], [], 0, vm, vu, vg, vs, vt, [], [], vj, 0, 2⟩ : HeadL) rfl _ w HXwn4.out (by omega) ?_; intro wn5 hA hB hK; have HHwn5 := Lib.hid hA; have HXwn5 := Lib.hid hB; have HRwn5 := Lib.hid (HRwn4.out.same (hK _ (by omega))); have HZwn5 := Lib.hid (HZwn4.out.same (hK _ (by omega))); clear hA hB hK HHwn4 HXwn4 HRwn4 HZwn4))
  clear eb5
  refine (HN6.out _).mono ?_
  rintro e w1 ⟨rfl, rfl⟩
  clear HN6
  by_cases he6 : e6 = 0
  rotate_left
  · have eb : ((e6 : Int) != 0) = true := bne_iff_ne.2 (by omega)
    have HFE : Hid (parseN s = (noneH, e6)) := Lib.hid (by
      have h : errN s (rowsN 2) = e6 := by rw [HEQ.out, if_pos he0, if_pos he1, if_pos he2, if_pos he3, if_pos he4, if_pos he5, if_neg he6]
      rw [HP.out, h, if_neg he6])
    clear he6
    go_wp2_with (first | (refine hl_set rfl 3 size_int _ _ rfl g 11 rfl (⟨[], [], 0, vm, vu, vg, vs, vt, [], [], vj, 0, 2⟩ : HeadL) HHwn5.out (by decide) (.int .i64 vn) rfl rfl rfl (⟨[], [], 0, vm, vu, vg, vs, vt, [], [], vj, vn, 2⟩ : HeadL) rfl _ w HXwn5.out (by omega) ?_; intro wz hA hB hK; have HHwz := Lib.hid hA; have HXwz := Lib.hid hB; have HRwz := Lib.hid (HRwn5.out.same (hK _ (by omega))); have HZwz := Lib.hid (HZwn5.out.same (hK _ (by omega))); clear hA hB hK HHwn5 HXwn5 HRwn5 HZwn5) | (refine hl_load rfl _ rfl _ rfl noneH HZwz.out ?_) | (refine hl_store rfl _ _ rfl _ rfl noneH noneH HRwz.out rfl _ w HXwz.out (Nat.le_refl _) ?_; intro w9 hR9 hb9 hk9))
    refine bodyPost_ret (results_ht rfl _ _ _ noneH rfl hR9) rfl ⟨by rw [HFE.out]; rfl, hb9⟩
  have eb6 : ((e6 : Int) != 0) = false := by rw [he6]; rfl
  go_wp2_with (first | (refine hl_set rfl 3 size_int _ _ rfl g 11 rfl (⟨[], [], 0, vm, vu, vg, vs, vt, [], [], vj, 0, 2⟩ : HeadL) HHwn5.out (by decide) (.int .i64 vn) rfl rfl rfl (⟨[], [], 0, vm, vu, vg, vs, vt, [], [], vj, vn, 2⟩ : HeadL) rfl _ w HXwn5.out (by omega) ?_; intro wn6 hA hB hK; have HHwn6 := Lib.hid hA; have HXwn6 := Lib.hid hB; have HRwn6 := Lib.hid (HRwn5.out.same (hK _ (by omega))); have HZwn6 := Lib.hid (HZwn5.out.same (hK _ (by omega))); clear hA hB hK HHwn5 HXwn5 HRwn5 HZwn5))
  clear eb6
  have HFE : Hid (parseN s = (headN s 2, 0)) := Lib.hid (by
    have h : errN s (rowsN 2) = 0 := by rw [HEQ.out, if_pos he0, if_pos he1, if_pos he2, if_pos he3, if_pos he4, if_pos he5, if_pos he6]
    rw [HP.out, h, if_pos rfl])
  clear HP HEQ he0 he1 he2 he3 he4 he5 he6
  refine (HT265.out _).mono ?_
  rintro e w1 ⟨rfl, rfl⟩
  clear HT265
  go_wp2_with (refine hl_set rfl 9 size_str _ _ rfl g 8 rfl (⟨[], [], 0, vm, vu, vg, vs, vt, [], [], vj, vn, 2⟩ : HeadL) HHwn6.out (by decide) (.string (S T265)) rfl rfl rfl (⟨[], [], 0, vm, vu, vg, vs, vt, T265, [], vj, vn, 2⟩ : HeadL) rfl _ w HXwn6.out (by omega) ?_; intro wu hA hB hK; have HHwu := Lib.hid hA; have HXwu := Lib.hid hB; have HRwu := Lib.hid (HRwn6.out.same (hK _ (by omega))); have HZwu := Lib.hid (HZwn6.out.same (hK _ (by omega))); clear hA hB hK HHwn6 HXwn6 HRwn6 HZwn6)
  refine (HT297.out _).mono ?_
  rintro e w1 ⟨rfl, rfl⟩
  clear HT297
  go_wp2_with (refine hl_set rfl 9 size_str _ _ rfl g 9 rfl (⟨[], [], 0, vm, vu, vg, vs, vt, T265, [], vj, vn, 2⟩ : HeadL) HHwu.out (by decide) (.string (S T297)) rfl rfl rfl (⟨[], [], 0, vm, vu, vg, vs, vt, T265, T297, vj, vn, 2⟩ : HeadL) rfl _ w HXwu.out (by omega) ?_; intro wv hA hB hK; have HHwv := Lib.hid hA; have HXwv := Lib.hid hB; have HRwv := Lib.hid (HRwu.out.same (hK _ (by omega))); have HZwv := Lib.hid (HZwu.out.same (hK _ (by omega))); clear hA hB hK HHwu HXwu HRwu HZwu)
  refine (HT0.out _).mono ?_
  rintro e w1 ⟨rfl, rfl⟩
  clear HT0
  go_wp2_with (refine hl_set rfl 9 size_str _ _ rfl g 0 rfl (⟨[], [], 0, vm, vu, vg, vs, vt, T265, T297, vj, vn, 2⟩ : HeadL) HHwv.out (by decide) (.string (S T0)) rfl rfl rfl (⟨T0, [], 0, vm, vu, vg, vs, vt, T265, T297, vj, vn, 2⟩ : HeadL) rfl _ w HXwv.out (by omega) ?_; intro wx hA hB hK; have HHwx := Lib.hid hA; have HXwx := Lib.hid hB; have HRwx := Lib.hid (HRwv.out.same (hK _ (by omega))); have HZwx := Lib.hid (HZwv.out.same (hK _ (by omega))); clear hA hB hK HHwv HXwv HRwv HZwv)
  refine (HT345.out _).mono ?_
  rintro e w1 ⟨rfl, rfl⟩
  clear HT345
  by_cases hp : T345.length = 0
  · have hpe : T345 = [] := List.eq_nil_of_length_eq_zero hp
    subst hpe
    have HJL : Hid (joinL [] T0 = T0) := Lib.hid rfl
    clear hp hl345
    go_wp2_with (first | (refine hl_get rfl 3 _ rfl (noagg_int _) g 12 rfl (⟨T0, [], 0, vm, vu, vg, vs, vt, T265, T297, vj, vn, 2⟩ : HeadL) HHwx.out (.int .i64 2) rfl ?_))
    refine (HT157.out _).mono ?_
    rintro e w1 ⟨rfl, rfl⟩
    clear HT157
    obtain ⟨c, hcc⟩ : ∃ c, (S s)[156]'hks = c := ⟨_, rfl⟩
    rw [hcc] at HK
    by_cases hc0 : c = 0
    · have hcb : ((c.toNat : Int) == 0) = true := by rw [hc0]; rfl
      have HKF : Hid (headN s 2 = (⟨T0, T157, 48, vm, vu, vg, vs, vt, T265, T297, vj, vn, 2⟩ : HeadL)) := Lib.hid (by rw [HFH.out, HK.out]; unfold kindN; rw [if_pos hc0]; rw [HJL.out])
      clear hc0
      go_wp2_with (first | (refine hl_set rfl 9 size_str _ _ rfl g 1 rfl (⟨T0, [], 0, vm, vu, vg, vs, vt, T265, T297, vj, vn, 2⟩ : HeadL) HHwx.out (by decide) (.string (S T157)) rfl rfl rfl (⟨T0, T157, 0, vm, vu, vg, vs, vt, T265, T297, vj, vn, 2⟩ : HeadL) rfl _ w HXwx.out (by omega) ?_; intro wl hA hB hK; have HHwl := Lib.hid hA; have HXwl := Lib.hid hB; have HRwl := Lib.hid (HRwx.out.same (hK _ (by omega))); have HZwl := Lib.hid (HZwx.out.same (hK _ (by omega))); clear hA hB hK HHwx HXwx HRwx HZwx) | (refine hl_set rfl 5 size_u8 _ _ rfl g 2 rfl (⟨T0, T157, 0, vm, vu, vg, vs, vt, T265, T297, vj, vn, 2⟩ : HeadL) HHwl.out (by decide) (.int .u8 c.toNat) rfl rfl rfl (⟨T0, T157, c, vm, vu, vg, vs, vt, T265, T297, vj, vn, 2⟩ : HeadL) rfl _ w HXwl.out (by omega) ?_; intro wk hA hB hK; have HHwk := Lib.hid hA; have HXwk := Lib.hid hB; have HRwk := Lib.hid (HRwl.out.same (hK _ (by omega))); have HZwk := Lib.hid (HZwl.out.same (hK _ (by omega))); clear hA hB hK HHwl HXwl HRwl HZwl) | (refine hl_get rfl 5 _ rfl (noagg_u8 _) g 2 rfl (⟨T0, T157, c, vm, vu, vg, vs, vt, T265, T297, vj, vn, 2⟩ : HeadL) HHwk.out (.int .u8 c.toNat) rfl ?_) | (refine hl_set rfl 5 size_u8 _ _ rfl g 2 rfl (⟨T0, T157, c, vm, vu, vg, vs, vt, T265, T297, vj, vn, 2⟩ : HeadL) HHwk.out (by decide) (.int .u8 48) rfl rfl rfl (⟨T0, T157, 48, vm, vu, vg, vs, vt, T265, T297, vj, vn, 2⟩ : HeadL) rfl _ w HXwk.out (by omega) ?_; intro wm hA hB hK; have HHwm := Lib.hid hA; have HXwm := Lib.hid hB; have HRwm := Lib.hid (HRwk.out.same (hK _ (by omega))); have HZwm := Lib.hid (HZwk.out.same (hK _ (by omega))); clear hA hB hK HHwk HXwk HRwk HZwk) | (refine hl_load rfl _ rfl g rfl (⟨T0, T157, 48, vm, vu, vg, vs, vt, T265, T297, vj, vn, 2⟩ : HeadL) HHwm.out ?_) | (refine hl_store rfl _ _ rfl _ rfl noneH (⟨T0, T157, 48, vm, vu, vg, vs, vt, T265, T297, vj, vn, 2⟩ : HeadL) HRwm.out rfl _ w HXwm.out (Nat.le_refl _) ?_; intro w9 hR9 hb9 hk9))
      refine bodyPost_ret (results_ht rfl _ _ _ (⟨T0, T157, 48, vm, vu, vg, vs, vt, T265, T297, vj, vn, 2⟩ : HeadL) rfl hR9) rfl ⟨by rw [HFE.out, HKF.out]; rfl, hb9⟩
    · have hcb : ((c.toNat : Int) == 0) = false := byte_beq' c 0 0 rfl hc0
      have HKF : Hid (headN s 2 = (⟨T0, T157, c, vm, vu, vg, vs, vt, T265, T297, vj, vn, 2⟩ : HeadL)) := Lib.hid (by rw [HFH.out, HK.out]; unfold kindN; rw [if_neg hc0]; rw [HJL.out])
      clear hc0
      go_wp2_with (first | (refine hl_set rfl 9 size_str _ _ rfl g 1 rfl (⟨T0, [], 0, vm, vu, vg, vs, vt, T265, T297, vj, vn, 2⟩ : HeadL) HHwx.out (by decide) (.string (S T157)) rfl rfl rfl (⟨T0, T157, 0, vm, vu, vg, vs, vt, T265, T297, vj, vn, 2⟩ : HeadL) rfl _ w HXwx.out (by omega) ?_; intro wl hA hB hK; have HHwl := Lib.hid hA; have HXwl := Lib.hid hB; have HRwl := Lib.hid (HRwx.out.same (hK _ (by omega))); have HZwl := Lib.hid (HZwx.out.same (hK _ (by omega))); clear hA hB hK HHwx HXwx HRwx HZwx) | (refine hl_set rfl 5 size_u8 _ _ rfl g 2 rfl (⟨T0, T157, 0, vm, vu, vg, vs, vt, T265, T297, vj, vn, 2⟩ : HeadL) HHwl.out (by decide) (.int .u8 c.toNat) rfl rfl rfl (⟨T0, T157, c, vm, vu, vg, vs, vt, T265, T297, vj, vn, 2⟩ : HeadL) rfl _ w HXwl.out (by omega) ?_; intro wk hA hB hK; have HHwk := Lib.hid hA; have HXwk := Lib.hid hB; have HRwk := Lib.hid (HRwl.out.same (hK _ (by omega))); have HZwk := Lib.hid (HZwl.out.same (hK _ (by omega))); clear hA hB hK HHwl HXwl HRwl HZwl) | (refine hl_get rfl 5 _ rfl (noagg_u8 _) g 2 rfl (⟨T0, T157, c, vm, vu, vg, vs, vt, T265, T297, vj, vn, 2⟩ : HeadL) HHwk.out (.int .u8 c.toNat) rfl ?_) | (refine hl_load rfl _ rfl g rfl (⟨T0, T157, c, vm, vu, vg, vs, vt, T265, T297, vj, vn, 2⟩ : HeadL) HHwk.out ?_) | (refine hl_store rfl _ _ rfl _ rfl noneH (⟨T0, T157, c, vm, vu, vg, vs, vt, T265, T297, vj, vn, 2⟩ : HeadL) HRwk.out rfl _ w HXwk.out (Nat.le_refl _) ?_; intro w9 hR9 hb9 hk9))
      refine bodyPost_ret (results_ht rfl _ _ _ (⟨T0, T157, c, vm, vu, vg, vs, vt, T265, T297, vj, vn, 2⟩ : HeadL) rfl hR9) rfl ⟨by rw [HFE.out, HKF.out]; rfl, hb9⟩
  · have hpe : T345.isEmpty = false := by cases T345 with | nil => exact absurd rfl hp | cons => rfl
    have hpn : (T345 == []) = false := by cases T345 with | nil => exact absurd rfl hp | cons => rfl
    have HJL : Hid (joinL T345 T0 = T345 ++ 47 :: T0) := Lib.hid (if_neg hp)
    have HSJ : Hid (S T345 ++ S [47] ++ S T0 = S (T345 ++ 47 :: T0)) := Lib.hid (by rw [S_append, S_append]; congr 1; simp)
    clear hp
    go_wp2_with (first | (refine hl_get rfl 3 _ rfl (noagg_int _) g 12 rfl (⟨T0, [], 0, vm, vu, vg, vs, vt, T265, T297, vj, vn, 2⟩ : HeadL) HHwx.out (.int .i64 2) rfl ?_) | (refine hl_get rfl 9 _ rfl (noagg_str _) g 0 rfl (⟨T0, [], 0, vm, vu, vg, vs, vt, T265, T297, vj, vn, 2⟩ : HeadL) HHwx.out (.string (S T0)) rfl ?_) | (refine hl_set rfl 9 size_str _ _ rfl g 0 rfl (⟨T0, [], 0, vm, vu, vg, vs, vt, T265, T297, vj, vn, 2⟩ : HeadL) HHwx.out (by decide) (.string (S T345 ++ S [47] ++ S T0)) rfl rfl rfl (⟨(T345 ++ 47 :: T0), [], 0, vm, vu, vg, vs, vt, T265, T297, vj, vn, 2⟩ : HeadL) (by rw [HSJ.out]; rfl) _ w HXwx.out (by omega) ?_; intro wj hA hB hK; have HHwj := Lib.hid hA; have HXwj := Lib.hid hB; have HRwj := Lib.hid (HRwx.out.same (hK _ (by omega))); have HZwj := Lib.hid (HZwx.out.same (hK _ (by omega))); clear hA hB hK HHwx HXwx HRwx HZwx))
    refine (HT157.out _).mono ?_
    rintro e w1 ⟨rfl, rfl⟩
    clear HT157
    obtain ⟨c, hcc⟩ : ∃ c, (S s)[156]'hks = c := ⟨_, rfl⟩
    rw [hcc] at HK
    by_cases hc0 : c = 0
    · have hcb : ((c.toNat : Int) == 0) = true := by rw [hc0]; rfl
      have HKF : Hid (headN s 2 = (⟨(T345 ++ 47 :: T0), T157, 48, vm, vu, vg, vs, vt, T265, T297, vj, vn, 2⟩ : HeadL)) := Lib.hid (by rw [HFH.out, HK.out]; unfold kindN; rw [if_pos hc0]; rw [HJL.out])
      clear hc0
      go_wp2_with (first | (refine hl_set rfl 9 size_str _ _ rfl g 1 rfl (⟨(T345 ++ 47 :: T0), [], 0, vm, vu, vg, vs, vt, T265, T297, vj, vn, 2⟩ : HeadL) HHwj.out (by decide) (.string (S T157)) rfl rfl rfl (⟨(T345 ++ 47 :: T0), T157, 0, vm, vu, vg, vs, vt, T265, T297, vj, vn, 2⟩ : HeadL) rfl _ w HXwj.out (by omega) ?_; intro wl hA hB hK; have HHwl := Lib.hid hA; have HXwl := Lib.hid hB; have HRwl := Lib.hid (HRwj.out.same (hK _ (by omega))); have HZwl := Lib.hid (HZwj.out.same (hK _ (by omega))); clear hA hB hK HHwj HXwj HRwj HZwj) | (refine hl_set rfl 5 size_u8 _ _ rfl g 2 rfl (⟨(T345 ++ 47 :: T0), T157, 0, vm, vu, vg, vs, vt, T265, T297, vj, vn, 2⟩ : HeadL) HHwl.out (by decide) (.int .u8 c.toNat) rfl rfl rfl (⟨(T345 ++ 47 :: T0), T157, c, vm, vu, vg, vs, vt, T265, T297, vj, vn, 2⟩ : HeadL) rfl _ w HXwl.out (by omega) ?_; intro wk hA hB hK; have HHwk := Lib.hid hA; have HXwk := Lib.hid hB; have HRwk := Lib.hid (HRwl.out.same (hK _ (by omega))); have HZwk := Lib.hid (HZwl.out.same (hK _ (by omega))); clear hA hB hK HHwl HXwl HRwl HZwl) | (refine hl_get rfl 5 _ rfl (noagg_u8 _) g 2 rfl (⟨(T345 ++ 47 :: T0), T157, c, vm, vu, vg, vs, vt, T265, T297, vj, vn, 2⟩ : HeadL) HHwk.out (.int .u8 c.toNat) rfl ?_) | (refine hl_set rfl 5 size_u8 _ _ rfl g 2 rfl (⟨(T345 ++ 47 :: T0), T157, c, vm, vu, vg, vs, vt, T265, T297, vj, vn, 2⟩ : HeadL) HHwk.out (by decide) (.int .u8 48) rfl rfl rfl (⟨(T345 ++ 47 :: T0), T157, 48, vm, vu, vg, vs, vt, T265, T297, vj, vn, 2⟩ : HeadL) rfl _ w HXwk.out (by omega) ?_; intro wm hA hB hK; have HHwm := Lib.hid hA; have HXwm := Lib.hid hB; have HRwm := Lib.hid (HRwk.out.same (hK _ (by omega))); have HZwm := Lib.hid (HZwk.out.same (hK _ (by omega))); clear hA hB hK HHwk HXwk HRwk HZwk) | (refine hl_load rfl _ rfl g rfl (⟨(T345 ++ 47 :: T0), T157, 48, vm, vu, vg, vs, vt, T265, T297, vj, vn, 2⟩ : HeadL) HHwm.out ?_) | (refine hl_store rfl _ _ rfl _ rfl noneH (⟨(T345 ++ 47 :: T0), T157, 48, vm, vu, vg, vs, vt, T265, T297, vj, vn, 2⟩ : HeadL) HRwm.out rfl _ w HXwm.out (Nat.le_refl _) ?_; intro w9 hR9 hb9 hk9))
      refine bodyPost_ret (results_ht rfl _ _ _ (⟨(T345 ++ 47 :: T0), T157, 48, vm, vu, vg, vs, vt, T265, T297, vj, vn, 2⟩ : HeadL) rfl hR9) rfl ⟨by rw [HFE.out, HKF.out]; rfl, hb9⟩
    · have hcb : ((c.toNat : Int) == 0) = false := byte_beq' c 0 0 rfl hc0
      have HKF : Hid (headN s 2 = (⟨(T345 ++ 47 :: T0), T157, c, vm, vu, vg, vs, vt, T265, T297, vj, vn, 2⟩ : HeadL)) := Lib.hid (by rw [HFH.out, HK.out]; unfold kindN; rw [if_neg hc0]; rw [HJL.out])
      clear hc0
      go_wp2_with (first | (refine hl_set rfl 9 size_str _ _ rfl g 1 rfl (⟨(T345 ++ 47 :: T0), [], 0, vm, vu, vg, vs, vt, T265, T297, vj, vn, 2⟩ : HeadL) HHwj.out (by decide) (.string (S T157)) rfl rfl rfl (⟨(T345 ++ 47 :: T0), T157, 0, vm, vu, vg, vs, vt, T265, T297, vj, vn, 2⟩ : HeadL) rfl _ w HXwj.out (by omega) ?_; intro wl hA hB hK; have HHwl := Lib.hid hA; have HXwl := Lib.hid hB; have HRwl := Lib.hid (HRwj.out.same (hK _ (by omega))); have HZwl := Lib.hid (HZwj.out.same (hK _ (by omega))); clear hA hB hK HHwj HXwj HRwj HZwj) | (refine hl_set rfl 5 size_u8 _ _ rfl g 2 rfl (⟨(T345 ++ 47 :: T0), T157, 0, vm, vu, vg, vs, vt, T265, T297, vj, vn, 2⟩ : HeadL) HHwl.out (by decide) (.int .u8 c.toNat) rfl rfl rfl (⟨(T345 ++ 47 :: T0), T157, c, vm, vu, vg, vs, vt, T265, T297, vj, vn, 2⟩ : HeadL) rfl _ w HXwl.out (by omega) ?_; intro wk hA hB hK; have HHwk := Lib.hid hA; have HXwk := Lib.hid hB; have HRwk := Lib.hid (HRwl.out.same (hK _ (by omega))); have HZwk := Lib.hid (HZwl.out.same (hK _ (by omega))); clear hA hB hK HHwl HXwl HRwl HZwl) | (refine hl_get rfl 5 _ rfl (noagg_u8 _) g 2 rfl (⟨(T345 ++ 47 :: T0), T157, c, vm, vu, vg, vs, vt, T265, T297, vj, vn, 2⟩ : HeadL) HHwk.out (.int .u8 c.toNat) rfl ?_) | (refine hl_load rfl _ rfl g rfl (⟨(T345 ++ 47 :: T0), T157, c, vm, vu, vg, vs, vt, T265, T297, vj, vn, 2⟩ : HeadL) HHwk.out ?_) | (refine hl_store rfl _ _ rfl _ rfl noneH (⟨(T345 ++ 47 :: T0), T157, c, vm, vu, vg, vs, vt, T265, T297, vj, vn, 2⟩ : HeadL) HRwk.out rfl _ w HXwk.out (Nat.le_refl _) ?_; intro w9 hR9 hb9 hk9))
      refine bodyPost_ret (results_ht rfl _ _ _ (⟨(T345 ++ 47 :: T0), T157, c, vm, vu, vg, vs, vt, T265, T297, vj, vn, 2⟩ : HeadL) rfl hR9) rfl ⟨by rw [HFE.out, HKF.out]; rfl, hb9⟩
end Go.Proofs.YtjldphpdfckjnaaDoor
