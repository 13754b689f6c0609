/- Heads of members: header.Build, walked. -/
import Derived.Test.YtjldphpdfckjnaaDoorHdM
import Derived.Test.YtjldphpdfckjnaaDoorPutB
namespace Go.Proofs.YtjldphpdfckjnaaDoor
open Go.RowKit Go.Maps

theorem places_lt (r : Nat) : (placesL.getD r (0, 0)).1 < 512 := by
  by_cases hr : r < 12
  · have h : r = 0 ∨ r = 1 ∨ r = 2 ∨ r = 3 ∨ r = 4 ∨ r = 5 ∨ r = 6 ∨ r = 7 ∨ r = 8 ∨ r = 9 ∨ r = 10 ∨ r = 11 := by omega
    rcases h with rfl | rfl | rfl | rfl | rfl | rfl | rfl | rfl | rfl | rfl | rfl | rfl <;> decide
  · rw [List.getD_eq_getElem?_getD, List.getElem?_eq_none (by show 12 ≤ r; omega)]
    decide
theorem good_of (h : HeadL) (hf : fitsN h = 0) (x c : Int) (hM : numM h x = some (.int .i64 c)) : goodN x c := by
  obtain ⟨hn, hp, _⟩ := (fits_iff h).1 hf
  by_cases g : goodN x c
  · exact g
  · have := fits_6 h hn hp x c hM g
    rw [hf] at this
    cases this
theorem textM_len (h : HeadL) (hs : shortH h 1000000) (x : Int) (s : List UInt8) (hM : textM h x = some (.string s)) : s.length ≤ 1000000 := by
  obtain ⟨n1, n2, n3, n4⟩ := hs
  have hpl := part_le h
  unfold textM at hM
  split at hM
  · injection hM with hM; injection hM with hM; subst hM; exact n4
  split at hM
  · injection hM with hM; injection hM with hM; subst hM; exact n3
  split at hM
  · injection hM with hM; injection hM with hM; subst hM; exact n2
  split at hM
  · injection hM with hM; injection hM with hM; subst hM; omega
  split at hM
  · injection hM with hM; injection hM with hM; subst hM; omega
  · cases hM
set_option maxRecDepth 100000 in
set_option maxHeartbeats 4000000 in
theorem hBuild_no (h : HeadL) (w : World) (hs : shortH h 1000000) (hw : wfH h) (hf : fitsN h ≠ 0) :
    Calls Tryd.prog 69 #[HV h] w fun e w' => e = .returned (.tuple #[.string (S []), .int .i64 (fitsN h)]) ∧ Below w.heap.size w w' := by
  obtain ⟨w1, hw1⟩ : ∃ w1, w1 = w.alloc (.cells (HC h).toArray 68) := ⟨_, rfl⟩
  have HH1 : Hid (HAt w1 w.heap.size h) := Lib.hid (by rw [hw1]; exact AtB.new w _ (HC h))
  have HX1 : Hid (Below w.heap.size w w1) := Lib.hid (by rw [hw1]; exact (Below.refl _ _).alloc (Nat.le_refl _) _)
  have HW := Lib.hid hw1
  have HF := Lib.hid (hFits_any h w1 hs hw)
  have hfb : ((fitsN h : Int) != 0) = true := bne_iff_ne.2 (by omega)
  generalize fitsN h = F at *
  rw [HV_eq]
  clear hw1 hs hw hf
  go_enter Tryd.func69, Tryd.ntmps69
  go_upto_region 1 with fail
  rw [← HW.out]
  clear HW
  go_wp2_with (refine hl_load rfl _ rfl w.heap.size rfl h HH1.out ?_)
  refine HF.out.mono ?_
  rintro e w2 ⟨rfl, hb2⟩
  go_wp2_with fail
  go_ret2
  exact ⟨rfl, HX1.out.trans (hb2.mono HX1.out.size)⟩
set_option maxRecDepth 100000 in
set_option maxHeartbeats 8000000 in
theorem hBuild_yes (h : HeadL) (w : World) (hs : shortH h 1000000) (hw : wfH h) (hf : fitsN h = 0) :
    Calls Tryd.prog 69 #[HV h] w fun e w' => e = .returned (.tuple #[.string (S (buildN h)), .int .i64 0]) ∧ Below w.heap.size w w' := by
  obtain ⟨w1, hw1⟩ : ∃ w1, w1 = w.alloc (.cells (HC h).toArray 68) := ⟨_, rfl⟩
  have HH1 : Hid (HAt w1 w.heap.size h) := Lib.hid (by rw [hw1]; exact AtB.new w _ (HC h))
  have HX1 : Hid (Below w.heap.size w w1) := Lib.hid (by rw [hw1]; exact (Below.refl _ _).alloc (Nat.le_refl _) _)
  have HW := Lib.hid hw1
  have HFt := Lib.hid (hFits_any h w1 hs hw)
  rw [hf] at HFt
  have hmk : ∀ W : World, (Instr.makeSlice 46 (.int .i64 512) (.int .i64 512)).run Tryd.prog W = .ok (.slice (some ⟨W.heap.size, 0, none⟩) 512 512) (W.alloc (.cells (zerosA 512) 5)) := fun W => mk_bytes 512 512 (Nat.le_refl _) (by decide) W
  have HHS := Lib.hid hs
  have HHW := Lib.hid hw
  have HHF := Lib.hid hf
  have HLN := Lib.hid (lens_of h hf)
  rw [HV_eq]
  clear hw1 hs hw hf
  go_enter Tryd.func69, Tryd.ntmps69
  go_upto_region 1 with fail
  rw [← HW.out]
  clear HW
  go_wp2_with (refine hl_load rfl _ rfl w.heap.size rfl h HH1.out ?_)
  refine HFt.out.mono ?_
  rintro e w2 ⟨rfl, hb2⟩
  have HH2 : Hid (HAt (w2.alloc (.cells (zerosA 512) 5)) w.heap.size h) := Lib.hid (AtB.alloc (HH1.out.under hb2 HH1.out.lt) _)
  have HX2 : Hid (Below w.heap.size w (w2.alloc (.cells (zerosA 512) 5))) := Lib.hid ((HX1.out.trans (hb2.mono HX1.out.size)).alloc (HX1.out.trans (hb2.mono HX1.out.size)).size _)
  have HWB2 : Hid (WholeB (w2.alloc (.cells (zerosA 512) 5)) w2.heap.size (List.replicate 512 0)) := Lib.hid (WholeB.zeros w2 512)
  have hgw : w.heap.size < w2.heap.size := (HH1.out.under hb2 HH1.out.lt).lt
  clear hb2 HH1 HX1 HFt
  go_wp2_with (refine hl_load rfl _ rfl w.heap.size rfl h HH2.out ?_)
  generalize w2.alloc (.cells (zerosA 512) 5) = W2 at *
  generalize w2.heap.size = g at *
  have hgW : g < W2.heap.size := HWB2.out.lt
  refine (texts_any h _ HHS.out).mono ?_
  rintro e w3 ⟨b, rfl, hkm, hbl, hb3⟩
  have HKM := Lib.hid hkm
  have HH3 := Lib.hid (HH2.out.under hb3 HH2.out.lt)
  have HX3 := Lib.hid (HX2.out.trans (hb3.mono HX2.out.size))
  have HWB3 := Lib.hid (HWB2.out.under hb3 hgW)
  have hgb : g < b := by omega
  clear hkm hb3 HH2 HX2 HWB2
  go_wp2_with (at_range; refine app_range _ rfl _ _ rfl 9 Tryd.underlying151 b 5 (textM h) rfl HKM.out ?_; intro w4 cnt4 hrg hgr hsz)
  go_frame
  have HRG := Lib.hid hrg
  have hbr : b < w3.heap.size := HKM.out.lt
  have HB4 := Lib.hid (grown_below0 hgr (Nat.le_refl w3.heap.size))
  have HH4 := Lib.hid (HH3.out.under HB4.out HH3.out.lt)
  have HX4 := Lib.hid (HX3.out.trans (HB4.out.mono HX3.out.size))
  have HWB4 : Hid (WholeB w4 g (rawW h (fun x => (textM h x).isSome) (fun x => (numM h x).isSome))) := Lib.hid (by
    rw [rawW_start h _ _ (by intro x hx; simp only [List.mem_cons, List.not_mem_nil, or_false] at hx; rcases hx with rfl | rfl | rfl | rfl | rfl <;> rfl) (by intro x hx; simp only [List.mem_cons, List.not_mem_nil, or_false] at hx; rcases hx with rfl | rfl | rfl | rfl | rfl | rfl | rfl <;> rfl)]
    exact HWB3.out.under HB4.out (by omega))
  clear hrg hgr hsz HKM HB4 HH3 HX3 HWB3
  generalize w3.heap.size = r at *
  generalize partO h = ok0 at *
  go_loopw [8] (fun _ wr => ∃ (left : Int → Bool) (cnt : Nat), Hid (WholeB wr g (rawW h left (fun x => (numM h x).isSome))) ∧ Hid (KRange 9 wr b r (textM h) left cnt) ∧ Hid (HAt wr w.heap.size h) ∧ Hid (Below w.heap.size w wr)) (fun _ wr => wr.rangeLeft b r)
  case atStart => exact ⟨_, _, HWB4, HRG, HH4, HX4⟩
  case round =>
    obtain ⟨left, cnt, HWB, HR, HH, HX⟩ := hrel
    clear HRG HH4 HX4 HWB4
    go_wp2_with (at_next; refine app_nextS _ rfl _ rfl b r (textM h) left cnt rfl HR.out ?_ ?_)
    · intro hl0
      have HL0 := Lib.hid hl0
      have hgW3 : g < wr.heap.size := HWB.out.lt
      clear hl0 HR
      go_wp2_with (refine hl_load rfl _ rfl w.heap.size rfl h HH.out ?_)
      refine (values_any h _ HHW.out).mono ?_
      rintro e w5 ⟨b2, rfl, hkm, hbl2, hb5⟩
      have HKM := Lib.hid hkm
      have HH5 := Lib.hid (HH.out.under hb5 HH.out.lt)
      have HX5 := Lib.hid (HX.out.trans (hb5.mono HX.out.size))
      have HWB5 := Lib.hid (HWB.out.under hb5 hgW3)
      have hgb2 : g < b2 := by omega
      clear hkm hb5 HH HX HWB
      go_wp2_with (at_range; refine app_range _ rfl _ _ rfl 3 Tryd.underlying154 b2 7 (numM h) rfl HKM.out ?_; intro w6 cnt6 hrg hgr hsz)
      go_frame
      have HRG := Lib.hid hrg
      have hbr2 : b2 < w5.heap.size := HKM.out.lt
      have HB6 := Lib.hid (grown_below0 hgr (Nat.le_refl w5.heap.size))
      have HX6 := Lib.hid (HX5.out.trans (HB6.out.mono HX5.out.size))
      have HH6 := Lib.hid (HH5.out.under HB6.out HH5.out.lt)
      have HWB6 := Lib.hid (HWB5.out.under HB6.out (by omega))
      clear hrg hgr hsz HKM HB6 HH5 HX5 HWB5
      generalize w5.heap.size = r2 at *
      go_loopw [10] (fun _ wr => ∃ (left2 : Int → Bool) (cnt : Nat), Hid (WholeB wr g (rawW h left left2)) ∧ Hid (KRange 3 wr b2 r2 (numM h) left2 cnt) ∧ Hid (HAt wr w.heap.size h) ∧ Hid (Below w.heap.size w wr)) (fun _ wr => wr.rangeLeft b2 r2)
      case atStart => exact ⟨_, _, HWB6, HRG, HH6, HX6⟩
      case round =>
        obtain ⟨left2, cnt2, HWB, HR, HH, HX⟩ := hrel
        clear HRG HX6 HH6 HWB6
        go_wp2_with (at_next; refine app_nextI _ rfl _ rfl b2 r2 (numM h) left2 cnt2 rfl HR.out ?_ ?_)
        · intro hl2
          have HEND := Lib.hid (rawW_end h HLN.out left left2 HL0.out hl2)
          have HLEN := Lib.hid (rawW_len h HLN.out left left2)
          have HB : Hid (sealL (rawN h (List.replicate 8 0)) = buildN h) := Lib.hid (seal_any h HLN.out _ _ rfl rfl)
          generalize rawW h left left2 = X at *
          have c156 := HWB.out.cell 156 (by rw [HLEN.out]; decide)
          have f156 := HWB.out.fz 156
          have HS1 := Lib.hid fun b : UInt8 => HWB.out.set 156 b
          have HS2 := Lib.hid fun b c : UInt8 => (HWB.out.set 156 b).set 156 c
          have HH1 := Lib.hid fun b : UInt8 => HH.out.same (setCell_other wr g 156 w.heap.size (bv b) (by omega))
          have HH2 := Lib.hid fun b c : UInt8 => (HH1.out b).same (setCell_other (wr.setCell ⟨g, 156, none⟩ (bv b)) g 156 w.heap.size (bv c) (by omega))
          have HX1 : Hid (∀ v : Value, Below w.heap.size w (wr.setCell ⟨g, 156, none⟩ v)) := Lib.hid fun v => HX.out.setCell (by show w.heap.size ≤ g; omega) v
          have HX2 : Hid (∀ v u : Value, Below w.heap.size w ((wr.setCell ⟨g, 156, none⟩ v).setCell ⟨g, 156, none⟩ u)) := Lib.hid fun v u => (HX1.out v).setCell (by show w.heap.size ≤ g; omega) u
          generalize X[156]'_ = x156 at *
          clear hl2 HR HWB HL0 HLN
          obtain ⟨c, hc⟩ : ∃ c, h.kind = c := ⟨_, rfl⟩
          have hkc : (HC h)[2]? = some (.int .u8 c.toNat) := by rw [← hc]; rfl
          rw [hc] at HEND
          by_cases hc0 : c = 0
          · have hcb : ((c.toNat : Int) == 0) = true := by rw [hc0]; rfl
            have HW3 : Hid (WholeB ((wr.setCell ⟨g, 156, none⟩ (.int .u8 c.toNat)).setCell ⟨g, 156, none⟩ (.int .u8 48)) g (X.set 156 (kindN c))) := Lib.hid (by
              have := HS2.out c 48
              rw [List.set_set] at this
              rw [show kindN c = 48 by rw [hc0]; rfl]
              exact this)
            have hXl : (layL (X.set 156 (kindN c)) 257 [117, 115, 116, 97, 114, 0, 48, 48]).length = 512 := by
              unfold layL
              rw [List.length_append, List.length_append, List.length_take, List.length_drop, List.length_set, HLEN.out]
              decide
            have HXL := Lib.hid hXl
            clear hXl hc0
            go_wp2_with (first | (refine hl_get rfl 5 _ rfl (noagg_u8 _) w.heap.size 2 rfl h HH.out _ hkc ?_) | (refine hl_get rfl 5 _ rfl (noagg_u8 _) w.heap.size 2 rfl h (HH1.out c) _ hkc ?_) | (refine app_lay rfl _ _ rfl g 257 255 255 rfl [117, 115, 116, 97, 114, 0, 48, 48] (X.set 156 (kindN c)) rfl HW3.out (by decide) (by rw [List.length_set, HLEN.out]; decide) w.heap.size w (HX2.out _ _) (by omega) ?_; intro w8 hW8 hX8 _ _; have hown := hW8.own 0 (Nat.zero_le _) (by rw [HXL.out]; decide); rw [HXL.out] at hown; have hcv := run_string_own _ _ _ _ hown; have HX8 := Lib.hid hX8; clear hown hW8 hX8))
            rw [HEND.out] at *
            refine (sSeal_any _ _ (by rw [← HEND.out]; exact HXL.out)).mono ?_
            rintro e w9 ⟨rfl, hb9⟩
            rw [HB.out]
            go_wp2_with fail
            go_ret2
            exact ⟨rfl, HX8.out.trans (hb9.mono HX8.out.size)⟩
          · have hcb : ((c.toNat : Int) == 0) = false := byte_beq' c 0 0 rfl hc0
            have HW3 : Hid (WholeB (wr.setCell ⟨g, 156, none⟩ (.int .u8 c.toNat)) g (X.set 156 (kindN c))) := Lib.hid (by
              have := HS1.out c
              unfold kindN
              rw [if_neg hc0]
              exact this)
            have hXl : (layL (X.set 156 (kindN c)) 257 [117, 115, 116, 97, 114, 0, 48, 48]).length = 512 := by
              unfold layL
              rw [List.length_append, List.length_append, List.length_take, List.length_drop, List.length_set, HLEN.out]
              decide
            have HXL := Lib.hid hXl
            clear hXl hc0
            go_wp2_with (first | (refine hl_get rfl 5 _ rfl (noagg_u8 _) w.heap.size 2 rfl h HH.out _ hkc ?_) | (refine hl_get rfl 5 _ rfl (noagg_u8 _) w.heap.size 2 rfl h (HH1.out c) _ hkc ?_) | (refine app_lay rfl _ _ rfl g 257 255 255 rfl [117, 115, 116, 97, 114, 0, 48, 48] (X.set 156 (kindN c)) rfl HW3.out (by decide) (by rw [List.length_set, HLEN.out]; decide) w.heap.size w (HX1.out _) (by omega) ?_; intro w8 hW8 hX8 _ _; have hown := hW8.own 0 (Nat.zero_le _) (by rw [HXL.out]; decide); rw [HXL.out] at hown; have hcv := run_string_own _ _ _ _ hown; have HX8 := Lib.hid hX8; clear hown hW8 hX8))
            rw [HEND.out] at *
            refine (sSeal_any _ _ (by rw [← HEND.out]; exact HXL.out)).mono ?_
            rintro e w9 ⟨rfl, hb9⟩
            rw [HB.out]
            go_wp2_with fail
            go_ret2
            exact ⟨rfl, HX8.out.trans (hb9.mono HX8.out.size)⟩
        · intro x c w7 cnt7 hlx hM hrg7 hlt7 hg7 hs7 hen
          have hgood := good_of h HHF.out x c hM
          have HLN7 := Lib.hid (rawW_len h HLN.out left left2)
          obtain ⟨q, hxq, hq, hfit, hcase⟩ := rawW_num h HLN.out left left2 x c hM hlx
          subst hxq
          have HR7 := Lib.hid hrg7
          have hr2w : r2 < wr.heap.size := HR.out.ltr
          have HX7 := Lib.hid (HX.out.trans (grown_below hg7 HX.out.size (by omega)))
          have HH7 := Lib.hid (HH.out.same (hg7.block _ HH.out.lt (fun e => by injection e with e; omega)))
          have HWB7 := Lib.hid (HWB.out.same (hg7.block g HWB.out.lt (fun e => by injection e with e; omega)))
          have HLE := Lib.hid (show w7.rangeLeft b2 r2 < wr.rangeLeft b2 r2 by rw [hrg7.left_eq, HR.out.left_eq]; exact hlt7)
          have HIX := Lib.hid (idxP q hq)
          have hkey : ∃ O : List UInt8, O.length = (placesL.getD q (0, 0)).2 ∧ (∀ w : World, Calls Tryd.prog 106 #[.int .i64 c, .int .i64 ((placesL.getD q (0, 0)).2 : Nat)] w fun e w' => e = .returned (.tuple #[.string (S O), .bool true]) ∧ Below w.heap.size w w') ∧
              layL (rawW h left left2) (placesL.getD q (0, 0)).1 O = rawW h left (fun z => left2 z && !(z == (q : Int))) := by
            have p7 : (8 : Nat) ^ (8 - 1) = 2097152 := by decide
            have p11 : (8 : Nat) ^ (12 - 1) = 8589934592 := by decide
            rcases hcase with ⟨hn, hiff, hlay⟩ | ⟨hn, hiff, hlay⟩
            · have hg := hiff.1 hgood
              refine ⟨num8 c, by rw [hn]; exact num8_len c, fun w => ?_, hlay⟩
              rw [hn]
              have := oOctal_yes c.toNat 8 w (by decide) (by rw [p7]; omega)
              rw [show ((c.toNat : Nat) : Int) = c by omega] at this
              exact this
            · have hg := hiff.1 hgood
              refine ⟨num12 c, by rw [hn]; exact num12_len c, fun w => ?_, hlay⟩
              rw [hn]
              have := oOctal_yes c.toNat 12 w (by decide) (by rw [p11]; omega)
              rw [show ((c.toNat : Nat) : Int) = c by omega] at this
              exact this
          obtain ⟨O, hOl, hO, hlay⟩ := hkey
          have HO := Lib.hid hO
          have HLAY := Lib.hid hlay
          clear hcase HR hrg7 hlt7 hg7 hs7 HX hM hlx HH HWB hO hlay hgood
          have hl5 := places_lt q
          generalize (placesL.getD q (0, 0)).2 = n at *
          generalize (placesL.getD q (0, 0)).1 = a at *
          have hfs := field_size a n
          have hff := field_from a n
          have HPL := Lib.hid places_any
          generalize placesA = PA at *
          have ha1 : (a : Int) ≤ 512 := by omega
          have hne : ¬ 512 = a := by omega
          go_wp2_with fail
          refine (HPL.out _).mono ?_
          rintro e w8 ⟨rfl, hb8⟩
          have hi := HIX.out w8
          have HX8 := Lib.hid (HX7.out.trans (hb8.mono HX7.out.size))
          have HR8 := Lib.hid (HR7.out.below hb8 (by have := HR7.out.ltr; omega) HR7.out.ltr)
          have HH8 := Lib.hid (HH7.out.under hb8 HH7.out.lt)
          have HWB8 := Lib.hid (HWB7.out.under hb8 HWB7.out.lt)
          have HLE8 := Lib.hid (show w8.rangeLeft b2 r2 < wr.rangeLeft b2 r2 by have e1 := HR8.out.left_eq; have e2 := HR7.out.left_eq; rw [e1, ← e2]; exact HLE.out)
          clear hen hb8 HX7 HR7 HH7 HWB7 HLE
          go_wp2_with fail
          refine (HO.out _).mono ?_
          rintro e w9 ⟨rfl, hb9⟩
          have HX9 := Lib.hid (HX8.out.trans (hb9.mono HX8.out.size))
          have HR9 := Lib.hid (HR8.out.below hb9 (by have := HR8.out.ltr; omega) HR8.out.ltr)
          have HH9 := Lib.hid (HH8.out.under hb9 HH8.out.lt)
          have HWB9 := Lib.hid (HWB8.out.under hb9 HWB8.out.lt)
          have HLE9 := Lib.hid (show w9.rangeLeft b2 r2 < wr.rangeLeft b2 r2 by have e1 := HR9.out.left_eq; have e2 := HR8.out.left_eq; rw [e1, ← e2]; exact HLE8.out)
          clear hb9 hi HX8 HR8 HH8 HWB8 HLE8 HO
          go_wp2_with fail
          refine (HPL.out _).mono ?_
          rintro e wa ⟨rfl, hba⟩
          have hi := HIX.out wa
          have HXa := Lib.hid (HX9.out.trans (hba.mono HX9.out.size))
          have HRa := Lib.hid (HR9.out.below hba (by have := HR9.out.ltr; omega) HR9.out.ltr)
          have HHa := Lib.hid (HH9.out.under hba HH9.out.lt)
          have HWBa := Lib.hid (HWB9.out.under hba HWB9.out.lt)
          have HLEa := Lib.hid (show wa.rangeLeft b2 r2 < wr.rangeLeft b2 r2 by have e1 := HRa.out.left_eq; have e2 := HR9.out.left_eq; rw [e1, ← e2]; exact HLE9.out)
          clear hba HX9 HR9 HH9 HWB9 HLE9 HPL
          go_wp2_with (refine app_lay rfl _ _ rfl g a (512 - a) (512 - a) rfl O _ rfl HWBa.out (by omega) (by rw [HLN7.out]; omega) w.heap.size w HXa.out (by omega) ?_; intro wb hWb hXb hkb hzb)
          have HWBb := Lib.hid hWb
          rw [HLAY.out] at HWBb
          have HRb := Lib.hid (HRa.out.same (hkb b2 (by omega)) (hkb r2 (by omega)))
          have HHb := Lib.hid (HHa.out.same (hkb _ (by omega)))
          have HXb := Lib.hid hXb
          have HLEb := Lib.hid (show wb.rangeLeft b2 r2 < wr.rangeLeft b2 r2 by have e1 := HRb.out.left_eq; have e2 := HRa.out.left_eq; rw [e1, ← e2]; exact HLEa.out)
          clear hWb hXb hkb hzb
          go_frame
          go_roundw
          case rel => exact ⟨_, _, HWBb, HRb, HHb, HXb⟩
          case measure => exact HLEb.out
    · intro x s w7 cnt7 hlx hM hrg7 hlt7 hg7 hs7 hen
      have HLN7 := Lib.hid (rawW_len h HLN.out left (fun x => (numM h x).isSome))
      obtain ⟨q, hxq, hq, hfit, hlay⟩ := rawW_text h HLN.out left (fun x => (numM h x).isSome) x s hM hlx
      subst hxq
      have HLAY := Lib.hid hlay
      have HR7 := Lib.hid hrg7
      have hrw : r < wr.heap.size := HR.out.ltr
      have HX7 := Lib.hid (HX.out.trans (grown_below hg7 HX.out.size (by omega)))
      have HH7 := Lib.hid (HH.out.same (hg7.block _ HH.out.lt (fun e => by injection e with e; omega)))
      have HWB7 := Lib.hid (HWB.out.same (hg7.block g HWB.out.lt (fun e => by injection e with e; omega)))
      have HLE := Lib.hid (show w7.rangeLeft b r < wr.rangeLeft b r by rw [hrg7.left_eq, HR.out.left_eq]; exact hlt7)
      have HIX := Lib.hid (idxP q hq)
      clear HR hrg7 hlt7 hg7 hs7 HX hM hlx HH HWB hlay
      have hl5 := places_lt q
      generalize (placesL.getD q (0, 0)).2 = n at *
      generalize (placesL.getD q (0, 0)).1 = a at *
      have hff := field_from a n
      have HPL := Lib.hid places_any
      generalize placesA = PA at *
      have ha1 : (a : Int) ≤ 512 := by omega
      have hne : ¬ 512 = a := by omega
      go_wp2_with fail
      refine (HPL.out _).mono ?_
      rintro e wa ⟨rfl, hba⟩
      have hi := HIX.out wa
      have HXa := Lib.hid (HX7.out.trans (hba.mono HX7.out.size))
      have HRa := Lib.hid (HR7.out.below hba (by have := HR7.out.ltr; omega) HR7.out.ltr)
      have HHa := Lib.hid (HH7.out.under hba HH7.out.lt)
      have HWBa := Lib.hid (HWB7.out.under hba HWB7.out.lt)
      have HLEa := Lib.hid (show wa.rangeLeft b r < wr.rangeLeft b r by have e1 := HRa.out.left_eq; have e2 := HR7.out.left_eq; rw [e1, ← e2]; exact HLE.out)
      clear hba HX7 HR7 HH7 HWB7 HLE HPL hen
      go_wp2_with (refine app_lay rfl _ _ rfl g a (512 - a) (512 - a) rfl s _ rfl HWBa.out (by omega) (by rw [HLN7.out]; omega) w.heap.size w HXa.out (by omega) ?_; intro wb hWb hXb hkb hzb)
      have HWBb := Lib.hid hWb
      rw [HLAY.out] at HWBb
      have HRb := Lib.hid (HRa.out.same (hkb b (by omega)) (hkb r (by omega)))
      have HHb := Lib.hid (HHa.out.same (hkb _ (by omega)))
      have HXb := Lib.hid hXb
      have HLEb := Lib.hid (show wb.rangeLeft b r < wr.rangeLeft b r by have e1 := HRb.out.left_eq; have e2 := HRa.out.left_eq; rw [e1, ← e2]; exact HLEa.out)
      clear hWb hXb hkb hzb
      go_frame
      go_roundw
      case rel => exact ⟨_, _, HWBb, HRb, HHb, HXb⟩
      case measure => exact HLEb.out
end Go.Proofs.YtjldphpdfckjnaaDoor
