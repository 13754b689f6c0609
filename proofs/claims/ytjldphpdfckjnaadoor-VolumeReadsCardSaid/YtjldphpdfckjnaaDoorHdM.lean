/- Heads of members: header.Fits, walked. -/
import Derived.Test.YtjldphpdfckjnaaDoorHdN
import Derived.Test.YtjldphpdfckjnaaDoorOctK
namespace Go.Proofs.YtjldphpdfckjnaaDoor
open Go.RowKit Go.Maps

theorem field_size (a n : Nat) (w : World) : (Instr.field 139 (.agg #[.int .i64 a, .int .i64 n]) 1).run Tryd.prog w = .ok (.int .i64 n) w := by kernel_rfl
theorem field_from (a n : Nat) (w : World) : (Instr.field 139 (.agg #[.int .i64 a, .int .i64 n]) 0).run Tryd.prog w = .ok (.int .i64 a) w := by kernel_rfl
set_option maxRecDepth 100000 in
set_option maxHeartbeats 8000000 in
theorem hFits_any (h : HeadL) (w : World) (hs : shortH h 1000000) (hw : wfH h) :
    Calls Tryd.prog 103 #[HV h] w fun e w' => e = .returned (.int .i64 (fitsN h)) ∧ Below w.heap.size w w' := by
  obtain ⟨w1, hw1⟩ : ∃ w1, w1 = w.alloc (.cells (HC h).toArray 68) := ⟨_, rfl⟩
  have HH1 : Hid (HAt w1 w.heap.size h) := Lib.hid (by rw [hw1]; exact AtB.new w _ (HC h))
  have HX1 : Hid (Below w.heap.size w w1) := Lib.hid (by rw [hw1]; exact (Below.refl _ _).alloc (Nat.le_refl _) _)
  have HW := Lib.hid hw1
  have HB2 : Hid (AtB (w1.alloc (.cells #[.string (S h.name), .string (S h.link), .string (S h.uname), .string (S h.gname)] 9)) w1.heap.size 9 ((four h).map fun l => .string (S l))) := Lib.hid (AtB.new w1 9 ((four h).map fun l => .string (S l)))
  have HH2 : Hid (HAt (w1.alloc (.cells #[.string (S h.name), .string (S h.link), .string (S h.uname), .string (S h.gname)] 9)) w.heap.size h) := Lib.hid (AtB.alloc HH1.out _)
  have HX2 : Hid (Below w.heap.size w (w1.alloc (.cells #[.string (S h.name), .string (S h.link), .string (S h.uname), .string (S h.gname)] 9))) := Lib.hid (HX1.out.alloc HX1.out.size _)
  have HHS := Lib.hid hs
  have HHW := Lib.hid hw
  rw [HV_eq]
  clear hw1 hs hw
  go_enter Tryd.func103, Tryd.ntmps103
  go_upto_region 1 with fail
  rw [← HW.out]
  clear HW
  go_wp2_with (first | (refine hl_get rfl 9 _ rfl (noagg_str _) w.heap.size 0 rfl h HH1.out (.string (S h.name)) rfl ?_) | (refine hl_get rfl 9 _ rfl (noagg_str _) w.heap.size 1 rfl h HH1.out (.string (S h.link)) rfl ?_) | (refine hl_get rfl 9 _ rfl (noagg_str _) w.heap.size 8 rfl h HH1.out (.string (S h.uname)) rfl ?_) | (refine hl_get rfl 9 _ rfl (noagg_str _) w.heap.size 9 rfl h HH1.out (.string (S h.gname)) rfl ?_))
  generalize w1.alloc (.cells #[.string (S h.name), .string (S h.link), .string (S h.uname), .string (S h.gname)] 9) = W2 at *
  generalize w1.heap.size = bs at *
  clear HH1 HX1
  go_loopw [23] (fun v23 wr => ∃ k : Nat, v23 = .int .i64 k ∧ k ≤ 4 ∧ Hid (∀ j (hj : j < (four h).length), j < k → noNul (four h)[j] = true) ∧ W2 = wr) (fun v23 _ => 4 - (intOf v23).toNat)
  case atStart => exact ⟨0, rfl, Nat.zero_le _, Lib.hid (fun j _ hj => absurd hj (Nat.not_lt_zero _)), rfl⟩
  case round =>
    obtain ⟨k, rfl, hk, HN, rfl⟩ := hrel
    by_cases hlt : k < 4
    · have hkI : (k : Int) < 4 := by omega
      have hk4 : k < (four h).length := hlt
      obtain ⟨l, hl⟩ : ∃ l, (four h)[k] = l := ⟨_, rfl⟩
      have c0 : W2.cell? ⟨bs, k, none⟩ = some (.string (S l)) := by
        rw [HB2.out.cell k, List.getElem?_map, List.getElem?_eq_getElem hk4, hl]; rfl
      rcases idx_nul l with ⟨i1, i2⟩ | ⟨i, i1, i2⟩
      · have HN2 : Hid (∀ j (hj : j < (four h).length), j < k + 1 → noNul (four h)[j] = true) := Lib.hid (fun j hj hlt2 => by
          by_cases e : j = k
          · subst e; rw [hl]; exact i2
          · exact HN.out j hj (by omega))
        have HI := Lib.hid i1
        clear i1 i2 HN hl
        go_wp2_with fail
        refine (Go.Proofs.Tryd.strings_IndexByte _ _ _).mono ?_
        rintro e w9 ⟨rfl, rfl⟩
        have i1 : Lib.indexByte (S l).data.toList ((0 : Int).toNat.toUInt8) = -1 := HI.out
        rw [i1]
        clear i1 HI
        go_wp2_with fail
        go_roundw
        case rel => exact ⟨k + 1, by go_num, by omega, HN2, trivial⟩
        case measure => simp [intOf] <;> omega
      · have HF : Hid (fitsN h = 2) := Lib.hid (fits_2 h k hk4 (by rw [hl]; exact i2))
        have HI := Lib.hid i1
        clear i1 i2 HN hl
        go_wp2_with fail
        refine (Go.Proofs.Tryd.strings_IndexByte _ _ _).mono ?_
        rintro e w9 ⟨rfl, rfl⟩
        have i1 : Lib.indexByte (S l).data.toList ((0 : Int).toNat.toUInt8) = i := HI.out
        rw [i1]
        clear i1 HI
        go_wp2_with fail
        go_ret
        exact ⟨by rw [HF.out]; rfl, HX2.out⟩
    · have hkk : k = 4 := by omega
      subst hkk
      have HNA := Lib.hid (four_all h (fun j hj => HN.out j hj hj))
      clear HN HB2
      go_wp2_with (refine hl_load rfl _ rfl w.heap.size rfl h HH2.out ?_)
      refine (texts_any h _ HHS.out).mono ?_
      rintro e w3 ⟨b, rfl, hkm, hbl, hb3⟩
      have HKM := Lib.hid hkm
      have HH3 := Lib.hid (HH2.out.under hb3 HH2.out.lt)
      have HX3 := Lib.hid (HX2.out.trans (hb3.mono HX2.out.size))
      have hwb : w.heap.size < b := Nat.lt_of_lt_of_le HH2.out.lt hbl
      clear hkm hb3 HH2 HX2
      go_wp2_with (at_range; refine app_range _ rfl _ _ rfl 9 Tryd.underlying151 b 5 (textM h) rfl HKM.out ?_; intro w4 cnt4 hrg hgr hsz)
      go_frame
      have HRG := Lib.hid hrg
      have hbr : b < w3.heap.size := HKM.out.lt
      have HB4 := Lib.hid (grown_below0 hgr (Nat.le_refl w3.heap.size))
      have HH4 := Lib.hid (HH3.out.under HB4.out HH3.out.lt)
      have HX4 := Lib.hid (HX3.out.trans (HB4.out.mono HX3.out.size))
      clear hrg hgr hsz HKM HB4 HH3 HX3
      have HOK0 : Hid (partO h = okT h (fun x => (textM h x).isSome)) := Lib.hid (okT_start h).symm
      generalize w3.heap.size = r at *
      generalize partO h = ok0 at *
      go_loopw [6] (fun v6 wr => ∃ (left : Int → Bool) (cnt : Nat) (ok : Bool), v6 = .bool ok ∧ Hid (ok = okT h left) ∧ Hid (KRange 9 wr b r (textM h) left cnt) ∧ Hid (HAt wr w.heap.size h) ∧ Hid (Below w.heap.size w wr)) (fun _ wr => wr.rangeLeft b r)
      case atStart => exact ⟨_, _, _, rfl, HOK0, HRG, HH4, HX4⟩
      case round =>
        obtain ⟨left, cnt, ok, rfl, HOK, HR, HH, HX⟩ := hrel
        clear HRG HH4 HX4 HOK0
        go_wp2_with (at_next; refine app_nextS _ rfl _ rfl b r (textM h) left cnt rfl HR.out ?_ ?_)
        · intro hl0
          have HL0 := Lib.hid hl0
          clear hl0
          cases ok with
          | false =>
            have HF := Lib.hid (okT_no h left HL0.out HNA.out HOK.out.symm)
            go_wp2_with fail
            go_ret
            exact ⟨by rw [HF.out]; rfl, HX.out⟩
          | true =>
            have HPP := Lib.hid (okT_yes h left HL0.out HOK.out.symm)
            clear HOK HR HL0
            go_wp2_with (refine hl_load rfl _ rfl w.heap.size rfl h HH.out ?_)
            refine (values_any h _ HHW.out).mono ?_
            rintro e w5 ⟨b2, rfl, hkm, hbl2, hb5⟩
            have HKM := Lib.hid hkm
            have HH5 := Lib.hid (HH.out.under hb5 HH.out.lt)
            have HX5 := Lib.hid (HX.out.trans (hb5.mono HX.out.size))
            have hwb2 : w.heap.size < b2 := Nat.lt_of_lt_of_le HH.out.lt hbl2
            clear hkm hb5 HH HX
            go_wp2_with (at_range; refine app_range _ rfl _ _ rfl 3 Tryd.underlying154 b2 7 (numM h) rfl HKM.out ?_; intro w6 cnt6 hrg hgr hsz)
            go_frame
            have HRG := Lib.hid hrg
            have hbr2 : b2 < w5.heap.size := HKM.out.lt
            have HB6 := Lib.hid (grown_below0 hgr (Nat.le_refl w5.heap.size))
            have HX6 := Lib.hid (HX5.out.trans (HB6.out.mono HX5.out.size))
            clear hrg hgr hsz HKM HB6 HH5 HX5
            generalize w5.heap.size = r2 at *
            go_loopw [9] (fun _ wr => ∃ (left : Int → Bool) (cnt : Nat), Hid (∀ x v, numM h x = some (.int .i64 v) → left x = true ∨ goodN x v) ∧ Hid (KRange 3 wr b2 r2 (numM h) left cnt) ∧ Hid (Below w.heap.size w wr)) (fun _ wr => wr.rangeLeft b2 r2)
            case atStart => exact ⟨_, _, Lib.hid (fun x v e => .inl (by rw [e]; rfl)), HRG, HX6⟩
            case round =>
              obtain ⟨left2, cnt2, HG, HR, HX⟩ := hrel
              clear HRG HX6
              go_wp2_with (at_next; refine app_nextI _ rfl _ rfl b2 r2 (numM h) left2 cnt2 rfl HR.out ?_ ?_)
              · intro hl0
                have HF : Hid (fitsN h = 0) := Lib.hid (fits_end h HNA.out HPP.out (fun x v e => by
                  rcases HG.out x v e with g | g
                  · rw [hl0 x] at g; cases g
                  · exact g))
                clear hl0
                go_wp2_with fail
                go_ret
                exact ⟨by rw [HF.out]; rfl, HX.out⟩
              · intro x c w7 cnt7 hlx hM hrg7 hlt7 hg7 hs7 hen
                obtain ⟨q, hxq, hq, hcase⟩ := num_row h x c hM
                subst hxq
                have HR7 := Lib.hid hrg7
                have HX7 := Lib.hid (HX.out.trans (grown_below hg7 HX.out.size (by have := HR.out.ltr; omega)))
                have HLE := Lib.hid (show w7.rangeLeft b2 r2 < wr.rangeLeft b2 r2 by rw [hrg7.left_eq, HR.out.left_eq]; exact hlt7)
                have HIX := Lib.hid (idxP q hq)
                have HG7 : goodN q c → Hid (∀ x v, numM h x = some (.int .i64 v) → (fun z => left2 z && !(z == (q : Int))) x = true ∨ goodN x v) := fun hgood => Lib.hid (fun x v e => by
                  by_cases hx : x = (q : Int)
                  · subst hx
                    rw [hM] at e
                    injection e with e; injection e with _ e
                    subst e
                    exact .inr hgood
                  · rcases HG.out x v e with g | g
                    · left; simp [g, hx]
                    · exact .inr g)
                have H6 : ¬ goodN q c → Hid (fitsN h = 6) := fun hbad => Lib.hid (fits_6 h HNA.out HPP.out _ c hM hbad)
                have hkey : (Hid (fitsN h = 6) ∧ ∀ w : World, Calls Tryd.prog 106 #[.int .i64 c, .int .i64 ((placesL.getD q (0, 0)).2 : Nat)] w fun e w' => e = .returned (.tuple #[.string (S []), .bool false]) ∧ w = w') ∨
                    (Hid (∀ x v, numM h x = some (.int .i64 v) → (fun z => left2 z && !(z == (q : Int))) x = true ∨ goodN x v) ∧ ∃ O : List UInt8, ∀ w : World, Calls Tryd.prog 106 #[.int .i64 c, .int .i64 ((placesL.getD q (0, 0)).2 : Nat)] w fun e w' => e = .returned (.tuple #[.string (S O), .bool true]) ∧ Below w.heap.size w w') := by
                  have p7 : (8 : Nat) ^ (8 - 1) = 2097152 := by decide
                  have p11 : (8 : Nat) ^ (12 - 1) = 8589934592 := by decide
                  by_cases hgood : goodN q c
                  · right
                    refine ⟨HG7 hgood, ?_⟩
                    rcases hcase with ⟨hn, hiff⟩ | ⟨hn, hiff⟩
                    · have hg := hiff.1 hgood
                      rw [hn]
                      refine ⟨octL (8 - 1) c.toNat [0], fun w => ?_⟩
                      have := oOctal_yes c.toNat 8 w (by decide) (by rw [p7]; omega)
                      rw [show ((c.toNat : Nat) : Int) = c by omega] at this
                      exact this
                    · have hg := hiff.1 hgood
                      rw [hn]
                      refine ⟨octL (12 - 1) c.toNat [0], fun w => ?_⟩
                      have := oOctal_yes c.toNat 12 w (by decide) (by rw [p11]; omega)
                      rw [show ((c.toNat : Nat) : Int) = c by omega] at this
                      exact this
                  · left
                    refine ⟨H6 hgood, fun w => ?_⟩
                    rcases hcase with ⟨hn, hiff⟩ | ⟨hn, hiff⟩
                    · rw [hn]
                      exact oOctal_no c 8 w (by decide) (by
                        rw [p7]
                        by_cases h0 : c < 0
                        · exact .inl h0
                        · right
                          by_cases h1 : c < 2097152
                          · exact absurd (hiff.2 ⟨by omega, h1⟩) hgood
                          · omega)
                    · rw [hn]
                      exact oOctal_no c 12 w (by decide) (by
                        rw [p11]
                        by_cases h0 : c < 0
                        · exact .inl h0
                        · right
                          by_cases h1 : c < 8589934592
                          · exact absurd (hiff.2 ⟨by omega, h1⟩) hgood
                          · omega)
                clear HG7 H6 hcase HG HR hrg7 hlt7 hg7 hs7 HX hM hlx
                generalize (placesL.getD q (0, 0)).2 = n at *
                generalize (placesL.getD q (0, 0)).1 = a at *
                have hfs := field_size a n
                have HPL := Lib.hid places_any
                generalize placesA = PA at *
                rcases hkey with ⟨HF, hO⟩ | ⟨HG2, O, hO⟩
                · have HO := Lib.hid hO
                  clear hO
                  go_wp2_with fail
                  refine (HPL.out _).mono ?_
                  rintro e w8 ⟨rfl, hb8⟩
                  have hi := HIX.out w8
                  have HX8 := Lib.hid (HX7.out.trans (hb8.mono HX7.out.size))
                  clear hen hb8
                  go_wp2_with fail
                  refine (HO.out _).mono ?_
                  rintro e w9 ⟨rfl, rfl⟩
                  go_wp2_with fail
                  go_ret
                  exact ⟨by rw [HF.out]; rfl, HX8.out⟩
                · have HO := Lib.hid hO
                  clear hO
                  go_wp2_with fail
                  refine (HPL.out _).mono ?_
                  rintro e w8 ⟨rfl, hb8⟩
                  have hi := HIX.out w8
                  have HX8 := Lib.hid (HX7.out.trans (hb8.mono HX7.out.size))
                  have HR8 := Lib.hid (HR7.out.below hb8 (by have := HR7.out.ltr; omega) HR7.out.ltr)
                  clear hen hb8
                  go_wp2_with fail
                  refine (HO.out _).mono ?_
                  rintro e w9 ⟨rfl, hb9⟩
                  have HX9 := Lib.hid (HX8.out.trans (hb9.mono HX8.out.size))
                  have HR9 := Lib.hid (HR8.out.below hb9 (by have := HR8.out.ltr; omega) HR8.out.ltr)
                  have HLE9 := Lib.hid (show w9.rangeLeft b2 r2 < wr.rangeLeft b2 r2 by have e1 := HR9.out.left_eq; have e2 := HR7.out.left_eq; rw [e1, ← e2]; exact HLE.out)
                  clear hb9 hi
                  go_wp2_with fail
                  go_roundw
                  case rel => exact ⟨_, _, HG2, HR9, HX9⟩
                  case measure => exact HLE9.out
        · intro x s w7 cnt7 hlx hM hrg7 hlt7 hg7 hs7 hen
          obtain ⟨q, hxq, hq, hstep⟩ := okT_step h left x s hM hlx
          subst hxq
          have HR7 := Lib.hid hrg7
          have HX7 := Lib.hid (HX.out.trans (grown_below hg7 HX.out.size (by have := HR.out.ltr; omega)))
          have HH7 := Lib.hid (HH.out.same (hg7.block _ HH.out.lt (fun e => by injection e with e; omega)))
          have HLE := Lib.hid (show w7.rangeLeft b r < wr.rangeLeft b r by rw [hrg7.left_eq, HR.out.left_eq]; exact hlt7)
          have HIX := Lib.hid (idxP q hq)
          have HST : Hid (∀ d, decide (s.length ≤ (placesL.getD q (0, 0)).2) = d → okT h (fun z => left z && !(z == (q : Int))) = (ok && d)) := Lib.hid (fun d hd => by rw [hstep, hd, HOK.out])
          have hsl : s.length ≤ 1000000 := by
            obtain ⟨n1, n2, n3, n4⟩ := HHS.out
            have hpl := part_le h
            unfold textM at hM
            split at hM
            · injection hM with hM; injection hM with hM; subst hM; exact n4
            split at hM
            · injection hM with hM; injection hM with hM; subst hM; exact n3
            split at hM
            · injection hM with hM; injection hM with hM; subst hM; exact n2
            split at hM
            · injection hM with hM; injection hM with hM; subst hM; omega
            split at hM
            · injection hM with hM; injection hM with hM; subst hM; omega
            · cases hM
          clear hstep HR hrg7 hlt7 hg7 hs7 HX hM hlx HH HOK
          generalize (placesL.getD q (0, 0)).2 = n at *
          generalize (placesL.getD q (0, 0)).1 = a at *
          have hfs := field_size a n
          have HPL := Lib.hid places_any
          generalize placesA = PA at *
          cases ok with
          | false =>
            have HOK2 : Hid (false = okT h (fun z => left z && !(z == (q : Int)))) := Lib.hid (by rw [HST.out _ rfl]; rfl)
            go_wp2_with fail
            go_roundw
            case rel => exact ⟨_, _, _, rfl, HOK2, HR7, HH7, HX7⟩
            case measure => exact HLE.out
          | true =>
            by_cases hle : s.length ≤ n
            · have hleI : (s.length : Int) ≤ (n : Int) := by omega
              have HOK2 : Hid (true = okT h (fun z => left z && !(z == (q : Int)))) := Lib.hid (by rw [HST.out true (decide_eq_true hle)]; rfl)
              go_wp2_with fail
              refine (HPL.out _).mono ?_
              rintro e w8 ⟨rfl, hb8⟩
              have hi := HIX.out w8
              have HX8 := Lib.hid (HX7.out.trans (hb8.mono HX7.out.size))
              have HH8 := Lib.hid (HH7.out.under hb8 HH7.out.lt)
              have HR8 := Lib.hid (HR7.out.below hb8 (by have := HR7.out.ltr; omega) HR7.out.ltr)
              have HLE8 := Lib.hid (show w8.rangeLeft b r < wr.rangeLeft b r by have e1 := HR8.out.left_eq; have e2 := HR7.out.left_eq; rw [e1, ← e2]; exact HLE.out)
              clear hen hb8
              go_wp2_with fail
              go_roundw
              case rel => exact ⟨_, _, _, rfl, HOK2, HR8, HH8, HX8⟩
              case measure => exact HLE8.out
            · have hleI : ¬ (s.length : Int) ≤ (n : Int) := by omega
              have HOK2 : Hid (false = okT h (fun z => left z && !(z == (q : Int)))) := Lib.hid (by rw [HST.out false (decide_eq_false hle)]; rfl)
              go_wp2_with fail
              refine (HPL.out _).mono ?_
              rintro e w8 ⟨rfl, hb8⟩
              have hi := HIX.out w8
              have HX8 := Lib.hid (HX7.out.trans (hb8.mono HX7.out.size))
              have HH8 := Lib.hid (HH7.out.under hb8 HH7.out.lt)
              have HR8 := Lib.hid (HR7.out.below hb8 (by have := HR7.out.ltr; omega) HR7.out.ltr)
              have HLE8 := Lib.hid (show w8.rangeLeft b r < wr.rangeLeft b r by have e1 := HR8.out.left_eq; have e2 := HR7.out.left_eq; rw [e1, ← e2]; exact HLE.out)
              clear hen hb8
              go_wp2_with fail
              go_roundw
              case rel => exact ⟨_, _, _, rfl, HOK2, HR8, HH8, HX8⟩
              case measure => exact HLE8.out
end Go.Proofs.YtjldphpdfckjnaaDoor
