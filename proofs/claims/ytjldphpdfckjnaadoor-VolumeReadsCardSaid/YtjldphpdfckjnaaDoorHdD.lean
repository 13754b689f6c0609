/- Heads of members: header.numbers, walked. -/
import Derived.Test.YtjldphpdfckjnaaDoorHdC
namespace Go.Proofs.YtjldphpdfckjnaaDoor
open Go.RowKit

theorem place_len (r : Nat) (hr : rowOk r) : (placesL.getD r (0, 0)).2 ≤ 12 ∧ r < 12 := by
  rcases hr with rfl | rfl | rfl | rfl | rfl | rfl | rfl <;> exact ⟨by decide, by decide⟩
theorem cut_len (s : List UInt8) (r : Nat) (hs : s.length = 512) : (cutN s r).length = (placesL.getD r (0, 0)).2 := fld_len _ _ _ (by rw [hs]; exact places_in r)
set_option maxRecDepth 100000 in
set_option maxHeartbeats 4000000 in
theorem numbers_any (s : List UInt8) (rs : List Nat) (rb rc ib ic hb : Nat) (H0 : HeadL) (w : World) (hs : s.length = 512) (hrs : ∀ r ∈ rs, rowOk r) (hn : rs.length ≤ 7)
    (hR : ∀ k (h : k < rs.length), w.cell? ⟨rb, k, none⟩ = some (.int .i64 (rs[k] : Nat))) (hI : ∀ k (h : k < rs.length), w.cell? ⟨ib, k, none⟩ = some (.pointer (some ⟨hb, colOf rs[k], none⟩)))
    (hrb : rb < w.heap.size) (hib : ib < w.heap.size) (hne : rb ≠ hb) (hni : ib ≠ hb) (hH : HAt w hb H0) :
    Calls Tryd.prog 59 #[.string (S s), .slice (some ⟨rb, 0, none⟩) rs.length rc, .slice (some ⟨ib, 0, none⟩) rs.length ic] w fun e w' =>
      e = .returned (.int .i64 (errR s rs)) ∧ Below hb w w' ∧ w.heap.size ≤ w'.heap.size ∧ (errR s rs = 0 → HAt w' hb (setR s rs H0)) := by
  have hhb := hH.lt
  have HHS := Lib.hid hs
  have HRS := Lib.hid hrs
  have HR := Lib.hid hR
  have HI := Lib.hid hI
  have HH := Lib.hid hH
  clear hrs hR hI hH hs
  go_enter Tryd.func59, Tryd.ntmps59
  go_wp2_with fail
  go_loopw [13] (fun v13 wr => ∃ k : Nat, v13 = .int .i64 k ∧ k ≤ rs.length ∧ Hid (errR s rs = errR s (rs.drop k)) ∧ Hid (HAt wr hb (setR s (rs.take k) H0)) ∧ Hid (But hb w wr) ∧ Hid (Below hb w wr)) (fun v13 _ => rs.length - (intOf v13).toNat)
  case atStart => exact ⟨0, rfl, Nat.zero_le _, Lib.hid rfl, HH, Lib.hid (But.refl _ _), Lib.hid (Below.refl _ _)⟩
  case round =>
    obtain ⟨k, rfl, hk, HE, HA, HU, HB⟩ := hrel
    clear HH
    by_cases hlt : k < rs.length
    · have hkI : (k : Int) < (rs.length : Int) := by omega
      obtain ⟨r, hr⟩ : ∃ r, rs[k] = r := ⟨_, rfl⟩
      have hok : rowOk r := by rw [← hr]; exact HRS.out _ (List.getElem_mem hlt)
      have hdrop : rs.drop k = r :: rs.drop (k + 1) := by rw [List.drop_eq_getElem_cons hlt, hr]
      have htake : rs.take (k + 1) = rs.take k ++ [r] := by rw [List.take_succ_eq_append_getElem hlt, hr]
      have c0 : wr.cell? ⟨rb, k, none⟩ = some (.int .i64 (r : Nat)) := by
        rw [World.cell?_of_block (HU.out.block rb hrb hne), ← hr]; exact HR.out k hlt
      have HI2 := Lib.hid (HI.out k hlt)
      rw [hr] at HI2
      have hpl := place_len r hok
      have HC := Lib.hid (hcut_any s r wr HHS.out hpl.2)
      have HO := Lib.hid (fun w => oRead_any (cutN s r) w (by rw [cut_len s r HHS.out]; omega))
      have HNR : Hid (numR s r = if (readO (cutN s r)).2 = 0 ∧ (readO (cutN s r)).1 < 0 ∧ (r == 5) = false then (0, 6) else readO (cutN s r)) := Lib.hid rfl
      have HST := Lib.hid (setR_snoc s r (rs.take k) H0)
      rw [← htake] at HST
      rw [hdrop] at HE
      have hr5 : ((r : Int) != 5) = !(r == 5) := by
        by_cases h : r = 5
        · subst h; rfl
        · rw [beq_eq_false_iff_ne.2 h]; exact bne_iff_ne.2 (by omega)
      generalize hRO : readO (cutN s r) = RO at *
      obtain ⟨v, e⟩ := RO
      clear hRO hpl hr hdrop htake
      by_cases he : e = 0
      · subst he
        by_cases hbad : v < 0 ∧ (r == 5) = false
        · obtain ⟨hv, h5⟩ := hbad
          have HF : Hid (errR s rs = 6) := Lib.hid (by
            have e1 : numR s r = (0, 6) := by rw [HNR.out, if_pos ⟨rfl, hv, h5⟩]
            rw [HE.out, errR, e1]; rfl)
          rw [h5] at hr5
          have hr6 : ((r : Int) != 5) = true := hr5
          clear hr5 h5 HE HNR HST
          go_wp2_with fail
          refine HC.out.mono ?_
          rintro e w1 ⟨rfl, hb1⟩
          have HB1 := Lib.hid (HB.out.trans (hb1.mono (by have := HA.out.lt; omega)))
          have HS1 := Lib.hid (Nat.le_trans HU.out.size hb1.size)
          clear hb1 HC
          go_wp2_with fail
          refine (HO.out _).mono ?_
          rintro e w2 ⟨rfl, rfl⟩
          clear HO
          go_wp2_with fail
          go_ret
          refine ⟨by rw [HF.out]; rfl, HB1.out, HS1.out, fun h => ?_⟩
          rw [HF.out] at h
          cases h
        · have e1 : numR s r = (v, 0) := by rw [HNR.out, if_neg (fun g => hbad ⟨g.2.1, g.2.2⟩)]
          have HF : Hid (errR s rs = errR s (rs.drop (k + 1))) := Lib.hid (by rw [HE.out, errR, e1]; rfl)
          have HST2 : Hid (setR s (rs.take (k + 1)) H0 = setNum r v (setR s (rs.take k) H0)) := Lib.hid (by rw [HST.out, e1])
          have HSN := Lib.hid (set_num r v (setR s (rs.take k) H0) hok)
          obtain ⟨x, hx⟩ := num_at r (setR s (rs.take k) H0) hok
          have hi : ib < wr.heap.size := Nat.lt_of_lt_of_le hib HU.out.size
          have hgd : (v < 0 ∧ ((r : Int) != 5) = false) ∨ ¬ v < 0 := by
            by_cases hv : v < 0
            · left
              refine ⟨hv, ?_⟩
              rw [hr5]
              cases h : (r == 5) with
              | true => rfl
              | false => exact absurd ⟨hv, h⟩ hbad
            · exact .inr hv
          clear hr5 HE HNR HST e1 hbad
          have main : ∀ (w1 : World), Below wr.heap.size wr w1 → (w1.cell? ⟨ib, k, none⟩ = some (.pointer (some ⟨hb, colOf r, none⟩)) ∧ w1.cell? ⟨hb, colOf r, none⟩ = some (.int .i64 x) ∧ w1.frozen? ⟨hb, colOf r, none⟩ = false ∧
              Hid (HAt (w1.setCell ⟨hb, colOf r, none⟩ (.int .i64 v)) hb (setR s (rs.take (k + 1)) H0)) ∧ Hid (But hb w (w1.setCell ⟨hb, colOf r, none⟩ (.int .i64 v))) ∧ Hid (Below hb w (w1.setCell ⟨hb, colOf r, none⟩ (.int .i64 v)))) := by
            intro w1 hb1
            have hA1 : HAt w1 hb _ := HA.out.under hb1 HA.out.lt
            refine ⟨?_, by rw [hA1.cell]; exact hx, hA1.fz _, Lib.hid ?_, Lib.hid ((HU.out.below hb1).set _ _), Lib.hid ?_⟩
            · rw [World.cell?_of_block ((HU.out.below hb1).block ib hib hni)]
              exact HI2.out
            · have := AtB.set hA1 (colOf r) (.int .i64 v)
              rw [HSN.out, ← HST2.out] at this
              exact this
            · exact (HB.out.trans (hb1.mono (by have := HA.out.lt; omega))).setCell (Nat.le_refl _) _
          have HM := Lib.hid main
          clear main hx HSN
          rcases hgd with ⟨hv, h5⟩ | hv
          · go_wp2_with fail
            refine HC.out.mono ?_
            rintro e w1 ⟨rfl, hb1⟩
            obtain ⟨d0, d1, d2, D3, D4, D5⟩ := HM.out w1 hb1
            clear hb1 HC c0 HM
            go_wp2_with fail
            refine (HO.out _).mono ?_
            rintro e w2 ⟨rfl, rfl⟩
            clear HO
            go_wp2_with fail
            go_roundw
            case rel => exact ⟨k + 1, by go_num, by omega, HF, D3, D4, D5⟩
            case measure => simp [intOf] <;> omega
          · go_wp2_with fail
            refine HC.out.mono ?_
            rintro e w1 ⟨rfl, hb1⟩
            obtain ⟨d0, d1, d2, D3, D4, D5⟩ := HM.out w1 hb1
            clear hb1 HC c0 HM
            go_wp2_with fail
            refine (HO.out _).mono ?_
            rintro e w2 ⟨rfl, rfl⟩
            clear HO
            go_wp2_with fail
            go_roundw
            case rel => exact ⟨k + 1, by go_num, by omega, HF, D3, D4, D5⟩
            case measure => simp [intOf] <;> omega
      · have HF : Hid (errR s rs = e) := Lib.hid (by
          have e1 : numR s r = (v, e) := by rw [HNR.out, if_neg (fun g => he g.1)]
          rw [HE.out, errR, e1, if_neg he])
        have heb : ((e : Int) != 0) = true := bne_iff_ne.2 (by omega)
        clear hr5 HE HNR HST
        go_wp2_with fail
        refine HC.out.mono ?_
        rintro e w1 ⟨rfl, hb1⟩
        have HB1 := Lib.hid (HB.out.trans (hb1.mono (by have := HA.out.lt; omega)))
        have HS1 := Lib.hid (Nat.le_trans HU.out.size hb1.size)
        clear hb1 HC
        go_wp2_with fail
        refine (HO.out _).mono ?_
        rintro e w2 ⟨rfl, rfl⟩
        clear HO
        go_wp2_with fail
        go_ret
        refine ⟨by rw [HF.out]; rfl, HB1.out, HS1.out, fun h => ?_⟩
        rw [HF.out] at h
        exact absurd h he
    · have hkk : k = rs.length := by omega
      subst hkk
      have hkI : ¬ (rs.length : Int) < (rs.length : Int) := by omega
      have HF : Hid (errR s rs = 0) := Lib.hid (by rw [HE.out, List.drop_eq_nil_of_le (Nat.le_refl _)]; rfl)
      have HA2 := HA.out
      rw [List.take_length] at HA2
      have HA3 := Lib.hid HA2
      clear HA2 HE HA
      go_wp2_with fail
      go_ret
      exact ⟨by rw [HF.out]; rfl, HB.out, HU.out.size, fun _ => HA3.out⟩
end Go.Proofs.YtjldphpdfckjnaaDoor
