/- The law StripParts: for every input the call returns true. -/
import Derived.Test.YtpdknjpicaokkaaDoorStripH
namespace Go.Proofs.YtpdknjpicaokkaaDoor
open Go.RowKit

theorem undot_take (l : List (List UInt8)) (k : Nat) (h : k < l.length) : undot (l.take (k + 1)) = if l[k] = [46] then undot (l.take k) else undot (l.take k) ++ [l[k]] := by
  rw [List.take_succ_eq_append_getElem h]
  unfold undot
  rw [List.filter_append]
  by_cases h2 : l[k] = [46] <;> simp [h2]
theorem lastL_get (l : List (List UInt8)) (h : 0 < l.length) : lastL l = l[l.length - 1] := by
  unfold lastL
  rw [List.getLastD_eq_getLast?, List.getLast?_eq_getElem?, List.getElem?_eq_getElem (by omega)]
  rfl
theorem StrsV.cellOf {w : World} {g off n c : Nat} {l : List (List UInt8)} (h : StrsV w (.slice (some ⟨g, off, none⟩) n c) l) (k : Nat) (hk : k < l.length) : w.cell? ⟨g, off + k, none⟩ = some (.string (S l[k])) ∧ g < w.heap.size := by
  obtain ⟨a, c1, e, h1⟩ := h
  cases e
  obtain ⟨b, o, e1, e2, e3⟩ := h1 (by omega)
  cases e1
  exact ⟨e3 k hk, e2⟩
set_option maxRecDepth 100000 in
set_option maxHeartbeats 4000000 in
theorem lawParts (s : ByteArray) (w : World) :
    Calls Tryd.prog 6 #[.string s] w fun e w' => e = .returned (.bool true) ∧ Below w.heap.size w w' := by
  by_cases hs : 300 < s.size
  · go_enter Tryd.func6, Tryd.ntmps6
    go_wp2_with fail
    refine (awake_any26 _).mono ?_
    rintro e w1 ⟨rfl, hb⟩
    go_wp2_with fail
    go_ret
    exact ⟨rfl, hb⟩
  obtain ⟨x, rfl⟩ : ∃ x : List UInt8, s = S x := ⟨s.data.toList, S_eta s⟩
  have hs : ¬ 300 < x.length := hs
  have hlen := parts_len x
  have hm : ∀ q ∈ partsL x, q.length ≤ 1000000 := fun q hq => Nat.le_trans (parts_each x q hq) (by omega)
  have h1 := fun w => rParts_any (S x) (by rw [S_size]; omega) w
  have h2 := fun w => Parts_any x (by omega) w
  have h3 := fun w => Base_any x (by omega) w
  have h4 := fun w => Parent_any x (by omega) w
  have h5 := fun w => Clean_any x (by omega) w
  rw [S_data] at h1
  rw [show baseL x = lastL (partsL x) from rfl] at h3
  generalize partsL x = l at *
  have H1 := Lib.hid h1
  have H2 := Lib.hid h2
  have H3 := Lib.hid h3
  have H4 := Lib.hid h4
  have H5 := Lib.hid h5
  have HM := Lib.hid hm
  have hul := undot_le l
  have hx300 : x.length ≤ 300 := by omega
  clear h1 h2 h3 h4 h5 hm hs
  have HSame := Lib.hid (fun w v u hv hu => Same_any l l v u (by omega) w hv hu)
  have HJoin := Lib.hid (fun w v hv => rJoin_any (undot l) v (by omega) (fun q hq => HM.out q (List.mem_filter.1 hq).1) w hv)
  have HJ2 := Lib.hid (fun w v hv => rJoin_any (l.take (l.length - 1)) v (by rw [List.length_take]; omega) (fun q hq => HM.out q (List.mem_of_mem_take hq)) w hv)
  have HV := Lib.hid (show parentV l = .tuple #[.string (S (if 1 < l.length then joinL (l.take (l.length - 1)) else [])), .bool (decide (1 < l.length))] by
    unfold parentV
    by_cases h1 : 1 < l.length
    · rw [if_neg (by omega), if_pos h1, decide_eq_true h1, List.dropLast_eq_take]
    · rw [if_pos (by omega), if_neg h1, decide_eq_false h1])
  have HT := Lib.hid (fun k (h : k < l.length) => undot_take l k h)
  have HG := Lib.hid (fun h => lastL_get l h)
  have HG0 := Lib.hid (fun (h : l.length = 0) => show lastL l = [] by rw [List.eq_nil_of_length_eq_zero h]; rfl)
  generalize hP : (if 1 < l.length then joinL (l.take (l.length - 1)) else []) = P at *
  have HP := Lib.hid hP
  clear hP
  go_enter Tryd.func6, Tryd.ntmps6
  go_wp2_with fail
  refine (H1.out _).mono ?_
  rintro e w1 ⟨⟨v, rfl, hO⟩, hb1⟩
  have hS := hO.strs
  obtain ⟨o1, o2⟩ := id hO
  obtain ⟨av, cv, rfl, hcells⟩ := hO.strs
  clear hcells
  go_upto_if 19 with fail
  go_cut [4] (fun b wx => b = .string (S (lastL l)) ∧ wx = w1)
  case first =>
    by_cases h0 : 0 < l.length
    · rcases o2 with ⟨e1, _⟩ | ⟨g, cap, cur, e1, _, _, hn, _⟩
      · injection e1 with _ e2 _; exfalso; omega
      · cases e1
        have hc := (hS.cellOf (l.length - 1) (by omega)).1
        rw [← HG.out h0, Nat.zero_add] at hc
        have hq2 : ((l.length : Int) - 1).toNat = l.length - 1 := by omega
        generalize lastL l = b at *
        go_wp2_with fail
        go_meet
        exact ⟨rfl, rfl⟩
    · have HG1 := Lib.hid (HG0.out (by omega))
      go_wp2_with fail
      go_meet
      exact ⟨by rw [HG1.out]; rfl, rfl⟩
  case rest =>
    obtain ⟨rfl, rfl⟩ := hcut
    go_upto_if 28 with fail
    go_cut [5] (fun b wx => b = .string (S P) ∧ wx = wc)
    case first =>
      by_cases h0 : 1 < l.length
      · rcases o2 with ⟨e1, _⟩ | ⟨g, cap, cur, e1, _, _, hn, _⟩
        · injection e1 with _ e2 _; exfalso; omega
        · cases e1
          have HP2 := HP.out
          rw [if_pos h0] at HP2
          have HQ := Lib.hid HP2
          have hq2 : ((l.length : Int) - 1).toNat = l.length - 1 := by omega
          have hq3 : (l.length : Int) - 1 ≤ cv := by omega
          clear HP2
          go_wp2_with fail
          refine (HJ2.out _ _ (hS.cut (l.length - 1) (by omega) _)).mono ?_
          rintro e w2 ⟨rfl, rfl⟩
          rw [HQ.out]
          go_wp2_with fail
          go_meet
          exact ⟨rfl, rfl⟩
      · have HP2 := HP.out
        rw [if_neg h0] at HP2
        have HQ := Lib.hid HP2
        clear HP2
        go_wp2_with fail
        go_meet
        exact ⟨by rw [← HQ.out]; rfl, rfl⟩
    case rest =>
      obtain ⟨rfl, rfl⟩ := hcut
      clear o2 o1 HP HG HG0 HJ2
      go_wp2_with fail
      go_loopw [6, 37] (fun c i wr => ∃ k : Nat, k ≤ l.length ∧ i = .int .i64 k ∧ OwnS wr wc.heap.size c (undot (l.take k)) ∧ Below wc.heap.size wc wr) (fun _ i _ => l.length - (intOf i).toNat)
      case atStart => exact ⟨0, by omega, rfl, OwnS.nil _ _, Below.refl _ _⟩
      case round =>
        obtain ⟨k, hk, rfl, hOc, hB⟩ := hrel
        have hsz := hB.size
        obtain ⟨ac, cc, rfl, _⟩ := hOc.strs
        by_cases hlt : k < l.length
        · have hSr := hS.below hB (Nat.le_refl _)
          obtain ⟨a1, c1, e1, h1⟩ := id hSr
          cases e1
          obtain ⟨g, off, rfl, g1, g2⟩ := h1 (by omega)
          have hc := g2 k hlt
          have HU := Lib.hid (HT.out k hlt)
          have hdl : (undot (l.take k)).length ≤ 1000 := by
            have := undot_le (l.take k)
            rw [List.length_take] at this
            omega
          clear h1 g2
          generalize l[k] = q at *
          by_cases hq : q = [46]
          · have HU2 := Lib.hid (show undot (l.take (k + 1)) = undot (l.take k) by rw [HU.out, if_pos hq])
            subst hq
            go_wp2_with fail
            go_roundw
            case rel => exact ⟨k + 1, by omega, by go_num, by rw [HU2.out]; exact hOc, hB⟩
            case measure => simp [intOf]; omega
          · have HU2 := Lib.hid (show undot (l.take (k + 1)) = undot (l.take k) ++ [q] by rw [HU.out, if_neg hq])
            have hq1 : (q == [46]) = false := beq_eq_false_iff_ne.2 hq
            have hq2 : (q != [46]) = true := bne_iff_ne.2 hq
            clear hq
            go_wp2_with (refine app_str rfl (.tmp 43) (.tmp 45) rfl wc.heap.size _ (undot (l.take k)) q rfl hOc rfl (by omega) hsz ?_; intro v' w' hO' hb' _)
            have hB2 := hB.trans hb'
            go_roundw
            case rel => exact ⟨k + 1, by omega, by go_num, by rw [HU2.out]; exact hO', hB2⟩
            case measure => simp [intOf]; omega
        · obtain rfl : k = l.length := by omega
          rw [List.take_length] at hOc
          have hSb := hS.below hB (Nat.le_refl _)
          have hSc := hOc.strs
          have hBw := chainB hb1 hB
          clear hOc HT H1
          have hcase : (1 < l.length ∧ parentV l = .tuple #[.string (S P), .bool true]) ∨ (¬ 1 < l.length ∧ parentV l = .tuple #[.string (S P), .bool false]) := by
            by_cases h1 : 1 < l.length
            · exact .inl ⟨h1, by rw [HV.out, decide_eq_true h1]⟩
            · exact .inr ⟨h1, by rw [HV.out, decide_eq_false h1]⟩
          rcases hcase with ⟨h1, hv⟩ | ⟨h1, hv⟩
          all_goals
            have HV2 := Lib.hid hv
            clear hv HV
            go_wp2_with fail
            refine (H4.out _).mono ?_
            rintro e w2 ⟨rfl, hb2⟩
            rw [HV2.out]
            go_wp2_with fail
            refine (H2.out _).mono ?_
            rintro e w3 ⟨⟨v3, rfl, hO3⟩, hb3⟩
            have hB3 := chainB hb2 hb3
            have hSb3 := hSb.below hB3 (Nat.le_refl _)
            have hSc3 := hSc.below hB3 (Nat.le_refl _)
            have hBw3 := chainB hBw hB3
            obtain ⟨a3, c3, e3, _⟩ := hO3.strs
            subst e3
            go_wp2_with fail
            refine (HSame.out _ _ _ hO3.strs hSb3).mono ?_
            rintro e w4 ⟨rfl, m, rfl⟩
            simp only [decide_true]
            have hSc4 := hSc3.below (belowDrewN (n := m) (Below.refl _ _)) (Nat.le_refl _)
            have hBw4 := belowDrewN (n := m) hBw3
            go_wp2_with fail
            refine (H3.out _).mono ?_
            rintro e w5 ⟨rfl, hw5⟩
            subst hw5
            go_wp2_with fail
            refine (H5.out _).mono ?_
            rintro e w6 ⟨rfl, hb6⟩
            have hSc6 := hSc4.below hb6 (Nat.le_refl _)
            have hBw6 := chainB hBw4 hb6
            go_wp2_with fail
            refine (HJoin.out _ _ hSc6).mono ?_
            rintro e w7 ⟨rfl, hw7⟩
            subst hw7
            go_wp2_with fail
            refine (awake_any26 _).mono ?_
            rintro e w8 ⟨rfl, hb8⟩
            have hBw8 := chainB hBw6 hb8
            go_wp2_with fail
            go_ret
            first
            | exact ⟨rfl, hBw8⟩
            | exact ⟨by show Ending.returned (Value.bool (!decide ((1 : Int) < (l.length : Int)))) = _; rw [decide_eq_false (by omega)]; rfl, hBw8⟩
end Go.Proofs.YtpdknjpicaokkaaDoor
