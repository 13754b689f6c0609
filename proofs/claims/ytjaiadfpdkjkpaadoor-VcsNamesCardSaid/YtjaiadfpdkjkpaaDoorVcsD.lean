/- The document's Match and Backup; the law VcsMatches. -/
import Derived.Test.YtjaiadfpdkjkpaaDoorVcsC
namespace Go.Proofs.YtjaiadfpdkjkpaaDoor
open Go.RowKit

set_option maxRecDepth 100000 in
set_option maxHeartbeats 4000000 in
theorem rMatch_any (s : List UInt8) (hs : s.length ≤ 100000) (w : World) : Calls Tryd.prog 19 #[.string (S s)] w fun e w' => e = .returned (matV (partsL s)) ∧ Below w.heap.size w w' := by
  have hp := fun w => rParts_any (S s) (by rw [S_size]; omega) w
  rw [S_data] at hp
  have HP := Lib.hid hp
  have hlen := parts_len s
  clear hp
  generalize partsL s = l at *
  go_enter Tryd.func19, Tryd.ntmps19
  go_wp2_with fail
  refine (HP.out _).mono ?_
  rintro e w1 ⟨⟨v, rfl, hO⟩, hb1⟩
  have hS := hO.strs
  obtain ⟨av, cv, rfl, _⟩ := hO.strs
  clear hO
  go_wp2_with fail
  go_loopw [5] (fun i wr => wr = w1 ∧ ∃ k : Nat, k ≤ l.length ∧ i = .int .i64 k ∧ findL (l.take k) = none) (fun i _ => l.length - (intOf i).toNat)
  case atStart => exact ⟨rfl, 0, by omega, rfl, rfl⟩
  case round =>
    obtain ⟨rfl, k, hk, rfl, hn⟩ := hrel
    have HN := Lib.hid hn
    clear hn
    by_cases hlt : k < l.length
    · obtain ⟨f1, f2⟩ := find_take l k hlt HN.out
      obtain ⟨a1, c1, e1, h1⟩ := id hS
      cases e1
      obtain ⟨g, off, rfl, g1, g2⟩ := h1 (by omega)
      have hc := g2 k hlt
      have F1 := Lib.hid f1
      have F2 := Lib.hid f2
      clear h1 g2 f1 f2
      generalize l[k] = q at *
      have hK := fun w => rKnown_any q w
      cases hkq : knownB q with
      | true =>
        rw [hkq] at hK
        have HK := Lib.hid hK
        have HF := Lib.hid (show matV l = .tuple #[.string (S q), .bool true] by unfold matV; rw [F1.out hkq])
        clear hK hkq
        go_wp2_with fail
        refine (HK.out _).mono ?_
        rintro e w2 ⟨rfl, hw2⟩
        subst hw2
        go_wp2_with fail
        go_ret2
        exact ⟨by rw [HF.out]; rfl, hb1⟩
      | false =>
        rw [hkq] at hK
        have HK := Lib.hid hK
        have HF := Lib.hid (F2.out hkq)
        clear hK hkq
        go_wp2_with fail
        refine (HK.out _).mono ?_
        rintro e w2 ⟨rfl, hw2⟩
        subst hw2
        go_wp2_with fail
        go_roundw
        case rel => exact ⟨by first | rfl | trivial, k + 1, by omega, by go_num, HF.out⟩
        case measure => simp [intOf]; omega
    · obtain rfl : k = l.length := by omega
      have hn := HN.out
      rw [List.take_length] at hn
      have HF := Lib.hid (show matV l = .tuple #[.string (S []), .bool false] by unfold matV; rw [hn])
      clear hn
      go_wp2_with fail
      go_ret2
      exact ⟨by rw [HF.out]; rfl, hb1⟩
theorem suf_one (t : List UInt8) (c : UInt8) (h : t ≠ []) : Lib.hasSuffix t [c] = (t.getLast h == c) := by
  have e := List.dropLast_concat_getLast h
  unfold Lib.hasSuffix List.isSuffixOf
  conv => lhs; rw [← e]
  rw [List.reverse_append]
  simp only [List.reverse_cons, List.reverse_nil, List.nil_append, List.singleton_append, List.isPrefixOf]
  rw [Bool.and_true, Bool.eq_iff_iff, beq_iff_eq, beq_iff_eq]
  exact ⟨fun h => h.symm, fun h => h.symm⟩
theorem pre_one (t : List UInt8) (c : UInt8) (h : 0 < t.length) : Lib.hasPrefix t [c] = (t[0] == c) := by
  cases t with
  | nil => cases h
  | cons a t =>
    unfold Lib.hasPrefix
    simp only [List.isPrefixOf, Bool.and_true, List.getElem_cons_zero]
    rw [Bool.eq_iff_iff, beq_iff_eq, beq_iff_eq]
    exact ⟨fun h => h.symm, fun h => h.symm⟩
theorem pre_two (t : List UInt8) (c d : UInt8) (h : 1 < t.length) : Lib.hasPrefix t [c, d] = (t[0] == c && t[1] == d) := by
  cases t with
  | nil => cases h
  | cons a t =>
    cases t with
    | nil => simp at h
    | cons b t =>
      unfold Lib.hasPrefix
      simp only [List.isPrefixOf, Bool.and_true, List.getElem_cons_zero, List.getElem_cons_succ]
      rw [Bool.eq_iff_iff, Bool.and_eq_true, Bool.and_eq_true, beq_iff_eq, beq_iff_eq, beq_iff_eq, beq_iff_eq]
      exact ⟨fun h => ⟨h.1.symm, h.2.symm⟩, fun h => ⟨h.1.symm, h.2.symm⟩⟩
theorem pre_short (t : List UInt8) (c d : UInt8) (h : ¬ 1 < t.length) : Lib.hasPrefix t [c, d] = false := by
  cases t with
  | nil => rfl
  | cons a t =>
    cases t with
    | nil => unfold Lib.hasPrefix; simp [List.isPrefixOf]
    | cons b t => simp at h
theorem S_at (t : List UInt8) (k : Nat) (h : k < t.length) : (S t)[k]'(by rw [S_size]; exact h) = t[k] := rfl
theorem last_get (t : List UInt8) (h : t ≠ []) (h2 : t.length - 1 < t.length) : t.getLast h = t[t.length - 1] := List.getLast_eq_getElem h

theorem StrsV.cellOf0 {w : World} {g off n c : Nat} {l : List (List UInt8)} (h : StrsV w (.slice (some ⟨g, off, none⟩) n c) l) (k : Nat) (hk : k < l.length) : w.cell? ⟨g, off + k, none⟩ = some (.string (S l[k])) := by
  obtain ⟨a, c1, e, h1⟩ := h
  cases e
  obtain ⟨b, o, e1, e2, e3⟩ := h1 (by omega)
  cases e1
  exact e3 k hk
theorem lastL_get0 (l : List (List UInt8)) (h : 0 < l.length) : lastL l = l[l.length - 1] := by
  unfold lastL
  rw [List.getLastD_eq_getLast?, List.getLast?_eq_getElem?, List.getElem?_eq_getElem (by omega)]
  rfl
set_option maxRecDepth 100000 in
set_option maxHeartbeats 8000000 in
theorem rBackup_any (s : List UInt8) (hs : s.length ≤ 100000) (w : World) : Calls Tryd.prog 23 #[.string (S s)] w fun e w' => e = .returned (.bool (backB (lastL (partsL s)))) ∧ Below w.heap.size w w' := by
  have hp := fun w => rParts_any (S s) (by rw [S_size]; omega) w
  rw [S_data] at hp
  have HP := Lib.hid hp
  have hlen := parts_len s
  have hbl := base_len s
  have hmem := fun q h => (parts_mem s q h).1
  clear hp
  generalize partsL s = l at *
  by_cases h0 : l.length = 0
  · have HV := Lib.hid (show backB (lastL l) = false by rw [List.eq_nil_of_length_eq_zero h0]; decide)
    have h00 : ((l.length : Int) == 0) = true := by rw [beq_iff_eq]; omega
    clear hmem
    go_enter Tryd.func23, Tryd.ntmps23
    go_wp2_with fail
    refine (HP.out _).mono ?_
    rintro e w1 ⟨⟨v, rfl, hO⟩, hb1⟩
    obtain ⟨a, c, rfl, _⟩ := hO.strs
    go_wp2_with fail
    go_ret
    exact ⟨by rw [HV.out]; rfl, hb1⟩
  have h01 : ((l.length : Int) == 0) = false := by rw [beq_eq_false_iff_ne]; omega
  have hg := lastL_get0 l (by omega)
  have HG := Lib.hid hg
  have hne : lastL l ≠ [] := by rw [hg]; exact hmem _ (List.getElem_mem _)
  clear hg hmem
  generalize lastL l = t at *
  have htl : 0 < t.length := List.length_pos_iff.2 hne
  have hbk : backB t = (Lib.hasPrefix t [46, 35] || Lib.hasSuffix t [126] || (decide (1 < t.length) && Lib.hasPrefix t [35] && Lib.hasSuffix t [35])) := rfl
  rw [suf_one t 126 hne, suf_one t 35 hne, pre_one t 35 htl, last_get t hne (by omega)] at hbk
  have i0 := S_at t 0 htl
  have il := S_at t (t.length - 1) (by omega)
  generalize t[t.length - 1]'(by omega) = bl at *
  have hpl : (0 : Int) ≤ (t.length : Int) - 1 := by omega

  by_cases hA : bl = 126
  · have x1 : ((bl.toNat : Int) == 126) = true := byte_beq bl 126 126 rfl hA
    have HV := Lib.hid (show backB t = true by rw [hbk, show (bl == 126) = true from beq_iff_eq.2 hA, Bool.or_true, Bool.true_or])
    clear hbk hA hne
    go_enter Tryd.func23, Tryd.ntmps23
    go_wp2_with fail
    refine (HP.out _).mono ?_
    rintro e w1 ⟨⟨v, rfl, hO⟩, hb1⟩
    obtain ⟨o1, o2⟩ := id hO
    rcases o2 with ⟨e1, h1⟩ | ⟨g, cap, cur, rfl, _, _, hn, _⟩
    · exfalso; omega
    have hS := hO.strs
    have hc := (hS.cellOf0 (l.length - 1) (by omega))
    rw [← HG.out, Nat.zero_add] at hc
    have hq2 : ((l.length : Int) - 1).toNat = l.length - 1 := by omega
    have hq3 : ((t.length : Int) - 1).toNat = t.length - 1 := by omega
    clear hS o1 hO
    go_wp2_with fail
    go_ret
    exact ⟨by rw [HV.out]; rfl, hb1⟩
  have x1 : ((bl.toNat : Int) == 126) = false := byte_beq' bl 126 126 rfl hA
  have y1 : (bl == 126) = false := beq_eq_false_iff_ne.2 hA
  rw [y1, Bool.or_false] at hbk
  clear hA y1
  by_cases hB : 1 < t.length
  · rw [pre_two t 46 35 hB, decide_eq_true hB, Bool.true_and] at hbk
    have i1 := S_at t 1 hB
    generalize t[1] = b1 at *
    generalize t[0] = b0 at *
    by_cases hC : b0 = 46
    · have x2 : ((b0.toNat : Int) == 46) = true := byte_beq b0 46 46 rfl hC
      have x3 : ((b0.toNat : Int) == 35) = false := byte_beq' b0 35 35 rfl (by rw [hC]; decide)
      have y2 : (b0 == 46) = true := beq_iff_eq.2 hC
      have y3 : (b0 == 35) = false := by rw [hC]; decide
      rw [y2, y3, Bool.true_and, Bool.false_and, Bool.or_false] at hbk
      by_cases hD : b1 = 35
      · have x4 : ((b1.toNat : Int) == 35) = true := byte_beq b1 35 35 rfl hD
        have HV := Lib.hid (show backB t = true by rw [hbk]; exact beq_iff_eq.2 hD)
        clear hbk hC hD y2 y3 hne
        go_enter Tryd.func23, Tryd.ntmps23
        go_wp2_with fail
        refine (HP.out _).mono ?_
        rintro e w1 ⟨⟨v, rfl, hO⟩, hb1⟩
        obtain ⟨o1, o2⟩ := id hO
        rcases o2 with ⟨e1, h1⟩ | ⟨g, cap, cur, rfl, _, _, hn, _⟩
        · exfalso; omega
        have hS := hO.strs
        have hc := (hS.cellOf0 (l.length - 1) (by omega))
        rw [← HG.out, Nat.zero_add] at hc
        have hq2 : ((l.length : Int) - 1).toNat = l.length - 1 := by omega
        have hq3 : ((t.length : Int) - 1).toNat = t.length - 1 := by omega
        clear hS o1 hO
        go_wp2_with fail
        go_ret
        exact ⟨by rw [HV.out]; rfl, hb1⟩
      · have x4 : ((b1.toNat : Int) == 35) = false := byte_beq' b1 35 35 rfl hD
        have HV := Lib.hid (show backB t = false by rw [hbk]; exact beq_eq_false_iff_ne.2 hD)
        clear hbk hC hD y2 y3 hne
        go_enter Tryd.func23, Tryd.ntmps23
        go_wp2_with fail
        refine (HP.out _).mono ?_
        rintro e w1 ⟨⟨v, rfl, hO⟩, hb1⟩
        obtain ⟨o1, o2⟩ := id hO
        rcases o2 with ⟨e1, h1⟩ | ⟨g, cap, cur, rfl, _, _, hn, _⟩
        · exfalso; omega
        have hS := hO.strs
        have hc := (hS.cellOf0 (l.length - 1) (by omega))
        rw [← HG.out, Nat.zero_add] at hc
        have hq2 : ((l.length : Int) - 1).toNat = l.length - 1 := by omega
        have hq3 : ((t.length : Int) - 1).toNat = t.length - 1 := by omega
        clear hS o1 hO
        go_wp2_with fail
        go_ret
        exact ⟨by rw [HV.out]; rfl, hb1⟩
    · have x2 : ((b0.toNat : Int) == 46) = false := byte_beq' b0 46 46 rfl hC
      have y2 : (b0 == 46) = false := beq_eq_false_iff_ne.2 hC
      rw [y2, Bool.false_and, Bool.false_or] at hbk
      by_cases hE : b0 = 35
      · have x3 : ((b0.toNat : Int) == 35) = true := byte_beq b0 35 35 rfl hE
        have y3 : (b0 == 35) = true := beq_iff_eq.2 hE
        rw [y3, Bool.true_and] at hbk
        by_cases hF : bl = 35
        · have x4 : ((bl.toNat : Int) == 35) = true := byte_beq bl 35 35 rfl hF
          have HV := Lib.hid (show backB t = true by rw [hbk]; exact beq_iff_eq.2 hF)
          clear hbk hC hE hF y2 y3 hne
          go_enter Tryd.func23, Tryd.ntmps23
          go_wp2_with fail
          refine (HP.out _).mono ?_
          rintro e w1 ⟨⟨v, rfl, hO⟩, hb1⟩
          obtain ⟨o1, o2⟩ := id hO
          rcases o2 with ⟨e1, h1⟩ | ⟨g, cap, cur, rfl, _, _, hn, _⟩
          · exfalso; omega
          have hS := hO.strs
          have hc := (hS.cellOf0 (l.length - 1) (by omega))
          rw [← HG.out, Nat.zero_add] at hc
          have hq2 : ((l.length : Int) - 1).toNat = l.length - 1 := by omega
          have hq3 : ((t.length : Int) - 1).toNat = t.length - 1 := by omega
          clear hS o1 hO
          go_wp2_with fail
          go_ret
          exact ⟨by rw [HV.out]; rfl, hb1⟩
        · have x4 : ((bl.toNat : Int) == 35) = false := byte_beq' bl 35 35 rfl hF
          have HV := Lib.hid (show backB t = false by rw [hbk]; exact beq_eq_false_iff_ne.2 hF)
          clear hbk hC hE hF y2 y3 hne
          go_enter Tryd.func23, Tryd.ntmps23
          go_wp2_with fail
          refine (HP.out _).mono ?_
          rintro e w1 ⟨⟨v, rfl, hO⟩, hb1⟩
          obtain ⟨o1, o2⟩ := id hO
          rcases o2 with ⟨e1, h1⟩ | ⟨g, cap, cur, rfl, _, _, hn, _⟩
          · exfalso; omega
          have hS := hO.strs
          have hc := (hS.cellOf0 (l.length - 1) (by omega))
          rw [← HG.out, Nat.zero_add] at hc
          have hq2 : ((l.length : Int) - 1).toNat = l.length - 1 := by omega
          have hq3 : ((t.length : Int) - 1).toNat = t.length - 1 := by omega
          clear hS o1 hO
          go_wp2_with fail
          go_ret
          exact ⟨by rw [HV.out]; rfl, hb1⟩
      · have x3 : ((b0.toNat : Int) == 35) = false := byte_beq' b0 35 35 rfl hE
        have y3 : (b0 == 35) = false := beq_eq_false_iff_ne.2 hE
        rw [y3, Bool.false_and] at hbk
        have HV := Lib.hid (show backB t = false by rw [hbk])
        clear hbk hC hE y2 y3 hne
        go_enter Tryd.func23, Tryd.ntmps23
        go_wp2_with fail
        refine (HP.out _).mono ?_
        rintro e w1 ⟨⟨v, rfl, hO⟩, hb1⟩
        obtain ⟨o1, o2⟩ := id hO
        rcases o2 with ⟨e1, h1⟩ | ⟨g, cap, cur, rfl, _, _, hn, _⟩
        · exfalso; omega
        have hS := hO.strs
        have hc := (hS.cellOf0 (l.length - 1) (by omega))
        rw [← HG.out, Nat.zero_add] at hc
        have hq2 : ((l.length : Int) - 1).toNat = l.length - 1 := by omega
        have hq3 : ((t.length : Int) - 1).toNat = t.length - 1 := by omega
        clear hS o1 hO
        go_wp2_with fail
        go_ret
        exact ⟨by rw [HV.out]; rfl, hb1⟩
  · rw [pre_short t 46 35 hB, decide_eq_false hB, Bool.false_and, Bool.false_and, Bool.or_false] at hbk
    have hB2 : decide ((1 : Int) < (t.length : Int)) = false := decide_eq_false (by omega)
    have HV := Lib.hid (show backB t = false by exact hbk)
    clear hbk hne
    go_enter Tryd.func23, Tryd.ntmps23
    go_wp2_with fail
    refine (HP.out _).mono ?_
    rintro e w1 ⟨⟨v, rfl, hO⟩, hb1⟩
    obtain ⟨o1, o2⟩ := id hO
    rcases o2 with ⟨e1, h1⟩ | ⟨g, cap, cur, rfl, _, _, hn, _⟩
    · exfalso; omega
    have hS := hO.strs
    have hc := (hS.cellOf0 (l.length - 1) (by omega))
    rw [← HG.out, Nat.zero_add] at hc
    have hq2 : ((l.length : Int) - 1).toNat = l.length - 1 := by omega
    have hq3 : ((t.length : Int) - 1).toNat = t.length - 1 := by omega
    clear hS o1 hO
    go_wp2_with fail
    go_ret
    exact ⟨by rw [HV.out]; rfl, hb1⟩

set_option maxRecDepth 100000 in
set_option maxHeartbeats 4000000 in
theorem lawMatches (s : ByteArray) (w : World) :
    Calls Tryd.prog 5 #[.string s] w fun e w' => e = .returned (.bool true) ∧ Below w.heap.size w w' := by
  by_cases hl : 300 < s.size
  · go_enter Tryd.func5, Tryd.ntmps5
    go_wp2_with fail
    refine (awake_any27 _).mono ?_
    rintro e w2 ⟨rfl, hb⟩
    go_wp2_with fail
    go_ret
    exact ⟨rfl, hb⟩
  obtain ⟨x, rfl⟩ : ∃ x : List UInt8, s = S x := ⟨s.data.toList, S_eta s⟩
  have hl : ¬ 300 < x.length := hl
  have hm : ∃ (a : List UInt8) (b : Bool), matV (partsL x) = .tuple #[.string (S a), .bool b] := by
    unfold matV
    cases findL (partsL x) with
    | none => exact ⟨[], false, rfl⟩
    | some q => exact ⟨q, true, rfl⟩
  obtain ⟨a, b, hm⟩ := hm
  have h1 := fun w => Match_any x (by omega) w
  have h2 := fun w => rMatch_any x (by omega) w
  rw [hm] at h1 h2
  have H1 := Lib.hid h1
  have H2 := Lib.hid h2
  have H3 := Lib.hid (fun w => Known_any x w)
  have H4 := Lib.hid (fun w => rKnown_any x w)
  have H5 := Lib.hid (fun w => Backup_any x (by omega) w)
  have H6 := Lib.hid (fun w => rBackup_any x (by omega) w)
  clear h1 h2 hm
  generalize knownB x = kb at *
  generalize backB (lastL (partsL x)) = bb at *
  go_enter Tryd.func5, Tryd.ntmps5
  go_wp2_with fail
  refine (H1.out _).mono ?_
  rintro e w1 ⟨rfl, hb1⟩
  go_wp2_with fail
  refine (H2.out _).mono ?_
  rintro e w2 ⟨rfl, hb2⟩
  have hB2 := chainB hb1 hb2
  go_wp2_with fail
  refine (H3.out _).mono ?_
  rintro e w3 ⟨rfl, hb3⟩
  have hB3 := chainB hB2 hb3
  go_wp2_with fail
  refine (H4.out _).mono ?_
  rintro e w4 ⟨rfl, hw4⟩
  subst hw4
  go_wp2_with fail
  refine (H5.out _).mono ?_
  rintro e w5 ⟨rfl, hw5⟩
  subst hw5
  go_wp2_with fail
  refine (H6.out _).mono ?_
  rintro e w6 ⟨rfl, hb6⟩
  have hB6 := chainB hB3 hb6
  go_wp2_with fail
  refine (awake_any27 _).mono ?_
  rintro e w7 ⟨rfl, hb7⟩
  have hB7 := chainB hB6 hb7
  go_wp2_with fail
  go_ret
  exact ⟨rfl, hB7⟩
end Go.Proofs.YtjaiadfpdkjkpaaDoor
