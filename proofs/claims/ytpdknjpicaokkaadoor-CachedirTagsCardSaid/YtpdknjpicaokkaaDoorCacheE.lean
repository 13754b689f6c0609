/- cachedir's Out, at each mode. -/
import Derived.Test.YtpdknjpicaokkaaDoorCacheD
namespace Go.Proofs.YtpdknjpicaokkaaDoor
open Go.RowKit

set_option maxRecDepth 100000 in
set_option maxHeartbeats 8000000 in
theorem out_1 (g b n : Nat) (M : List UInt8 → Bool) (s : List UInt8) (hs : s.length ≤ 100000) (w : World) (h : IdxAt w g b n M) :
    Calls Tryd.prog 18 #[.pointer (some ⟨g, 0, none⟩), .string (S s), .int .i64 1] w fun e w' => e = .returned (.bool (outB M (partsL s) 1)) ∧ Below w.heap.size w w' := by
  have hlen := parts_len s
  have HM := Lib.hid (fun q (hq : q ∈ partsL s) => Nat.le_trans (parts_each s q hq) (show s.length ≤ 1000000 by omega))
  have HJK := Lib.hid (fun k => joinL_take_le s hs k)
  have HP := Lib.hid (fun w => Parts_any s (by omega) w)
  generalize partsL s = l at *
  have hOut : outB M l 1 = (anyB M l 1 l.length || (decide ((1 : Int) = 3) && !l.isEmpty && M (joinL l))) := by unfold outB; rw [decide_eq_true (by omega)]; rfl
  have HO := Lib.hid hOut
  clear hOut
  go_enter Tryd.func18, Tryd.ntmps18
  go_wp2_with fail
  refine (HP.out _).mono ?_
  rintro e w1 ⟨⟨v, rfl, hO⟩, hb1⟩
  have hI := h.step hb1
  have hSv := hO.strs
  have hcap : ∀ a n c, v = .slice a n c → n ≤ c := by
    obtain ⟨_, h2⟩ := hO
    rintro a n c rfl
    rcases h2 with ⟨h2, _⟩ | ⟨g, cap, cur, h2, _, _, h3, _⟩
    · cases h2; exact Nat.le_refl _
    · cases h2; exact h3
  obtain ⟨av, cv, rfl, _⟩ := hO.strs
  have hcap := hcap _ _ _ rfl
  clear hO
  go_wp2_with fail
  go_loopw [20] (fun i wr => ∃ k : Nat, k ≤ l.length ∧ i = .int .i64 k ∧ anyB M l 1 k = false ∧ Below w1.heap.size w1 wr) (fun i _ => l.length - (intOf i).toNat)
  case atStart => exact ⟨0, by omega, rfl, rfl, Below.refl _ _⟩
  case round =>
    obtain ⟨k, hk, rfl, hA, hB⟩ := hrel
    have hIr := hI.below hB hI.lt hI.map.lt
    have hSr := hSv.below hB (Nat.le_refl _)
    have HA := Lib.hid hA
    have c0 := hIr.cell
    have hmr := hIr.map
    have hgl := hIr.lt
    have hbl := hIr.map.lt
    clear hA hSv
    by_cases hlt : k < l.length
    · have HJ := Lib.hid (fun w v hv => Join_any (l.take k) v (by rw [List.length_take]; omega) (fun q hq => HM.out q (List.mem_of_mem_take hq)) w hv)
      have hcut : StrsV wr.drew (.slice av k cv) (l.take k) := hSr.cut k hk cv
      have hkc : (k : Int) ≤ cv := by omega
      by_cases hMk : M (joinL (l.take k)) = true
      · have hlook : ∀ W, BoolMap W b n M → (Instr.lookup 85 (.map (some b)) (.string (S (joinL (l.take k)))) false).run Tryd.prog W = .ok (.bool true) W := fun W hW => by
          rw [hW.look _ (HJK.out k), hMk]
        have HH := Lib.hid (show hitB M l 1 k = (decide ((1 : Int) ≠ 1) || !(decide (k + 1 = l.length) && decide (l.getD k [] = tagL))) by unfold hitB; rw [hMk]; rfl)
        have HGD := Lib.hid (show l.getD k [] = l[k] by rw [List.getD_eq_getElem?_getD, List.getElem?_eq_getElem hlt]; rfl)
        have HG := Lib.hid (fun (hh : hitB M l 1 k = true) => show outB M l 1 = true by rw [HO.out, any_hit hlt hh]; rfl)
        have HN := Lib.hid (fun (hh : hitB M l 1 k = false) => show anyB M l 1 (k + 1) = false by rw [any_succ, HA.out, hh]; rfl)
        clear hMk
        generalize joinL (l.take k) = j at *
        go_wp2_with fail
        go_region_held3 (fun W => W.cell? ⟨g, 0, none⟩ = some (.map (some b))) (first | assumption | exact c0) (first
            | (go_at_call 21; refine (HJ.out _ _ hcut).mono ?_; rintro e w2 ⟨rfl, hb2⟩; have hx2 : Below wr.heap.size wr w2 := (belowDrewN (n := 1) (Below.refl _ _)).trans hb2; have m2 : BoolMap w2 b n M := hmr.below hx2 (by omega); have hS : w2.cell? ⟨g, 0, none⟩ = some (.map (some b)) := (by rw [hx2.cell (by exact hgl)]; exact c0)))
        have hB2 : Below w1.heap.size w1 w2 := chainB hB hx2
        have hBw := chainB hb1 hB2
        have hS2 := hSr.below hx2 (Nat.le_refl _)
        have hcase : (((k : Int) == (l.length : Int) - 1) = false ∧ hitB M l 1 k = true) ∨ (((k : Int) == (l.length : Int) - 1) = true ∧ (l[k] == [67, 65, 67, 72, 69, 68, 73, 82, 46, 84, 65, 71]) = true ∧ hitB M l 1 k = false) ∨ (((k : Int) == (l.length : Int) - 1) = true ∧ (l[k] == [67, 65, 67, 72, 69, 68, 73, 82, 46, 84, 65, 71]) = false ∧ hitB M l 1 k = true) := by
          rw [HH.out, HGD.out]
          by_cases h1 : k + 1 = l.length
          · have e1 : ((k : Int) == (l.length : Int) - 1) = true := by rw [beq_iff_eq]; omega
            by_cases h2 : l[k] = tagL
            · exact .inr (.inl ⟨e1, beq_iff_eq.2 h2, by rw [decide_eq_true h1, decide_eq_true h2]; rfl⟩)
            · exact .inr (.inr ⟨e1, beq_eq_false_iff_ne.2 h2, by rw [decide_eq_false h2]; simp⟩)
          · exact .inl ⟨by rw [beq_eq_false_iff_ne]; omega, by rw [decide_eq_false h1]; simp⟩
        obtain ⟨a1, c1, e1, q1⟩ := id hS2
        cases e1
        obtain ⟨gv, off, rfl, q2, q3⟩ := q1 (by omega)
        have hc := q3 k hlt
        clear q1 q3 hcut hlook HH HGD hSr
        generalize l[k] = q at *
        rcases hcase with ⟨h1, hh⟩ | ⟨h1, h2, hh⟩ | ⟨h1, h2, hh⟩
        · have HG1 := Lib.hid (HG.out hh)
          clear hh
          go_wp2_with fail
          go_ret
          exact ⟨by rw [HG1.out]; rfl, hBw⟩
        · have HN1 := Lib.hid (HN.out hh)
          clear hh
          go_wp2_with fail
          go_roundw
          case rel => exact ⟨k + 1, by omega, by go_num, HN1.out, hB2⟩
          case measure => simp [intOf]; omega
        · have HG1 := Lib.hid (HG.out hh)
          clear hh
          go_wp2_with fail
          go_ret
          exact ⟨by rw [HG1.out]; rfl, hBw⟩
      · have hMf : M (joinL (l.take k)) = false := by simpa using hMk
        have hlook : ∀ W, BoolMap W b n M → (Instr.lookup 85 (.map (some b)) (.string (S (joinL (l.take k)))) false).run Tryd.prog W = .ok (.bool false) W := fun W hW => by
          rw [hW.look _ (HJK.out k), hMf]
        have HN := Lib.hid (show anyB M l 1 (k + 1) = false by rw [any_succ, HA.out]; unfold hitB; rw [hMf]; rfl)
        clear hMf hMk
        generalize joinL (l.take k) = j at *
        go_wp2_with fail
        go_region_held3 (fun W => W.cell? ⟨g, 0, none⟩ = some (.map (some b))) (first | assumption | exact c0) (first
            | (go_at_call 21; refine (HJ.out _ _ hcut).mono ?_; rintro e w2 ⟨rfl, hb2⟩; have hx2 : Below wr.heap.size wr w2 := (belowDrewN (n := 1) (Below.refl _ _)).trans hb2; have m2 : BoolMap w2 b n M := hmr.below hx2 (by omega); have hS : w2.cell? ⟨g, 0, none⟩ = some (.map (some b)) := (by rw [hx2.cell (by exact hgl)]; exact c0)))
        have hB2 : Below w1.heap.size w1 w2 := chainB hB hx2
        go_wp2_with fail
        go_roundw
        case rel => exact ⟨k + 1, by omega, by go_num, HN.out, hB2⟩
        case measure => simp [intOf]; omega
    · obtain rfl : k = l.length := by omega
      have hBw := chainB hb1 hB
      have HF := Lib.hid (show outB M l 1 = false by rw [HO.out, HA.out]; rfl)
      go_wp2_with fail
      go_quiet (fail)
      go_wp2_with fail
      go_ret
      exact ⟨by rw [HF.out]; rfl, belowDrewN hBw⟩

set_option maxRecDepth 100000 in
set_option maxHeartbeats 8000000 in
theorem out_2 (g b n : Nat) (M : List UInt8 → Bool) (s : List UInt8) (hs : s.length ≤ 100000) (w : World) (h : IdxAt w g b n M) :
    Calls Tryd.prog 18 #[.pointer (some ⟨g, 0, none⟩), .string (S s), .int .i64 2] w fun e w' => e = .returned (.bool (outB M (partsL s) 2)) ∧ Below w.heap.size w w' := by
  have hlen := parts_len s
  have HM := Lib.hid (fun q (hq : q ∈ partsL s) => Nat.le_trans (parts_each s q hq) (show s.length ≤ 1000000 by omega))
  have HJK := Lib.hid (fun k => joinL_take_le s hs k)
  have HP := Lib.hid (fun w => Parts_any s (by omega) w)
  generalize partsL s = l at *
  have hOut : outB M l 2 = (anyB M l 2 l.length || (decide ((2 : Int) = 3) && !l.isEmpty && M (joinL l))) := by unfold outB; rw [decide_eq_true (by omega)]; rfl
  have HO := Lib.hid hOut
  clear hOut
  go_enter Tryd.func18, Tryd.ntmps18
  go_wp2_with fail
  refine (HP.out _).mono ?_
  rintro e w1 ⟨⟨v, rfl, hO⟩, hb1⟩
  have hI := h.step hb1
  have hSv := hO.strs
  have hcap : ∀ a n c, v = .slice a n c → n ≤ c := by
    obtain ⟨_, h2⟩ := hO
    rintro a n c rfl
    rcases h2 with ⟨h2, _⟩ | ⟨g, cap, cur, h2, _, _, h3, _⟩
    · cases h2; exact Nat.le_refl _
    · cases h2; exact h3
  obtain ⟨av, cv, rfl, _⟩ := hO.strs
  have hcap := hcap _ _ _ rfl
  clear hO
  go_wp2_with fail
  go_loopw [20] (fun i wr => ∃ k : Nat, k ≤ l.length ∧ i = .int .i64 k ∧ anyB M l 2 k = false ∧ Below w1.heap.size w1 wr) (fun i _ => l.length - (intOf i).toNat)
  case atStart => exact ⟨0, by omega, rfl, rfl, Below.refl _ _⟩
  case round =>
    obtain ⟨k, hk, rfl, hA, hB⟩ := hrel
    have hIr := hI.below hB hI.lt hI.map.lt
    have hSr := hSv.below hB (Nat.le_refl _)
    have HA := Lib.hid hA
    have c0 := hIr.cell
    have hmr := hIr.map
    have hgl := hIr.lt
    have hbl := hIr.map.lt
    clear hA hSv
    by_cases hlt : k < l.length
    · have HJ := Lib.hid (fun w v hv => Join_any (l.take k) v (by rw [List.length_take]; omega) (fun q hq => HM.out q (List.mem_of_mem_take hq)) w hv)
      have hcut : StrsV wr.drew (.slice av k cv) (l.take k) := hSr.cut k hk cv
      have hkc : (k : Int) ≤ cv := by omega
      by_cases hMk : M (joinL (l.take k)) = true
      · have hlook : ∀ W, BoolMap W b n M → (Instr.lookup 85 (.map (some b)) (.string (S (joinL (l.take k)))) false).run Tryd.prog W = .ok (.bool true) W := fun W hW => by
          rw [hW.look _ (HJK.out k), hMk]
        have HH := Lib.hid (show hitB M l 2 k = (decide ((2 : Int) ≠ 1) || !(decide (k + 1 = l.length) && decide (l.getD k [] = tagL))) by unfold hitB; rw [hMk]; rfl)
        have HGD := Lib.hid (show l.getD k [] = l[k] by rw [List.getD_eq_getElem?_getD, List.getElem?_eq_getElem hlt]; rfl)
        have HG := Lib.hid (fun (hh : hitB M l 2 k = true) => show outB M l 2 = true by rw [HO.out, any_hit hlt hh]; rfl)
        have HN := Lib.hid (fun (hh : hitB M l 2 k = false) => show anyB M l 2 (k + 1) = false by rw [any_succ, HA.out, hh]; rfl)
        clear hMk
        generalize joinL (l.take k) = j at *
        go_wp2_with fail
        go_region_held3 (fun W => W.cell? ⟨g, 0, none⟩ = some (.map (some b))) (first | assumption | exact c0) (first
            | (go_at_call 21; refine (HJ.out _ _ hcut).mono ?_; rintro e w2 ⟨rfl, hb2⟩; have hx2 : Below wr.heap.size wr w2 := (belowDrewN (n := 1) (Below.refl _ _)).trans hb2; have m2 : BoolMap w2 b n M := hmr.below hx2 (by omega); have hS : w2.cell? ⟨g, 0, none⟩ = some (.map (some b)) := (by rw [hx2.cell (by exact hgl)]; exact c0)))
        have hB2 : Below w1.heap.size w1 w2 := chainB hB hx2
        have hBw := chainB hb1 hB2
        have hS2 := hSr.below hx2 (Nat.le_refl _)
        have hcase : (((k : Int) == (l.length : Int) - 1) = false ∧ hitB M l 2 k = true) ∨ (((k : Int) == (l.length : Int) - 1) = true ∧ (l[k] == [67, 65, 67, 72, 69, 68, 73, 82, 46, 84, 65, 71]) = true ∧ hitB M l 2 k = true) ∨ (((k : Int) == (l.length : Int) - 1) = true ∧ (l[k] == [67, 65, 67, 72, 69, 68, 73, 82, 46, 84, 65, 71]) = false ∧ hitB M l 2 k = true) := by
          rw [HH.out, HGD.out]
          by_cases h1 : k + 1 = l.length
          · have e1 : ((k : Int) == (l.length : Int) - 1) = true := by rw [beq_iff_eq]; omega
            by_cases h2 : l[k] = tagL
            · exact .inr (.inl ⟨e1, beq_iff_eq.2 h2, by rw [decide_eq_true h1, decide_eq_true h2]; rfl⟩)
            · exact .inr (.inr ⟨e1, beq_eq_false_iff_ne.2 h2, by rw [decide_eq_false h2]; simp⟩)
          · exact .inl ⟨by rw [beq_eq_false_iff_ne]; omega, by rw [decide_eq_false h1]; simp⟩
        obtain ⟨a1, c1, e1, q1⟩ := id hS2
        cases e1
        obtain ⟨gv, off, rfl, q2, q3⟩ := q1 (by omega)
        have hc := q3 k hlt
        clear q1 q3 hcut hlook HH HGD hSr
        generalize l[k] = q at *
        rcases hcase with ⟨h1, hh⟩ | ⟨h1, h2, hh⟩ | ⟨h1, h2, hh⟩
        · have HG1 := Lib.hid (HG.out hh)
          clear hh
          go_wp2_with fail
          go_ret
          exact ⟨by rw [HG1.out]; rfl, hBw⟩
        · have HG1 := Lib.hid (HG.out hh)
          clear hh
          go_wp2_with fail
          go_ret
          exact ⟨by rw [HG1.out]; rfl, hBw⟩
        · have HG1 := Lib.hid (HG.out hh)
          clear hh
          go_wp2_with fail
          go_ret
          exact ⟨by rw [HG1.out]; rfl, hBw⟩
      · have hMf : M (joinL (l.take k)) = false := by simpa using hMk
        have hlook : ∀ W, BoolMap W b n M → (Instr.lookup 85 (.map (some b)) (.string (S (joinL (l.take k)))) false).run Tryd.prog W = .ok (.bool false) W := fun W hW => by
          rw [hW.look _ (HJK.out k), hMf]
        have HN := Lib.hid (show anyB M l 2 (k + 1) = false by rw [any_succ, HA.out]; unfold hitB; rw [hMf]; rfl)
        clear hMf hMk
        generalize joinL (l.take k) = j at *
        go_wp2_with fail
        go_region_held3 (fun W => W.cell? ⟨g, 0, none⟩ = some (.map (some b))) (first | assumption | exact c0) (first
            | (go_at_call 21; refine (HJ.out _ _ hcut).mono ?_; rintro e w2 ⟨rfl, hb2⟩; have hx2 : Below wr.heap.size wr w2 := (belowDrewN (n := 1) (Below.refl _ _)).trans hb2; have m2 : BoolMap w2 b n M := hmr.below hx2 (by omega); have hS : w2.cell? ⟨g, 0, none⟩ = some (.map (some b)) := (by rw [hx2.cell (by exact hgl)]; exact c0)))
        have hB2 : Below w1.heap.size w1 w2 := chainB hB hx2
        go_wp2_with fail
        go_roundw
        case rel => exact ⟨k + 1, by omega, by go_num, HN.out, hB2⟩
        case measure => simp [intOf]; omega
    · obtain rfl : k = l.length := by omega
      have hBw := chainB hb1 hB
      have HF := Lib.hid (show outB M l 2 = false by rw [HO.out, HA.out]; rfl)
      go_wp2_with fail
      go_quiet (fail)
      go_wp2_with fail
      go_ret
      exact ⟨by rw [HF.out]; rfl, belowDrewN hBw⟩

set_option maxRecDepth 100000 in
set_option maxHeartbeats 8000000 in
theorem out_3 (g b n : Nat) (M : List UInt8 → Bool) (s : List UInt8) (hs : s.length ≤ 100000) (w : World) (h : IdxAt w g b n M) :
    Calls Tryd.prog 18 #[.pointer (some ⟨g, 0, none⟩), .string (S s), .int .i64 3] w fun e w' => e = .returned (.bool (outB M (partsL s) 3)) ∧ Below w.heap.size w w' := by
  have hlen := parts_len s
  have HM := Lib.hid (fun q (hq : q ∈ partsL s) => Nat.le_trans (parts_each s q hq) (show s.length ≤ 1000000 by omega))
  have HJK := Lib.hid (fun k => joinL_take_le s hs k)
  have HP := Lib.hid (fun w => Parts_any s (by omega) w)
  generalize partsL s = l at *
  have hOut : outB M l 3 = (anyB M l 3 l.length || (decide ((3 : Int) = 3) && !l.isEmpty && M (joinL l))) := by unfold outB; rw [decide_eq_true (by omega)]; rfl
  have HO := Lib.hid hOut
  clear hOut
  go_enter Tryd.func18, Tryd.ntmps18
  go_wp2_with fail
  refine (HP.out _).mono ?_
  rintro e w1 ⟨⟨v, rfl, hO⟩, hb1⟩
  have hI := h.step hb1
  have hSv := hO.strs
  have hcap : ∀ a n c, v = .slice a n c → n ≤ c := by
    obtain ⟨_, h2⟩ := hO
    rintro a n c rfl
    rcases h2 with ⟨h2, _⟩ | ⟨g, cap, cur, h2, _, _, h3, _⟩
    · cases h2; exact Nat.le_refl _
    · cases h2; exact h3
  obtain ⟨av, cv, rfl, _⟩ := hO.strs
  have hcap := hcap _ _ _ rfl
  clear hO
  go_wp2_with fail
  go_loopw [20] (fun i wr => ∃ k : Nat, k ≤ l.length ∧ i = .int .i64 k ∧ anyB M l 3 k = false ∧ Below w1.heap.size w1 wr) (fun i _ => l.length - (intOf i).toNat)
  case atStart => exact ⟨0, by omega, rfl, rfl, Below.refl _ _⟩
  case round =>
    obtain ⟨k, hk, rfl, hA, hB⟩ := hrel
    have hIr := hI.below hB hI.lt hI.map.lt
    have hSr := hSv.below hB (Nat.le_refl _)
    have HA := Lib.hid hA
    have c0 := hIr.cell
    have hmr := hIr.map
    have hgl := hIr.lt
    have hbl := hIr.map.lt
    clear hA hSv
    by_cases hlt : k < l.length
    · have HJ := Lib.hid (fun w v hv => Join_any (l.take k) v (by rw [List.length_take]; omega) (fun q hq => HM.out q (List.mem_of_mem_take hq)) w hv)
      have hcut : StrsV wr.drew (.slice av k cv) (l.take k) := hSr.cut k hk cv
      have hkc : (k : Int) ≤ cv := by omega
      by_cases hMk : M (joinL (l.take k)) = true
      · have hlook : ∀ W, BoolMap W b n M → (Instr.lookup 85 (.map (some b)) (.string (S (joinL (l.take k)))) false).run Tryd.prog W = .ok (.bool true) W := fun W hW => by
          rw [hW.look _ (HJK.out k), hMk]
        have HH := Lib.hid (show hitB M l 3 k = (decide ((3 : Int) ≠ 1) || !(decide (k + 1 = l.length) && decide (l.getD k [] = tagL))) by unfold hitB; rw [hMk]; rfl)
        have HGD := Lib.hid (show l.getD k [] = l[k] by rw [List.getD_eq_getElem?_getD, List.getElem?_eq_getElem hlt]; rfl)
        have HG := Lib.hid (fun (hh : hitB M l 3 k = true) => show outB M l 3 = true by rw [HO.out, any_hit hlt hh]; rfl)
        have HN := Lib.hid (fun (hh : hitB M l 3 k = false) => show anyB M l 3 (k + 1) = false by rw [any_succ, HA.out, hh]; rfl)
        clear hMk
        generalize joinL (l.take k) = j at *
        go_wp2_with fail
        go_region_held3 (fun W => W.cell? ⟨g, 0, none⟩ = some (.map (some b))) (first | assumption | exact c0) (first
            | (go_at_call 21; refine (HJ.out _ _ hcut).mono ?_; rintro e w2 ⟨rfl, hb2⟩; have hx2 : Below wr.heap.size wr w2 := (belowDrewN (n := 1) (Below.refl _ _)).trans hb2; have m2 : BoolMap w2 b n M := hmr.below hx2 (by omega); have hS : w2.cell? ⟨g, 0, none⟩ = some (.map (some b)) := (by rw [hx2.cell (by exact hgl)]; exact c0)))
        have hB2 : Below w1.heap.size w1 w2 := chainB hB hx2
        have hBw := chainB hb1 hB2
        have hS2 := hSr.below hx2 (Nat.le_refl _)
        have hcase : (((k : Int) == (l.length : Int) - 1) = false ∧ hitB M l 3 k = true) ∨ (((k : Int) == (l.length : Int) - 1) = true ∧ (l[k] == [67, 65, 67, 72, 69, 68, 73, 82, 46, 84, 65, 71]) = true ∧ hitB M l 3 k = true) ∨ (((k : Int) == (l.length : Int) - 1) = true ∧ (l[k] == [67, 65, 67, 72, 69, 68, 73, 82, 46, 84, 65, 71]) = false ∧ hitB M l 3 k = true) := by
          rw [HH.out, HGD.out]
          by_cases h1 : k + 1 = l.length
          · have e1 : ((k : Int) == (l.length : Int) - 1) = true := by rw [beq_iff_eq]; omega
            by_cases h2 : l[k] = tagL
            · exact .inr (.inl ⟨e1, beq_iff_eq.2 h2, by rw [decide_eq_true h1, decide_eq_true h2]; rfl⟩)
            · exact .inr (.inr ⟨e1, beq_eq_false_iff_ne.2 h2, by rw [decide_eq_false h2]; simp⟩)
          · exact .inl ⟨by rw [beq_eq_false_iff_ne]; omega, by rw [decide_eq_false h1]; simp⟩
        obtain ⟨a1, c1, e1, q1⟩ := id hS2
        cases e1
        obtain ⟨gv, off, rfl, q2, q3⟩ := q1 (by omega)
        have hc := q3 k hlt
        clear q1 q3 hcut hlook HH HGD hSr
        generalize l[k] = q at *
        rcases hcase with ⟨h1, hh⟩ | ⟨h1, h2, hh⟩ | ⟨h1, h2, hh⟩
        · have HG1 := Lib.hid (HG.out hh)
          clear hh
          go_wp2_with fail
          go_ret
          exact ⟨by rw [HG1.out]; rfl, hBw⟩
        · have HG1 := Lib.hid (HG.out hh)
          clear hh
          go_wp2_with fail
          go_ret
          exact ⟨by rw [HG1.out]; rfl, hBw⟩
        · have HG1 := Lib.hid (HG.out hh)
          clear hh
          go_wp2_with fail
          go_ret
          exact ⟨by rw [HG1.out]; rfl, hBw⟩
      · have hMf : M (joinL (l.take k)) = false := by simpa using hMk
        have hlook : ∀ W, BoolMap W b n M → (Instr.lookup 85 (.map (some b)) (.string (S (joinL (l.take k)))) false).run Tryd.prog W = .ok (.bool false) W := fun W hW => by
          rw [hW.look _ (HJK.out k), hMf]
        have HN := Lib.hid (show anyB M l 3 (k + 1) = false by rw [any_succ, HA.out]; unfold hitB; rw [hMf]; rfl)
        clear hMf hMk
        generalize joinL (l.take k) = j at *
        go_wp2_with fail
        go_region_held3 (fun W => W.cell? ⟨g, 0, none⟩ = some (.map (some b))) (first | assumption | exact c0) (first
            | (go_at_call 21; refine (HJ.out _ _ hcut).mono ?_; rintro e w2 ⟨rfl, hb2⟩; have hx2 : Below wr.heap.size wr w2 := (belowDrewN (n := 1) (Below.refl _ _)).trans hb2; have m2 : BoolMap w2 b n M := hmr.below hx2 (by omega); have hS : w2.cell? ⟨g, 0, none⟩ = some (.map (some b)) := (by rw [hx2.cell (by exact hgl)]; exact c0)))
        have hB2 : Below w1.heap.size w1 w2 := chainB hB hx2
        go_wp2_with fail
        go_roundw
        case rel => exact ⟨k + 1, by omega, by go_num, HN.out, hB2⟩
        case measure => simp [intOf]; omega
    · obtain rfl : k = l.length := by omega
      have hBw := chainB hb1 hB
      by_cases h0 : l.length = 0
      · have HF := Lib.hid (show outB M l 3 = false by rw [HO.out, HA.out, List.eq_nil_of_length_eq_zero h0]; rfl)
        have hd : decide ((0 : Int) < (l.length : Int)) = false := by rw [decide_eq_false_iff_not]; omega
        go_wp2_with fail
        go_quiet (fail)
        go_wp2_with fail
        go_ret
        exact ⟨by rw [HF.out]; rfl, belowDrewN hBw⟩
      · have hd : decide ((0 : Int) < (l.length : Int)) = true := by rw [decide_eq_true_iff]; omega
        have hne : l.isEmpty = false := by cases l with | nil => exact absurd rfl h0 | cons => rfl
        have HF := Lib.hid (show outB M l 3 = M (joinL l) by rw [HO.out, HA.out, hne]; rfl)
        have HJ := Lib.hid (fun w v hv => Join_any l v (by omega) HM.out w hv)
        have hjk := HJK.out l.length
        rw [List.take_length] at hjk
        have hlook : ∀ W, BoolMap W b n M → (Instr.lookup 85 (.map (some b)) (.string (S (joinL l))) false).run Tryd.prog W = .ok (.bool (M (joinL l))) W := fun W hW => by
          rw [hW.look _ hjk]
        have hcut : StrsV wr.drew (.slice av l.length cv) l := hSr
        clear hjk hne h0
        have hpos : 0 < l.length := by have := of_decide_eq_true hd; omega
        have hd2 : decide (0 < l.length) = true := decide_eq_true hpos
        generalize M (joinL l) = mj at *
        generalize joinL l = j at *
        go_wp2_with fail
        go_region_held3 (fun W => W.cell? ⟨g, 0, none⟩ = some (.map (some b))) (first | assumption | exact c0) (first
            | (go_at_call 21; refine (HJ.out _ _ hcut).mono ?_; rintro e w2 ⟨rfl, hb2⟩; have hx2 : Below wr.heap.size wr w2 := (belowDrewN (n := 1) (Below.refl _ _)).trans hb2; have m2 : BoolMap w2 b n M := hmr.below hx2 (by omega); have hS : w2.cell? ⟨g, 0, none⟩ = some (.map (some b)) := (by rw [hx2.cell (by exact hgl)]; exact c0)))
        have hB2 : Below w1.heap.size w1 w2 := chainB hB hx2
        have hBw2 := chainB hb1 hB2
        go_wp2_with fail
        go_ret
        exact ⟨by rw [HF.out]; rfl, hBw2⟩

end Go.Proofs.YtpdknjpicaokkaaDoor
