/- The law VcsNames: for every input the call returns true. -/
import Derived.Test.YtjaiadfpdkjkpaaDoorVcsD
namespace Go.Proofs.YtjaiadfpdkjkpaaDoor
open Go.RowKit

theorem nm_get (k : Nat) (h : k < namesL.length) : namesL[k] = nm k := by unfold nm; rw [List.getD_eq_getElem?_getD, List.getElem?_eq_getElem h]; rfl
theorem nm_known (k : Nat) : knownB (nm k) = true := decide_eq_true (nm_mem k)
theorem nm_parts (m : Nat) (hm : m < 21) : partsL (nm m) = [nm m] := by
  have h : ((List.range 21).all fun m => partsL (nm m) == [nm m]) = true := by decide +kernel
  exact beq_iff_eq.1 (List.all_eq_true.1 h m (List.mem_range.2 hm))
theorem nm_len (m : Nat) : (nm m).length ≤ 20 := by
  have h : (namesL.all fun q => decide (q.length ≤ 20)) = true := by decide
  have := List.all_eq_true.1 h (nm m) (nm_mem m)
  exact of_decide_eq_true this
theorem nm_mat (m : Nat) (hm : m < 21) : matV (partsL (nm m)) = .tuple #[.string (S (nm m)), .bool true] := by
  rw [nm_parts m hm]
  unfold matV findL
  rw [List.find?_cons_of_pos (nm_known m)]
set_option maxRecDepth 100000 in
theorem Names_any (w : World) : Calls Tryd.prog 24 #[] w fun e w' => (∃ v, e = .returned v ∧ OwnS w' w.heap.size v namesL ∧ ∃ g c, v = .slice (some ⟨g, 0, none⟩) 21 c) ∧ Below w.heap.size w w' := by
  go_enter Tryd.func24, Tryd.ntmps24
  go_wp2_with fail
  refine (names_any _).mono ?_
  rintro e w1 ⟨⟨v, rfl, hO, g, c, rfl⟩, hb1⟩
  go_wp2_with fail
  go_ret
  exact ⟨⟨_, rfl, hO, _, _, rfl⟩, hb1⟩
theorem own_cell {w : World} {base g c : Nat} (h : OwnS w base (.slice (some ⟨g, 0, none⟩) 21 c) namesL) (k : Nat) (hk : k < 21) : w.cell? ⟨g, k, none⟩ = some (.string (S (nm k))) := by
  have := StrsV.cellOf0 (l := namesL) (g := g) (off := 0) (n := 21) (c := c) h.strs k hk
  rw [Nat.zero_add, nm_get k hk] at this
  exact this
theorem own_free {w : World} {base g c : Nat} (h : OwnS w base (.slice (some ⟨g, 0, none⟩) 21 c) namesL) (k : Nat) : w.frozen? ⟨g, k, none⟩ = false := by
  obtain ⟨_, h2⟩ := h
  rcases h2 with ⟨h2, _⟩ | ⟨g', cap', cur, hv, _, hh, _⟩
  · cases h2
  · cases hv
    simp [World.frozen?, hh]
set_option maxRecDepth 100000 in
set_option maxHeartbeats 4000000 in
theorem lawNames (n : UInt8) (w : World) :
    Calls Tryd.prog 7 #[.int .u8 n.toNat] w fun e w' => e = .returned (.bool true) ∧ Below w.heap.size w w' := by
  have hby := n.toNat_lt
  go_enter Tryd.func7, Tryd.ntmps7
  go_wp2_with fail
  refine (Names_any _).mono ?_
  rintro e w1 ⟨⟨v, rfl, hO, g, c, rfl⟩, hb1⟩
  have hlt := hO.lt g rfl
  go_wp2_with fail
  go_loopw [15] (fun i wr => ∃ k : Nat, k ≤ 21 ∧ i = .int .i64 k ∧ Below w1.heap.size w1 wr) (fun i _ => 21 - (intOf i).toNat)
  case atStart => exact ⟨0, by omega, rfl, Below.refl _ _⟩
  case round =>
    obtain ⟨k, hk, rfl, hB⟩ := hrel
    have hOr := hO.below hB (Nat.le_refl _)
    by_cases hltk : k < 21
    · have hc := own_cell hOr k hltk
      have hK1 := fun w => rKnown_any (nm k) w
      have hK2 := fun w => Known_any (nm k) w
      rw [nm_known] at hK1 hK2
      have K1 := Lib.hid hK1
      have K2 := Lib.hid hK2
      clear hK1 hK2
      by_cases hk0 : 0 < k
      · have hc0 := own_cell hOr (k - 1) (by omega)
        have hless : Op.bytesLess (nm (k - 1)) (nm k) = true := by rw [less_nm k (k - 1) hltk]; exact decide_eq_true (by omega)
        have hq : ((k : Int) - 1).toNat = k - 1 := by omega
        have hq0 : (0 : Int) ≤ (k : Int) - 1 := by omega
        have HC0 := Lib.hid hc0
        have HLess := Lib.hid hless
        clear hc0 hless
        generalize nm k = q at *
        generalize nm (k - 1) = q0 at *
        go_wp2_with fail
        refine (K1.out _).mono ?_
        rintro e w2 ⟨rfl, hw2⟩
        subst hw2
        go_wp2_with fail
        refine (K2.out _).mono ?_
        rintro e w3 ⟨rfl, hb3⟩
        have hB3 := chainB hB hb3
        have hgr : g < w2.heap.size := by have := hB.size; omega
        have hc3 : w3.cell? ⟨g, k - 1, none⟩ = some (.string (S q0)) := by rw [hb3.cell (by exact hgr)]; exact HC0.out
        have hl := HLess.out
        go_wp2_with fail
        go_roundw
        case rel => exact ⟨k + 1, by omega, by go_num, hB3⟩
        case measure => simp [intOf]; omega
      · obtain rfl : k = 0 := by omega
        generalize nm 0 = q at *
        go_wp2_with fail
        refine (K1.out _).mono ?_
        rintro e w2 ⟨rfl, hw2⟩
        subst hw2
        go_wp2_with fail
        refine (K2.out _).mono ?_
        rintro e w3 ⟨rfl, hb3⟩
        have hB3 := chainB hB hb3
        go_wp2_with fail
        go_roundw
        case rel => exact ⟨1, by omega, by go_num, hB3⟩
        case measure => simp [intOf]
    · obtain rfl : k = 21 := by omega
      have hm21 : n.toNat % 21 < 21 := Nat.mod_lt _ (by decide)
      have hc := own_cell hOr (n.toNat % 21) hm21
      have hz := own_cell hOr 0 (by decide)
      have hf := own_free hOr 0
      have hM := fun w => Match_any (nm (n.toNat % 21)) (by have := nm_len (n.toNat % 21); omega) w
      rw [nm_mat _ hm21] at hM
      have HM := Lib.hid hM
      have hmi : ((n.toNat : Int) % 21).toNat = n.toNat % 21 := by omega
      have hB1 : Below w.heap.size w wr := chainB hb1 hB
      have HB1 := Lib.hid hB1
      clear hM hB1
      generalize nm (n.toNat % 21) = q at *
      go_wp2_with fail
      refine (HM.out _).mono ?_
      rintro e w2 ⟨rfl, hb2⟩
      have hx2 : Below w.heap.size w w2 := (HB1.out.setCell (by exact hlt.1) _).trans (hb2.mono (by have := HB1.out.size; simpa using this))
      have HX2 := Lib.hid hx2
      clear hx2 hb2
      go_wp2_with fail
      refine (Names_any _).mono ?_
      rintro e w3 ⟨⟨v3, rfl, hO3, g3, c3, rfl⟩, hb3⟩
      have hx3 := chainB HX2.out hb3
      have hc3 := own_cell hO3 0 (by decide)
      rw [show nm 0 = [46, 97, 114, 99, 104, 45, 105, 100, 115] from rfl] at hc3
      go_wp2_with fail
      refine (awake_any27 _).mono ?_
      rintro e w4 ⟨rfl, hb4⟩
      have hx4 := chainB hx3 hb4
      go_wp2_with fail
      go_ret
      exact ⟨rfl, hx4⟩
end Go.Proofs.YtjaiadfpdkjkpaaDoor
