/- The document's globs: Match; the law GlobMatches, walked. -/
import Derived.Test.YthcmoigdihdabaaGlobP
import Derived.Test.YthcmoigdihdabaaGlobH
import Derived.Test.YthcmoigdihdabaaGlobT
namespace Go.Proofs.Ythcmoigdihdabaa
open Go.RowKit
attribute [local irreducible] wordP

set_option maxRecDepth 100000 in
set_option maxHeartbeats 2000000 in
theorem RMatch_any (l : List Tk) (s : List UInt8) (fold slash : Bool) (v : Value) (w : World) (hl : RowsV Tk.rcells 3 w v l) (hln : l.length ≤ 2000) (hs : s.length ≤ 100000) :
    Calls Try.prog 23 #[v, .bool fold, .bool slash, .string (S s)] w fun e w' => e = .returned (.bool (matchG (freeG slash) (l.map (Tk.gt fold slash)) s)) ∧ Below w.heap.size w w' := by
  have HE := Lib.hid (Ends_any l s fold slash v w hl hln hs)
  have hsI : (s.length : Int) ≤ 100000 := by omega
  go_enter Try.func23, Try.ntmps23
  go_wp2_with fail
  refine (HE.out).mono ?_
  rintro e w1 ⟨v1, rfl, hown, hb⟩
  obtain ⟨g, c, rfl, _, _, hc⟩ := hown.at' (by rw [endsK_len]; omega)
  have c0 : w1.cell? ⟨g, s.length, none⟩ = some (.bool (matchG (freeG slash) (l.map (Tk.gt fold slash)) s)) := by rw [hc s.length (by rw [endsK_len]; omega), endsK_at, List.take_length]
  clear hc hown
  rw [endsK_len]
  go_wp2_with fail
  go_ret
  exact ⟨rfl, hb⟩
set_option maxRecDepth 100000 in
set_option maxHeartbeats 2000000 in
theorem matches_awake (s o : ByteArray) (fold slash : Bool) (m : Int) (w : World) (hm : w.cell? ⟨0, 0, none⟩ = some (.int .i64 m)) (h : 100 < s.size ∨ (s.size ≤ 100 ∧ 100 < o.size)) :
    Calls Try.prog 6 #[.string s, .string o, .bool fold, .bool slash] w fun e w' => e = .returned (.bool true) ∧ Below w.heap.size w w' := by
  have HW := Lib.hid (awake15 m w hm)
  rcases h with h | ⟨h1, h⟩
  all_goals
    go_enter Try.func6, Try.ntmps6
    go_wp2_with fail
    refine (HW.out).mono ?_
    rintro e w1 ⟨rfl, hb1⟩
    go_wp2_with fail
    go_ret
    exact ⟨rfl, hb1⟩
set_option maxRecDepth 100000 in
set_option maxHeartbeats 4000000 in
theorem matches_main (s o : List UInt8) (fold slash : Bool) (m : Int) (w : World) (hm : w.cell? ⟨0, 0, none⟩ = some (.int .i64 m)) (h1 : s.length ≤ 100) (h2 : o.length ≤ 100) :
    Calls Try.prog 6 #[.string (S s), .string (S o), .bool fold, .bool slash] w fun e w' => e = .returned (.bool true) ∧ Below w.heap.size w w' := by
  have hgW : 0 < w.heap.size := World.block_lt_of_cell? w ⟨0, 0, none⟩ hm
  have HP := fun W hW => GParse_any s (by omega) W m hW
  have HR := fun W => RParse_any s (by omega) W
  have HA := Lib.hid (fun W hW => awake15 m W hW)
  cases hR : parseG s (s.length + 1) 0 [] with
  | none =>
    rw [hR] at HP
    have HP := Lib.hid HP
    clear hR HR
    go_enter Try.func6, Try.ntmps6
    go_wp2_with fail
    refine (HP.out _ hm).mono ?_
    rintro e w1 h
    exact h.elim
  | some r =>
    obtain ⟨l, a, er⟩ := r
    have hll := parseG_len s _ _ _ l a er (by simp) hR
    rw [hR] at HP HR
    have HP := Lib.hid HP
    have HR := Lib.hid HR
    have HM := Lib.hid (fun v W hv => Match_any l o fold slash v W hv (by omega) (by omega))
    have HN := Lib.hid (fun v W hv => RMatch_any l o fold slash v W hv (by omega) (by omega))
    clear hR hll
    by_cases he : er = 0
    · subst he
      go_enter Try.func6, Try.ntmps6
      go_wp2_with fail
      refine (HP.out _ hm).mono ?_
      rintro e w1 ⟨v, rfl, hown, hb1⟩
      have hr1 := hown.rows Tk.cells_len
      go_wp2_with fail
      refine (HR.out _).mono ?_
      rintro e w2 ⟨v2, rfl, hown2, hb2⟩
      have hq2 := hown2.rows Tk.rcells_len
      have hr2 := hr1.below hb2 (Nat.le_refl _)
      have hx2 := hb1.trans (hb2.mono hb1.size)
      go_wp2_with fail
      refine (HM.out v _ hr2).mono ?_
      rintro e w3 ⟨rfl, hb3⟩
      have hq3 := hq2.below hb3 (Nat.le_refl _)
      have hx3 := hx2.trans (hb3.mono hx2.size)
      go_wp2_with fail
      refine (HN.out v2 _ hq3).mono ?_
      rintro e w4 ⟨rfl, hb4⟩
      have hx4 := hx3.trans (hb4.mono hx3.size)
      generalize matchG (freeG slash) (l.map (Tk.gt fold slash)) o = b at *
      have hself : (b == b) = true := by simp
      go_wp2_with fail
      refine (HA.out _ ((hx4.cell (p := ⟨0, 0, none⟩) hgW).trans hm)).mono ?_
      rintro e w6 ⟨rfl, hb6⟩
      go_wp2_with fail
      go_ret
      exact ⟨rfl, hx4.trans (hb6.mono hx4.size)⟩
    · have heI : ¬ (er : Int) = 0 := by omega
      have heB : ((er : Int) != 0) = true := bne_iff_ne.2 heI
      have heE : ((er : Int) == (er : Int)) = true := by simp
      go_enter Try.func6, Try.ntmps6
      go_wp2_with fail
      refine (HP.out _ hm).mono ?_
      rintro e w1 ⟨v, rfl, hown, hb1⟩
      go_wp2_with fail
      refine (HR.out _).mono ?_
      rintro e w2 ⟨v2, rfl, hown2, hb2⟩
      have hx2 := hb1.trans (hb2.mono hb1.size)
      go_wp2_with fail
      refine (HA.out _ ((hx2.cell (p := ⟨0, 0, none⟩) hgW).trans hm)).mono ?_
      rintro e w6 ⟨rfl, hb6⟩
      go_wp2_with fail
      go_ret
      exact ⟨rfl, hx2.trans (hb6.mono hx2.size)⟩
theorem lawMatchesG (s o : ByteArray) (fold slash : Bool) (w : World) (hmx : ∃ m, w.cell? ⟨0, 0, none⟩ = some (.int .i64 m)) :
    Calls Try.prog 6 #[.string s, .string o, .bool fold, .bool slash] w fun e w' => e = .returned (.bool true) ∧ Below w.heap.size w w' := by
  obtain ⟨m, hm⟩ := hmx
  by_cases h1 : 100 < s.size
  · exact matches_awake s o fold slash m w hm (Or.inl h1)
  by_cases h2 : 100 < o.size
  · exact matches_awake s o fold slash m w hm (Or.inr ⟨by omega, h2⟩)
  · exact matches_main s.data.toList o.data.toList fold slash m w hm (by rw [size_len]; omega) (by rw [size_len]; omega)
end Go.Proofs.Ythcmoigdihdabaa
