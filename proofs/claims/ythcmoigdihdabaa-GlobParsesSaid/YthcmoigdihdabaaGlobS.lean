/- The law GlobParses, walked: the law itself. -/
import Derived.Test.YthcmoigdihdabaaGlobR
import Derived.Test.YthcmoigdihdabaaGlobT
import Derived.Deep.QuietTactic
import Derived.BigQuiet
namespace Go.Proofs.Ythcmoigdihdabaa
open Go.RowKit
attribute [local irreducible] wordP

set_option maxRecDepth 100000 in
set_option maxHeartbeats 2000000 in
theorem parses_awake (s : ByteArray) (m : Int) (w : World) (hm : w.cell? ⟨0, 0, none⟩ = some (.int .i64 m)) (h : 300 < s.size) :
    Calls Try.prog 8 #[.string s] w fun e w' => e = .returned (.bool true) ∧ Below w.heap.size w w' := by
  have HW := Lib.hid (awake15 m w hm)
  go_enter Try.func8, Try.ntmps8
  go_wp2_with fail
  refine (HW.out).mono ?_
  rintro e w1 ⟨rfl, hb1⟩
  go_wp2_with fail
  go_ret
  exact ⟨rfl, hb1⟩
set_option maxRecDepth 100000 in
set_option maxHeartbeats 4000000 in
theorem parses_main (s : List UInt8) (m : Int) (w : World) (hm : w.cell? ⟨0, 0, none⟩ = some (.int .i64 m)) (h1 : s.length ≤ 300) :
    Calls Try.prog 8 #[.string (S s)] w fun e w' => e = .returned (.bool true) ∧ Below w.heap.size w w' := by
  have hgW : 0 < w.heap.size := World.block_lt_of_cell? w ⟨0, 0, none⟩ hm
  have HP := fun W hW => GParse_any s (by omega) W m hW
  have HR := fun W => RParse_any s (by omega) W
  have HA := Lib.hid (fun W hW => awake15 m W hW)
  cases hR : parseG s (s.length + 1) 0 [] with
  | none =>
    rw [hR] at HP
    have HP := Lib.hid HP
    clear hR HR
    go_enter Try.func8, Try.ntmps8
    go_wp2_with fail
    refine (HP.out _ hm).mono ?_
    rintro e w1 h
    exact h.elim
  | some r =>
    obtain ⟨l, a, er⟩ := r
    have hll := parseG_len s _ _ _ l a er (by simp) hR
    rw [hR] at HP HR
    have HP := Lib.hid HP
    have HR := Lib.hid HR
    have HT := Lib.hid (fun v W hv => Tokens_any l v W hv (by omega))
    clear hR
    have hA : ((a : Int) != (a : Int)) = false := by simp
    have hE : ((er : Int) != (er : Int)) = false := by simp
    have hL : ((l.length : Int) != (l.length : Int)) = false := by simp
    go_enter Try.func8, Try.ntmps8
    go_wp2_with fail
    refine (HP.out _ hm).mono ?_
    rintro e w1 ⟨v, rfl, hown, hb1⟩
    have hr1 := hown.rows Tk.cells_len
    go_wp2_with fail
    refine (HR.out _).mono ?_
    rintro e w2 ⟨v2, rfl, hown2, hb2⟩
    have hq2 := hown2.rows Tk.rcells_len
    have hr2 := hr1.below hb2 (Nat.le_refl _)
    have hx2 := hb1.trans (hb2.mono hb1.size)
    go_wp2_with fail
    refine (HT.out v _ hr2).mono ?_
    rintro e w3 ⟨v3, rfl, hown3, hb3⟩
    have hq3 := hq2.below hb3 (Nat.le_refl _)
    have hp3 := hown3.rows Tk.rcells_len
    have hx3 := hx2.trans (hb3.mono hx2.size)
    clear hr1 hr2 hown hown2 hown3 hq2 HP HR HT hb1 hb2 hb3 hx2
    obtain ⟨a2, c2, rfl, hrow2⟩ := hq3
    obtain ⟨a3, c3, rfl, hrow3⟩ := hp3
    go_wp2_with fail
    go_loopw [46] (fun v46 wr => ∃ k : Nat, v46 = .int .i64 k ∧ k ≤ l.length ∧ Below w3.heap.size w3 wr) (fun v46 _ => l.length - (intOf v46).toNat)
    case atStart => exact ⟨0, rfl, Nat.zero_le _, Below.refl _ _⟩
    case round =>
      obtain ⟨k, rfl, hk, hb⟩ := hrel
      by_cases hlt : k < l.length
      · have hkI : (k : Int) < (l.length : Int) := by omega
        obtain ⟨b2, off2, rfl, hbw2, hcell2⟩ := hrow2 (by omega)
        obtain ⟨b3, off3, rfl, hbw3, hcell3⟩ := hrow3 (by omega)
        have tc2 : ∀ j u, (l[k]).rcells[j]? = some u → wr.cell? ⟨b2, off2 + k * 3 + j, none⟩ = some u := fun j u h => (hb.cell (p := ⟨b2, off2 + k * 3 + j, none⟩) hbw2).trans (hcell2 k hlt j u h)
        have tc3 : ∀ j u, (l[k]).rcells[j]? = some u → wr.cell? ⟨b3, off3 + k * 3 + j, none⟩ = some u := fun j u h => (hb.cell (p := ⟨b3, off3 + k * 3 + j, none⟩) hbw3).trans (hcell3 k hlt j u h)
        clear hcell2 hrow2 hcell3 hrow3
        generalize l[k] = t at *
        have t0 : wr.cell? ⟨b2, off2 + k * 3, none⟩ = some (.int .i64 t.kind) := tc2 0 _ rfl
        have t1 : wr.cell? ⟨b2, off2 + k * 3 + 1, none⟩ = some (.int .u8 t.b.toNat) := tc2 1 _ rfl
        have t2 : wr.cell? ⟨b2, off2 + k * 3 + 2, none⟩ = some (.string (S t.txt)) := tc2 2 _ rfl
        have u0 : wr.cell? ⟨b3, off3 + k * 3, none⟩ = some (.int .i64 t.kind) := tc3 0 _ rfl
        have u1 : wr.cell? ⟨b3, off3 + k * 3 + 1, none⟩ = some (.int .u8 t.b.toNat) := tc3 1 _ rfl
        have u2 : wr.cell? ⟨b3, off3 + k * 3 + 2, none⟩ = some (.string (S t.txt)) := tc3 2 _ rfl
        clear tc2 tc3
        go_upto_region 11 with fail
        go_quiet (fail)
        go_wp2_with fail
        go_roundw
        case rel => exact ⟨k + 1, by go_num, by omega, belowDrewN hb⟩
        case measure => simp [intOf]; omega
      · have hkk : k = l.length := by omega
        subst hkk
        have hkI : ¬ (l.length : Int) < (l.length : Int) := by omega
        have hx4 := hx3.trans (hb.mono hx3.size)
        go_wp2_with fail
        refine (HA.out _ ((hx4.cell (p := ⟨0, 0, none⟩) hgW).trans hm)).mono ?_
        rintro e w6 ⟨rfl, hb6⟩
        go_wp2_with fail
        go_ret
        exact ⟨rfl, hx4.trans (hb6.mono hx4.size)⟩
theorem lawParsesG (s : ByteArray) (w : World) (hmx : ∃ m, w.cell? ⟨0, 0, none⟩ = some (.int .i64 m)) :
    Calls Try.prog 8 #[.string s] w fun e w' => e = .returned (.bool true) ∧ Below w.heap.size w w' := by
  obtain ⟨m, hm⟩ := hmx
  by_cases h1 : 300 < s.size
  · exact parses_awake s m w hm h1
  · exact parses_main s.data.toList m w hm (by rw [size_len]; omega)
end Go.Proofs.Ythcmoigdihdabaa
