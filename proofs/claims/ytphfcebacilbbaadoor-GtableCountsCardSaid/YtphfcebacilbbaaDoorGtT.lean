/- The law GtableCounts, walked. -/
import Derived.Test.YtphfcebacilbbaaDoorGtAll
namespace Go.Proofs.YtphfcebacilbbaaDoor
open Go.RowKit
attribute [local irreducible] wordP

set_option maxRecDepth 100000 in
set_option maxHeartbeats 2000000 in
theorem counts_awake (s : ByteArray) (fold slash : Bool) (m : Int) (w : World) (hm : w.cell? ⟨2, 0, none⟩ = some (.int .i64 m)) (h : 300 < s.size) :
    Calls Tryd.prog 3 #[.string s, .bool fold, .bool slash] w fun e w' => e = .returned (.bool true) ∧ Below w.heap.size w w' := by
  have HW := Lib.hid (awake16 m w hm)
  go_enter Tryd.func3, Tryd.ntmps3
  go_wp2_with fail
  refine (HW.out).mono ?_
  rintro e w1 ⟨rfl, hb1⟩
  go_wp2_with fail
  go_ret
  exact ⟨rfl, hb1⟩
/-- no star among the first k tokens -/
def noStar (l : List Tk) (k : Nat) : Prop := ∀ i, i < k → ∀ t, l[i]? = some t → t.kind ≠ 4
theorem noStar_gts (fold slash : Bool) (l : List Tk) (h : noStar l l.length) : ∀ i, i < (gts fold slash l).length → starAt (gts fold slash l) i = false := by
  intro i hi
  rw [gts_len] at hi
  rw [star_kind fold slash l i hi]
  have := h i hi l[i] (List.getElem?_eq_getElem hi)
  rw [beq_eq_false_iff_ne]
  exact this
set_option maxRecDepth 100000 in
set_option maxHeartbeats 8000000 in
theorem counts_main (s : List UInt8) (fold slash : Bool) (m : Int) (w : World) (hm : w.cell? ⟨2, 0, none⟩ = some (.int .i64 m)) (h1 : s.length ≤ 300) :
    Calls Tryd.prog 3 #[.string (S s), .bool fold, .bool slash] w fun e w' => e = .returned (.bool true) ∧ Below w.heap.size w w' := by
  have hgW : 2 < w.heap.size := World.block_lt_of_cell? w ⟨2, 0, none⟩ hm
  have HP := GParse_any s (by omega) w m hm
  have HA := Lib.hid (fun W (hb : Below w.heap.size w W) => awake16 m W ((hb.cell (p := ⟨2, 0, none⟩) hgW).trans hm))
  have h1I : (s.length : Int) ≤ 300 := by omega
  cases hR : parseG s (s.length + 1) 0 [] with
  | none =>
    rw [hR] at HP
    have HP := Lib.hid HP
    clear hR
    go_enter Tryd.func3, Tryd.ntmps3
    go_wp2_with fail
    refine (HP.out).mono ?_
    rintro e w1 h
    exact h.elim
  | some r =>
    obtain ⟨l, a, er⟩ := r
    have hll := parseG_len s _ _ _ l a er (by simp) hR
    rw [hR] at HP
    have HP := Lib.hid HP
    clear hR
    by_cases he : er = 0
    · subst he
      have hlI : (l.length : Int) ≤ 1024 := by omega
      have HLL := Lib.hid hll
      clear hll
      go_enter Tryd.func3, Tryd.ntmps3
      go_wp2_with fail
      refine (HP.out).mono ?_
      rintro e w1 ⟨v, rfl, hown, hb1⟩
      have hr1 := hown.rows Tk.cells_len
      obtain ⟨ta, tc, hv, hc⟩ := hr1
      subst hv
      have HR1 := Lib.hid (fun W (hb : Below w1.heap.size w1 W) => (show RowsV Tk.cells 6 W (.slice ta l.length tc) l from RowsV.below ⟨ta, tc, rfl, hc⟩ hb (Nat.le_refl _)))
      have HC := Lib.hid hc
      have HB1 := Lib.hid hb1
      clear hc hown hb1 HP
      go_wp2_with fail
      go_loopw [34, 11] (fun i c wr => ∃ k n : Nat, i = .int .i64 k ∧ c = .int .i64 n ∧ k ≤ l.length ∧ n ≤ k ∧ (n = 0 ↔ noStar l k) ∧ Below w1.heap.size w1 wr) (fun i _ _ => l.length - (RowKit.intOf i).toNat)
      case atStart => exact ⟨0, 0, rfl, rfl, Nat.zero_le _, Nat.le_refl _, ⟨fun _ i hi => absurd hi (Nat.not_lt_zero i), fun _ => rfl⟩, Below.refl _ _⟩
      case round =>
        obtain ⟨k, n, rfl, rfl, hk, hn, hst, hX⟩ := hrel
        have HST := Lib.hid hst
        clear hst
        by_cases hlt : k < l.length
        · obtain ⟨b, off, rfl, hb, hcs⟩ := HC.out (by omega)
          obtain ⟨c0, c1, c2, c3, c4, c5⟩ := tok_cells (t := l[k]) (W := wr) (b := b) (off := off) (k := k) (fun i u hu => (hX.cell (p := ⟨b, off + k * 6 + i, none⟩) hb).trans (hcs k hlt i u hu))
          have HT : Hid (l[k]? = some l[k]) := Lib.hid (List.getElem?_eq_getElem hlt)
          generalize l[k] = t at *
          clear hcs
          have hX1 := Lib.hid (hX.alloc hX.size (.cells #[.int .i64 t.kind, .int .u8 t.b.toNat, .int .u64 (wordP t.p 0), .int .u64 (wordP t.p 1), .int .u64 (wordP t.p 2), .int .u64 (wordP t.p 3)] 31))
          cases h4 : ((t.kind : Int) == 4)
          · go_wp2_with fail
            go_roundw
            case rel =>
              refine ⟨k + 1, n, by go_num, by trivial, hlt, by omega, ?_, hX1.out⟩
              rw [HST.out]
              constructor
              · intro h i hi t' ht'
                by_cases e : i = k
                · subst e; rw [HT.out] at ht'; injection ht' with ht'; subst ht'; exact beq_eq_false_iff_ne.1 h4
                · exact h i (by omega) t' ht'
              · intro h i hi t' ht'
                exact h i (by omega) t' ht'
            case measure => simp [RowKit.intOf]; omega
          · go_wp2_with fail
            go_roundw
            case rel =>
              refine ⟨k + 1, n + 1, by go_num, by go_num, hlt, by omega, ?_, hX1.out⟩
              constructor
              · intro h; omega
              · intro h
                exact absurd (eq_of_beq h4) (h k (Nat.lt_succ_self k) t HT.out)
            case measure => simp [RowKit.intOf]; omega
        · have hkl : k = l.length := by omega
          subst hkl
          have HX := Lib.hid hX
          have HXX := Lib.hid (HB1.out.trans (hX.mono HB1.out.size))
          have HRR := Lib.hid (HR1.out _ hX)
          clear HC HR1 hX hk
          by_cases hn0 : n = 0
          · have HNS := Lib.hid (noStar_gts fold slash l (HST.out.1 hn0))
            subst hn0
            have HCM := Lib.hid (compile_any l fold slash ((l.length : Int) + 1) (.slice ta l.length tc) HLL.out (by omega) (by have := HLL.out; omega) wr HRR.out)
            go_wp2_with fail
            refine HCM.out.mono ?_
            rintro e w2 ⟨hb2, h2⟩
            have hx2 := HXX.out.trans (hb2.mono HXX.out.size)
            rcases h2 with ⟨gt, T, rfl, hok, hat⟩ | ⟨rfl, ls, hl1, hl2, hl3⟩
            · have h4 := hok.pos
              have hS := Lib.hid (states_any w2 hat)
              have hle : (T.ends.length : Int) ≤ (l.length : Int) + 1 := by omega
              have HX2 := Lib.hid hx2
              clear h4 HCM hb2 hx2
              go_wp2_with fail
              refine hS.out.mono ?_
              rintro e w3 ⟨rfl, rfl⟩
              go_wp2_with fail
              refine (HA.out _ HX2.out).mono ?_
              rintro e w4 ⟨rfl, hb4⟩
              go_wp2_with fail
              go_ret
              exact ⟨rfl, HX2.out.trans (hb4.mono HX2.out.size)⟩
            · exfalso
              have := count_plain (freeG slash) (gts fold slash l) HNS.out ls hl1 hl3
              rw [gts_len] at this
              omega
          · have hnI : (0 : Int) < (n : Int) := by omega
            by_cases hl10 : 10 < l.length
            · have hlI2 : (10 : Int) < (l.length : Int) := by omega
              go_wp2_with fail
              refine (HA.out _ HXX.out).mono ?_
              rintro e w4 ⟨rfl, hb4⟩
              go_wp2_with fail
              go_ret
              exact ⟨rfl, HXX.out.trans (hb4.mono HXX.out.size)⟩
            · have hlI2 : ¬ (10 : Int) < (l.length : Int) := by omega
              obtain ⟨P, hP⟩ : ∃ P : Nat, P = 2 ^ (l.length + 1) := ⟨_, rfl⟩
              have hP2 : P ≤ 2 ^ 11 := by rw [hP]; exact Nat.pow_le_pow_right (by decide) (by omega)
              have hP1 : 1 ≤ P := by rw [hP]; exact Nat.one_le_two_pow
              have hpow : wrap64 ((2 : Int) ^ (l.length + 1)) = (P : Int) := by
                have e : (2 : Int) ^ (l.length + 1) = (P : Int) := by rw [hP]; push_cast; rfl
                rw [e]
                exact IntWalk.wrap64_in (P : Int) ⟨by omega, by omega⟩
              have HPE := Lib.hid hP
              have HCM := Lib.hid (compile_any l fold slash (P : Int) (.slice ta l.length tc) HLL.out (by omega) (by omega) wr HRR.out)
              clear hP
              go_wp2_with fail
              refine HCM.out.mono ?_
              rintro e w2 ⟨hb2, h2⟩
              have hx2 := HXX.out.trans (hb2.mono HXX.out.size)
              rcases h2 with ⟨gt, T, rfl, hok, hat⟩ | ⟨rfl, ls, hl1, hl2, hl3⟩
              · have h4 := hok.pos
                have hS := Lib.hid (states_any w2 hat)
                have hle : (T.ends.length : Int) ≤ (P : Int) := by omega
                have HX2 := Lib.hid hx2
                clear h4 HCM hb2 hx2 hpow
                go_wp2_with fail
                refine hS.out.mono ?_
                rintro e w3 ⟨rfl, rfl⟩
                go_wp2_with fail
                refine (HA.out _ HX2.out).mono ?_
                rintro e w4 ⟨rfl, hb4⟩
                go_wp2_with fail
                go_ret
                exact ⟨rfl, HX2.out.trans (hb4.mono HX2.out.size)⟩
              · exfalso
                have := count_stars (freeG slash) (gts fold slash l) ls hl1 hl3
                rw [gts_len, ← HPE.out] at this
                omega
    · have heI : ¬ (er : Int) = 0 := by omega
      have heB : ((er : Int) != 0) = true := bne_iff_ne.2 heI
      go_enter Tryd.func3, Tryd.ntmps3
      go_wp2_with fail
      refine (HP.out).mono ?_
      rintro e w1 ⟨v, rfl, hown, hb1⟩
      go_wp2_with fail
      refine (HA.out _ hb1).mono ?_
      rintro e w6 ⟨rfl, hb6⟩
      go_wp2_with fail
      go_ret
      exact ⟨rfl, hb1.trans (hb6.mono hb1.size)⟩
theorem lawCountsG (s : ByteArray) (fold slash : Bool) (w : World) (hmx : ∃ m, w.cell? ⟨2, 0, none⟩ = some (.int .i64 m)) :
    Calls Tryd.prog 3 #[.string s, .bool fold, .bool slash] w fun e w' => e = .returned (.bool true) ∧ Below w.heap.size w w' := by
  obtain ⟨m, hm⟩ := hmx
  by_cases h1 : 300 < s.size
  · exact counts_awake s fold slash m w hm h1
  · exact counts_main s.data.toList fold slash m w hm (by rw [size_len]; omega)
end Go.Proofs.YtphfcebacilbbaaDoor
