/- The law GtableTokens, walked. -/
import Derived.Test.YtphfcebacilbbaaDoorGtAll
namespace Go.Proofs.YtphfcebacilbbaaDoor
open Go.RowKit
attribute [local irreducible] wordP

set_option maxRecDepth 100000 in
set_option maxHeartbeats 2000000 in
theorem tokens_awake (s o : ByteArray) (fold slash : Bool) (m : Int) (w : World) (hm : w.cell? ⟨2, 0, none⟩ = some (.int .i64 m)) (h : 60 < s.size ∨ (s.size ≤ 60 ∧ 200 < o.size)) :
    Calls Tryd.prog 4 #[.string s, .string o, .bool fold, .bool slash] w fun e w' => e = .returned (.bool true) ∧ Below w.heap.size w w' := by
  have HW := Lib.hid (awake16 m w hm)
  rcases h with h | ⟨h1, h⟩
  all_goals
    go_enter Tryd.func4, Tryd.ntmps4
    go_wp2_with fail
    refine (HW.out).mono ?_
    rintro e w1 ⟨rfl, hb1⟩
    go_wp2_with fail
    go_ret
    exact ⟨rfl, hb1⟩
/-- what the last region of GtableTokens reads, and what is carried through it -/
def KeepT (w1 : World) (base gt gf : Nat) (T : Tab) (fold slash : Bool) (v : Value) (l : List Tk) (W : World) : Prop := TabAt W base gt T ∧ RowsV Tk.cells 6 W v l ∧ W.cell? ⟨gf, 0, none⟩ = some (.bool fold) ∧ W.cell? ⟨gf, 1, none⟩ = some (.bool slash) ∧ Below w1.heap.size w1 W
theorem KeepT.below {w1 : World} {base gt gf : Nat} {T : Tab} {fold slash : Bool} {v : Value} {l : List Tk} {W W' : World} (h : KeepT w1 base gt gf T fold slash v l W) (hb : Below W.heap.size W W') : KeepT w1 base gt gf T fold slash v l W' :=
  ⟨h.1.below hb, RowsV.below h.2.1 hb (Nat.le_refl _), cellB hb h.2.2.1, cellB hb h.2.2.2.1, h.2.2.2.2.trans (hb.mono h.2.2.2.2.size)⟩
set_option maxRecDepth 100000 in
set_option maxHeartbeats 8000000 in
theorem tokens_main (s o : List UInt8) (fold slash : Bool) (m : Int) (w : World) (hm : w.cell? ⟨2, 0, none⟩ = some (.int .i64 m)) (h1 : s.length ≤ 60) (h2 : o.length ≤ 200) :
    Calls Tryd.prog 4 #[.string (S s), .string (S o), .bool fold, .bool slash] w fun e w' => e = .returned (.bool true) ∧ Below w.heap.size w w' := by
  have hgW : 2 < w.heap.size := World.block_lt_of_cell? w ⟨2, 0, none⟩ hm
  have HP := GParse_any s (by omega) w m hm
  have HA := Lib.hid (fun W (hb : Below w.heap.size w W) => awake16 m W ((hb.cell (p := ⟨2, 0, none⟩) hgW).trans hm))
  have h1I : (s.length : Int) ≤ 60 := by omega
  have h2I : (o.length : Int) ≤ 200 := by omega
  cases hR : parseG s (s.length + 1) 0 [] with
  | none =>
    rw [hR] at HP
    have HP := Lib.hid HP
    clear hR
    go_enter Tryd.func4, Tryd.ntmps4
    go_wp2_with fail
    refine (HP.out).mono ?_
    rintro e w1 h
    exact h.elim
  | some r =>
    obtain ⟨l, a, er⟩ := r
    have hll := parseG_len s _ _ _ l a er (by simp) hR
    rw [hR] at HP
    have HP := Lib.hid HP
    clear hR
    by_cases he : er = 0
    · subst he
      have HLL := Lib.hid hll
      have HO := Lib.hid h2
      clear hll
      go_enter Tryd.func4, Tryd.ntmps4
      go_wp2_with fail
      refine (HP.out).mono ?_
      rintro e w1 ⟨v, rfl, hown, hb1⟩
      have hr1 := hown.rows Tk.cells_len
      have HB1 := Lib.hid (hb1.alloc hb1.size (.cells #[.bool fold, .bool slash] 36))
      have HF : Hid (AtB (w1.alloc (.cells #[.bool fold, .bool slash] 36)) w1.heap.size 36 [.bool fold, .bool slash]) := Lib.hid (AtB.new w1 _ [.bool fold, .bool slash])
      have HR1 := Lib.hid (RowsV.below hr1 ((Below.refl _ _).alloc (Nat.le_refl w1.heap.size) (.cells #[.bool fold, .bool slash] 36)) (Nat.le_refl _))
      clear hown hr1 HP hb1
      go_upto_region 7 with (fail)
      generalize w1.alloc (.cells #[.bool fold, .bool slash] 36) = W1 at *
      generalize w1.heap.size = gf at *
      have HCM := Lib.hid (compile_any l fold slash 4096 v HLL.out (by decide) (by decide) W1 HR1.out)
      have f0 : W1.cell? ⟨gf, 0, none⟩ = some (.bool fold) := HF.out.cell 0
      have f1 : W1.cell? ⟨gf, 1, none⟩ = some (.bool slash) := HF.out.cell 1
      go_wp2_with fail
      refine HCM.out.mono ?_
      rintro e w2 ⟨hb2, h3⟩
      have HX2 := Lib.hid (HB1.out.trans (hb2.mono HB1.out.size))
      rcases h3 with ⟨gt, T, rfl, hok, hat⟩ | ⟨rfl, _⟩
      · have HK := Lib.hid (show KeepT w2 W1.heap.size gt gf T fold slash v l w2.drew from ⟨hat.below (Below.refl _ _).drew, RowsV.below HR1.out hb2.drew (Nat.le_refl _), cellB hb2.drew f0, cellB hb2.drew f1, (Below.refl _ _).drew⟩)
        have HM := Lib.hid (fun W (h : KeepT w2 W1.heap.size gt gf T fold slash v l W) => tmatch_any hok (by decide) o (by have := HO.out; omega) W h.1)
        have HG := Lib.hid (fun W (h : KeepT w2 W1.heap.size gt gf T fold slash v l W) => Match_any l o fold slash v W h.2.1 (by have := HLL.out; omega) (by have := HO.out; omega))
        have HAK := Lib.hid (fun W (h : KeepT w2 W1.heap.size gt gf T fold slash v l W) => HA.out W (HX2.out.trans (h.2.2.2.2.mono HX2.out.size)))
        clear HCM hb2 f0 f1 HF HR1
        unfold gts at HM
        generalize matchG (freeG slash) (l.map (Tk.gt fold slash)) o = b at *
        have hself : (b == b) = true := by simp
        go_upto_region 10 with (fail)
        have x0 := HK.out
        go_region_held3 (fun W => W.cell? ⟨gf, 0, none⟩ = some (.bool fold) ∧ W.cell? ⟨gf, 1, none⟩ = some (.bool slash) ∧ KeepT w2 W1.heap.size gt gf T fold slash v l W) (exact ⟨x0.2.2.1, x0.2.2.2.1, x0⟩) (first
          | (go_at_call 11; with_reducible refine (HM.out _ x0).mono ?_; rintro e w3 ⟨rfl, hb3⟩; have x0 := x0.below hb3)
          | (go_at_call 12; with_reducible refine (HG.out _ x0).mono ?_; rintro e w3 ⟨rfl, hb3⟩; have x0 := x0.below hb3)
          | (go_at_call 7; with_reducible refine (HAK.out _ x0).mono ?_; rintro e w3 ⟨rfl, hb3⟩; have x0 := x0.below hb3))
        go_wp2_with fail
        go_ret
        exact ⟨rfl, HX2.out.trans (x0.2.2.2.2.mono HX2.out.size)⟩
      · have HAW := Lib.hid (HA.out _ HX2.out)
        clear HCM hb2 f0 f1 HF HR1
        go_wp2_with fail
        refine HAW.out.mono ?_
        rintro e w4 ⟨rfl, hb4⟩
        go_wp2_with fail
        go_ret
        exact ⟨rfl, HX2.out.trans (hb4.mono HX2.out.size)⟩
    · have heI : ¬ (er : Int) = 0 := by omega
      have heB : ((er : Int) != 0) = true := bne_iff_ne.2 heI
      go_enter Tryd.func4, Tryd.ntmps4
      go_wp2_with fail
      refine (HP.out).mono ?_
      rintro e w1 ⟨v, rfl, hown, hb1⟩
      go_wp2_with fail
      refine (HA.out _ hb1).mono ?_
      rintro e w6 ⟨rfl, hb6⟩
      go_wp2_with fail
      go_ret
      exact ⟨rfl, hb1.trans (hb6.mono hb1.size)⟩
theorem lawTokensG (s o : ByteArray) (fold slash : Bool) (w : World) (hmx : ∃ m, w.cell? ⟨2, 0, none⟩ = some (.int .i64 m)) :
    Calls Tryd.prog 4 #[.string s, .string o, .bool fold, .bool slash] w fun e w' => e = .returned (.bool true) ∧ Below w.heap.size w w' := by
  obtain ⟨m, hm⟩ := hmx
  by_cases h1 : 60 < s.size
  · exact tokens_awake s o fold slash m w hm (.inl h1)
  by_cases h2 : 200 < o.size
  · exact tokens_awake s o fold slash m w hm (.inr ⟨by omega, h2⟩)
  · exact tokens_main s.data.toList o.data.toList fold slash m w hm (by rw [size_len]; omega) (by rw [size_len]; omega)
end Go.Proofs.YtphfcebacilbbaaDoor
