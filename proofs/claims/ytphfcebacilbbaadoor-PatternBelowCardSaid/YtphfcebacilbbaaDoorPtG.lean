/- The law PatternBelow, walked. -/
import Derived.Test.YtphfcebacilbbaaDoorPtAll
import Derived.Test.YtphfcebacilbbaaDoorCat
namespace Go.Proofs.YtphfcebacilbbaaDoor
open Go.RowKit
attribute [local irreducible] wordP

set_option maxRecDepth 100000 in
set_option maxHeartbeats 2000000 in
theorem below_awake (t n b : List UInt8) (anch fold slash : Bool) (m : Int) (w : World) (hm : w.cell? ⟨2, 0, none⟩ = some (.int .i64 m)) (h : 50 < t.length ∨ (t.length ≤ 50 ∧ 60 < n.length) ∨ (t.length ≤ 50 ∧ n.length ≤ 60 ∧ 60 < b.length)) :
    Calls Tryd.prog 5 #[.agg #[.string (S t), .bool anch, .bool fold, .bool slash], .string (S n), .string (S b)] w fun e w' => e = .returned (.bool true) ∧ Below w.heap.size w w' := by
  have hb0 := (Below.refl w.heap.size w).alloc (Nat.le_refl _) (.cells #[.string (S t), .bool anch, .bool fold, .bool slash] 43)
  have HB0 := Lib.hid hb0
  have HW := Lib.hid (awake17 m (w.alloc (.cells #[.string (S t), .bool anch, .bool fold, .bool slash] 43)) (cellB hb0 hm))
  clear hb0
  rcases h with h | ⟨h1, h⟩ | ⟨h1, h2, h⟩
  all_goals
    go_enter Tryd.func5, Tryd.ntmps5
    go_wp2_with fail
    refine (HW.out).mono ?_
    rintro e w1 ⟨rfl, hb1⟩
    go_wp2_with fail
    go_ret
    exact ⟨rfl, HB0.out.trans (hb1.mono HB0.out.size)⟩
/-- what New tells, as its three results -/
def NewK (text : List UInt8) (anch fold slash : Bool) (most : Int) (l : List Tk) (a er : Nat) (base : Nat) (p : Value) (a' er' : Nat) (w' : World) : Prop :=
  (er ≠ 0 ∧ er' = er ∧ a' = a ∧ p = .pointer none) ∨
  (er = 0 ∧ er' = 0 ∧ a' = 0 ∧ ∃ gp gt T, p = .pointer (some ⟨gp, 0, none⟩) ∧ TabOK fold slash l most T ∧ PatAt w' base gp text anch fold slash gt T) ∨
  (er = 0 ∧ er' = 7 ∧ a' = 0 ∧ p = .pointer none ∧ PFull (freeG slash) (gts fold slash l) most)
section
variable {text : List UInt8} {anch fold slash : Bool} {most : Int} {l : List Tk} {a er base : Nat} {e : Ending} {w w' : World} {p : Value} {a' er' : Nat}
theorem NewR.any (h : NewR text anch fold slash most l a er base e w') : ∃ p a' er', e = .returned (.tuple #[p, .int .i64 (a' : Nat), .int .i64 (er' : Nat)]) ∧ NewK text anch fold slash most l a er base p a' er' w' := by
  rcases h with ⟨h0, rfl⟩ | ⟨h0, gp, gt, T, rfl, h1, h2⟩ | ⟨h0, rfl, h1⟩
  · exact ⟨_, a, er, rfl, .inl ⟨h0, rfl, rfl, rfl⟩⟩
  · exact ⟨_, 0, 0, rfl, .inr (.inl ⟨h0, rfl, rfl, gp, gt, T, rfl, h1, h2⟩)⟩
  · exact ⟨_, 0, 7, rfl, .inr (.inr ⟨h0, rfl, rfl, rfl, h1⟩)⟩
theorem NewK.below (h : NewK text anch fold slash most l a er base p a' er' w) (hb : Below w.heap.size w w') : NewK text anch fold slash most l a er base p a' er' w' := by
  rcases h with h | ⟨h0, h1, h2, gp, gt, T, h3, h4, h5⟩ | h
  · exact .inl h
  · exact .inr (.inl ⟨h0, h1, h2, gp, gt, T, h3, h4, h5.below hb⟩)
  · exact .inr (.inr h)
theorem PatAt.setAt {gp gt g i : Nat} {T : Tab} {t : TypeId} {x : Value} {D : List Value} (h : PatAt w base gp text anch fold slash gt T) (hA : AtB w g t D) (h1 : t ≠ 82) (h2 : t ≠ 67) (h3 : t ≠ 21) (h4 : t ≠ 4) : PatAt (w.setCell ⟨g, i, none⟩ x) base gp text anch fold slash gt T :=
  ⟨h.p.setOther g i x (hA.apart h.p h1), h.t.tb.setOther g i x (hA.apart h.t.tb h2), OwnV.setAt (fun e => h3 e.symm) h.t.on hA, OwnV.setAt (fun e => h4 e.symm) h.t.oe hA⟩
theorem NewK.set {g i : Nat} {x : Value} {D : List Value} (h : NewK text anch fold slash most l a er base p a' er' w) (hA : AtB w g 43 D) : NewK text anch fold slash most l a er base p a' er' (w.setCell ⟨g, i, none⟩ x) := by
  rcases h with h | ⟨h0, h1, h2, gp, gt, T, h3, h4, h5⟩ | h
  · exact .inl h
  · exact .inr (.inl ⟨h0, h1, h2, gp, gt, T, h3, h4, h5.setAt hA (by decide) (by decide) (by decide) (by decide)⟩)
  · exact .inr (.inr h)
/-- two rules that differ only in Anchored -/
theorem new_two {anch2 : Bool} {a2 er2 base2 : Nat} {p2 : Value} (h : NewK text anch fold slash most l a er base p a' er' w) (h2 : NewK text anch2 fold slash most l a er base2 p2 a2 er2 w) :
    (er' = er2 ∧ er' ≠ 0) ∨ (er' = 0 ∧ er2 = 0 ∧ ∃ gp gt T gp2 gt2 T2, p = .pointer (some ⟨gp, 0, none⟩) ∧ p2 = .pointer (some ⟨gp2, 0, none⟩) ∧ TabOK fold slash l most T ∧ TabOK fold slash l most T2 ∧ PatAt w base gp text anch fold slash gt T ∧ PatAt w base2 gp2 text anch2 fold slash gt2 T2) := by
  rcases h with ⟨k0, k1, _, _⟩ | ⟨k0, k1, _, gp, gt, T, k3, k4, k5⟩ | ⟨k0, k1, _, _, k5⟩ <;> rcases h2 with ⟨j0, j1, _, _⟩ | ⟨j0, j1, _, gp2, gt2, T2, j3, j4, j5⟩ | ⟨j0, j1, _, _, j5⟩
  · exact .inl ⟨k1.trans j1.symm, by omega⟩
  · exact absurd j0 k0
  · exact absurd j0 k0
  · exact absurd k0 j0
  · exact .inr ⟨k1, j1, gp, gt, T, gp2, gt2, T2, k3, j3, k4, j4, k5, j5⟩
  · exact absurd j5 k4.not_full
  · exact absurd k0 j0
  · exact absurd k5 j4.not_full
  · exact .inl ⟨k1.trans j1.symm, by omega⟩
end
/-- three kinds of names: none, one that ends in a slash, one that doesn't -/
theorem name_kinds (n : List UInt8) : n = [] ∨ (∃ h : 0 < n.length, n[n.length - 1]'(by omega) = 47) ∨ (∃ h : 0 < n.length, n[n.length - 1]'(by omega) ≠ 47) := by
  rcases Nat.eq_zero_or_pos n.length with h | h
  · exact .inl (List.length_eq_zero_iff.1 h)
  · by_cases e : n[n.length - 1]'(by omega) = 47
    · exact .inr (.inl ⟨h, e⟩)
    · exact .inr (.inr ⟨h, e⟩)
set_option maxRecDepth 100000 in
set_option maxHeartbeats 8000000 in
theorem below_main (t n b : List UInt8) (anch fold slash : Bool) (m : Int) (w : World) (hm : w.cell? ⟨2, 0, none⟩ = some (.int .i64 m)) (ht : t.length ≤ 50) (hn : n.length ≤ 60) (hb : b.length ≤ 60) :
    Calls Tryd.prog 5 #[.agg #[.string (S t), .bool anch, .bool fold, .bool slash], .string (S n), .string (S b)] w fun e w' => e = .returned (.bool true) ∧ Below w.heap.size w w' := by
  have HA := Lib.hid (fun W (h : Below w.heap.size w W) => awake17 m W (cellB h hm))
  have hb0 := (Below.refl w.heap.size w).alloc (Nat.le_refl _) (.cells #[.string (S t), .bool anch, .bool fold, .bool slash] 43)
  have HF0 : Hid (AtB (w.alloc (.cells #[.string (S t), .bool anch, .bool fold, .bool slash] 43)) w.heap.size 43 [.string (S t), .bool anch, .bool fold, .bool slash]) := Lib.hid (AtB.new w _ [.string (S t), .bool anch, .bool fold, .bool slash])
  have htI : (t.length : Int) ≤ 50 := by omega
  have hnI : (n.length : Int) ≤ 60 := by omega
  have hbI : (b.length : Int) ≤ 60 := by omega
  have HB0 := Lib.hid hb0
  clear hb0
  cases hR : parseG t (t.length + 1) 0 [] with
  | none =>
    exfalso
    have h := GParse_any t (by omega) w m hm
    rw [hR] at h
    obtain ⟨e, w', fr, h, _⟩ := h []
    exact h
  | some r =>
    obtain ⟨l, a, er⟩ := r
    have HN := Lib.hid (fun W (h : Below w.heap.size w W) an => new_any t an fold slash 4096 l a er hR (by omega) (by decide) (by decide) m W (cellB h hm))
    clear hR
    go_enter Tryd.func5, Tryd.ntmps5
    go_upto_region 1 with (fail)
    generalize w.alloc (.cells #[.string (S t), .bool anch, .bool fold, .bool slash] 43) = W0 at *
    have c0 : W0.cell? ⟨w.heap.size, 0, none⟩ = some (.string (S t)) := HF0.out.cell 0
    have c1 : W0.cell? ⟨w.heap.size, 1, none⟩ = some (.bool anch) := HF0.out.cell 1
    have f1 := HF0.out.fz 1
    go_upto_region 4 with (fail)
    have HF1 := Lib.hid (HF0.out.set 1 (.bool true))
    have HB1 := Lib.hid (below_set (i := 1) (v := .bool true) HB0.out (Nat.le_refl _))
    clear HF0 HB0 c0 c1 f1
    generalize W0.setCell ⟨w.heap.size, 1, none⟩ (.bool true) = W1 at *
    have c0 : W1.cell? ⟨w.heap.size, 0, none⟩ = some (.string (S t)) := HF1.out.cell 0
    have c1 : W1.cell? ⟨w.heap.size, 1, none⟩ = some (.bool true) := HF1.out.cell 1
    have c2 : W1.cell? ⟨w.heap.size, 2, none⟩ = some (.bool fold) := HF1.out.cell 2
    have c3 : W1.cell? ⟨w.heap.size, 3, none⟩ = some (.bool slash) := HF1.out.cell 3
    go_wp2_with fail
    refine (HN.out _ HB1.out true).mono ?_
    rintro e w2 ⟨hb2, h2⟩
    have HF2 := Lib.hid (HF1.out.below hb2)
    have HB2 := Lib.hid (HB1.out.trans (hb2.mono HB1.out.size))
    clear HF1 HB1 c0 c1 c2 c3
    clear hb2
    obtain ⟨p1, a1, er1, he1, hk1⟩ := h2.any
    subst he1
    have HK1 := Lib.hid hk1
    clear h2 hk1
    have c0 : w2.cell? ⟨w.heap.size, 0, none⟩ = some (.string (S t)) := HF2.out.cell 0
    have c1 : w2.cell? ⟨w.heap.size, 1, none⟩ = some (.bool true) := HF2.out.cell 1
    have f1 := HF2.out.fz 1
    go_upto_region 6 with (fail)
    have HF3 := Lib.hid (HF2.out.set 1 (.bool false))
    have HB3 := Lib.hid (below_set (i := 1) (v := .bool false) HB2.out (Nat.le_refl _))
    have HK3 : Hid (NewK t true fold slash 4096 l a er W1.heap.size p1 a1 er1 (w2.setCell ⟨w.heap.size, 1, none⟩ (.bool false))) := Lib.hid (HK1.out.set HF2.out)
    clear HF2 HB2 HK1 c0 c1 f1
    generalize w2.setCell ⟨w.heap.size, 1, none⟩ (.bool false) = W3 at *
    have c0 : W3.cell? ⟨w.heap.size, 0, none⟩ = some (.string (S t)) := HF3.out.cell 0
    have c1 : W3.cell? ⟨w.heap.size, 1, none⟩ = some (.bool false) := HF3.out.cell 1
    have c2 : W3.cell? ⟨w.heap.size, 2, none⟩ = some (.bool fold) := HF3.out.cell 2
    have c3 : W3.cell? ⟨w.heap.size, 3, none⟩ = some (.bool slash) := HF3.out.cell 3
    go_wp2_with fail
    refine (HN.out _ HB3.out false).mono ?_
    rintro e w4 ⟨hb4, h4⟩
    have HB4 := Lib.hid (HB3.out.trans (hb4.mono HB3.out.size))
    obtain ⟨p2, a2, er2, he2, hk2⟩ := h4.any
    subst he2
    have HK4 := Lib.hid (HK3.out.below hb4)
    have HL2 := Lib.hid hk2
    clear HF3 HB3 HK3 c0 c1 c2 c3 hb4 h4 hk2 HN
    rcases new_two HK4.out HL2.out with ⟨he, h0⟩ | ⟨rfl, rfl, gp, gt, T, gp2, gt2, T2, rfl, rfl, hok, hok2, hat, hat2⟩
    · subst he
      have h0I : ¬ (er1 : Int) = 0 := by omega
      have h0B : ((er1 : Int) != 0) = true := bne_iff_ne.2 h0I
      have h0E : ((er1 : Int) == (er1 : Int)) = true := by simp
      have HAW := Lib.hid (HA.out _ HB4.out)
      clear HA HK4 HL2
      go_wp2_with fail
      refine HAW.out.mono ?_
      rintro e w5 ⟨rfl, hb5⟩
      go_wp2_with fail
      go_ret
      exact ⟨rfl, HB4.out.trans (hb5.mono HB4.out.size)⟩
    · have HP := Lib.hid (fun W (h : Below w4.heap.size w4 W) s (hs : s.length ≤ 100000) => pmatch_any hok (by decide) s hs W (hat.below h))
      have HQ := Lib.hid (fun W (h : Below w4.heap.size w4 W) s (hs : s.length ≤ 100000) => pmatch_any hok2 (by decide) s hs W (hat2.below h))
      have HAW := Lib.hid (fun W (h : Below w4.heap.size w4 W) => HA.out W (HB4.out.trans (h.mono HB4.out.size)))
      have HE0 := Lib.hid (Below.refl w4.heap.size w4)
      clear HA HK4 HL2 hok hok2 hat hat2
      rcases name_kinds n with rfl | ⟨hpos, hlast⟩ | ⟨hpos, hlast⟩
      · have hem : ([] : List UInt8).isEmpty = true := rfl
        go_wp2_with fail
        refine (HP.out _ HE0.out ([]) (by first | omega | (simp; done))).mono ?_
        rintro e v1 ⟨⟨r1, rfl, hr1⟩, hb1⟩
        have HE1 := Lib.hid (HE0.out.trans (hb1.mono HE0.out.size))
        clear hb1
        have HR1 := Lib.hid hr1
        clear hr1
        cases r1
        · clear HR1
          go_wp2_with fail
          refine (HQ.out _ HE1.out ([]) (by first | omega | (simp; done))).mono ?_
          rintro e v5 ⟨⟨r5, rfl, hr5⟩, hb5⟩
          have HE5 := Lib.hid (HE1.out.trans (hb5.mono HE1.out.size))
          clear hb5
          have HR5 := Lib.hid hr5
          clear hr5
          cases r5
          · clear HR5
            go_wp2_with fail
            refine (HAW.out _ HE5.out).mono ?_
            rintro e v9 ⟨rfl, hb9⟩
            have HE9 := Lib.hid (HE5.out.trans (hb9.mono HE5.out.size))
            go_wp2_with fail
            go_ret
            exact ⟨rfl, HB4.out.trans (HE9.out.mono HB4.out.size)⟩
          · clear HR5
            go_wp2_with fail
            refine (HAW.out _ HE5.out).mono ?_
            rintro e v9 ⟨rfl, hb9⟩
            have HE9 := Lib.hid (HE5.out.trans (hb9.mono HE5.out.size))
            go_wp2_with fail
            go_ret
            exact ⟨rfl, HB4.out.trans (HE9.out.mono HB4.out.size)⟩
        · go_wp2_with fail
          refine (HQ.out _ HE1.out ([]) (by first | omega | (simp; done))).mono ?_
          rintro e v2 ⟨⟨r2, rfl, hr2⟩, hb2⟩
          have HE2 := Lib.hid (HE1.out.trans (hb2.mono HE1.out.size))
          clear hb2
          have e2 : r2 = true := hr2.2 (pat_any (HR1.out.1 (by trivial)))
          subst e2
          clear hr2
          clear HR1
          go_wp2_with fail
          refine (HQ.out _ HE2.out ([]) (by first | omega | (simp; done))).mono ?_
          rintro e v5 ⟨⟨r5, rfl, hr5⟩, hb5⟩
          have HE5 := Lib.hid (HE2.out.trans (hb5.mono HE2.out.size))
          clear hb5
          have HR5 := Lib.hid hr5
          clear hr5
          cases r5
          · clear HR5
            go_wp2_with fail
            refine (HAW.out _ HE5.out).mono ?_
            rintro e v9 ⟨rfl, hb9⟩
            have HE9 := Lib.hid (HE5.out.trans (hb9.mono HE5.out.size))
            go_wp2_with fail
            go_ret
            exact ⟨rfl, HB4.out.trans (HE9.out.mono HB4.out.size)⟩
          · clear HR5
            go_wp2_with fail
            refine (HAW.out _ HE5.out).mono ?_
            rintro e v9 ⟨rfl, hb9⟩
            have HE9 := Lib.hid (HE5.out.trans (hb9.mono HE5.out.size))
            go_wp2_with fail
            go_ret
            exact ⟨rfl, HB4.out.trans (HE9.out.mono HB4.out.size)⟩
      · have hem : n.isEmpty = false := ne_empty n (fun e => by subst e; exact absurd hpos (by decide))
        obtain ⟨k, hk⟩ : ∃ k, k = n.length - 1 := ⟨_, rfl⟩
        have hkS : k < (S n).size := by rw [S_size]; omega
        have hsub : (n.length : Int) - 1 = (k : Int) := by omega
        have hkI : (k : Int) < (n.length : Int) := by omega
        have hidx : (S n)[k]'hkS = 47 := by have e := S_get n k hkS; rw [e]; simp only [hk]; exact hlast
        have h47 : (((47 : UInt8).toNat : Int) != 47) = false := rfl
        clear hk hlast
        go_wp2_with fail
        refine (HP.out _ HE0.out (n) (by first | omega | (simp; done))).mono ?_
        rintro e v1 ⟨⟨r1, rfl, hr1⟩, hb1⟩
        have HE1 := Lib.hid (HE0.out.trans (hb1.mono HE0.out.size))
        clear hb1
        have HR1 := Lib.hid hr1
        clear hr1
        cases r1
        · clear HR1
          go_wp2_with fail
          refine (HQ.out _ HE1.out (n) (by first | omega | (simp; done))).mono ?_
          rintro e v5 ⟨⟨r5, rfl, hr5⟩, hb5⟩
          have HE5 := Lib.hid (HE1.out.trans (hb5.mono HE1.out.size))
          clear hb5
          have HR5 := Lib.hid hr5
          clear hr5
          cases r5
          · clear HR5
            go_wp2_with fail
            refine (HAW.out _ HE5.out).mono ?_
            rintro e v9 ⟨rfl, hb9⟩
            have HE9 := Lib.hid (HE5.out.trans (hb9.mono HE5.out.size))
            go_wp2_with fail
            go_ret
            exact ⟨rfl, HB4.out.trans (HE9.out.mono HB4.out.size)⟩
          · clear HR5
            go_wp2_with fail
            refine (HAW.out _ HE5.out).mono ?_
            rintro e v9 ⟨rfl, hb9⟩
            have HE9 := Lib.hid (HE5.out.trans (hb9.mono HE5.out.size))
            go_wp2_with fail
            go_ret
            exact ⟨rfl, HB4.out.trans (HE9.out.mono HB4.out.size)⟩
        · go_wp2_with fail
          refine (HQ.out _ HE1.out (n) (by first | omega | (simp; done))).mono ?_
          rintro e v2 ⟨⟨r2, rfl, hr2⟩, hb2⟩
          have HE2 := Lib.hid (HE1.out.trans (hb2.mono HE1.out.size))
          clear hb2
          have e2 : r2 = true := hr2.2 (pat_any (HR1.out.1 (by trivial)))
          subst e2
          clear hr2
          clear HR1
          go_wp2_with fail
          refine (HQ.out _ HE2.out (n) (by first | omega | (simp; done))).mono ?_
          rintro e v5 ⟨⟨r5, rfl, hr5⟩, hb5⟩
          have HE5 := Lib.hid (HE2.out.trans (hb5.mono HE2.out.size))
          clear hb5
          have HR5 := Lib.hid hr5
          clear hr5
          cases r5
          · clear HR5
            go_wp2_with fail
            refine (HAW.out _ HE5.out).mono ?_
            rintro e v9 ⟨rfl, hb9⟩
            have HE9 := Lib.hid (HE5.out.trans (hb9.mono HE5.out.size))
            go_wp2_with fail
            go_ret
            exact ⟨rfl, HB4.out.trans (HE9.out.mono HB4.out.size)⟩
          · clear HR5
            go_wp2_with fail
            refine (HAW.out _ HE5.out).mono ?_
            rintro e v9 ⟨rfl, hb9⟩
            have HE9 := Lib.hid (HE5.out.trans (hb9.mono HE5.out.size))
            go_wp2_with fail
            go_ret
            exact ⟨rfl, HB4.out.trans (HE9.out.mono HB4.out.size)⟩
      · have hem : n.isEmpty = false := ne_empty n (fun e => by subst e; exact absurd hpos (by decide))
        obtain ⟨k, hk⟩ : ∃ k, k = n.length - 1 := ⟨_, rfl⟩
        have hkS : k < (S n).size := by rw [S_size]; omega
        have hsub : (n.length : Int) - 1 = (k : Int) := by omega
        have hkI : (k : Int) < (n.length : Int) := by omega
        have HEN := Lib.hid (last_ends n hpos hlast)
        have HBN := Lib.hid HEN.out.bare
        obtain ⟨c, hc⟩ : ∃ c, c = n[n.length - 1]'(by omega) := ⟨_, rfl⟩
        have hidx : (S n)[k]'hkS = c := by have e := S_get n k hkS; rw [e, hc]; simp only [hk]
        have h47 : ((c.toNat : Int) != 47) = true := byte_bne c 47 47 rfl (by rw [hc]; exact hlast)
        clear hc
        obtain ⟨z1, hz1⟩ : ∃ z, z = n ++ [47] := ⟨_, rfl⟩
        obtain ⟨z2, hz2⟩ : ∃ z, z = z1 ++ b := ⟨_, rfl⟩
        obtain ⟨z3, hz3⟩ : ∃ z, z = b ++ [47] := ⟨_, rfl⟩
        obtain ⟨z4, hz4⟩ : ∃ z, z = z3 ++ n := ⟨_, rfl⟩
        have hl1 : z1.length ≤ 61 := by rw [hz1, List.length_append]; simp; omega
        have hl2 : z2.length ≤ 121 := by rw [hz2, List.length_append]; omega
        have hl3 : z3.length ≤ 61 := by rw [hz3, List.length_append]; simp; omega
        have hl4 : z4.length ≤ 121 := by rw [hz4, List.length_append]; omega
        have q1 := cat_k1 n 47 z1 hz1 (by omega)
        have q2 := cat_s z1 b z2 hz2 (by omega)
        have q3 := cat_k1 b 47 z3 hz3 (by omega)
        have q4 := cat_s z3 n z4 hz4 (by omega)
        have HZ2 : Hid (z2 = n ++ 47 :: b) := Lib.hid (by rw [hz2, hz1]; simp)
        have HZ4 : Hid (z4 = b ++ 47 :: n) := Lib.hid (by rw [hz4, hz3]; simp)
        have HL2 := Lib.hid hl2
        have HL4 := Lib.hid hl4
        clear hz1 hz2 hz3 hz4 hl1 hl2 hl3 hl4
        clear hk hlast
        go_wp2_with fail
        refine (HP.out _ HE0.out (n) (by first | omega | (simp; done))).mono ?_
        rintro e v1 ⟨⟨r1, rfl, hr1⟩, hb1⟩
        have HE1 := Lib.hid (HE0.out.trans (hb1.mono HE0.out.size))
        clear hb1
        have HR1 := Lib.hid hr1
        clear hr1
        cases r1
        · clear HR1
          go_wp2_with fail
          refine (HQ.out _ HE1.out (n) (by first | omega | (simp; done))).mono ?_
          rintro e v5 ⟨⟨r5, rfl, hr5⟩, hb5⟩
          have HE5 := Lib.hid (HE1.out.trans (hb5.mono HE1.out.size))
          clear hb5
          have HR5 := Lib.hid hr5
          clear hr5
          cases r5
          · clear HR5
            go_wp2_with fail
            refine (HAW.out _ HE5.out).mono ?_
            rintro e v9 ⟨rfl, hb9⟩
            have HE9 := Lib.hid (HE5.out.trans (hb9.mono HE5.out.size))
            go_wp2_with fail
            go_ret
            exact ⟨rfl, HB4.out.trans (HE9.out.mono HB4.out.size)⟩
          · go_wp2_with fail
            refine (HQ.out _ HE5.out (z2) (by have := HL2.out; omega)).mono ?_
            rintro e v6 ⟨⟨r6, rfl, hr6⟩, hb6⟩
            have HE6 := Lib.hid (HE5.out.trans (hb6.mono HE5.out.size))
            clear hb6
            have e6 : r6 = true := hr6.2 (by rw [HZ2.out]; exact pat_below HEN.out b (by rw [← HBN.out]; exact HR5.out.1 (by trivial)))
            subst e6
            clear hr6
            go_wp2_with fail
            refine (HQ.out _ HE6.out (z4) (by have := HL4.out; omega)).mono ?_
            rintro e v7 ⟨⟨r7, rfl, hr7⟩, hb7⟩
            have HE7 := Lib.hid (HE6.out.trans (hb7.mono HE6.out.size))
            clear hb7
            have e7 : r7 = true := hr7.2 (by rw [HZ4.out]; exact pat_above HEN.out b (by rw [← HBN.out]; exact HR5.out.1 (by trivial)))
            subst e7
            clear hr7 HR5
            go_wp2_with fail
            refine (HAW.out _ HE7.out).mono ?_
            rintro e v9 ⟨rfl, hb9⟩
            have HE9 := Lib.hid (HE7.out.trans (hb9.mono HE7.out.size))
            go_wp2_with fail
            go_ret
            exact ⟨rfl, HB4.out.trans (HE9.out.mono HB4.out.size)⟩
        · go_wp2_with fail
          refine (HQ.out _ HE1.out (n) (by first | omega | (simp; done))).mono ?_
          rintro e v2 ⟨⟨r2, rfl, hr2⟩, hb2⟩
          have HE2 := Lib.hid (HE1.out.trans (hb2.mono HE1.out.size))
          clear hb2
          have e2 : r2 = true := hr2.2 (pat_any (HR1.out.1 (by trivial)))
          subst e2
          clear hr2
          go_wp2_with fail
          refine (HP.out _ HE2.out (z2) (by have := HL2.out; omega)).mono ?_
          rintro e v3 ⟨⟨r3, rfl, hr3⟩, hb3⟩
          have HE3 := Lib.hid (HE2.out.trans (hb3.mono HE2.out.size))
          clear hb3
          have e3 : r3 = true := hr3.2 (by rw [HZ2.out]; exact pat_below HEN.out b (by rw [← HBN.out]; exact HR1.out.1 (by trivial)))
          subst e3
          clear hr3 HR1
          go_wp2_with fail
          refine (HQ.out _ HE3.out (n) (by first | omega | (simp; done))).mono ?_
          rintro e v5 ⟨⟨r5, rfl, hr5⟩, hb5⟩
          have HE5 := Lib.hid (HE3.out.trans (hb5.mono HE3.out.size))
          clear hb5
          have HR5 := Lib.hid hr5
          clear hr5
          cases r5
          · clear HR5
            go_wp2_with fail
            refine (HAW.out _ HE5.out).mono ?_
            rintro e v9 ⟨rfl, hb9⟩
            have HE9 := Lib.hid (HE5.out.trans (hb9.mono HE5.out.size))
            go_wp2_with fail
            go_ret
            exact ⟨rfl, HB4.out.trans (HE9.out.mono HB4.out.size)⟩
          · go_wp2_with fail
            refine (HQ.out _ HE5.out (z2) (by have := HL2.out; omega)).mono ?_
            rintro e v6 ⟨⟨r6, rfl, hr6⟩, hb6⟩
            have HE6 := Lib.hid (HE5.out.trans (hb6.mono HE5.out.size))
            clear hb6
            have e6 : r6 = true := hr6.2 (by rw [HZ2.out]; exact pat_below HEN.out b (by rw [← HBN.out]; exact HR5.out.1 (by trivial)))
            subst e6
            clear hr6
            go_wp2_with fail
            refine (HQ.out _ HE6.out (z4) (by have := HL4.out; omega)).mono ?_
            rintro e v7 ⟨⟨r7, rfl, hr7⟩, hb7⟩
            have HE7 := Lib.hid (HE6.out.trans (hb7.mono HE6.out.size))
            clear hb7
            have e7 : r7 = true := hr7.2 (by rw [HZ4.out]; exact pat_above HEN.out b (by rw [← HBN.out]; exact HR5.out.1 (by trivial)))
            subst e7
            clear hr7 HR5
            go_wp2_with fail
            refine (HAW.out _ HE7.out).mono ?_
            rintro e v9 ⟨rfl, hb9⟩
            have HE9 := Lib.hid (HE7.out.trans (hb9.mono HE7.out.size))
            go_wp2_with fail
            go_ret
            exact ⟨rfl, HB4.out.trans (HE9.out.mono HB4.out.size)⟩
theorem lawBelowP (t : ByteArray) (anch fold slash : Bool) (n b : ByteArray) (w : World) (hmx : ∃ m, w.cell? ⟨2, 0, none⟩ = some (.int .i64 m)) :
    Calls Tryd.prog 5 #[.agg #[.string t, .bool anch, .bool fold, .bool slash], .string n, .string b] w fun e w' => e = .returned (.bool true) ∧ Below w.heap.size w w' := by
  obtain ⟨m, hm⟩ := hmx
  have e1 := size_len t
  have e2 := size_len n
  have e3 := size_len b
  by_cases h1 : 50 < t.data.toList.length
  · exact below_awake t.data.toList n.data.toList b.data.toList anch fold slash m w hm (.inl h1)
  by_cases h2 : 60 < n.data.toList.length
  · exact below_awake t.data.toList n.data.toList b.data.toList anch fold slash m w hm (.inr (.inl ⟨by omega, h2⟩))
  by_cases h3 : 60 < b.data.toList.length
  · exact below_awake t.data.toList n.data.toList b.data.toList anch fold slash m w hm (.inr (.inr ⟨by omega, by omega, h3⟩))
  · exact below_main t.data.toList n.data.toList b.data.toList anch fold slash m w hm (by omega) (by omega) (by omega)
end Go.Proofs.YtphfcebacilbbaaDoor
