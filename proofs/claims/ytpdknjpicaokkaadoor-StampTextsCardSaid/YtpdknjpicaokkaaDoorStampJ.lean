/- stamp.Add at what may be. -/
import Derived.Test.YtpdknjpicaokkaaDoorStampI
namespace Go.Proofs.YtpdknjpicaokkaaDoor
open Go.RowKit

theorem sRight_agg (s n : Int) (w : World) :
    Calls Tryd.prog 50 #[.agg #[.int .i64 s, .int .i64 n]] w fun e w' => e = .returned (.bool (rightB s n)) ∧ Below w.heap.size w w' := sRight_any s n w
def AdV (s n : Int) : Value := if rightB s n = true then StV s n 0 else StV 0 0 6
theorem quo_parts (k : Int) (hk : -1152921504606846976 ≤ k ∧ k ≤ 1152921504606846976) : ∃ q r : Int, k = 1000000000 * q + r ∧ -1000000000 < r ∧ r < 1000000000 ∧ -1152921505 ≤ q ∧ q ≤ 1152921505 ∧ k.tmod 1000000000 = r ∧ k.tdiv 1000000000 = q ∧ (0 ≤ k → k / 1000000000 = q ∧ k % 1000000000 = r) := by
  obtain ⟨h1, h2, h3⟩ := tdiv_parts k
  refine ⟨k.tdiv 1000000000, k.tmod 1000000000, h1, h2, h3, by omega, by omega, rfl, rfl, fun h => ⟨?_, ?_⟩⟩
  · exact (Int.tdiv_eq_ediv_of_nonneg h).symm
  · exact (Int.tmod_eq_emod_of_nonneg h).symm
set_option maxRecDepth 100000 in
set_option maxHeartbeats 16000000 in
theorem add_yes (s n k : Int) (h : goodB s n k = true) (w : World) :
    Calls Tryd.prog 55 #[.agg #[.int .i64 s, .int .i64 n], .int .i64 k] w fun e w' => e = .returned (AdV (addS s n k) (addN n k)) ∧ Below w.heap.size w w' := by
  unfold goodB at h
  rw [Bool.and_eq_true, decide_eq_true_iff] at h
  obtain ⟨hr, hk1, hk2⟩ := h
  obtain ⟨g1, g2, g3, g4⟩ := (right_iff s n).1 hr
  have H := Lib.hid hr
  obtain ⟨q, r, hkk, hr1, hr2, hq1, hq2, t1, t2, t3⟩ := quo_parts k ⟨hk1, hk2⟩
  have hcase : (n + r < 0 ∧ n + r < 0 ∧ addS s n k = s + q - 1 ∧ addN n k = n + r + 1000000000) ∨ (0 ≤ n + r ∧ n + r < 1000000000 ∧ addS s n k = s + q ∧ addN n k = n + r) ∨ (1000000000 ≤ n + r ∧ 0 ≤ n + r ∧ addS s n k = s + q + 1 ∧ addN n k = n + r - 1000000000) := by
    rcases add_parts s n k q r hkk hr1 hr2 g3 g4 with ⟨h1, h2, h3⟩ | ⟨h1, h2, h3, h4⟩ | ⟨h1, h2, h3⟩
    · exact .inl ⟨h1, h1, h2, h3⟩
    · exact .inr (.inl ⟨h1, h2, h3, h4⟩)
    · exact .inr (.inr ⟨h1, by omega, h2, h3⟩)
  have hsign : (0 ≤ k ∧ k / 1000000000 = q ∧ k % 1000000000 = r) ∨ (k < 0 ∧ k.tdiv 1000000000 = q ∧ k.tmod 1000000000 = r) := by
    by_cases h0 : 0 ≤ k
    · exact .inl ⟨h0, t3 h0⟩
    · exact .inr ⟨by omega, t2, t1⟩
  clear hr t1 t2 t3 hkk
  have HC := Lib.hid (show ∀ S N : Int, addS s n k = S → addN n k = N → (rightB S N = true ∧ AdV (addS s n k) (addN n k) = StV S N 0) ∨ (rightB S N = false ∧ AdV (addS s n k) (addN n k) = StV 0 0 6) from fun S N e1 e2 => by
    rw [e1, e2]
    unfold AdV
    cases h : rightB S N with
    | true => exact .inl ⟨rfl, by rw [if_pos rfl]⟩
    | false => exact .inr ⟨rfl, by rw [if_neg (by decide)]⟩)
  rcases hsign with hs | hs <;> rcases hcase with hc | hc | hc
  · exfalso
    omega
  all_goals
    obtain ⟨k0, e1, e2⟩ := hs
    obtain ⟨j1, j2, a1, a2⟩ := hc
    have hres := HC.out _ _ a1 a2
    clear a1 a2 HC
    rcases hres with ⟨rr, rv⟩ | ⟨rr, rv⟩
    all_goals
      have RR := Lib.hid rr
      have RV := Lib.hid rv
      clear rr rv
      go_enter Tryd.func55, Tryd.ntmps55
      go_wp2_with fail
      refine (sRight_agg s n _).mono ?_
      rintro e w1 ⟨rfl, hb1⟩
      rw [H.out]
      have hx1 : Below w.heap.size w w1 := (((Below.refl _ _).alloc (Nat.le_refl _) _).alloc (by simp) _).trans (hb1.mono (by simp; omega))
      have hT1 := ((StAt.new w s n).below ((Below.refl _ _).alloc (Nat.le_refl _) (.cells #[.int .i64 0, .int .i64 0] 67))).below hb1
      have hR1 := (StAt.new (w.alloc (.cells #[.int .i64 s, .int .i64 n] 67)) 0 0).below hb1
      rw [show (w.alloc (.cells #[.int .i64 s, .int .i64 n] 67)).heap.size = w.heap.size + 1 by simp] at hR1
      have HX1 := Lib.hid hx1
      have d0 := hR1.c0
      have d1 := hR1.c1
      have d2 := hT1.c0
      have d3 := hT1.c1
      have hz1 := hR1.lt
      have hz0 := hT1.lt
      clear hx1 hb1
      go_wp2_with fail
      refine (sRight_agg _ _ _).mono ?_
      rintro e w2 ⟨rfl, hb2⟩
      rw [RR.out]
      have hS2 := (StAt.new w1 _ _).below hb2
      have hR2 := (hR1.below ((Below.refl _ _).alloc (Nat.le_refl _) _)).below hb2
      have hx2 : Below w.heap.size w w2 := (HX1.out.alloc HX1.out.size _).trans (hb2.mono (by simp; omega))
      have HX2 := Lib.hid hx2
      have b0 := hR2.c0
      have b1 := hR2.c1
      have b2 := hR2.f 0
      have b3 := hR2.f 1
      have b4 := hS2.c0
      have b5 := hS2.c1
      have F0 := Lib.hid (fun u => (set_two b0 b1 u u).1)
      have F1 := Lib.hid (fun u v => (set_two b0 b1 u v).2)
      clear hx2 hb2 d0 d1 d2 d3
      go_wp2_with fail
      rw [RV.out]
      refine bodyPost_ret (v := _) (by simp [results, Tryd.results55, go_sem, Stp, StV, F0.out, F1.out]) rfl ⟨rfl, ?_⟩
      exact (HX2.out.setCell (by simp) _).setCell (by simp) _
end Go.Proofs.YtpdknjpicaokkaaDoor
