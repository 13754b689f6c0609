/- strip.Under, strip.Clean. -/
import Derived.Test.YtpdknjpicaokkaaDoorStripE
namespace Go.Proofs.YtpdknjpicaokkaaDoor
open Go.RowKit

theorem S_inj {a b : List UInt8} (h : S a = S b) : a = b := by
  have := congrArg (fun s : ByteArray => s.data.toList) h
  simpa [S] using this
theorem map_S_inj : ∀ {a b : List (List UInt8)}, a.map S = b.map S → a = b
  | [], [], _ => rfl
  | [], _ :: _, h => by cases h
  | _ :: _, [], h => by cases h
  | x :: a, y :: b, h => by
    rw [List.map_cons, List.map_cons] at h
    injection h with h1 h2
    rw [S_inj h1, map_S_inj h2]
set_option maxRecDepth 100000 in
/-- slices.Equal of a slice's first ones and another slice -/
theorem equal_any (a b : List (List UInt8)) (v1 v2 : Value) (hl : b.length ≤ a.length) (hb : a.length ≤ 1000000000) (w : World) (av : Option Addr) (c c' : Nat) (h1 : v1 = .slice av b.length c') (hv : StrsV w (.slice av a.length c) a) (hu : StrsV w v2 b) :
    Calls Tryd.prog 67 #[v1, v2] w fun e w' => e = .returned (.bool (decide (a.take b.length = b))) ∧ ∃ q, w' = w.drewN q := by
  subst h1
  obtain ⟨a1, c1, e1, hv⟩ := hv
  obtain ⟨a2, c2, rfl, hu⟩ := hu
  cases e1
  by_cases h0 : b = []
  · subst h0
    refine (Go.Proofs.Tryd.slices_Equal_string_empty av a2 c' 0 c2 w (by decide)).mono ?_
    rintro e w' ⟨rfl, rfl⟩
    exact ⟨rfl, 0, rfl⟩
  · have hp : 0 < b.length := List.length_pos_iff.2 h0
    obtain ⟨g, off, rfl, _, g2⟩ := hv (by omega)
    obtain ⟨g', off', rfl, _, g4⟩ := hu hp
    have h := Go.Proofs.Tryd.slices_Equal_string g off b.length c' g' off' b.length c2 (a.map S) (b.map S) w (by rw [List.length_map]; exact hl) (by rw [List.length_map]; exact Nat.le_refl _) (by omega) (by omega)
      (fun j hj => by
        rw [List.length_map] at hj
        rw [g2 j hj, List.getD_eq_getElem?_getD, List.getElem?_map, List.getElem?_eq_getElem hj]; rfl)
      (fun j hj => by
        rw [List.length_map] at hj
        rw [g4 j hj, List.getD_eq_getElem?_getD, List.getElem?_map, List.getElem?_eq_getElem hj]; rfl)
    have e : decide ((a.map S).take b.length = (b.map S).take b.length) = decide (a.take b.length = b) := by
      rw [decide_eq_decide, ← List.map_take, ← List.map_take, List.take_length]
      exact ⟨map_S_inj, fun h => by rw [h]⟩
    rw [e] at h
    exact h
set_option maxRecDepth 100000 in
theorem Under_any (s t : List UInt8) (hs : s.length ≤ 1000000) (ht : t.length ≤ 1000000) (w : World) :
    Calls Tryd.prog 25 #[.string (S s), .string (S t)] w fun e w' => e = .returned (.bool (underB (partsL s) (partsL t))) ∧ Below w.heap.size w w' := by
  have hla := parts_len s
  have hlb := parts_len t
  have h1 := fun w => Parts_any s hs w
  have h2 := fun w => Parts_any t ht w
  generalize partsL s = a at *
  generalize partsL t = b at *
  have H1 := Lib.hid h1
  have H2 := Lib.hid h2
  clear h1 h2
  go_enter Tryd.func25, Tryd.ntmps25
  go_wp2_with fail
  refine (H1.out _).mono ?_
  rintro e w1 ⟨⟨v, rfl, hO1⟩, hb1⟩
  go_wp2_with fail
  refine (H2.out _).mono ?_
  rintro e w2 ⟨⟨u, rfl, hO2⟩, hb2⟩
  have hOO := hO1.below hb2 (Nat.le_refl _)
  have hS1 := hOO.strs
  have hS2 := hO2.strs
  have hB := hb1.trans (hb2.mono hb1.size)
  clear hO1 hO2 hb1 hb2
  obtain ⟨k1, k2⟩ := hOO
  by_cases hlen : a.length ≤ b.length
  · have HN := Lib.hid (show underB a b = false by unfold underB; rw [decide_eq_false_iff_not]; omega)
    obtain ⟨v1, c1, rfl, _⟩ := hS1
    obtain ⟨v2, c2, rfl, _⟩ := hS2
    clear k1 k2
    have hd : decide (b.length < a.length) = false := by rw [decide_eq_false_iff_not]; omega
    go_wp2_with fail
    go_ret
    exact ⟨by rw [HN.out]; rfl, hB⟩
  · have hlt0 : b.length < a.length := by omega
    rcases k2 with ⟨rfl, h0⟩ | ⟨g, cap, cur, rfl, hg, hh, hn, r⟩
    · exfalso; omega
    · have HY := Lib.hid (show underB a b = decide (a.take b.length = b) by
        unfold underB
        rw [decide_eq_decide]
        exact ⟨fun h => h.2, fun h => ⟨hlt0, h⟩⟩)
      clear r k1 hh hg hlen
      obtain ⟨v2, c2, e2, hu⟩ := id hS2
      subst e2
      clear hu
      have hn2 : (b.length : Int) ≤ cap := by omega
      have hd : decide (b.length < a.length) = true := by rw [decide_eq_true_iff]; omega
      go_wp2_with fail
      refine (equal_any a b _ _ (by omega) (by omega) _ _ _ _ rfl hS1 hS2).mono ?_
      rintro e w3 ⟨rfl, q, rfl⟩
      go_wp2_with fail
      go_ret
      exact ⟨by rw [HY.out]; rfl, belowDrewN hB⟩
end Go.Proofs.YtpdknjpicaokkaaDoor
