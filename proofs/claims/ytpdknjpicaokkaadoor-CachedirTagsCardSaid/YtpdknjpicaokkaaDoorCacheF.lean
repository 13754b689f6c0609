/- The example of layer 28; what a mode leaves out, the next one leaves out. -/
import Derived.Test.YtpdknjpicaokkaaDoorCacheE
namespace Go.Proofs.YtpdknjpicaokkaaDoor
open Go.RowKit

theorem out_zero (M : List UInt8 → Bool) (l : List (List UInt8)) : outB M l 0 = false := rfl
theorem Out_any (g b n : Nat) (M : List UInt8 → Bool) (s : List UInt8) (hs : s.length ≤ 100000) (mode : Int) (hm : 0 ≤ mode ∧ mode ≤ 3) (w : World) (h : IdxAt w g b n M) :
    Calls Tryd.prog 18 #[.pointer (some ⟨g, 0, none⟩), .string (S s), .int .i64 mode] w fun e w' => e = .returned (.bool (outB M (partsL s) mode)) ∧ Below w.heap.size w w' := by
  have hc : mode = 0 ∨ mode = 1 ∨ mode = 2 ∨ mode = 3 := by omega
  rcases hc with rfl | rfl | rfl | rfl
  · refine (out_no _ s M 0 (.inl (by omega)) (partsL s) w).mono ?_
    rintro e w' ⟨h1, rfl⟩
    exact ⟨h1, Below.refl _ _⟩
  · exact out_1 g b n M s hs w h
  · exact out_2 g b n M s hs w h
  · exact out_3 g b n M s hs w h
theorem hit_mono (M : List UInt8 → Bool) (l : List (List UInt8)) (mode : Int) (n : Nat) (h : hitB M l mode n = true) : hitB M l 2 n = true ∧ hitB M l 3 n = true := by
  unfold hitB at h ⊢
  rw [Bool.and_eq_true] at h
  rw [h.1]
  exact ⟨rfl, rfl⟩
theorem any_mono (M : List UInt8 → Bool) (l : List (List UInt8)) (mode : Int) (n : Nat) (h : anyB M l mode n = true) : anyB M l 2 n = true ∧ anyB M l 3 n = true := by
  unfold anyB at h ⊢
  obtain ⟨k, hk, h1⟩ := List.any_eq_true.1 h
  have h2 := hit_mono M l mode k h1
  exact ⟨List.any_eq_true.2 ⟨k, hk, h2.1⟩, List.any_eq_true.2 ⟨k, hk, h2.2⟩⟩
theorem out_one (M : List UInt8 → Bool) (l : List (List UInt8)) : outB M l 1 = anyB M l 1 l.length := by unfold outB; rw [decide_eq_true (by omega)]; simp
theorem out_two (M : List UInt8 → Bool) (l : List (List UInt8)) : outB M l 2 = anyB M l 2 l.length := by unfold outB; rw [decide_eq_true (by omega)]; simp
theorem out_next (M : List UInt8 → Bool) (l : List (List UInt8)) (m : Nat) (hm : m < 3) (h : outB M l m = true) : outB M l ((m : Int) + 1) = true := by
  have hc : m = 0 ∨ m = 1 ∨ m = 2 := by omega
  rcases hc with rfl | rfl | rfl
  · rw [show ((0 : Nat) : Int) = 0 from rfl, out_zero] at h; cases h
  · rw [show ((1 : Nat) : Int) = 1 from rfl, out_one] at h
    rw [show ((1 : Nat) : Int) + 1 = 2 from rfl, out_two]
    exact (any_mono M l 1 _ h).1
  · rw [show ((2 : Nat) : Int) = 2 from rfl, out_two] at h
    rw [show ((2 : Nat) : Int) + 1 = 3 from rfl]
    unfold outB
    rw [(any_mono M l 2 _ h).2]
    rfl
theorem out_below (M : List UInt8 → Bool) (l r : List (List UInt8)) (h : outB M l 2 = true) : outB M (l ++ r) 2 = true := by
  rw [out_two] at h ⊢
  unfold anyB at h ⊢
  obtain ⟨k, hk, h1⟩ := List.any_eq_true.1 h
  have hk := List.mem_range.1 hk
  refine List.any_eq_true.2 ⟨k, List.mem_range.2 (by rw [List.length_append]; omega), ?_⟩
  unfold hitB at h1 ⊢
  rw [Bool.and_eq_true] at h1
  rw [List.take_append_of_le_length (by omega), h1.1]
  rfl

def M1 : List UInt8 → Bool := fun t => decide (t = keyL [97, 47, 99]) || (fun _ => false) t
set_option maxRecDepth 100000 in
set_option maxHeartbeats 1000000 in
theorem awake_any28 (w : World) : Calls Tryd.prog 16 #[] w fun e w' => e = .returned (.bool true) ∧ Below w.heap.size w w' := by
  have e1 : outB M1 (partsL [97, 47, 99, 47, 120]) 1 = true := by decide +kernel
  have e2 : outB M1 (partsL [97, 47, 99, 47, 67, 65, 67, 72, 69, 68, 73, 82, 46, 84, 65, 71]) 1 = false := by decide +kernel
  have e3 : outB M1 (partsL [97, 47, 99]) 1 = false := by decide +kernel
  have e4 : outB M1 (partsL [97, 47, 99, 47, 67, 65, 67, 72, 69, 68, 73, 82, 46, 84, 65, 71]) 2 = true := by decide +kernel
  have e5 : outB M1 (partsL [97, 47, 99]) 3 = true := by decide +kernel
  have h1 := fun g b n w h => Out_any g b n M1 [97, 47, 99, 47, 120] (by decide) 1 (by omega) w h
  have h2 := fun g b n w h => Out_any g b n M1 [97, 47, 99, 47, 67, 65, 67, 72, 69, 68, 73, 82, 46, 84, 65, 71] (by decide) 1 (by omega) w h
  have h3 := fun g b n w h => Out_any g b n M1 [97, 47, 99] (by decide) 1 (by omega) w h
  have h4 := fun g b n w h => Out_any g b n M1 [97, 47, 99, 47, 67, 65, 67, 72, 69, 68, 73, 82, 46, 84, 65, 71] (by decide) 2 (by omega) w h
  have h5 := fun g b n w h => Out_any g b n M1 [97, 47, 99] (by decide) 3 (by omega) w h
  rw [e1] at h1
  rw [e2] at h2
  rw [e3] at h3
  rw [e4] at h4
  rw [e5] at h5
  have H1 := Lib.hid h1
  have H2 := Lib.hid h2
  have H3 := Lib.hid h3
  have H4 := Lib.hid h4
  have H5 := Lib.hid h5
  have H0 := Lib.hid (fun g b w hgb h => put_any g b 0 (fun _ => false) [97, 47, 99] (by decide) (by decide) hgb w h)
  clear h1 h2 h3 h4 h5 e1 e2 e3 e4 e5
  go_enter Tryd.func16, Tryd.ntmps16
  go_wp2_with fail
  refine (new_any _).mono ?_
  rintro e w1 ⟨rfl, hI1, hb1⟩
  go_wp2_with fail
  refine (H0.out _ _ _ (by omega) hI1).mono ?_
  rintro e w2 ⟨rfl, hI2, hg2⟩
  have hb2 : Below w.heap.size w w2 := hb1.grown hg2 hb1.size (fun k e => by injection e with e; omega)
  clear hI1 hb1 hg2
  change IdxAt w2 _ _ _ M1 at hI2
  go_wp2_with fail
  refine (H1.out _ _ _ _ hI2).mono ?_
  rintro e w3 ⟨rfl, hx3⟩
  have hI3 := hI2.step hx3
  have hb3 := chainB hb2 hx3
  go_wp2_with fail
  refine (H2.out _ _ _ _ hI3).mono ?_
  rintro e w4 ⟨rfl, hx4⟩
  have hI4 := hI3.step hx4
  have hb4 := chainB hb3 hx4
  go_wp2_with fail
  refine (H3.out _ _ _ _ hI4).mono ?_
  rintro e w5 ⟨rfl, hx5⟩
  have hI5 := hI4.step hx5
  have hb5 := chainB hb4 hx5
  go_wp2_with fail
  refine (H4.out _ _ _ _ hI5).mono ?_
  rintro e w6 ⟨rfl, hx6⟩
  have hI6 := hI5.step hx6
  have hb6 := chainB hb5 hx6
  go_wp2_with fail
  refine (H5.out _ _ _ _ hI6).mono ?_
  rintro e w7 ⟨rfl, hx7⟩
  have hI7 := hI6.step hx7
  have hb7 := chainB hb6 hx7
  go_wp2
  go_ret
  exact ⟨rfl, hb7⟩
end Go.Proofs.YtpdknjpicaokkaaDoor
