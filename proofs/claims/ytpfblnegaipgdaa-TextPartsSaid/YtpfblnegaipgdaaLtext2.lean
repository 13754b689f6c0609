import Derived.Test.YtpfblnegaipgdaaLtext
namespace Go.Proofs.Ytpfblnegaipgdaa
open Go.RowKit
set_option maxRecDepth 100000 in
set_option maxHeartbeats 200000 in
theorem lawParts (p b : ByteArray) (w : World) :
    Calls Try.prog 4 #[.string p, .string b] w fun e w' => e = .returned (.bool true) ∧ Below w.heap.size w w' := by
  have hx0 : Below w.heap.size w w := Below.refl _ _
  by_cases hl : p.size ≤ 155 ∧ b.size ≤ 100 ∧ b.size ≠ 0
  · obtain ⟨h1, h2, h3⟩ := hl
    have h4 : ¬ ((b.size : Int) = 0) := by omega
    have h5 : ((b.size : Int) == 0) = false := by simpa using h4
    obtain ⟨s, hs⟩ : ∃ s, s = joinF p b := ⟨_, rfl⟩
    have hok := join_part p b h1 h2 h3
    rw [← hs] at hok
    have hsz : s.size ≤ 1000 := by
      rw [hs, joinF]
      split
      · omega
      · rw [ByteArray.size_append, ByteArray.size_append]; have : (S [47]).size = 1 := rfl; omega
    have hj := part_join s hok
    obtain ⟨n1, n2, _⟩ := part_len s hok
    obtain ⟨x, y, ok, hp⟩ : ∃ a b ok, partF s = (a, b, ok) := ⟨_, _, _, rfl⟩
    rw [hp] at hj n1 n2 hok
    simp only at hj n1 n2 hok
    subst hok
    have hp2 : partV (partF s) = .tuple #[.string x, .string y, .bool true] := by rw [hp]; rfl
    clear hp
    have f1 : (s.data.toList == s.toList) = true := by rw [ByteArray.toList_eq]; simp
    go_enter Try.func4, Try.ntmps4
    go_wp2_with fail
    refine (join_any p b _ (by omega) (by omega)).mono ?_
    rintro e w3 ⟨rfl, rfl⟩
    rw [← hs]
    clear hs
    go_wp2_with fail
    refine (part_any s _ (by omega)).mono ?_
    rintro e w1 ⟨rfl, hx1⟩
    rw [hp2]
    go_wp2_with fail
    refine (join_any x y _ (by omega) (by omega)).mono ?_
    rintro e w3 ⟨rfl, rfl⟩
    rw [hj]
    go_wp2_with fail
    refine (awake02 _).mono ?_
    rintro e w3 ⟨rfl, hb3⟩
    have hx3 := hx1.trans (hb3.mono hx1.size)
    go_wp2_with fail
    go_ret
    exact ⟨rfl, hx3⟩
  · rcases (show 155 < (p.size : Int) ∨ (p.size : Int) ≤ 155 ∧ 100 < (b.size : Int) ∨ (p.size : Int) ≤ 155 ∧ (b.size : Int) ≤ 100 ∧ (b.size : Int) = 0 from by omega) with h1 | ⟨h1, h2⟩ | ⟨h1, h2, h3⟩
    · clear hl
      go_enter Try.func4, Try.ntmps4
      go_wp2_with fail
      refine (awake02 _).mono ?_
      rintro e w1 ⟨rfl, hb1⟩
      have hx1 : Below w.heap.size w w1 := hx0.trans ((show Below w.heap.size _ _ by first | exact Below.refl _ _ | (have := hx0.size; go_grown)).trans (hb1.mono (by have := hx0.size; first | omega | (simp; done) | (simp; omega))))
      go_wp2_with fail
      go_ret
      exact ⟨rfl, hx1⟩
    · clear hl
      go_enter Try.func4, Try.ntmps4
      go_wp2_with fail
      refine (awake02 _).mono ?_
      rintro e w1 ⟨rfl, hb1⟩
      have hx1 : Below w.heap.size w w1 := hx0.trans ((show Below w.heap.size _ _ by first | exact Below.refl _ _ | (have := hx0.size; go_grown)).trans (hb1.mono (by have := hx0.size; first | omega | (simp; done) | (simp; omega))))
      go_wp2_with fail
      go_ret
      exact ⟨rfl, hx1⟩
    · clear hl
      have h4 : ((b.size : Int) == 0) = true := by simpa using h3
      clear h3
      go_enter Try.func4, Try.ntmps4
      go_wp2_with fail
      refine (awake02 _).mono ?_
      rintro e w1 ⟨rfl, hb1⟩
      have hx1 : Below w.heap.size w w1 := hx0.trans ((show Below w.heap.size _ _ by first | exact Below.refl _ _ | (have := hx0.size; go_grown)).trans (hb1.mono (by have := hx0.size; first | omega | (simp; done) | (simp; omega))))
      go_wp2_with fail
      go_ret
      exact ⟨rfl, hx1⟩
end Go.Proofs.Ytpfblnegaipgdaa
