/- The law ClassSame: for every two texts the law's call returns true and changes nothing that was there. No condition. -/
import Derived.Test.YtebgchjffopicaaLclass
import Derived.Test.YtebgchjffopicaaArrEq
import Derived.Deep.RegionHeld3
namespace Go.Proofs.Ytebgchjffopicaa
open Go.RowKit
attribute [local irreducible] wordP

theorem chain {w u v : World} (h : Below w.heap.size w u) (k : Below u.heap.size u v) : Below w.heap.size w v := h.trans (k.mono h.size)
theorem mem_bytes (p : Nat → Bool) (n : Nat) (hn : n < 256) : UInt8.ofNat n ∈ bytesP p ↔ p n = true := by
  unfold bytesP bytesTo
  simp only [List.mem_map, List.mem_filter, List.mem_range]
  constructor
  · rintro ⟨m, ⟨h1, h2⟩, h3⟩
    have := congrArg UInt8.toNat h3
    rw [UInt8.toNat_ofNat', UInt8.toNat_ofNat', Nat.mod_eq_of_lt h1, Nat.mod_eq_of_lt hn] at this
    rw [← this]; exact h2
  · intro h; exact ⟨n, ⟨hn, h⟩, rfl⟩
theorem word_eq (p q : Nat → Bool) (j : Nat) (h : wordP p j = wordP q j) (n : Nat) (hn : n < 64) : p (64 * j + n) = q (64 * j + n) := by
  have := congrArg (fun x => x.testBit n) h
  simp only [word_bit, hn, decide_true, Bool.true_and] at this
  exact this
theorem word_cong (p q : Nat → Bool) (j : Nat) (h : ∀ n, n < 64 → p (64 * j + n) = q (64 * j + n)) : wordP p j = wordP q j :=
  word_ext _ _ _ (word_lt p j) fun n hn => by rw [word_bit, h n hn]; simp [hn]
theorem same_set (p q : Nat → Bool) : ((wordP p 0 : Int) == (wordP q 0 : Int) && (wordP p 1 : Int) == (wordP q 1 : Int) && (wordP p 2 : Int) == (wordP q 2 : Int) && (wordP p 3 : Int) == (wordP q 3 : Int)) = (bytesP p == bytesP q) := by
  rw [Bool.eq_iff_iff]
  simp only [Bool.and_eq_true, beq_iff_eq, Int.natCast_inj]
  constructor
  · rintro ⟨⟨⟨h0, h1⟩, h2⟩, h3⟩
    apply bytesP_ext
    intro n hn
    have g (j : Nat) (hj : wordP p j = wordP q j) (h : n / 64 = j) : p n = q n := by
      have := word_eq p q j hj (n % 64) (Nat.mod_lt _ (by decide))
      rw [← h, Nat.div_add_mod] at this
      exact this
    obtain h | h | h | h : n / 64 = 0 ∨ n / 64 = 1 ∨ n / 64 = 2 ∨ n / 64 = 3 := by omega
    · exact g 0 h0 h
    · exact g 1 h1 h
    · exact g 2 h2 h
    · exact g 3 h3 h
  · intro h
    have e (n : Nat) (hn : n < 256) : p n = q n := by
      rw [Bool.eq_iff_iff, ← mem_bytes p n hn, ← mem_bytes q n hn, h]
    exact ⟨⟨⟨word_cong p q 0 fun n hn => e _ (by omega), word_cong p q 1 fun n hn => e _ (by omega)⟩, word_cong p q 2 fun n hn => e _ (by omega)⟩, word_cong p q 3 fun n hn => e _ (by omega)⟩

set_option maxRecDepth 100000 in
set_option maxHeartbeats 1000000 in
theorem lawSame (s t : ByteArray) (w : World) :
    Calls Try.prog 8 #[.string s, .string t] w fun e w' => e = .returned (.bool true) ∧ Below w.heap.size w w' := by
  have hx0 : Below w.heap.size w w := Below.refl _ _
  by_cases hl : s.size ≤ 300 ∧ t.size ≤ 300
  · obtain ⟨h1, h2⟩ := hl
    have hE := same_set (ofP s.data.toList) (ofP t.data.toList)
    have hA : (bytesP allP).length = 256 := by decide +kernel
    go_enter Try.func8, Try.ntmps8
    go_wp2_with fail
    go_region_held3 (fun w' => Below w.heap.size w w') (first | assumption | exact (Below.refl _ _).drew) (first
      | (go_at_call 19; refine (of_any _ _ (by omega)).mono ?_; rintro e v1 ⟨rfl, hc1⟩; have hS := chain (by first | assumption | exact (Below.refl _ _).drew) hc1)
      | (go_at_call 21; refine (sorted_any _ _ (by omega)).mono ?_; rintro e v2 ⟨rfl, hc2⟩; have hS := chain (by first | assumption | exact (Below.refl _ _).drew) hc2)
      | (go_at_call 33; refine (all_any _).mono ?_; rintro e v3 ⟨rfl, hc3⟩; have hS := chain (by first | assumption | exact (Below.refl _ _).drew) hc3)
      | (go_at_call 29; rw [← SetV_def]; refine (len_any _ _).mono ?_; rintro e v4 ⟨rfl, hc4⟩; have hS := chain (by first | assumption | exact (Below.refl _ _).drew) hc4)
      | (go_at_call 18; refine (awake13 _).mono ?_; rintro e v5 ⟨rfl, hc5⟩; have hS := chain (by first | assumption | exact (Below.refl _ _).drew) hc5))
    go_wp2_with fail
    go_ret
    exact ⟨rfl, hS⟩
  · have hl2 : 300 < s.size ∨ 300 < t.size := by omega
    clear hl
    rcases hl2 with hl2 | hl2 <;> by_cases hl3 : 300 < s.size
    all_goals
      go_enter Try.func8, Try.ntmps8
      go_wp2_with (go_at_call 18; refine (awake13 _).mono ?_; rintro e w1 ⟨rfl, hb1⟩)
    all_goals (first | (exfalso; omega) | (go_ret; exact ⟨rfl, hb1⟩))
end Go.Proofs.Ytebgchjffopicaa
