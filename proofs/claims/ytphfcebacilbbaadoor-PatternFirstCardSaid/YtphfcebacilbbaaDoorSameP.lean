/- Plain laws: two sets with the same bytes have the same words. -/
import Derived.Test.YtphfcebacilbbaaDoorClassD
namespace Go.Proofs.YtphfcebacilbbaaDoor
open Go.RowKit

theorem mem_bytes (p : Nat → Bool) (n : Nat) (hn : n < 256) : UInt8.ofNat n ∈ bytesP p ↔ p n = true := by
  unfold bytesP bytesTo
  simp only [List.mem_map, List.mem_filter, List.mem_range]
  constructor
  · rintro ⟨m, ⟨h1, h2⟩, h3⟩
    have := congrArg UInt8.toNat h3
    rw [UInt8.toNat_ofNat', UInt8.toNat_ofNat', Nat.mod_eq_of_lt h1, Nat.mod_eq_of_lt hn] at this
    rw [← this]; exact h2
  · intro h; exact ⟨n, ⟨hn, h⟩, rfl⟩
theorem word_eq (p q : Nat → Bool) (j : Nat) (h : wordP p j = wordP q j) (n : Nat) (hn : n < 64) : p (64 * j + n) = q (64 * j + n) := by
  have := congrArg (fun x => x.testBit n) h
  simp only [word_bit, hn, decide_true, Bool.true_and] at this
  exact this
theorem word_cong (p q : Nat → Bool) (j : Nat) (h : ∀ n, n < 64 → p (64 * j + n) = q (64 * j + n)) : wordP p j = wordP q j :=
  word_ext _ _ _ (word_lt p j) fun n hn => by rw [word_bit, h n hn]; simp [hn]
theorem same_set (p q : Nat → Bool) : ((wordP p 0 : Int) == (wordP q 0 : Int) && (wordP p 1 : Int) == (wordP q 1 : Int) && (wordP p 2 : Int) == (wordP q 2 : Int) && (wordP p 3 : Int) == (wordP q 3 : Int)) = (bytesP p == bytesP q) := by
  rw [Bool.eq_iff_iff]
  simp only [Bool.and_eq_true, beq_iff_eq, Int.natCast_inj]
  constructor
  · rintro ⟨⟨⟨h0, h1⟩, h2⟩, h3⟩
    apply bytesP_ext
    intro n hn
    have g (j : Nat) (hj : wordP p j = wordP q j) (h : n / 64 = j) : p n = q n := by
      have := word_eq p q j hj (n % 64) (Nat.mod_lt _ (by decide))
      rw [← h, Nat.div_add_mod] at this
      exact this
    obtain h | h | h | h : n / 64 = 0 ∨ n / 64 = 1 ∨ n / 64 = 2 ∨ n / 64 = 3 := by omega
    · exact g 0 h0 h
    · exact g 1 h1 h
    · exact g 2 h2 h
    · exact g 3 h3 h
  · intro h
    have e (n : Nat) (hn : n < 256) : p n = q n := by
      rw [Bool.eq_iff_iff, ← mem_bytes p n hn, ← mem_bytes q n hn, h]
    exact ⟨⟨⟨word_cong p q 0 fun n hn => e _ (by omega), word_cong p q 1 fun n hn => e _ (by omega)⟩, word_cong p q 2 fun n hn => e _ (by omega)⟩, word_cong p q 3 fun n hn => e _ (by omega)⟩
end Go.Proofs.YtphfcebacilbbaaDoor
