/- The document's Parts, Join, Same and Under. -/
import Derived.Test.YtjaiadfpdkjkpaaDoorPartsL
namespace Go.Proofs.YtjaiadfpdkjkpaaDoor
open Go.RowKit

theorem word_step (s : ByteArray) (k : Nat) (h : k < s.size) (hc : s[k] ≠ 47) : wordL (s.data.toList.drop k) = s[k] :: wordL (s.data.toList.drop (k + 1)) := by
  rw [drop_step s k h, wordL, List.takeWhile_cons, if_pos (by simpa using hc)]; rfl
theorem word_stop (s : ByteArray) (k : Nat) (h : k < s.size) (hc : s[k] = 47) : wordL (s.data.toList.drop k) = [] := by
  rw [drop_step s k h, wordL, List.takeWhile_cons, if_neg (by simp [hc])]
theorem ext_drop (s : ByteArray) (i k : Nat) : s.extract i k = S ((s.data.toList.drop i).take (k - i)) := S_extract s.data.toList i k
theorem take_more (s : ByteArray) (i k : Nat) (hik : i ≤ k) (h : k < s.size) : (s.data.toList.drop i).take (k + 1 - i) = (s.data.toList.drop i).take (k - i) ++ [s[k]] := by
  have hlen : k - i < (s.data.toList.drop i).length := by rw [List.length_drop, size_len]; omega
  rw [show k + 1 - i = (k - i) + 1 by omega, List.take_succ_eq_append_getElem hlen]
  congr 2
  rw [List.getElem_drop]
  have : i + (k - i) = k := by omega
  simp only [this]
  rfl
/-- what holds while a component is read: from i to k -/
def WordAt (s : ByteArray) (i k : Nat) : Prop := wordL (s.data.toList.drop i) = (s.data.toList.drop i).take (k - i) ++ wordL (s.data.toList.drop k) ∧ skipL (s.data.toList.drop i) = skipL (s.data.toList.drop k)
theorem WordAt.start (s : ByteArray) (i : Nat) : WordAt s i i := ⟨by simp, rfl⟩
theorem WordAt.more {s : ByteArray} {i k : Nat} (h : WordAt s i k) (hik : i ≤ k) (hk : k < s.size) (hc : s[k] ≠ 47) : WordAt s i (k + 1) := by
  refine ⟨?_, ?_⟩
  · rw [h.1, word_step s k hk hc, take_more s i k hik hk]; simp
  · rw [h.2, skip_same s k hk hc]
theorem WordAt.stop {s : ByteArray} {i k : Nat} (h : WordAt s i k) (hik : i ≤ k) (hi : i < s.size) (hk : k ≤ s.size) (hc : ∀ h : k < s.size, s[k] = 47) :
    partsL (s.data.toList.drop i) = (if i < k then [(s.data.toList.drop i).take (k - i)] else []) ++ partsL (s.data.toList.drop (k + 1)) := by
  have hw : wordL (s.data.toList.drop k) = [] ∧ skipL (s.data.toList.drop k) = s.data.toList.drop k := by
    by_cases hlt : k < s.size
    · exact ⟨word_stop s k hlt (hc hlt), skip_stop s k hlt (hc hlt)⟩
    · rw [List.drop_of_length_le (by rw [size_len]; omega)]; exact ⟨rfl, rfl⟩
  have hw1 := h.1
  have hs1 := h.2
  rw [hw.1, List.append_nil] at hw1
  rw [hw.2] at hs1
  rw [parts_step, hw1, hs1, List.drop_drop]
  congr 1
  have hl : ((s.data.toList.drop i).take (k - i)).length = k - i := by rw [List.length_take, List.length_drop, size_len]; omega
  by_cases hlt : i < k
  · rw [if_pos hlt, if_neg]
    intro e
    rw [List.isEmpty_iff.1 e] at hl
    simp at hl
    omega
  · rw [if_neg hlt, if_pos]
    rw [List.isEmpty_iff]
    exact List.length_eq_zero_iff.1 (by omega)
end Go.Proofs.YtjaiadfpdkjkpaaDoor
