/- Plain law of a name's last component. -/
import Derived.Test.YtjaiadfpdkjkpaaDoorPartsL
import Derived.Lib.LastIndexByte
namespace Go.Proofs.YtjaiadfpdkjkpaaDoor
open Go.RowKit

def lastL (l : List (List UInt8)) : List UInt8 := l.getLastD []
theorem lastL_snoc (l : List (List UInt8)) (q : List UInt8) : lastL (l ++ [q]) = q := by
  unfold lastL
  rw [List.getLastD_eq_getLast?, List.getLast?_append]
  rfl
def trimR (l : List UInt8) : List UInt8 := Lib.trimRightB l 47
theorem tw_mem1 (p : UInt8 → Bool) : ∀ (l : List UInt8) (b : UInt8), b ∈ l.takeWhile p → p b = true
  | [], b, h => by cases h
  | c :: l, b, h => by
    rw [List.takeWhile_cons] at h
    split at h
    · rename_i hc
      rcases List.mem_cons.1 h with rfl | h
      · exact hc
      · exact tw_mem1 p l b h
    · cases h
theorem trimR_eq (l : List UInt8) : ∃ m, l = trimR l ++ List.replicate m 47 := by
  refine ⟨(l.reverse.takeWhile (· == 47)).length, ?_⟩
  have h := List.takeWhile_append_dropWhile (p := (· == (47 : UInt8))) (l := l.reverse)
  have h2 : l.reverse.takeWhile (· == (47 : UInt8)) = List.replicate (l.reverse.takeWhile (· == (47 : UInt8))).length 47 := by
    rw [List.eq_replicate_iff]
    refine ⟨rfl, fun b hb => ?_⟩
    have := tw_mem1 _ _ _ hb
    simpa using this
  have h3 := congrArg List.reverse h
  rw [List.reverse_append, List.reverse_reverse] at h3
  have h4 : trimR l ++ List.replicate (l.reverse.takeWhile (· == (47 : UInt8))).length 47 = l := by
    conv => rhs; rw [← h3]
    unfold trimR Lib.trimRightB
    congr 1
    conv => rhs; rw [h2]
    simp
  exact h4.symm
theorem parts_rep (t : List UInt8) : ∀ m, partsL (t ++ List.replicate m 47) = partsL t
  | 0 => by simp
  | m + 1 => by
    rw [show List.replicate (m + 1) (47 : UInt8) = List.replicate m 47 ++ [47] by rw [List.replicate_succ'], ← List.append_assoc, parts_app, parts_nil, List.append_nil, parts_rep t m]
theorem parts_trim (l : List UInt8) : partsL l = partsL (trimR l) := by
  obtain ⟨m, h⟩ := trimR_eq l
  conv => lhs; rw [h]
  exact parts_rep _ m
theorem trimR_len (l : List UInt8) : (trimR l).length ≤ l.length := by
  obtain ⟨m, h⟩ := trimR_eq l
  have := congrArg List.length h
  rw [List.length_append] at this
  omega
theorem trimR_last (l : List UInt8) : (trimR l).getLast? ≠ some 47 := by
  unfold trimR Lib.trimRightB
  rw [List.getLast?_reverse]
  intro h
  have := List.head?_dropWhile_not (· == (47 : UInt8)) l.reverse
  rw [h] at this
  simp at this
theorem lastIdx_of (t : List UInt8) (i : Int) (hi : i = Lib.lastIndexByte (S t) 47) (hl : t.getLast? ≠ some 47) : ∃ k : Nat, i + 1 = (k : Int) ∧ k ≤ t.length ∧ lastL (partsL t) = t.drop k := by
  have key : ∀ (q : List UInt8), (∀ x ∈ q, x ≠ 47) → partsL q = if q.isEmpty then [] else [q] := by
    intro q hq
    cases q with
    | nil => exact parts_nil
    | cons b q => exact parts_word _ hq (by simp)
  have hget : ∀ j, (h : j < t.length) → ((S t).data[j]!).toNat = (t[j]).toNat := by
    intro j h
    have : (S t).data[j]! = t[j] := by simp [S, h]
    rw [this]
  have hsz : (S t).size = t.length := S_size t
  unfold Lib.lastIndexByte at hi
  rcases Lib.lastIdx_spec (S t) 47 (S t).size with ⟨h1, h2⟩ | ⟨k, hk, h1, h2, h3⟩
  · rw [h1] at hi
    refine ⟨0, by omega, by omega, ?_⟩
    have hq : ∀ x ∈ t, x ≠ 47 := by
      intro x hx
      obtain ⟨j, hj, rfl⟩ := List.mem_iff_getElem.1 hx
      have := h2 j (by omega)
      rw [hget j hj] at this
      intro e
      rw [e] at this
      exact this rfl
    rw [key t hq, List.drop_zero]
    cases t with
    | nil => rfl
    | cons b t => rfl
  · rw [h1] at hi
    have hk' : k < t.length := by omega
    have hc : t[k] = 47 := by
      rw [hget k hk'] at h2
      exact UInt8.toNat_inj.1 (by have : (t[k]).toNat = 47 := by omega
                                  rw [this]; rfl)
    have hq : ∀ x ∈ t.drop (k + 1), x ≠ 47 := by
      intro x hx
      obtain ⟨j, hj, rfl⟩ := List.mem_iff_getElem.1 hx
      rw [List.length_drop] at hj
      rw [List.getElem_drop]
      have := h3 (k + 1 + j) (by omega) (by omega)
      rw [hget _ (by omega)] at this
      intro e
      rw [e] at this
      exact this rfl
    have ht : t = t.take k ++ 47 :: t.drop (k + 1) := by
      rw [← hc, ← List.drop_eq_getElem_cons hk', List.take_append_drop]
    refine ⟨k + 1, by omega, by omega, ?_⟩
    have hne : t.drop (k + 1) ≠ [] := by
      intro e
      apply hl
      rw [ht, e]
      simp
    conv => lhs; rw [ht]
    rw [parts_app, parts_word _ hq hne, lastL_snoc]
end Go.Proofs.YtjaiadfpdkjkpaaDoor
