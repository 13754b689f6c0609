/- The law RecordFull, walked. -/
import Derived.Test.YtjoalambgckchaaDoorRecI
namespace Go.Proofs.YtjoalambgckchaaDoor
open Go.RowKit Go.Lib

def nilsP (n : Nat) : Array Value := madeCells #[.string ⟨#[]⟩, .string ⟨#[]⟩] (n * 2)
theorem nilsP_at (n i : Nat) (h : i < n * 2) : (nilsP n)[i]? = some (.string ⟨#[]⟩) := by
  unfold nilsP madeCells
  have h2 : i % 2 = 0 ∨ i % 2 = 1 := by omega
  rcases h2 with h2 | h2 <;> simp [h, h2]
theorem mk_pairs (k : Nat) (hk : k ≤ 1000000) (w : World) : (Instr.makeSlice 22 (.int .i64 k) (.int .i64 k)).run Tryd.prog w = .ok (.slice (some ⟨w.heap.size, 0, none⟩) k k) (w.alloc (.cells (nilsP k) 25)) := by
  obtain ⟨i0, hi, hz0, hz1, hz2⟩ := info_parts info_pair
  have := run_makeSlice (P := Tryd.prog) w 22 25 i0 _ Tryd.underlying22 hi hz0 .i64 .i64 k k (by omega) (by omega) (by rw [hz1]; omega) (by rw [hz2]; omega) (by omega)
  rw [this]
  simp only [Int.toNat_natCast, hz1]
  rfl
/-- so many pairs ('k', ''), and behind them empty ones -/
def FullAt (w : World) (g k i : Nat) : Prop := ∃ C : Array Value, w.heap[g]? = some (.cells C 25 (0, 0)) ∧
  ∀ j, j < k → C[j * 2]? = some (.string (S (if j < i then [107] else []))) ∧ C[j * 2 + 1]? = some (.string (S []))
theorem FullAt.new (w : World) (k : Nat) : FullAt (w.alloc (.cells (nilsP k) 25)) w.heap.size k 0 := by
  refine ⟨nilsP k, heap_alloc_new _ _, fun j hj => ?_⟩
  rw [if_neg (Nat.not_lt_zero _)]
  exact ⟨nilsP_at k _ (by omega), nilsP_at k _ (by omega)⟩
theorem FullAt.set {w : World} {g k i : Nat} (h : FullAt w g k i) (hi : i < k) : FullAt ((w.setCell ⟨g, i * 2, none⟩ (.string (S [107]))).setCell ⟨g, i * 2 + 1, none⟩ (.string (S []))) g k (i + 1) := by
  obtain ⟨C, h1, h2⟩ := h
  refine ⟨_, set_heap _ g (i * 2 + 1) _ _ _ _ (set_heap w g (i * 2) _ _ _ _ h1), fun j hj => ?_⟩
  obtain ⟨a1, a2⟩ := h2 j hj
  obtain ⟨c1, c2⟩ := h2 i hi
  have s1 := (Array.getElem?_eq_some_iff.1 c1).1
  have s2 := (Array.getElem?_eq_some_iff.1 c2).1
  have m1 : i * 2 + 1 ≠ j * 2 := by omega
  have m2 : i * 2 ≠ j * 2 + 1 := by omega
  simp only [Array.getElem?_setIfInBounds, if_neg m1, if_neg m2]
  by_cases hj2 : j = i
  · subst hj2
    simp [s1, s2]
  · have m3 : i * 2 ≠ j * 2 := by omega
    have m4 : i * 2 + 1 ≠ j * 2 + 1 := by omega
    rw [if_neg m3, if_neg m4, a1, a2]
    by_cases hji : j < i
    · rw [if_pos hji, if_pos (by omega)]; exact ⟨rfl, rfl⟩
    · rw [if_neg hji, if_neg (by omega)]; exact ⟨rfl, rfl⟩
theorem FullAt.rows {w : World} {g k : Nat} (h : FullAt w g k k) : PairsV w (.slice (some ⟨g, 0, none⟩) k k) (List.replicate k ([107], [])) := by
  obtain ⟨C, h1, h2⟩ := h
  refine ⟨some ⟨g, 0, none⟩, k, by rw [List.length_replicate], fun _ => ⟨g, 0, rfl, (Array.getElem?_eq_some_iff.1 h1).1, fun j hj i u hu => ?_⟩⟩
  rw [List.length_replicate] at hj
  rw [List.getElem_replicate] at hu
  obtain ⟨a1, a2⟩ := h2 j hj
  rw [if_pos hj] at a1
  unfold World.cell?
  rw [h1]
  match i, hu with
  | 0, hu => rw [← hu]; show C[0 + j * 2 + 0]? = _; rw [Nat.zero_add, Nat.add_zero]; exact a1
  | 1, hu => rw [← hu]; show C[0 + j * 2 + 1]? = _; rw [Nat.zero_add]; exact a2
theorem FullAt.facts {w : World} {g k i : Nat} (h : FullAt w g k i) (j : Nat) (hj : j < k) : (∃ x, w.cell? ⟨g, j * 2, none⟩ = some (.string x)) ∧ (∃ y, w.cell? ⟨g, j * 2 + 1, none⟩ = some (.string y)) ∧ w.frozen? ⟨g, j * 2, none⟩ = false ∧ w.frozen? ⟨g, j * 2 + 1, none⟩ = false := by
  obtain ⟨C, h1, h2⟩ := h
  obtain ⟨a1, a2⟩ := h2 j hj
  unfold World.cell? World.frozen?
  simp only [h1]
  exact ⟨⟨_, a1⟩, ⟨_, a2⟩, by simp, by simp⟩
theorem recs_rep (i : Nat) : recsL (List.replicate (i + 1) ([107], [])) = recsL (List.replicate i ([107], [])) ++ [53, 32, 107, 61, 10] := by
  rw [List.replicate_succ', recs_snoc, one_k]
theorem rep_bare (k : Nat) : ∀ p ∈ List.replicate k (([107], []) : PR), bareP p ≤ 100000 := by
  intro p hp; rw [List.eq_of_mem_replicate hp]; decide
theorem rep_right (k : Nat) : (List.replicate k (([107], []) : PR)).all rightP = true := by
  rw [List.all_eq_true]; intro p hp; rw [List.eq_of_mem_replicate hp]; decide
theorem rep_len (k : Nat) : (recsL (List.replicate k ([107], []))).length = 5 * k := by
  induction k with
  | zero => rfl
  | succ k ih => rw [recs_rep, List.length_append, ih]; simp; omega
theorem rep_tot (k : Nat) : totP (List.replicate k ([107], [])) = 5 * k := by
  rw [← rep_len k, recs_len _ (fun p hp => Nat.le_trans (rep_bare k p hp) (by decide))]
theorem rep_print (k : Nat) (h : k ≤ 1000) : printF (List.replicate k ([107], [])) = if 256 < k then ([], 8) else (recsL (List.replicate k ([107], [])), 0) := by
  unfold printF
  rw [List.length_replicate]
  by_cases hk : 256 < k
  · rw [if_pos hk, if_pos hk]
  · rw [if_neg hk, if_neg hk, if_neg (by rw [rep_right]; decide), if_neg (by rw [rep_tot]; omega)]
theorem rep_parse (k : Nat) (h : k ≤ 1000) : parseQ (recsL (List.replicate k ([107], []))) = if 256 < k then ([], 8) else (List.replicate k ([107], []), 0) := by
  unfold parseQ
  rw [if_neg (by rw [rep_len]; omega)]
  by_cases hk : 256 < k
  · rw [if_pos hk]
    exact parse_full _ _ [] (rep_right k) (rep_bare k) (by simp) (by simp; omega) (by omega)
  · rw [if_neg hk]
    have := parse_recs (List.replicate k ([107], [])) ((recsL (List.replicate k ([107], []))).length + 1) [] (rep_right k) (rep_bare k) (by simp; omega) (by omega)
    rw [this]; rfl
theorem big_rec (o : Nat) (ho : o ≤ 3) : sizeP ([107], List.replicate (65527 + o) 0) = 65536 + o := by
  have hb : bareP ([107], List.replicate (65527 + o) 0) = 65531 + o := by unfold bareP; rw [List.length_replicate]; simp; omega
  unfold sizeP
  rw [hb, sizeN_big _ (by omega) (by omega)]
  omega
theorem big_print (o : Nat) (ho : o ≤ 3) : printF [([107], List.replicate (65527 + o) 0)] = if 0 < o then ([], 12) else (recL ([107], List.replicate (65527 + o) 0), 0) := by
  have ht : totP [([107], List.replicate (65527 + o) 0)] = 65536 + o := by unfold totP; simp [big_rec o ho]
  unfold printF
  rw [if_neg (by simp), if_neg, ht]
  · by_cases h : 0 < o
    · rw [if_pos (by omega), if_pos h]
    · rw [if_neg (by omega), if_neg h]
      show (recL _ ++ [], 0) = _
      rw [List.append_nil]
  · simp [rightP]
end Go.Proofs.YtjoalambgckchaaDoor
