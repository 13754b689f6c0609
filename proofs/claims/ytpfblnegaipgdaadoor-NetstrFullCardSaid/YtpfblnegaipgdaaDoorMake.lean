/- Slices that the call makes by make: their run equations and what they hold. Plain helpers. -/
import Derived.Test.YtpfblnegaipgdaaDoorStrss
import Derived.Laws.MakeOwn
import Derived.Laws.OwnMore
namespace Go.Proofs.YtpfblnegaipgdaaDoor
open Go.RowKit

def nilsA (n : Nat) : Array Value := madeCells #[.slice none 0 0] n
def zerosA (n : Nat) : Array Value := madeCells #[.int .u8 0] n
theorem mk_lists (k : Nat) (hk : k ≤ 1000000) (w : World) : (Instr.makeSlice 43 (.int .i64 k) (.int .i64 k)).run Tryd.prog w = .ok (.slice (some ⟨w.heap.size, 0, none⟩) k k) (w.alloc (.cells (nilsA k) 22)) := by
  obtain ⟨i0, hi, hz0, hz1, hz2⟩ := info_parts info_strs
  have := run_makeSlice (P := Tryd.prog) w 43 22 i0 (.slice none 0 0) Tryd.underlying43 hi hz0 .i64 .i64 k k (by omega) (by omega) (by rw [hz1]; omega) (by rw [hz2]; omega) (by omega)
  rw [this, hz1]
  simp only [Int.toNat_natCast, Nat.mul_one]
  rfl
theorem mk_bytes (n k : Nat) (hn : n ≤ k) (hk : k ≤ 1000000) (w : World) : (Instr.makeSlice 49 (.int .i64 n) (.int .i64 k)).run Tryd.prog w = .ok (.slice (some ⟨w.heap.size, 0, none⟩) n k) (w.alloc (.cells (zerosA k) 5)) := by
  obtain ⟨i0, hi, hz0, hz1, hz2⟩ := info_parts info_u8
  have := run_makeSlice (P := Tryd.prog) w 49 5 i0 (.int .u8 0) Tryd.underlying49 hi hz0 .i64 .i64 n k (by omega) (by omega) (by rw [hz1]; omega) (by rw [hz2]; omega) (by omega)
  rw [this, hz1]
  simp only [Int.toNat_natCast, Nat.mul_one]
  rfl
theorem own_bytes (n k : Nat) (hn : n ≤ k) (hk : k ≤ 1000000) (w : World) (base : Nat) (hb : base ≤ w.heap.size) : OwnB (w.alloc (.cells (zerosA k) 5)) base (.slice (some ⟨w.heap.size, 0, none⟩) n k) (List.replicate n 0) := by
  refine ⟨by simp, Or.inr ⟨w.heap.size, k, zerosA k, by simp, hb, heap_alloc_new _ _, by simp; exact hn, by unfold maxLen; omega, ?_, ?_⟩⟩
  · unfold zerosA; rw [size_madeCells]; omega
  · unfold zerosA
    rw [toList_madeCells_one, List.length_replicate, Nat.mul_one, List.map_replicate, List.take_replicate]
    rw [Nat.min_eq_left hn]
    rfl
theorem lsts_nils (k : Nat) (w : World) : LstsV (w.alloc (.cells (nilsA k) 22)) (.slice (some ⟨w.heap.size, 0, none⟩) k k) (List.replicate k []) := by
  refine ⟨some ⟨w.heap.size, 0, none⟩, k, by rw [List.length_replicate], fun _ => ⟨w.heap.size, 0, rfl, by simp, fun j hj => ⟨.slice none 0 0, ?_, ?_⟩⟩⟩
  · rw [List.length_replicate] at hj
    unfold World.cell?
    rw [heap_alloc_new]
    show (nilsA k)[0 + j]? = _
    unfold nilsA
    rw [Nat.zero_add, ← Array.getElem?_toList, toList_madeCells_one, List.getElem?_replicate, if_pos hj]
  · rw [List.getElem_replicate]
    exact ⟨none, 0, rfl, fun h => absurd h (by simp)⟩
theorem lsts_at (k g : Nat) (fr : Nat × Nat) (w : World) (h : w.heap[g]? = some (.cells (nilsA k) 22 fr)) : LstsV w (.slice (some ⟨g, 0, none⟩) k k) (List.replicate k []) := by
  have hg : g < w.heap.size := by
    rcases Nat.lt_or_ge g w.heap.size with x | x
    · exact x
    · rw [Array.getElem?_eq_none x] at h; cases h
  refine ⟨some ⟨g, 0, none⟩, k, by rw [List.length_replicate], fun _ => ⟨g, 0, rfl, hg, fun j hj => ⟨.slice none 0 0, ?_, ?_⟩⟩⟩
  · rw [List.length_replicate] at hj
    unfold World.cell?
    rw [h]
    show (nilsA k)[0 + j]? = _
    unfold nilsA
    rw [Nat.zero_add, ← Array.getElem?_toList, toList_madeCells_one, List.getElem?_replicate, if_pos hj]
  · rw [List.getElem_replicate]
    exact ⟨none, 0, rfl, fun h => absurd h (by simp)⟩
end Go.Proofs.YtpfblnegaipgdaaDoor
