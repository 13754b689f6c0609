/- Slices of bytes that the call makes by make. Plain helpers. -/
import Derived.Test.YtphfcebacilbbaaDoorKit
import Derived.Laws.MakeOwn
import Derived.Laws.OwnMore
namespace Go.Proofs.YtphfcebacilbbaaDoor
open Go.RowKit

def zerosA (n : Nat) : Array Value := madeCells #[.int .u8 0] n
theorem mk_bytes (n k : Nat) (hn : n ≤ k) (hk : k ≤ 1000000) (w : World) : (Instr.makeSlice 69 (.int .i64 n) (.int .i64 k)).run Tryd.prog w = .ok (.slice (some ⟨w.heap.size, 0, none⟩) n k) (w.alloc (.cells (zerosA k) 5)) := by
  obtain ⟨i0, hi, hz0, hz1, hz2⟩ := info_parts info_u8
  have := run_makeSlice (P := Tryd.prog) w 69 5 i0 (.int .u8 0) Tryd.underlying69 hi hz0 .i64 .i64 n k (by omega) (by omega) (by rw [hz1]; omega) (by rw [hz2]; omega) (by omega)
  rw [this, hz1]
  simp only [Int.toNat_natCast, Nat.mul_one]
  rfl
theorem own_bytes (n k : Nat) (hn : n ≤ k) (hk : k ≤ 1000000) (w : World) (base : Nat) (hb : base ≤ w.heap.size) : OwnB (w.alloc (.cells (zerosA k) 5)) base (.slice (some ⟨w.heap.size, 0, none⟩) n k) (List.replicate n 0) := by
  refine ⟨by simp, Or.inr ⟨w.heap.size, k, zerosA k, by simp, hb, heap_alloc_new _ _, by simp; exact hn, by unfold maxLen; omega, ?_, ?_⟩⟩
  · unfold zerosA; rw [size_madeCells]; omega
  · unfold zerosA
    rw [toList_madeCells_one, List.length_replicate, Nat.mul_one, List.map_replicate, List.take_replicate]
    rw [Nat.min_eq_left hn]
    rfl
theorem conv_zeros (m : Nat) (hm : m ≤ 1000000) (wx : World) : (convert 69 9 (.slice (some ⟨wx.heap.size, 0, none⟩) m m)).run Tryd.prog (wx.alloc (.cells (zerosA m) 5)) = .ok (.string (S (List.replicate m 0))) (wx.alloc (.cells (zerosA m) 5)) :=
  run_string_own _ wx.heap.size _ _ (own_bytes m m (Nat.le_refl _) hm wx wx.heap.size (Nat.le_refl _))
theorem conv_zeros2 (m : Nat) (hm : m ≤ 1000000) (o : Obj) (wx : World) : (convert 69 9 (.slice (some ⟨wx.heap.size, 0, none⟩) m m)).run Tryd.prog ((wx.alloc (.cells (zerosA m) 5)).alloc o) = .ok (.string (S (List.replicate m 0))) ((wx.alloc (.cells (zerosA m) 5)).alloc o) :=
  run_string_own _ wx.heap.size _ _ ((own_bytes m m (Nat.le_refl _) hm wx wx.heap.size (Nat.le_refl _)).alloc o)
theorem conv_z0 (m : Nat) (hm : m ≤ 1000000) (W : World) (g : Nat) (hg : g = W.heap.size) : (convert 69 9 (.slice (some ⟨g, 0, none⟩) m m)).run Tryd.prog (W.alloc (.cells (zerosA m) 5)).drew = .ok (.string (S (List.replicate m 0))) (W.alloc (.cells (zerosA m) 5)).drew := by
  subst hg
  exact run_string_own _ W.heap.size _ _ (own_bytes m m (Nat.le_refl _) hm W W.heap.size (Nat.le_refl _))
theorem conv_z1 (m : Nat) (hm : m ≤ 1000000) (W : World) (o : Obj) (g : Nat) (hg : g = W.heap.size) : (convert 69 9 (.slice (some ⟨g, 0, none⟩) m m)).run Tryd.prog ((W.alloc (.cells (zerosA m) 5)).alloc o).drew = .ok (.string (S (List.replicate m 0))) ((W.alloc (.cells (zerosA m) 5)).alloc o).drew := by
  subst hg
  exact run_string_own _ W.heap.size _ _ ((own_bytes m m (Nat.le_refl _) hm W W.heap.size (Nat.le_refl _)).alloc o)
theorem conv_z2 (m : Nat) (hm : m ≤ 1000000) (W : World) (o o2 : Obj) (g : Nat) (hg : g = W.heap.size) : (convert 69 9 (.slice (some ⟨g, 0, none⟩) m m)).run Tryd.prog (((W.alloc (.cells (zerosA m) 5)).alloc o).alloc o2).drew = .ok (.string (S (List.replicate m 0))) (((W.alloc (.cells (zerosA m) 5)).alloc o).alloc o2).drew := by
  subst hg
  exact run_string_own _ W.heap.size _ _ (((own_bytes m m (Nat.le_refl _) hm W W.heap.size (Nat.le_refl _)).alloc o).alloc o2)
end Go.Proofs.YtphfcebacilbbaaDoor
