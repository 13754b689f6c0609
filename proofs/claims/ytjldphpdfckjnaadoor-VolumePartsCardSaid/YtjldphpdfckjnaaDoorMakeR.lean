/- Slices of one-cell elements that the call makes by make, known whole, row by row. Plain helpers. -/
import Derived.Test.YtjldphpdfckjnaaDoorAtB
import Derived.Laws.MakeOwn
import Derived.Laws.OwnMore
namespace Go.Proofs.YtjldphpdfckjnaaDoor
open Go.RowKit

/-- a block of n cells, the i-th of which is f i -/
def RowF (w : World) (g : Nat) (T : TypeId) (n : Nat) (f : Nat → Value) : Prop := AtB w g T ((List.range n).map f)
theorem mk_row (T e : TypeId) (z : Value) (by_ : Nat) (hT : Tryd.prog.underlying T = some (.slice e)) (hinfo : (Tryd.prog.info? e).map (fun i => (i.zero, i.size, i.bytes)) = some (some z, 1, by_)) (hz : z.cells = #[z]) (hby : by_ ≤ 1000) (k : Nat) (hk : k ≤ 1000000) (w : World) :
    (Instr.makeSlice T (.int .i64 k) (.int .i64 k)).run Tryd.prog w = .ok (.slice (some ⟨w.heap.size, 0, none⟩) k k) (w.alloc (.cells (madeCells #[z] k) e)) := by
  obtain ⟨i0, hi, hz0, hz1, hz2⟩ := info_parts hinfo
  have hm : k * by_ ≤ 1000000 * 1000 := Nat.mul_le_mul hk hby
  have hm2 : (by_ : Int) * (k : Int) ≤ 281474976710656 := by
    have e2 : (by_ : Int) * (k : Int) = ((k * by_ : Nat) : Int) := by rw [Nat.mul_comm]; push_cast; rfl
    rw [e2]; omega
  have := run_makeSlice (P := Tryd.prog) w T e i0 z hT hi hz0 .i64 .i64 k k (by omega) (by omega) (by rw [hz1]; omega) (by rw [hz2]; exact hm2) (by omega)
  rw [this, hz1, hz]
  simp only [Int.toNat_natCast, Nat.mul_one]
theorem RowF.new (w : World) (e : TypeId) (z : Value) (k : Nat) : RowF (w.alloc (.cells (madeCells #[z] k) e)) w.heap.size e k (fun _ => z) := by
  have h : (List.map (fun _ : Nat => z) (List.range k)).toArray = madeCells #[z] k := by
    apply Array.toList_inj.1
    rw [toList_madeCells_one]
    simp [List.map_const']
  unfold RowF AtB
  rw [h]
  exact heap_alloc_new _ _
theorem RowF.cell {w : World} {g : Nat} {T : TypeId} {n : Nat} {f : Nat → Value} (h : RowF w g T n f) (i : Nat) (hi : i < n) : w.cell? ⟨g, i, none⟩ = some (f i) := by
  rw [AtB.cell h i]
  simp [hi]
theorem RowF.fz {w : World} {g : Nat} {T : TypeId} {n : Nat} {f : Nat → Value} (h : RowF w g T n f) (i : Nat) : w.frozen? ⟨g, i, none⟩ = false := AtB.fz h i
theorem RowF.lt {w : World} {g : Nat} {T : TypeId} {n : Nat} {f : Nat → Value} (h : RowF w g T n f) : g < w.heap.size := AtB.lt h
theorem RowF.under {w w' : World} {g B : Nat} {T : TypeId} {n : Nat} {f : Nat → Value} (h : RowF w g T n f) (hb : Below B w w') (hg : g < B) : RowF w' g T n f := AtB.under h hb hg
theorem RowF.below {w w' : World} {g : Nat} {T : TypeId} {n : Nat} {f : Nat → Value} (h : RowF w g T n f) (hb : Below w.heap.size w w') : RowF w' g T n f := AtB.below h hb
theorem RowF.alloc {w : World} {g : Nat} {T : TypeId} {n : Nat} {f : Nat → Value} (h : RowF w g T n f) (o : Obj) : RowF (w.alloc o) g T n f := AtB.alloc h o
theorem RowF.drew {w : World} {g : Nat} {T : TypeId} {n : Nat} {f : Nat → Value} (h : RowF w g T n f) : RowF w.drew g T n f := h
theorem RowF.set {w : World} {g : Nat} {T : TypeId} {n : Nat} {f : Nat → Value} (h : RowF w g T n f) (i : Nat) (f' : Nat → Value) (hf : ∀ j, j < n → j ≠ i → f' j = f j) : RowF (w.setCell ⟨g, i, none⟩ (f' i)) g T n f' := by
  have h2 := AtB.set h i (f' i)
  have e : ((List.range n).map f).set i (f' i) = (List.range n).map f' := by
    apply List.ext_getElem
    · simp
    · intro j h1 h3
      have hj : j < n := by simpa using h3
      rw [List.getElem_set, List.getElem_map, List.getElem_range]
      by_cases hji : i = j
      · subst hji; simp
      · rw [if_neg hji, List.getElem_map, List.getElem_range, hf j hj (fun e => hji e.symm)]
  rw [e] at h2
  exact h2
theorem RowF.setOther {w : World} {g : Nat} {T : TypeId} {n : Nat} {f : Nat → Value} (h : RowF w g T n f) (k i : Nat) (v : Value) (hk : k ≠ g) : RowF (w.setCell ⟨k, i, none⟩ v) g T n f := AtB.setOther h k i v hk
theorem RowF.congr {w : World} {g : Nat} {T : TypeId} {n : Nat} {f f' : Nat → Value} (h : RowF w g T n f) (hf : ∀ j, j < n → f' j = f j) : RowF w g T n f' := by
  unfold RowF at *
  rw [show (List.range n).map f' = (List.range n).map f from List.map_congr_left fun i hi => hf i (List.mem_range.1 hi)]
  exact h
end Go.Proofs.YtjldphpdfckjnaaDoor
