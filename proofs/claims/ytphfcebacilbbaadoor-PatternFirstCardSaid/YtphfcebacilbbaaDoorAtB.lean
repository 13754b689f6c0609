/- A block known whole, cell by cell. Plain helpers. -/
import Derived.Test.YtphfcebacilbbaaDoorKit
namespace Go.Proofs.YtphfcebacilbbaaDoor
open Go.RowKit

/-- the block g is just these cells -/
def AtB (w : World) (g : Nat) (T : TypeId) (C : List Value) : Prop := w.heap[g]? = some (.cells C.toArray T (0, 0))
theorem AtB.cell {w : World} {g : Nat} {T : TypeId} {C : List Value} (h : AtB w g T C) (i : Nat) : w.cell? ⟨g, i, none⟩ = C[i]? := by
  unfold AtB at h
  simp [World.cell?, h]
theorem AtB.fz {w : World} {g : Nat} {T : TypeId} {C : List Value} (h : AtB w g T C) (i : Nat) : w.frozen? ⟨g, i, none⟩ = false := by
  unfold AtB at h
  simp [World.frozen?, h]
theorem AtB.lt {w : World} {g : Nat} {T : TypeId} {C : List Value} (h : AtB w g T C) : g < w.heap.size := (Array.getElem?_eq_some_iff.1 h).1
theorem AtB.under {w w' : World} {g B : Nat} {T : TypeId} {C : List Value} (h : AtB w g T C) (hb : Below B w w') (hg : g < B) : AtB w' g T C := (hb.block g hg).trans h
theorem AtB.below {w w' : World} {g : Nat} {T : TypeId} {C : List Value} (h : AtB w g T C) (hb : Below w.heap.size w w') : AtB w' g T C := h.under hb h.lt
theorem AtB.new (w : World) (T : TypeId) (C : List Value) : AtB (w.alloc (.cells C.toArray T)) w.heap.size T C := heap_alloc_new _ _
theorem AtB.alloc {w : World} {g : Nat} {T : TypeId} {C : List Value} (h : AtB w g T C) (o : Obj) : AtB (w.alloc o) g T C := h.below ((Below.refl _ _).alloc (Nat.le_refl _) o)
theorem AtB.drew {w : World} {g : Nat} {T : TypeId} {C : List Value} (h : AtB w g T C) : AtB w.drew g T C := h
theorem AtB.set {w : World} {g : Nat} {T : TypeId} {C : List Value} (h : AtB w g T C) (i : Nat) (v : Value) : AtB (w.setCell ⟨g, i, none⟩ v) g T (C.set i v) := by
  unfold AtB at *
  rw [heap_setCell_same w g i _ _ v h]
  simp
theorem AtB.setOther {w : World} {g : Nat} {T : TypeId} {C : List Value} (h : AtB w g T C) (k i : Nat) (v : Value) (hk : k ≠ g) : AtB (w.setCell ⟨k, i, none⟩ v) g T C := by
  unfold AtB at *
  rw [heap_setCell_other w ⟨k, i, none⟩ g v (fun e => hk (by simp at e; omega))]
  exact h
theorem AtB.new2 (w : World) (g : Nat) (T : TypeId) (C : List Value) (h : w.heap.size = g) : AtB (w.alloc (.cells C.toArray T)) g T C := by subst h; exact AtB.new w T C
/-- the block g begins with these cells -/
def CellsAt (w : World) (g : Nat) (vs : List Value) : Prop := g < w.heap.size ∧ ∀ j, j < vs.length → w.cell? ⟨g, j, none⟩ = vs[j]?
theorem CellsAt.same {w w' : World} {g : Nat} {vs : List Value} (h : CellsAt w g vs) (e : w'.heap[g]? = w.heap[g]?) : CellsAt w' g vs := by
  refine ⟨?_, fun j hj => (World.cell?_of_block (a := ⟨g, j, none⟩) e).trans (h.2 j hj)⟩
  rw [Array.getElem?_eq_getElem h.1] at e
  exact (Array.getElem?_eq_some_iff.1 e).1
theorem CellsAt.under {w w' : World} {g B : Nat} {vs : List Value} (h : CellsAt w g vs) (hb : Below B w w') (hg : g < B) : CellsAt w' g vs := h.same (hb.block g hg)
theorem CellsAt.rows {w : World} {g : Nat} {rs : List Nat} (f : Nat → Value) (h : CellsAt w g (rs.map f)) : ∀ k (hk : k < rs.length), w.cell? ⟨g, k, none⟩ = some (f rs[k]) := by
  intro k hk
  rw [h.2 k (by rw [List.length_map]; exact hk), List.getElem?_map, List.getElem?_eq_getElem hk]
  rfl
end Go.Proofs.YtphfcebacilbbaaDoor
