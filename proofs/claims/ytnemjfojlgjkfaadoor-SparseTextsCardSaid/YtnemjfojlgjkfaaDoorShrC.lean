/- Two slices of the call's own beside each other, and a struct of one's own: what an append, or a store, leaves. Plain helpers. -/
import Derived.Test.YtnemjfojlgjkfaaDoorShrA
namespace Go.Proofs.YtnemjfojlgjkfaaDoor
open Go.RowKit

/-- the own blocks of two slices are not one -/
def Sep (v u : Value) : Prop := v.ownBlock = none ∨ v.ownBlock ≠ u.ownBlock
/-- a block is not the own one of a slice -/
def SepG (g : Nat) (v : Value) : Prop := some g ≠ v.ownBlock
theorem Sep.nil (u : Value) : Sep (.slice none 0 0) u := Or.inl rfl
theorem OwnR.kept {α : Type} {f : α → List Value} {e : TypeId} {sz : Nat} {w w' : World} {base : Nat} {v u u' : Value} {l : List α} (h : OwnR f e sz w base v l) (hg : Grew w w' u u') (hs : Sep v u) : OwnR f e sz w' base v l := World.ownsRow.kept h hg.grown hs
theorem OwnB.kept {w w' : World} {base : Nat} {v u u' : Value} {l : List UInt8} (h : OwnB w base v l) (hg : Grew w w' u u') (hs : Sep v u) : OwnB w' base v l := World.ownsRow.kept h hg.grown hs
theorem OwnR.setOther {α : Type} {f : α → List Value} {e : TypeId} {sz : Nat} {w : World} {base : Nat} {v : Value} {l : List α} (h : OwnR f e sz w base v l) (g i : Nat) (x : Value) (hs : SepG g v) : OwnR f e sz (w.setCell ⟨g, i, none⟩ x) base v l := by
  refine World.ownsRow.kept h (row := some g) ⟨rfl, rfl, rfl, by simp, fun k _ hk => heap_setCell_other w ⟨g, i, none⟩ k x (fun e => hk (by simp [e]))⟩ ?_
  exact Or.inr (fun e => hs e.symm)
theorem OwnB.setOther {w : World} {base : Nat} {v : Value} {l : List UInt8} (h : OwnB w base v l) (g i : Nat) (x : Value) (hs : SepG g v) : OwnB (w.setCell ⟨g, i, none⟩ x) base v l := by
  refine World.ownsRow.kept h (row := some g) ⟨rfl, rfl, rfl, by simp, fun k _ hk => heap_setCell_other w ⟨g, i, none⟩ k x (fun e => hk (by simp [e]))⟩ ?_
  exact Or.inr (fun e => hs e.symm)
theorem Sep.grew {w w' : World} {v u u' : Value} (h : Sep v u) (hv : ∀ b, v.ownBlock = some b → b < w.heap.size) (hg : Grew w w' u u') : Sep v u' := by
  rcases h with h | h
  · exact Or.inl h
  · rcases hg.fresh with e | ⟨k, e, hk⟩
    · rw [Sep, e]; exact Or.inr h
    · cases hb : v.ownBlock with
      | none => exact Or.inl hb
      | some b =>
        have := hv b hb
        refine Or.inr ?_
        rw [hb, e]
        intro x
        cases x
        omega
theorem Sep.symm {v u : Value} (h : Sep v u) : Sep u v := by
  rcases h with h | h
  · cases hu : u.ownBlock with
    | none => exact Or.inl hu
    | some b => exact Or.inr (by rw [h, hu]; simp)
  · cases hu : u.ownBlock with
    | none => exact Or.inl hu
    | some b => exact Or.inr (fun e => h (by rw [← e]))
theorem SepG.grew {w w' : World} {g : Nat} {u u' : Value} (h : SepG g u) (hg : g < w.heap.size) (hw : Grew w w' u u') : SepG g u' := by
  rcases hw.fresh with e | ⟨k, e, hk⟩
  · rw [SepG, e]; exact h
  · rw [SepG, e]
    intro x
    cases x
    omega
theorem OwnR.lt {α : Type} {f : α → List Value} {e : TypeId} {sz : Nat} {w : World} {base : Nat} {v : Value} {l : List α} (h : OwnR f e sz w base v l) : ∀ b, v.ownBlock = some b → b < w.heap.size := fun b hb => (World.ownsRow.lt h b hb).2
theorem OwnB.lt' {w : World} {base : Nat} {v : Value} {l : List UInt8} (h : OwnB w base v l) : ∀ b, v.ownBlock = some b → b < w.heap.size := fun b hb => (World.ownsRow.lt h b hb).2
theorem Grew.block {w w' : World} {u u' : Value} (h : Grew w w' u u') {g : Nat} (hg : g < w.heap.size) (hs : SepG g u) : w'.heap[g]? = w.heap[g]? := h.grown.block g hg hs
theorem MapAt.grew {w w' : World} {g : Nat} {a : Int} {b u u' : Value} (h : MapAt w g a b) (hg : Grew w w' u u') (hs : SepG g u) : MapAt w' g a b := (hg.block h.lt hs).trans h
/-- a store to the field of pieces -/
theorem MapAt.put {w : World} {g : Nat} {a : Int} {b : Value} (h : MapAt w g a b) (x : Value) : MapAt (w.setCell ⟨g, 1, none⟩ x) g a x := by
  unfold MapAt at h ⊢
  rw [heap_setCell_same w g 1 _ _ x h]
  rfl
theorem MapAt.setOther {w : World} {g : Nat} {a : Int} {b : Value} (h : MapAt w g a b) (k i : Nat) (x : Value) (hk : k ≠ g) : MapAt (w.setCell ⟨k, i, none⟩ x) g a b := by
  unfold MapAt at h ⊢
  rw [heap_setCell_other w ⟨k, i, none⟩ g x (fun e => hk (by simp at e; omega))]
  exact h
theorem MapAt.under {w w' : World} {g B : Nat} {a : Int} {b : Value} (h : MapAt w g a b) (hb : Below B w w') (hg : g < B) : MapAt w' g a b := (hb.block g hg).trans h
theorem MapAt.fz {w : World} {g : Nat} {a : Int} {b : Value} (h : MapAt w g a b) (i : Nat) : w.frozen? ⟨g, i, none⟩ = false := by
  unfold MapAt at h; simp [World.frozen?, h]
end Go.Proofs.YtnemjfojlgjkfaaDoor
