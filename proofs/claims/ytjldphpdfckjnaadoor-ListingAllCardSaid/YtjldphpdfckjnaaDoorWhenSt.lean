/- A time at a block. Plain helpers. -/
import Derived.Test.YtjldphpdfckjnaaDoorKit
namespace Go.Proofs.YtjldphpdfckjnaaDoor
open Go.RowKit

def StAt (w : World) (b : Nat) (sec nsec : Int) : Prop := w.heap[b]? = some (.cells #[.int .i64 sec, .int .i64 nsec] 52 (0, 0))
theorem StAt.c0 {w : World} {b : Nat} {s n : Int} (h : StAt w b s n) : w.cell? ⟨b, 0, none⟩ = some (.int .i64 s) := by
  unfold StAt at h; simp [World.cell?, h]
theorem StAt.c1 {w : World} {b : Nat} {s n : Int} (h : StAt w b s n) : w.cell? ⟨b, 1, none⟩ = some (.int .i64 n) := by
  unfold StAt at h; simp [World.cell?, h]
theorem StAt.f {w : World} {b : Nat} {s n : Int} (h : StAt w b s n) (o : Nat) : w.frozen? ⟨b, o, none⟩ = false := by
  unfold StAt at h; simp [World.frozen?, h]
theorem StAt.set0 {w : World} {b : Nat} {s n : Int} (h : StAt w b s n) (s' : Int) : StAt (w.setCell ⟨b, 0, none⟩ (.int .i64 s')) b s' n := by
  unfold StAt at *
  unfold World.setCell
  show (w.heap.modify b _)[b]? = _
  rw [Array.getElem?_modify, if_pos rfl, h]
  rfl
theorem StAt.set1 {w : World} {b : Nat} {s n : Int} (h : StAt w b s n) (n' : Int) : StAt (w.setCell ⟨b, 1, none⟩ (.int .i64 n')) b s n' := by
  unfold StAt at *
  unfold World.setCell
  show (w.heap.modify b _)[b]? = _
  rw [Array.getElem?_modify, if_pos rfl, h]
  rfl
theorem StAt.below {w w' : World} {b B : Nat} {s n : Int} (h : StAt w b s n) (hb : Below B w w') (hB : b < B) : StAt w' b s n := by
  unfold StAt at *; rw [hb.block b hB]; exact h
end Go.Proofs.YtjldphpdfckjnaaDoor
