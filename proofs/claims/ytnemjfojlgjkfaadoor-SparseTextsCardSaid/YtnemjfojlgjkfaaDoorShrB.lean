/- sparse.Map.Cut. -/
import Derived.Test.YtnemjfojlgjkfaaDoorShrA
namespace Go.Proofs.YtnemjfojlgjkfaaDoor
open Go.RowKit

theorem cutL_take (f t : Int) (l : Pcs) (k : Nat) (h : k < l.length) : cutL f t (l.take (k + 1)) = if min (l[k].1 + l[k].2) t ≤ max l[k].1 f then cutL f t (l.take k) else cutL f t (l.take k) ++ [(max l[k].1 f - f, min (l[k].1 + l[k].2) t - max l[k].1 f)] := by
  rw [List.take_succ_eq_append_getElem h]
  generalize l[k] = q
  generalize l.take k = m
  clear h
  induction m with
  | nil => simp only [List.nil_append, cutL]
  | cons p m ih =>
    rw [List.cons_append]
    simp only [cutL]
    split
    · rw [ih]
    · rw [ih]; split <;> rfl
/-- an error's number, a size and pieces that Cut may tell -/
def CutE (size : Int) (l : Pcs) (f t er z : Int) (q : Pcs) : Prop :=
  if mapB size l = false then er = 1 ∧ z = 0 ∧ q = [] else if f < 0 ∨ t < f ∨ size < t then er = 6 ∧ z = 0 ∧ q = [] else er = 0 ∧ z = t - f ∧ q = cutL f t l
/-- what Cut tells: a map, whose pieces are the call's own, and an error's number -/
def CutPost (size : Int) (l : Pcs) (f t : Int) (w : World) (e : Ending) (w' : World) : Prop :=
  ∃ (z : Int) (v : Value) (q : Pcs) (er : Int), e = .returned (.tuple #[.agg #[.int .i64 z, v], .int .i64 er]) ∧ PieV w' v q ∧ Below w.heap.size w w' ∧ CutE size l f t er z q
/-- what Cut tells when it refuses -/
theorem CutPost.no {size : Int} {l : Pcs} {f t : Int} {w w' : World} {er : Int} (hb : Below w.heap.size w w') (h : CutE size l f t er 0 []) :
    CutPost size l f t w (.returned (.tuple #[.agg #[.int .i64 0, .slice none 0 0], .int .i64 er])) w' :=
  ⟨0, _, [], er, rfl, ⟨none, 0, rfl, fun h => absurd h (by simp)⟩, hb, h⟩
end Go.Proofs.YtnemjfojlgjkfaaDoor
