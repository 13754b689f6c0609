/- Maps with holes: pieces, in plain words; sparse.Map.Right. -/
import Derived.Test.YtnemjfojlgjkfaaDoorRowk
namespace Go.Proofs.YtnemjfojlgjkfaaDoor
open Go.RowKit

/-- a slice that reads as some pieces (two numbers each) -/
def PieV (w : World) (v : Value) (l : List (Int × Int)) : Prop :=
  ∃ (a : Option Addr) (c : Nat), v = .slice a l.length c ∧ (0 < l.length → ∃ b off, a = some ⟨b, off, none⟩ ∧ b < w.heap.size ∧ ∀ j (h : j < l.length), w.cell? ⟨b, off + j * 2, none⟩ = some (.int .i64 l[j].1) ∧ w.cell? ⟨b, off + j * 2 + 1, none⟩ = some (.int .i64 l[j].2))
theorem PieV.below {w w' : World} {v : Value} {l : List (Int × Int)} {B : Nat} (h : PieV w v l) (hb : Below B w w') (hB : w.heap.size ≤ B) : PieV w' v l := by
  obtain ⟨a, c, h1, h2⟩ := h
  refine ⟨a, c, h1, fun hp => ?_⟩
  obtain ⟨b, off, h3, h4, h5⟩ := h2 hp
  exact ⟨b, off, h3, by have := hb.size; omega, fun j hj => by
    rw [hb.cell (by show b < B; omega), hb.cell (by show b < B; omega)]; exact h5 j hj⟩
/-- do pieces lie one behind the other, each of them full, below an end -/
def pieB (size : Int) : Int → List (Int × Int) → Bool
  | _, [] => true
  | e, p :: l => if p.1 < e ∨ p.2 < 1 ∨ size < p.1 ∨ size - p.1 < p.2 then false else pieB size (p.1 + p.2) l
def mapB (size : Int) (l : List (Int × Int)) : Bool :=
  if size < 0 ∨ 1099511627776 < size ∨ 4096 < l.length then false else pieB size 0 l
def pieLen (l : List (Int × Int)) : Int := (l.map (·.2)).sum
def holeB (size : Int) (l : List (Int × Int)) (at' : Int) : Bool := decide (0 ≤ at' ∧ at' < size ∧ ∀ p ∈ l, ¬ (p.1 ≤ at' ∧ at' < p.1 + p.2))
def cutL (f t : Int) : List (Int × Int) → List (Int × Int)
  | [] => []
  | p :: l => if min (p.1 + p.2) t ≤ max p.1 f then cutL f t l else (max p.1 f - f, min (p.1 + p.2) t - max p.1 f) :: cutL f t l
theorem pieB_mono (size : Int) (l : List (Int × Int)) : ∀ e e', e' ≤ e → pieB size e l = true → pieB size e' l = true := by
  cases l with
  | nil => intro _ _ _ _; rfl
  | cons p l =>
    intro e e' h hb
    simp only [pieB] at hb ⊢
    split at hb
    · cases hb
    · rw [if_neg (by omega)]; exact hb
/-- every piece of right pieces lies in the map, at or behind the end -/
theorem pieB_mem (size : Int) (l : List (Int × Int)) : ∀ e, pieB size e l = true → ∀ p ∈ l, e ≤ p.1 ∧ 1 ≤ p.2 ∧ p.1 + p.2 ≤ size := by
  induction l with
  | nil => intro _ _ p hp; cases hp
  | cons q l ih =>
    intro e hb p hp
    simp only [pieB] at hb
    split at hb
    · cases hb
    · rcases List.mem_cons.1 hp with rfl | hp
      · omega
      · have := ih _ hb p hp
        omega
/-- a part of right pieces is right -/
theorem cutL_right (size f t : Int) (l : List (Int × Int)) : ∀ e, pieB size e l = true → ∀ e', e' ≤ max e f - f → pieB (t - f) e' (cutL f t l) = true := by
  induction l with
  | nil => intro _ _ _ _; rfl
  | cons p l ih =>
    intro e hb e' he
    simp only [pieB] at hb
    split at hb
    · cases hb
    · simp only [cutL]
      split
      · exact ih _ hb e' (by omega)
      · simp only [pieB]
        rw [if_neg (by omega)]
        exact ih _ hb _ (by omega)
theorem cutL_len (f t : Int) (l : List (Int × Int)) : (cutL f t l).length ≤ l.length := by
  induction l with
  | nil => exact Nat.le_refl _
  | cons p l ih =>
    simp only [cutL]
    split
    · simp only [List.length_cons]; omega
    · simp only [List.length_cons]; omega
theorem cutL_mem (f t : Int) (l : List (Int × Int)) (x : Int) (h0 : 0 ≤ x) (ht : x < t - f) :
    (∀ p ∈ cutL f t l, ¬ (p.1 ≤ x ∧ x < p.1 + p.2)) ↔ ∀ p ∈ l, ¬ (p.1 ≤ f + x ∧ f + x < p.1 + p.2) := by
  induction l with
  | nil => exact ⟨fun _ p hp => (List.not_mem_nil hp).elim, fun _ p hp => (List.not_mem_nil hp).elim⟩
  | cons q l ih =>
    simp only [cutL]
    split
    · rw [ih]
      simp only [List.mem_cons, forall_eq_or_imp]
      exact ⟨fun h => ⟨by omega, h⟩, fun h => h.2⟩
    · simp only [List.mem_cons, forall_eq_or_imp]
      rw [ih]
      exact ⟨fun h => ⟨by omega, h.2⟩, fun h => ⟨by omega, h.2⟩⟩
/-- a part has a hole where the map has one -/
theorem cut_hole (size f t : Int) (l : List (Int × Int)) (x : Int) (h0 : 0 ≤ f) (hs : t ≤ size) (hx : 0 ≤ x) (ht : x < t - f) :
    holeB (t - f) (cutL f t l) x = holeB size l (f + x) := by
  unfold holeB
  rw [decide_eq_decide]
  rw [cutL_mem f t l x hx ht]
  constructor
  · exact fun h => ⟨by omega, by omega, h.2.2⟩
  · exact fun h => ⟨by omega, by omega, h.2.2⟩
end Go.Proofs.YtnemjfojlgjkfaaDoor
