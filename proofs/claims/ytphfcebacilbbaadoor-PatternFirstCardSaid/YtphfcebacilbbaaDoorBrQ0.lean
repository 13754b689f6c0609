/- The document's bracket: what its Parse leans on. -/
import Derived.Test.YtphfcebacilbbaaDoorBrP
import Derived.Test.YtphfcebacilbbaaDoorBrG
namespace Go.Proofs.YtphfcebacilbbaaDoor
open Go.RowKit
attribute [local irreducible] wordP

theorem named_first (q : List UInt8) : (namedF q = none ∧ ∀ j, j ≤ q.length → preB (q.drop j) [58, 93] = false) ∨
    (∃ i : Nat, i + 2 ≤ q.length ∧ preB (q.drop i) [58, 93] = true ∧ (∀ j, j < i → preB (q.drop j) [58, 93] = false) ∧ namedF q = if (namedP (q.take i)).2 = true then some ((namedP (q.take i)).1, i + 2) else none) := by
  rcases Lib.index_spec q [58, 93] with ⟨h1, h2⟩ | ⟨i, h1, h2, h3, h4⟩
  · left
    refine ⟨?_, h2⟩
    unfold namedF Lib.cut
    rw [h1]
    simp
  · right
    have h5 : preB (q.drop i) [58, 93] = true := h3
    have hl := preB_len _ _ h5
    rw [List.length_drop] at hl
    replace hl : 2 ≤ q.length - i := hl
    have hl2 : i + 2 ≤ q.length := by omega
    refine ⟨i, hl2, h5, h4, ?_⟩
    have hcut : Lib.cut q [58, 93] = (q.take i, q.drop (i + 2), true) := by
      unfold Lib.cut
      rw [h1, if_pos (by omega)]
      rfl
    have hlen : (q.take i).length = i := by rw [List.length_take]; omega
    unfold namedF
    rw [hcut]
    simp only [true_and, hlen]
theorem bytes_one (b : UInt8) : bytesP (rangeP b.toNat b.toNat) = [b] := by
  have := all_bytes (fun b => bytesP (rangeP b.toNat b.toNat) == [b]) (by decide +kernel) b
  simpa using this
theorem byteF_le {gl : Bool} {q : List UInt8} {b : UInt8} {n : Nat} (h : byteF gl q = some (b, n)) : n ≤ q.length := by
  unfold byteF at h
  split at h
  · rename_i hp
    have hl := preB_len _ _ hp
    cases hc : closedF (q.drop 2) [46, 93] with
    | none => rw [hc] at h; cases h
    | some c =>
      rw [hc] at h
      cases h
      unfold closedF at hc
      split at hc
      · rename_i h3
        have := h3.1
        rw [List.length_drop] at this
        omega
      · cases hc
  · split at h
    · cases hc : q[1]? with
      | none => rw [hc] at h; cases h
      | some c =>
        rw [hc] at h
        cases h
        have := (List.getElem?_eq_some_iff.1 hc).1
        omega
    · cases hc : q[0]? with
      | none => rw [hc] at h; cases h
      | some c =>
        rw [hc] at h
        cases h
        have := (List.getElem?_eq_some_iff.1 hc).1
        omega
theorem closed_pre (q : List UInt8) (b : UInt8) (h : closedF q [61, 93] = some b) : preB (q.drop 1) [61, 93] = true ∧ 3 ≤ q.length ∧ q[0]? = some b := by
  unfold closedF at h
  split at h
  · rename_i hc
    refine ⟨?_, hc.1, by rw [← h, List.head?_eq_getElem?]⟩
    rw [pre_take]
    exact beq_iff_eq.2 hc.2
  · cases h
theorem closed_pre_no (q : List UInt8) (h : closedF q [61, 93] = none) : preB (q.drop 1) [61, 93] = false := by
  cases hp : preB (q.drop 1) [61, 93] with
  | false => rfl
  | true =>
    have hl := preB_len _ _ hp
    rw [List.length_drop] at hl
    replace hl : 2 ≤ q.length - 1 := hl
    rw [pre_take] at hp
    unfold closedF at h
    rw [if_pos ⟨by omega, beq_iff_eq.1 hp⟩, List.head?_eq_getElem?, List.getElem?_eq_getElem (by omega)] at h
    cases h
/-- a result that is stored: the bytes, the place behind, right or not -/
def GotAt (w : World) (g : Nat) : Prop := w.cell? ⟨g, 0, none⟩ = some (.string ⟨#[]⟩) ∧ w.cell? ⟨g, 1, none⟩ = some (.int .i64 0) ∧ w.cell? ⟨g, 2, none⟩ = some (.bool false) ∧ (∀ o, w.frozen? ⟨g, o, none⟩ = false) ∧ g < w.heap.size
theorem GotAt.below {w w' : World} {g B : Nat} (h : GotAt w g) (hb : Below B w w') (hg : g < B) : GotAt w' g :=
  ⟨(hb.cell (p := ⟨g, 0, none⟩) hg).trans h.1, (hb.cell (p := ⟨g, 1, none⟩) hg).trans h.2.1, (hb.cell (p := ⟨g, 2, none⟩) hg).trans h.2.2.1, fun o => (hb.frozen (p := ⟨g, o, none⟩) hg).trans (h.2.2.2.1 o), Nat.lt_of_lt_of_le h.2.2.2.2 hb.size⟩
def gotV (r : Option ((Nat → Bool) × Nat)) : Value := match r with
  | some (p, n) => .agg #[.string (S (bytesP p)), .int .i64 n, .bool true]
  | none => .agg #[.string (S []), .int .i64 0, .bool false]
theorem got_results (tmps : Array Value) (w : World) (g : Nat) (x y z : Value) (hp : tmps.getD 6 undef = .pointer (some ⟨g, 0, none⟩)) (h0 : w.cell? ⟨g, 0, none⟩ = some x) (h1 : w.cell? ⟨g, 1, none⟩ = some y) (h2 : w.cell? ⟨g, 2, none⟩ = some z) :
    (results Tryd.f31 tmps).run Tryd.prog w = .ok (.agg #[x, y, z]) w := by
  have hp' : tmps[6]?.getD undef = .pointer (some ⟨g, 0, none⟩) := by simpa using hp
  simp [results, Tryd.results31, go_sem, hp', h0, h1, h2]
theorem got_cells (w : World) (g : Nat) (x y z : Value) (hG : GotAt w g) : (((w.setCell ⟨g, 0, none⟩ x).setCell ⟨g, 1, none⟩ y).setCell ⟨g, 2, none⟩ z).cell? ⟨g, 0, none⟩ = some x ∧ (((w.setCell ⟨g, 0, none⟩ x).setCell ⟨g, 1, none⟩ y).setCell ⟨g, 2, none⟩ z).cell? ⟨g, 1, none⟩ = some y ∧ (((w.setCell ⟨g, 0, none⟩ x).setCell ⟨g, 1, none⟩ y).setCell ⟨g, 2, none⟩ z).cell? ⟨g, 2, none⟩ = some z := by
  obtain ⟨g0, g1, g2, -, -⟩ := hG
  have a0 := cell_set w g 0 0 x _ g0
  have a1 := cell_set w g 0 1 x _ g1
  have a2 := cell_set w g 0 2 x _ g2
  have b0 := cell_set _ g 1 0 y _ a0
  have b1 := cell_set _ g 1 1 y _ a1
  have b2 := cell_set _ g 1 2 y _ a2
  exact ⟨cell_set _ g 2 0 z _ b0, cell_set _ g 2 1 z _ b1, cell_set _ g 2 2 z _ b2⟩
theorem got_ret {a : Act} {w : World} {g : Nat} {x y z : Value} {R : Ending → World → Prop} (hG : GotAt w g) (hp : a.tmps.getD 6 undef = .pointer (some ⟨g, 0, none⟩)) (hd : a.defers = [])
    (hR : R (.returned (.agg #[x, y, z])) (((w.setCell ⟨g, 0, none⟩ x).setCell ⟨g, 1, none⟩ y).setCell ⟨g, 2, none⟩ z)) :
    bodyPost Tryd.prog Tryd.f31 R .ret a (((w.setCell ⟨g, 0, none⟩ x).setCell ⟨g, 1, none⟩ y).setCell ⟨g, 2, none⟩ z) := by
  obtain ⟨h0, h1, h2⟩ := got_cells w g x y z hG
  exact bodyPost_ret (got_results _ _ g x y z hp h0 h1 h2) hd hR
def firstLoop : Code → Option Code
  | .loop c => some c
  | .seq a b => match firstLoop a with
    | some c => some c
    | none => firstLoop b
  | .block _ c => firstLoop c
  | .scope c => firstLoop c
  | .cond _ a b => match firstLoop a with
    | some c => some c
    | none => firstLoop b
  | _ => none
noncomputable def rbody : Code := (Tryd.f31.body.bind firstLoop).getD .skip
end Go.Proofs.YtphfcebacilbbaaDoor
