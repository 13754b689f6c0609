/- Slices of one-cell elements that the call itself made, as lists of values; slices of two element types are apart. Plain helpers. -/
import Derived.Test.YtjldphpdfckjnaaDoorAtB
import Derived.Laws.OwnMore
namespace Go.Proofs.YtjldphpdfckjnaaDoor
open Go.RowKit

def OwnV (e : TypeId) (w : World) (base : Nat) (v : Value) (l : List Value) : Prop := w.ownsRow base e 1 v l.length l
section
variable {e e' : TypeId} {w w' : World} {base base' B : Nat} {v v' u u' : Value} {l l' : List Value}
theorem OwnV.nil (e : TypeId) (w : World) (base : Nat) : OwnV e w base (.slice none 0 0) [] := World.ownsRow_nil _ _ _ _
theorem OwnV.lit (e : TypeId) (w : World) : OwnV e (w.alloc (.cells #[] e)) w.heap.size (.slice (some ⟨w.heap.size, 0, none⟩) 0 0) [] :=
  World.ownsRow_lit (base := w.heap.size) (e := e) (size := 1) w #[] 0 (Nat.le_refl _) (by decide) (by decide)
theorem OwnV.alloc (h : OwnV e w base v l) (o : Obj) : OwnV e (w.alloc o) base v l := World.ownsRow.alloc h o
theorem OwnV.drewN {n : Nat} (h : OwnV e w base v l) : OwnV e (w.drewN n) base v l := h
theorem OwnV.drew (h : OwnV e w base v l) : OwnV e w.drew base v l := h
theorem OwnV.lt (h : OwnV e w base v l) : ∀ k, v.ownBlock = some k → base ≤ k ∧ k < w.heap.size := World.ownsRow.lt h
theorem OwnV.below (h : OwnV e w base v l) (hb : Below B w w') (hB : w.heap.size ≤ B) : OwnV e w' base v l := by
  obtain ⟨h1, h2⟩ := h
  refine ⟨h1, ?_⟩
  rcases h2 with h2 | ⟨g, cap, cur, hv, hg, hh, r⟩
  · exact Or.inl h2
  · have hlt : g < w.heap.size := by
      rcases Nat.lt_or_ge g w.heap.size with h | h
      · exact h
      · rw [Array.getElem?_eq_none h] at hh; cases hh
    exact Or.inr ⟨g, cap, cur, hv, hg, by rw [hb.block g (by omega)]; exact hh, r⟩
theorem OwnV.rebase (h : OwnV e w base v l) (hb : base' ≤ base) : OwnV e w base' v l := by
  obtain ⟨h1, h2⟩ := h
  refine ⟨h1, ?_⟩
  rcases h2 with h2 | ⟨g, cap, cur, hv, hg, r⟩
  · exact Or.inl h2
  · exact Or.inr ⟨g, cap, cur, hv, by omega, r⟩
theorem OwnV.shape (h : OwnV e w base v l) : ∃ a c, v = .slice a l.length c := by
  rcases h.2 with ⟨rfl, h0⟩ | ⟨g, cap, cur, rfl, hg, hh, r⟩
  · exact ⟨none, 0, by rw [h0]⟩
  · exact ⟨_, _, rfl⟩
theorem OwnV.one (h : OwnV e w base v l) : v.oneCell' = true := by
  rcases h.2 with ⟨rfl, _⟩ | ⟨g, cap, cur, rfl, _⟩ <;> rfl
/-- its cells -/
theorem OwnV.at (h : OwnV e w base v l) (h0 : 0 < l.length) : ∃ g c, v = .slice (some ⟨g, 0, none⟩) l.length c ∧ base ≤ g ∧ g < w.heap.size ∧ l.length ≤ c ∧ (∀ j, j < l.length → w.cell? ⟨g, j, none⟩ = l[j]?) ∧ (∀ j, w.frozen? ⟨g, j, none⟩ = false) := by
  rcases h.2 with ⟨_, h1⟩ | ⟨g, cap, cur, rfl, hg, hh, hc, _⟩
  · omega
  · have hlt := (h.lt g rfl).2
    exact ⟨g, cap, rfl, hg, hlt, hc, fun j hj => World.ownsRow.cellAt h j (by omega), fun j => World.ownsRow.frozenAt h j⟩
theorem OwnV.stored {g c : Nat} (h : OwnV e w base (.slice (some ⟨g, 0, none⟩) l.length c) l) (j : Nat) (x : Value) : OwnV e (w.setCell ⟨g, j, none⟩ x) base (.slice (some ⟨g, 0, none⟩) l.length c) (l.set j x) := by
  have := World.ownsRow.stored h j x
  unfold OwnV
  rw [List.length_set]
  exact this.1
theorem OwnV.sep (he : e ≠ e') (h : OwnV e w base v l) (h' : OwnV e' w base' u l') : v.ownBlock = none ∨ v.ownBlock ≠ u.ownBlock := by
  rcases h.2 with ⟨rfl, _⟩ | ⟨g, cap, cur, rfl, hb, hg, _⟩
  · exact Or.inl rfl
  · right
    rcases h'.2 with ⟨rfl, _⟩ | ⟨g', cap', cur', rfl, hb', hg', _⟩
    · intro e; cases e
    · intro x
      simp only [Value.ownBlock, Option.some.injEq] at x
      subst x
      rw [hg] at hg'
      injection hg' with hg'
      injection hg' with _ hg'
      exact he hg'
theorem OwnV.sepG {g : Nat} {cs : Array Value} {fz : Nat × Nat} (he : e ≠ e') (h : OwnV e w base v l) (hg : w.heap[g]? = some (.cells cs e' fz)) : some g ≠ v.ownBlock := by
  rcases h.2 with ⟨rfl, _⟩ | ⟨g', cap, cur, rfl, hb, hg', _⟩
  · intro x; cases x
  · intro x
    simp only [Value.ownBlock, Option.some.injEq] at x
    subst x
    rw [hg] at hg'
    injection hg' with hg'
    injection hg' with _ hg'
    exact he hg'.symm
/-- what an append on a slice of another type leaves -/
theorem OwnV.kept (he : e ≠ e') (h : OwnV e w base v l) (h' : OwnV e' w base' u l') (hg : Grew w w' u u') : OwnV e w' base v l := World.ownsRow.kept h hg.grown (OwnV.sep he h h')
theorem AtB.kept {g : Nat} {C : List Value} (he : e ≠ e') (h : AtB w g e' C) (h' : OwnV e w base v l) (hg : Grew w w' v v') : AtB w' g e' C := (hg.grown.block g h.lt (OwnV.sepG he h' h)).trans h
theorem block_kept {g : Nat} (hl : g < w.heap.size) (hg : Grew w w' v v') (hs : some g ≠ v.ownBlock) : w'.heap[g]? = w.heap[g]? := hg.grown.block g hl hs
/-- a store into a block of another type -/
theorem OwnV.setAt {g i : Nat} {x : Value} {C : List Value} (he : e ≠ e') (h : OwnV e w base v l) (hA : AtB w g e' C) : OwnV e (w.setCell ⟨g, i, none⟩ x) base v l := by
  have hs := OwnV.sepG he h hA
  obtain ⟨h1, h2⟩ := h
  refine ⟨h1, ?_⟩
  rcases h2 with h2 | ⟨k, cap, cur, hv, hg, hh, r⟩
  · exact Or.inl h2
  · refine Or.inr ⟨k, cap, cur, hv, hg, ?_, r⟩
    have hne : k ≠ g := fun e => hs (by rw [hv, e]; rfl)
    exact (heap_setCell_other w ⟨g, i, none⟩ k x hne).trans hh
end
/-- 'append(v, x)' -/
theorem app_v (T e : TypeId) (z : Value) (by_ : Nat) (hT : Tryd.prog.underlying T = some (.slice e)) (hinfo : (Tryd.prog.info? e).map (fun i => (i.zero, i.size, i.bytes)) = some (some z, 1, by_)) (hz : z.cells.size = 1) (hby : by_ ≤ 1000)
    {ops : Array Oper} {rest : List Oper} {o : Oper} {a : Act} {Q : Exit → Act → World → Prop} {w0 : World} (hgd : o.guard = none) (s x : Operand)
    (ho : o.op = .call { callee := .builtin .append, args := #[s, x], argTypes := #[T, T] })
    (base : Nat) (v : Value) (l : List Value) (n : Value) (hn : n.oneCell' = true) (hs : a.eval s = v) (hown : OwnV e w0 base v l)
    (hx : a.eval x = .slice (some ⟨w0.heap.size, 0, none⟩) 1 1)
    (hbound : l.length ≤ 1000000000) (hbase : base ≤ w0.heap.size)
    (h : ∀ v' w', OwnV e w' base v' (l ++ [n]) → Below base w0 w' → Grew w0 w' v v' → wpList Tryd.prog ops Q rest (a.put o.dst v') w') :
    wpList Tryd.prog ops Q (o :: rest) a (w0.alloc (.cells #[n] e)) := by
  obtain ⟨i0, hi, hz0, hz1, hz2⟩ := info_parts hinfo
  have hcell : ∀ j u, [n][j]? = some u → (w0.alloc (.cells #[n] e)).cell? ((⟨w0.heap.size, 0, none⟩ : Addr).add j) = some u := by
    intro j u hj
    have e1 : (⟨w0.heap.size, 0, none⟩ : Addr).add j = ⟨w0.heap.size, j, none⟩ := by rw [Addr.add_lit]; simp
    rw [e1]
    unfold World.cell?
    rw [heap_alloc_new]
    simpa using hj
  have hb2 : (l.length + 1) * by_ ≤ 140737488355328 := by
    have : (l.length + 1) * by_ ≤ (1000000000 + 1) * 1000 := Nat.mul_le_mul (by omega) hby
    omega
  obtain ⟨v', w', hr, h2, h3⟩ := run_append_sep (P := Tryd.prog) (w0.alloc (.cells #[n] e)) base T o.type e i0 z 1 by_ hT hi hz0 hz1 hz2 hz (by decide) v l.length l (hown.alloc _)
    ⟨w0.heap.size, 0, none⟩ 1 1 [n] rfl hcell (by intro u hu; rw [List.mem_singleton.1 hu]; exact hn) (by unfold maxLen; omega) hb2 (by simp; omega)
  refine wpList_plain hgd fun K hK => ?_
  unfold Oper.wp execOp
  simp only [ho, resolve, invoke, builtin, Sem.run_bind, Sem.run_pure, Result.andThen_ok, List.map_toArray, List.map_cons, List.map_nil, hs, hx, hr]
  refine hK _ _ (h v' w' ?_ ?_ h3.alloc)
  · unfold OwnV
    rw [List.length_append]
    exact h2
  · refine (((Below.refl base w0).alloc hbase _).grown h3.grown (by simp; omega) ?_)
    intro k hk
    exact (hown.lt k hk).1
end Go.Proofs.YtjldphpdfckjnaaDoor
