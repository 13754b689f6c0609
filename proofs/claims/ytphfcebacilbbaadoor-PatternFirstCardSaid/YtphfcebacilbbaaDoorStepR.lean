/- 'append(v, x)' on a slice of the call's own, as a step of a region that draws. Plain helpers. -/
import Derived.Test.YtphfcebacilbbaaDoorRowk
namespace Go.Proofs.YtphfcebacilbbaaDoor
open Go.RowKit

theorem step_app_row {α : Type} (f : α → List Value) (T e : TypeId) (sz bytes : Nat) (z : Value) (hf : ∀ a, (f a).length = sz) (h1c : ∀ a, ∀ u ∈ f a, u.oneCell' = true) (hT : Tryd.prog.underlying T = some (.slice e))
    (hinfo : (Tryd.prog.info? e).map (fun i => (i.zero, i.size, i.bytes)) = some (some z, sz, bytes)) (hzs : z.cells.size = sz) (hsz : 0 < sz) (hby : bytes ≤ 1000)
    {ops : Array Oper} {o : Oper} {a : Act} {K : Act → World → Prop} {Q : Exit → Act → World → Prop} {E : Prop} {w0 : World} (hgd : o.guard = none) (s x : Operand)
    (ho : o.op = .call { callee := .builtin .append, args := #[s, x], argTypes := #[T, T] })
    (base : Nat) (v : Value) (l : List α) (n : α) (hs : a.eval s = v) (hown : OwnR f e sz w0 base v l) (g : Nat)
    (hx : a.eval x = .slice (some ⟨g, 0, none⟩) 1 1) (hc : ∀ j u, (f n)[j]? = some u → w0.cell? ⟨g, j, none⟩ = some u)
    (hbound : l.length ≤ 1000000000) (hbase : base ≤ w0.heap.size)
    (h : ∀ v' w', OwnR f e sz w' base v' (l ++ [n]) → Below base w0 w' → Grew w0 w' v v' → K (a.put o.dst v') w') :
    if Region.wanted o (yielded ops a.tmps) = true then o.wp Tryd.prog a w0 K Q else E := by
  have hw : Region.wanted o (yielded ops a.tmps) = true := by simp [Region.wanted, hgd]
  rw [if_pos hw]
  obtain ⟨i0, hi, hz0, hz1, hz2⟩ := info_parts hinfo
  obtain ⟨v', w', hr, h2, h3⟩ := run_append_sep (P := Tryd.prog) w0 base T o.type e i0 z sz bytes hT hi hz0 hz1 hz2 hzs hsz v l.length (l.flatMap f) hown
    ⟨g, 0, none⟩ 1 1 (f n) (by rw [hf, Nat.one_mul]) (fun j u hj => by
      have e : (⟨g, 0, none⟩ : Addr).add j = ⟨g, j, none⟩ := by rw [Addr.add_lit]; simp
      rw [e]
      exact hc j u hj) (h1c n) (by unfold maxLen; omega) (by
      have : (l.length + 1) * bytes ≤ (l.length + 1) * 1000 := Nat.mul_le_mul_left _ hby
      omega) hbase
  unfold Oper.wp execOp
  simp only [ho, resolve, invoke, builtin, Sem.run_bind, Sem.run_pure, Result.andThen_ok, List.map_toArray, List.map_cons, List.map_nil, hs, hx, hr]
  refine h v' w' ?_ ?_ h3
  · unfold OwnR
    rw [List.flatMap_append, List.length_append, List.flatMap_singleton]
    exact h2
  · refine (Below.refl base w0).grown h3.grown hbase ?_
    intro k hk
    exact (World.ownsRow.lt hown k hk).1
/-- the cells of a row that has just been laid -/
theorem cells_row (w : World) (C : Array Value) (e : TypeId) (l : List Value) (hC : C.toList = l) : ∀ j u, l[j]? = some u → (w.alloc (.cells C e)).cell? ⟨w.heap.size, j, none⟩ = some u := by
  intro j u hj
  subst hC
  simp only [Array.getElem?_toList] at hj
  rw [World.cell?_alloc_at _ _ _ _ rfl]
  exact hj
end Go.Proofs.YtphfcebacilbbaaDoor
