/- Slices whose elements have some cells each: those that came in, and those that the call itself made. Plain helpers. -/
import Derived.Test.YtphfcebacilbbaaDoorKit
import Derived.Laws.OwnMore
namespace Go.Proofs.YtphfcebacilbbaaDoor
open Go.RowKit

theorem flatMap_at {α : Type} (f : α → List Value) (sz : Nat) (hf : ∀ a, (f a).length = sz) : ∀ (l : List α) (j i : Nat) (h : j < l.length) (_ : i < sz), (l.flatMap f)[j * sz + i]? = (f l[j])[i]? := by
  intro l
  induction l with
  | nil => intro j i h; cases h
  | cons x l ih =>
    intro j i h hi
    rw [List.flatMap_cons]
    cases j with
    | zero =>
      rw [Nat.zero_mul, Nat.zero_add, List.getElem?_append_left (by rw [hf]; exact hi)]
      rfl
    | succ j =>
      have e : (j + 1) * sz = sz + j * sz := by rw [Nat.succ_mul, Nat.add_comm]
      rw [List.getElem?_append_right (by rw [hf, e]; omega), hf, e]
      rw [show sz + j * sz + i - sz = j * sz + i by omega, ih j i (by simpa using h) hi]
      rfl
theorem flatMap_len {α : Type} (f : α → List Value) (sz : Nat) (hf : ∀ a, (f a).length = sz) (l : List α) : (l.flatMap f).length = l.length * sz := by
  induction l with
  | nil => simp
  | cons x l ih => rw [List.flatMap_cons, List.length_append, hf, ih, List.length_cons, Nat.succ_mul, Nat.add_comm]

/-- a slice that reads as some elements -/
def RowsV {α : Type} (f : α → List Value) (sz : Nat) (w : World) (v : Value) (l : List α) : Prop :=
  ∃ (a : Option Addr) (c : Nat), v = .slice a l.length c ∧ (0 < l.length → ∃ b off, a = some ⟨b, off, none⟩ ∧ b < w.heap.size ∧ ∀ j (h : j < l.length) i u, (f l[j])[i]? = some u → w.cell? ⟨b, off + j * sz + i, none⟩ = some u)
theorem RowsV.below {α : Type} {f : α → List Value} {sz : Nat} {w w' : World} {v : Value} {l : List α} {B : Nat} (h : RowsV f sz w v l) (hb : Below B w w') (hB : w.heap.size ≤ B) : RowsV f sz w' v l := by
  obtain ⟨a, c, h1, h2⟩ := h
  refine ⟨a, c, h1, fun hp => ?_⟩
  obtain ⟨b, off, h3, h4, h5⟩ := h2 hp
  exact ⟨b, off, h3, by have := hb.size; omega, fun j hj i u hu => by rw [hb.cell (by show b < B; omega)]; exact h5 j hj i u hu⟩
theorem RowsV.nil {α : Type} (f : α → List Value) (sz : Nat) (w : World) (c : Nat) : RowsV f sz w (.slice none 0 c) [] := ⟨none, c, rfl, fun h => absurd h (Nat.lt_irrefl _)⟩
/-- a slice of such elements that the call itself made -/
def OwnR {α : Type} (f : α → List Value) (e : TypeId) (sz : Nat) (w : World) (base : Nat) (v : Value) (l : List α) : Prop := w.ownsRow base e sz v l.length (l.flatMap f)
section
variable {α : Type} {f : α → List Value} {e : TypeId} {sz : Nat} {w : World} {base : Nat} {v : Value} {l : List α}
theorem OwnR.nil (f : α → List Value) (e : TypeId) (sz : Nat) (w : World) (base : Nat) : OwnR f e sz w base (.slice none 0 0) [] := World.ownsRow_nil _ _ _ _
theorem OwnR.drewN {n : Nat} (h : OwnR f e sz w base v l) : OwnR f e sz (w.drewN n) base v l := h
theorem OwnR.alloc (h : OwnR f e sz w base v l) (o : Obj) : OwnR f e sz (w.alloc o) base v l := World.ownsRow.alloc h o
theorem OwnR.below {w' : World} {B : Nat} (h : OwnR f e sz w base v l) (hb : Below B w w') (hB : w.heap.size ≤ B) : OwnR f e sz w' base v l := by
  obtain ⟨h1, h2⟩ := h
  refine ⟨h1, ?_⟩
  rcases h2 with h2 | ⟨g, cap, cur, hv, hg, hh, r⟩
  · exact Or.inl h2
  · have hlt : g < w.heap.size := by
      rcases Nat.lt_or_ge g w.heap.size with h | h
      · exact h
      · rw [Array.getElem?_eq_none h] at hh; cases hh
    exact Or.inr ⟨g, cap, cur, hv, hg, by rw [hb.block g (by omega)]; exact hh, r⟩
theorem OwnR.rebase {base' : Nat} (h : OwnR f e sz w base v l) (hb : base' ≤ base) : OwnR f e sz w base' v l := by
  obtain ⟨h1, h2⟩ := h
  refine ⟨h1, ?_⟩
  rcases h2 with h2 | ⟨g, cap, cur, hv, hg, r⟩
  · exact Or.inl h2
  · exact Or.inr ⟨g, cap, cur, hv, by omega, r⟩
theorem OwnR.shape (h : OwnR f e sz w base v l) : ∃ a c, v = .slice a l.length c := by
  rcases h.2 with ⟨rfl, h0⟩ | ⟨g, cap, cur, rfl, _⟩
  · exact ⟨none, 0, by rw [h0]⟩
  · exact ⟨_, _, rfl⟩
theorem OwnR.rows (hf : ∀ a, (f a).length = sz) (h : OwnR f e sz w base v l) : RowsV f sz w v l := by
  have hc := h
  obtain ⟨h1, h2⟩ := h
  rcases h2 with ⟨rfl, h0⟩ | ⟨g, cap, cur, rfl, hg, hh, r⟩
  · refine ⟨none, 0, ?_, fun hp => ?_⟩
    · rw [h0]
    · omega
  · refine ⟨some ⟨g, 0, none⟩, cap, rfl, fun _ => ⟨g, 0, rfl, ?_, fun j hj i u hu => ?_⟩⟩
    · rcases Nat.lt_or_ge g w.heap.size with h | h
      · exact h
      · rw [Array.getElem?_eq_none h] at hh; cases hh
    · have hcells := World.ownsRow.cells hc (g := g) rfl
      have hi : i < sz := by
        rcases Nat.lt_or_ge i sz with x | x
        · exact x
        · rw [List.getElem?_eq_none (by rw [hf]; exact x)] at hu; cases hu
      have := hcells (j * sz + i) u (by rw [flatMap_at f sz hf l j i hj hi]; exact hu)
      rw [Addr.add_lit] at this
      rw [← this]
      congr 2
      omega
end
/-- the cells of one element, at the head of a fresh block -/
theorem row_new {α : Type} (f : α → List Value) (w : World) (C : Array Value) (e : TypeId) (n : α) (hC : C.toList = f n) :
    ∀ j u, (f n)[j]? = some u → (w.alloc (.cells C e)).cell? ((⟨w.heap.size, 0, none⟩ : Addr).add j) = some u := by
  intro j u hj
  rw [← hC] at hj
  have e : (⟨w.heap.size, 0, none⟩ : Addr).add j = ⟨w.heap.size, j, none⟩ := by rw [Addr.add_lit]; simp
  rw [e]
  simp only [Array.getElem?_toList] at hj
  unfold World.cell?
  rw [heap_alloc_new]
  exact hj
/-- 'append(v, x)' on a slice of such elements of the call's own -/
theorem app_row {α : Type} (f : α → List Value) (T e : TypeId) (sz bytes : Nat) (z : Value) (hf : ∀ a, (f a).length = sz) (h1c : ∀ a, ∀ u ∈ f a, u.oneCell' = true) (hT : Tryd.prog.underlying T = some (.slice e))
    (hinfo : (Tryd.prog.info? e).map (fun i => (i.zero, i.size, i.bytes)) = some (some z, sz, bytes)) (hzs : z.cells.size = sz) (hsz : 0 < sz) (hby : bytes ≤ 1000)
    {ops : Array Oper} {rest : List Oper} {o : Oper} {a : Act} {Q : Exit → Act → World → Prop} {w0 : World} (hgd : o.guard = none) (s x : Operand)
    (ho : o.op = .call { callee := .builtin .append, args := #[s, x], argTypes := #[T, T] })
    (base : Nat) (v : Value) (l : List α) (n : α) (C : Array Value) (hC : C.toList = f n) (hs : a.eval s = v) (hown : OwnR f e sz w0 base v l)
    (hx : a.eval x = .slice (some ⟨w0.heap.size, 0, none⟩) 1 1)
    (hbound : l.length ≤ 1000000000) (hbase : base ≤ w0.heap.size)
    (h : ∀ v' w', OwnR f e sz w' base v' (l ++ [n]) → Below base w0 w' → Grew w0 w' v v' → wpList Tryd.prog ops Q rest (a.put o.dst v') w') :
    wpList Tryd.prog ops Q (o :: rest) a (w0.alloc (.cells C e)) := by
  obtain ⟨i0, hi, hz0, hz1, hz2⟩ := info_parts hinfo
  obtain ⟨v', w', hr, h2, h3⟩ := run_append_sep (P := Tryd.prog) (w0.alloc (.cells C e)) base T o.type e i0 z sz bytes hT hi hz0 hz1 hz2 hzs hsz v l.length (l.flatMap f) (hown.alloc _)
    ⟨w0.heap.size, 0, none⟩ 1 1 (f n) (by rw [hf, Nat.one_mul]) (row_new f w0 C e n hC) (h1c n) (by unfold maxLen; omega) (by
      have : (l.length + 1) * bytes ≤ (l.length + 1) * 1000 := Nat.mul_le_mul_left _ hby
      omega) (by simp; omega)
  refine wpList_plain hgd fun K hK => ?_
  unfold Oper.wp execOp
  simp only [ho, resolve, invoke, builtin, Sem.run_bind, Sem.run_pure, Result.andThen_ok, List.map_toArray, List.map_cons, List.map_nil, hs, hx, hr]
  refine hK _ _ (h v' w' ?_ ?_ h3.alloc)
  · unfold OwnR
    rw [List.flatMap_append, List.length_append, List.flatMap_singleton]
    exact h2
  · refine (((Below.refl base w0).alloc hbase _).grown h3.grown (by simp; omega) ?_)
    intro k hk
    exact (World.ownsRow.lt hown k hk).1
end Go.Proofs.YtphfcebacilbbaaDoor
