/- Slices of strings: those that came in, and those that the call itself made. Plain helpers. -/
import Derived.Test.YtphfcebacilbbaaDoorKit
import Derived.Test.YtphfcebacilbbaaDoorAppT
namespace Go.Proofs.YtphfcebacilbbaaDoor
open Go.RowKit

/-- a slice that reads as some strings -/
def StrsV (w : World) (v : Value) (l : List (List UInt8)) : Prop :=
  ∃ (a : Option Addr) (c : Nat), v = .slice a l.length c ∧ (0 < l.length → ∃ b off, a = some ⟨b, off, none⟩ ∧ b < w.heap.size ∧ ∀ j (h : j < l.length), w.cell? ⟨b, off + j, none⟩ = some (.string (S l[j])))
theorem StrsV.below {w w' : World} {v : Value} {l : List (List UInt8)} {B : Nat} (h : StrsV w v l) (hb : Below B w w') (hB : w.heap.size ≤ B) : StrsV w' v l := by
  obtain ⟨a, c, h1, h2⟩ := h
  refine ⟨a, c, h1, fun hp => ?_⟩
  obtain ⟨b, off, h3, h4, h5⟩ := h2 hp
  exact ⟨b, off, h3, by have := hb.size; omega, fun j hj => by rw [hb.cell (by show b < B; omega)]; exact h5 j hj⟩
def sv (s : List UInt8) : Value := .string (S s)
theorem sv_one (l : List (List UInt8)) : ∀ u ∈ l.map sv, u.oneCell' = true := by
  intro u hu
  obtain ⟨b, _, rfl⟩ := List.mem_map.1 hu
  rfl
theorem info_str : (Tryd.prog.info? 9).map (fun i => (i.zero, i.size, i.bytes)) = some (some (.string ⟨#[]⟩), 1, 16) := by kernel_rfl
/-- a slice of strings that the call itself made -/
def OwnS (w : World) (base : Nat) (v : Value) (l : List (List UInt8)) : Prop := w.ownsRow base 9 1 v l.length (l.map sv)
theorem OwnS.nil (w : World) (base : Nat) : OwnS w base (.slice none 0 0) [] := World.ownsRow_nil _ _ _ _
theorem OwnS.drewN {w : World} {base n : Nat} {v : Value} {l : List (List UInt8)} (h : OwnS w base v l) : OwnS (w.drewN n) base v l := h
theorem OwnS.alloc {w : World} {base : Nat} {v : Value} {l : List (List UInt8)} (h : OwnS w base v l) (o : Obj) : OwnS (w.alloc o) base v l := World.ownsRow.alloc h o
theorem OwnS.below {w w' : World} {base B : Nat} {v : Value} {l : List (List UInt8)} (h : OwnS w base v l) (hb : Below B w w') (hB : w.heap.size ≤ B) : OwnS w' base v l := by
  obtain ⟨h1, h2⟩ := h
  refine ⟨h1, ?_⟩
  rcases h2 with h2 | ⟨g, cap, cur, hv, hg, hh, r⟩
  · exact Or.inl h2
  · have hlt : g < w.heap.size := by
      rcases Nat.lt_or_ge g w.heap.size with h | h
      · exact h
      · rw [Array.getElem?_eq_none h] at hh; cases hh
    exact Or.inr ⟨g, cap, cur, hv, hg, by rw [hb.block g (by omega)]; exact hh, r⟩
theorem OwnS.base {w : World} {base base' : Nat} {v : Value} {l : List (List UInt8)} (h : OwnS w base v l) (hb : base' ≤ base) : OwnS w base' v l := by
  obtain ⟨h1, h2⟩ := h
  refine ⟨h1, ?_⟩
  rcases h2 with h2 | ⟨g, cap, cur, hv, hg, r⟩
  · exact Or.inl h2
  · exact Or.inr ⟨g, cap, cur, hv, by omega, r⟩
theorem OwnS.strs {w : World} {base : Nat} {v : Value} {l : List (List UInt8)} (h : OwnS w base v l) : StrsV w v l := by
  have hc := h
  obtain ⟨h1, h2⟩ := h
  rcases h2 with ⟨rfl, h0⟩ | ⟨g, cap, cur, rfl, hg, hh, r⟩
  · refine ⟨none, 0, ?_, fun hp => ?_⟩
    · rw [h0]
    · omega
  · refine ⟨some ⟨g, 0, none⟩, cap, rfl, fun _ => ⟨g, 0, rfl, ?_, fun j hj => ?_⟩⟩
    · rcases Nat.lt_or_ge g w.heap.size with h | h
      · exact h
      · rw [Array.getElem?_eq_none h] at hh; cases hh
    · have hcells := hc.cells (g := g) rfl
      have := hcells j (sv l[j]) (by rw [List.getElem?_map, List.getElem?_eq_getElem hj]; rfl)
      rw [Addr.add_lit] at this
      exact this
/-- 'append(v, s)' on a slice of strings of the call's own -/
theorem app_str {ops : Array Oper} {rest : List Oper} {o : Oper} {a : Act} {Q : Exit → Act → World → Prop} {w0 : World} (hgd : o.guard = none) (s x : Operand)
    (ho : o.op = .call { callee := .builtin .append, args := #[s, x], argTypes := #[70, 70] })
    (base : Nat) (v : Value) (l : List (List UInt8)) (n : List UInt8) (hs : a.eval s = v) (hown : OwnS w0 base v l)
    (hx : a.eval x = .slice (some ⟨w0.heap.size, 0, none⟩) 1 1)
    (hbound : l.length ≤ 1000000000) (hbase : base ≤ w0.heap.size)
    (h : ∀ v' w', OwnS w' base v' (l ++ [n]) → Below base w0 w' → Grew w0 w' v v' → wpList Tryd.prog ops Q rest (a.put o.dst v') w') :
    wpList Tryd.prog ops Q (o :: rest) a (w0.alloc (.cells #[.string (S n)] 9)) := by
  obtain ⟨i0, hi, hz0, hz1, hz2⟩ := info_parts info_str
  have hcell : ∀ j u, [Value.string (S n)][j]? = some u → (w0.alloc (.cells #[.string (S n)] 9)).cell? ((⟨w0.heap.size, 0, none⟩ : Addr).add j) = some u := by
    intro j u hj
    have e : (⟨w0.heap.size, 0, none⟩ : Addr).add j = ⟨w0.heap.size, j, none⟩ := by rw [Addr.add_lit]; simp
    rw [e]
    unfold World.cell?
    rw [heap_alloc_new]
    simpa using hj
  obtain ⟨v', w', hr, h2, h3⟩ := run_append_sep (P := Tryd.prog) (w0.alloc (.cells #[.string (S n)] 9)) base 70 o.type 9 i0 (.string ⟨#[]⟩) 1 16 Tryd.underlying70 hi hz0 hz1 hz2 rfl (by decide) v l.length (l.map sv) (hown.alloc _)
    ⟨w0.heap.size, 0, none⟩ 1 1 [.string (S n)] rfl hcell (by intro u hu; rw [List.mem_singleton.1 hu]; rfl) (by unfold maxLen; omega) (by omega) (by simp; omega)
  refine wpList_plain hgd fun K hK => ?_
  unfold Oper.wp execOp
  simp only [ho, resolve, invoke, builtin, Sem.run_bind, Sem.run_pure, Result.andThen_ok, List.map_toArray, List.map_cons, List.map_nil, hs, hx, hr]
  refine hK _ _ (h v' w' ?_ ?_ h3.alloc)
  · unfold OwnS
    rw [List.map_append, List.length_append]
    exact h2
  · refine (((Below.refl base w0).alloc hbase _).grown h3.grown (by simp; omega) ?_)
    intro k hk
    exact (hown.lt k hk).1
end Go.Proofs.YtphfcebacilbbaaDoor
