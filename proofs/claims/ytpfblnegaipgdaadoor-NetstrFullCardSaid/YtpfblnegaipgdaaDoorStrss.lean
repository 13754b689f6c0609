/- Slices of slices of strings. Plain helpers. -/
import Derived.Test.YtpfblnegaipgdaaDoorStrs
namespace Go.Proofs.YtpfblnegaipgdaaDoor
open Go.RowKit

theorem info_strs : (Tryd.prog.info? 22).map (fun i => (i.zero, i.size, i.bytes)) = some (some (.slice none 0 0), 1, 24) := by kernel_rfl
/-- a slice that reads as some slices of strings -/
def LstsV (w : World) (v : Value) (L : List (List (List UInt8))) : Prop :=
  ∃ (a : Option Addr) (c : Nat), v = .slice a L.length c ∧ (0 < L.length → ∃ b off, a = some ⟨b, off, none⟩ ∧ b < w.heap.size ∧ ∀ j (h : j < L.length), ∃ u, w.cell? ⟨b, off + j, none⟩ = some u ∧ StrsV w u L[j])
theorem LstsV.below {w w' : World} {v : Value} {L : List (List (List UInt8))} {B : Nat} (h : LstsV w v L) (hb : Below B w w') (hB : w.heap.size ≤ B) : LstsV w' v L := by
  obtain ⟨a, c, h1, h2⟩ := h
  refine ⟨a, c, h1, fun hp => ?_⟩
  obtain ⟨b, off, h3, h4, h5⟩ := h2 hp
  exact ⟨b, off, h3, by have := hb.size; omega, fun j hj => by
    obtain ⟨u, hu, hs⟩ := h5 j hj
    exact ⟨u, by rw [hb.cell (by show b < B; omega)]; exact hu, hs.below hb hB⟩⟩
/-- a slice of slices that the call itself made, and so its rows -/
def OwnL (w : World) (base : Nat) (v : Value) (L : List (List (List UInt8))) : Prop :=
  ∃ vs : List Value, vs.length = L.length ∧ w.ownsRow base 22 1 v L.length vs ∧ (∀ u ∈ vs, u.oneCell' = true) ∧ ∀ j (h : j < L.length) (h' : j < vs.length), OwnS w base vs[j] L[j]
theorem OwnL.nil (w : World) (base : Nat) : OwnL w base (.slice none 0 0) [] := ⟨[], rfl, World.ownsRow_nil _ _ _ _, (fun _ hu => by cases hu), fun _ hj => absurd hj (Nat.not_lt_zero _)⟩
theorem OwnL.lit0 (w : World) : OwnL (w.alloc (.cells #[] 22)) w.heap.size (.slice (some ⟨w.heap.size, 0, none⟩) 0 0) [] :=
  ⟨[], rfl, World.ownsRow_lit (base := w.heap.size) (e := 22) (size := 1) w #[] 0 (Nat.le_refl _) (by unfold maxLen; omega) rfl, (fun _ hu => by cases hu), fun _ hj => absurd hj (Nat.not_lt_zero _)⟩
theorem row_below {w w' : World} {base B : Nat} {e : TypeId} {v : Value} {n : Nat} {xs : List Value} (h : w.ownsRow base e 1 v n xs) (hb : Below B w w') (hB : w.heap.size ≤ B) : w'.ownsRow base e 1 v n xs := by
  obtain ⟨h1, h2⟩ := h
  refine ⟨h1, ?_⟩
  rcases h2 with h2 | ⟨g, cap, cur, hv, hg, hh, r⟩
  · exact Or.inl h2
  · have hlt : g < w.heap.size := by
      rcases Nat.lt_or_ge g w.heap.size with h | h
      · exact h
      · rw [Array.getElem?_eq_none h] at hh; cases hh
    exact Or.inr ⟨g, cap, cur, hv, hg, by rw [hb.block g (by omega)]; exact hh, r⟩
theorem OwnL.below {w w' : World} {base B : Nat} {v : Value} {L : List (List (List UInt8))} (h : OwnL w base v L) (hb : Below B w w') (hB : w.heap.size ≤ B) : OwnL w' base v L := by
  obtain ⟨vs, h1, h2, h3, h4⟩ := h
  exact ⟨vs, h1, row_below h2 hb hB, h3, fun j hj hj' => (h4 j hj hj').below hb hB⟩
theorem OwnL.lsts {w : World} {base : Nat} {v : Value} {L : List (List (List UInt8))} (h : OwnL w base v L) : LstsV w v L := by
  obtain ⟨vs, hlen, hown, _, hrow⟩ := h
  have hc := hown
  obtain ⟨h1, h2⟩ := hown
  rcases h2 with ⟨rfl, h0⟩ | ⟨g, cap, cur, rfl, hg, hh, r⟩
  · exact ⟨none, 0, by rw [h0], fun hp => by omega⟩
  · refine ⟨some ⟨g, 0, none⟩, cap, rfl, fun _ => ⟨g, 0, rfl, ?_, fun j hj => ?_⟩⟩
    · rcases Nat.lt_or_ge g w.heap.size with h | h
      · exact h
      · rw [Array.getElem?_eq_none h] at hh; cases hh
    · have hj' : j < vs.length := by omega
      have hcells := hc.cells (g := g) rfl
      have := hcells j vs[j] (List.getElem?_eq_getElem hj')
      rw [Addr.add_lit] at this
      exact ⟨vs[j], this, (hrow j hj hj').strs⟩
/-- a row of strings lies apart from a row of slices -/
theorem OwnS.apart {w w' : World} {base base' : Nat} {v u : Value} {L : List (List (List UInt8))} {l : List (List UInt8)} (h : OwnS w base u l) (hL : OwnL w base' v L) (hg : w.grownBy w' v.ownBlock) : OwnS w' base u l := by
  obtain ⟨vs, _, hown, _, _⟩ := hL
  obtain ⟨h1, h2⟩ := h
  refine ⟨h1, ?_⟩
  rcases h2 with h2 | ⟨g, cap, cur, hv, hgb, hh, r⟩
  · exact Or.inl h2
  · refine Or.inr ⟨g, cap, cur, hv, hgb, ?_, r⟩
    have hlt : g < w.heap.size := by
      rcases Nat.lt_or_ge g w.heap.size with h | h
      · exact h
      · rw [Array.getElem?_eq_none h] at hh; cases hh
    rw [hg.block g hlt]
    · exact hh
    · intro e
      rcases hown.2 with ⟨rfl, _⟩ | ⟨g', cap', cur', rfl, _, hh', _⟩
      · cases e
      · have : g = g' := by injection e
        subst this
        rw [hh] at hh'
        injection hh' with e1
        injection e1 with _ e2
        exact absurd e2 (by decide)
/-- 'append(v, u)' on a slice of slices of the call's own -/
theorem app_lst {ops : Array Oper} {rest : List Oper} {o : Oper} {a : Act} {Q : Exit → Act → World → Prop} {w0 : World} (hgd : o.guard = none) (s x : Operand)
    (ho : o.op = .call { callee := .builtin .append, args := #[s, x], argTypes := #[43, 43] })
    (base : Nat) (v u : Value) (L : List (List (List UInt8))) (l : List (List UInt8)) (hs : a.eval s = v) (hown : OwnL w0 base v L) (hu : OwnS w0 base u l) (h1u : u.oneCell' = true)
    (hx : a.eval x = .slice (some ⟨w0.heap.size, 0, none⟩) 1 1)
    (hbound : L.length ≤ 1000000000) (hbase : base ≤ w0.heap.size)
    (h : ∀ v' w', OwnL w' base v' (L ++ [l]) → Below base w0 w' → wpList Tryd.prog ops Q rest (a.put o.dst v') w') :
    wpList Tryd.prog ops Q (o :: rest) a (w0.alloc (.cells #[u] 22)) := by
  obtain ⟨i0, hi, hz0, hz1, hz2⟩ := info_parts info_strs
  have hO := hown
  obtain ⟨vs, hlen, hrow, hone, hins⟩ := hown
  have hcell : ∀ j u', [u][j]? = some u' → (w0.alloc (.cells #[u] 22)).cell? ((⟨w0.heap.size, 0, none⟩ : Addr).add j) = some u' := by
    intro j u' hj
    have e : (⟨w0.heap.size, 0, none⟩ : Addr).add j = ⟨w0.heap.size, j, none⟩ := by rw [Addr.add_lit]; simp
    rw [e]
    unfold World.cell?
    rw [heap_alloc_new]
    simpa using hj
  have ha : Below w0.heap.size w0 (w0.alloc (.cells #[u] 22)) := (Below.refl _ _).alloc (Nat.le_refl _) _
  have hO2 := hO.below ha (Nat.le_refl _)
  have hu2 := hu.below ha (Nat.le_refl _)
  obtain ⟨v', w', hr, h2, h3⟩ := run_append_sep (P := Tryd.prog) (w0.alloc (.cells #[u] 22)) base 43 o.type 22 i0 (.slice none 0 0) 1 24 Tryd.underlying43 hi hz0 hz1 hz2 rfl (by decide) v L.length vs (row_below hrow ha (Nat.le_refl _))
    ⟨w0.heap.size, 0, none⟩ 1 1 [u] rfl hcell (by intro x hx; rw [List.mem_singleton.1 hx]; exact h1u) (by unfold maxLen; omega) (by omega) (by simp; omega)
  refine wpList_plain hgd fun K hK => ?_
  unfold Oper.wp execOp
  simp only [ho, resolve, invoke, builtin, Sem.run_bind, Sem.run_pure, Result.andThen_ok, List.map_toArray, List.map_cons, List.map_nil, hs, hx, hr]
  refine hK _ _ (h v' w' ⟨vs ++ [u], by simp [hlen], ?_, ?_, ?_⟩ ?_)
  · rw [List.length_append]; exact h2
  · intro x hx
    rcases List.mem_append.1 hx with g | g
    · exact hone x g
    · rw [List.mem_singleton.1 g]; exact h1u
  · intro j hj hj'
    rw [List.length_append, List.length_singleton] at hj
    by_cases hjl : j < L.length
    · have e1 : (L ++ [l])[j]'(by rw [List.length_append, List.length_singleton]; omega) = L[j] := List.getElem_append_left hjl
      have e2 : (vs ++ [u])[j]'hj' = vs[j]'(by omega) := List.getElem_append_left (by omega)
      rw [e1, e2]
      exact ((hins j hjl (by omega)).below ha (Nat.le_refl _)).apart hO2 h3.grown
    · have ej : j = L.length := by omega
      subst ej
      have e1 : (L ++ [l])[L.length]'(by rw [List.length_append, List.length_singleton]; omega) = l := by simp
      have e2 : (vs ++ [u])[L.length]'hj' = u := by
        rw [List.getElem_append_right (by omega)]; simp
      rw [e1, e2]
      exact hu2.apart hO2 h3.grown
  · refine (((Below.refl base w0).alloc hbase _).grown h3.grown (by simp; omega) ?_)
    intro k hk
    exact (hrow.lt k hk).1
end Go.Proofs.YtpfblnegaipgdaaDoor
