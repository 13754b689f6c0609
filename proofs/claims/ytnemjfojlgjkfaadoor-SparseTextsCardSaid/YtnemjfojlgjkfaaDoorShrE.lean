/- Two slices of the call's own of other elements do not lie in one block; the last piece of one's own pieces; a text put behind bytes. Plain helpers. -/
import Derived.Test.YtnemjfojlgjkfaaDoorShrC
import Derived.Test.YtnemjfojlgjkfaaDoorAppT
namespace Go.Proofs.YtnemjfojlgjkfaaDoor
open Go.RowKit

theorem own_sep {w : World} {base base' : Nat} {e e' : TypeId} {sz sz' n n' : Nat} {v v' : Value} {xs xs' : List Value} (he : e ≠ e') (h : w.ownsRow base e sz v n xs) (h' : w.ownsRow base' e' sz' v' n' xs') : Sep v v' := by
  rcases h.2 with ⟨rfl, _⟩ | ⟨g, cap, cur, rfl, hb, hg, _⟩
  · exact Or.inl rfl
  · right
    rcases h'.2 with ⟨rfl, _⟩ | ⟨g', cap', cur', rfl, hb', hg', _⟩
    · intro e; cases e
    · intro x
      simp only [Value.ownBlock, Option.some.injEq] at x
      subst x
      rw [hg] at hg'
      injection hg' with hg'
      injection hg' with _ hg'
      exact he hg'
theorem own_sepG {w : World} {base : Nat} {e e' : TypeId} {sz n g : Nat} {v : Value} {xs : List Value} {cs : Array Value} {fz : Nat × Nat} (he : e ≠ e') (h : w.ownsRow base e sz v n xs) (hg : w.heap[g]? = some (.cells cs e' fz)) : SepG g v := by
  rcases h.2 with ⟨rfl, _⟩ | ⟨g', cap, cur, rfl, hb, hg', _⟩
  · intro x; cases x
  · intro x
    simp only [Value.ownBlock, Option.some.injEq] at x
    subst x
    rw [hg] at hg'
    injection hg' with hg'
    injection hg' with _ hg'
    exact he hg'.symm
/-- 'append(v, s...)' of a string on a slice of bytes of the call's own: what else lies in memory stays -/
theorem app_textG {ops : Array Oper} {rest : List Oper} {o : Oper} {a : Act} {Q : Exit → Act → World → Prop} {w0 : World} (hgd : o.guard = none) (s x : Operand)
    (ho : o.op = .call { callee := .builtin .append, args := #[s, x], argTypes := #[53, 9] })
    (base : Nat) (v : Value) (l n : List UInt8) (hs : a.eval s = v) (hown : OwnB w0 base v l)
    (hx : a.eval x = .string (S n))
    (hbound : l.length + n.length ≤ 140737488355328) (hbase : base ≤ w0.heap.size)
    (h : ∀ v' w', OwnB w' base v' (l ++ n) → Below base w0 w' → w0.grownBy w' v.ownBlock → wpList Tryd.prog ops Q rest (a.put o.dst v') w') :
    wpList Tryd.prog ops Q (o :: rest) a w0 := by
  obtain ⟨i0, hi, hz0, hz1, hz2⟩ := info_parts info_u8
  refine Lib.wpList_append_own_string w0 hgd s x 53 9 ho base 5 i0 Tryd.underlying53 Tryd.underlying9 hi hz0 hz1 hz2 v l.length (l.map bv) hs hown (S n) hx (by rw [S_size]; unfold maxLen; omega) (by rw [S_size]; exact hbound) hbase ?_
  intro v' w' h2 h3 _
  refine h v' w' ?_ ?_ h3
  · unfold OwnB
    rw [List.map_append, List.length_append]
    rw [S_size] at h2
    exact h2
  · refine (Below.refl base w0).grown h3 hbase ?_
    intro k hk
    exact (hown.lt k hk).1
theorem flat_set (t : Pcs) (p : Int × Int) (y : Int) : ((t ++ [p]).flatMap pc).set (t.length * 2 + 1) (.int .i64 y) = (t ++ [(p.1, y)]).flatMap pc := by
  rw [List.flatMap_append, List.flatMap_append, List.set_append_right _ _ (by rw [flatMap_len pc 2 pc_len]; omega), flatMap_len pc 2 pc_len, show t.length * 2 + 1 - t.length * 2 = 1 by omega]
  rfl
/-- the last of one's own pieces -/
theorem own_last {e : TypeId} {w : World} {base : Nat} {v : Value} {t : Pcs} {p : Int × Int} (h : OwnR pc e 2 w base v (t ++ [p])) :
    ∃ g cap, v = .slice (some ⟨g, 0, none⟩) (t.length + 1) cap ∧ base ≤ g ∧ g < w.heap.size ∧ w.cell? ⟨g, t.length * 2, none⟩ = some (.int .i64 p.1) ∧ w.cell? ⟨g, t.length * 2 + 1, none⟩ = some (.int .i64 p.2) ∧ w.frozen? ⟨g, t.length * 2 + 1, none⟩ = false ∧
      (∀ y : Int, OwnR pc e 2 (w.setCell ⟨g, t.length * 2 + 1, none⟩ (.int .i64 y)) base v (t ++ [(p.1, y)])) ∧ ∃ cs, w.heap[g]? = some (.cells cs e (0, 0)) := by
  have hl : (t ++ [p]).length = t.length + 1 := by simp
  have hcl : ((t ++ [p]).flatMap pc).length = t.length * 2 + 2 := by rw [flatMap_len pc 2 pc_len, hl]; omega
  unfold OwnR at h
  rw [hl] at h
  rcases h.2 with ⟨_, h0⟩ | ⟨g, cap, cur, rfl, hb, hg, _⟩
  · omega
  · have c0 := World.ownsRow.cellAt h (t.length * 2) (by omega)
    have c1 := World.ownsRow.cellAt h (t.length * 2 + 1) (by omega)
    have f0 := World.ownsRow.frozenAt h (t.length * 2 + 1)
    refine ⟨g, cap, rfl, hb, (Array.getElem?_eq_some_iff.1 hg).1, ?_, ?_, f0, ?_, cur, hg⟩
    · rw [c0, List.flatMap_append, List.getElem?_append_right (by rw [flatMap_len pc 2 pc_len]; omega), flatMap_len pc 2 pc_len, Nat.sub_self]; rfl
    · rw [c1, List.flatMap_append, List.getElem?_append_right (by rw [flatMap_len pc 2 pc_len]; omega), flatMap_len pc 2 pc_len, show t.length * 2 + 1 - t.length * 2 = 1 by omega]; rfl
    · intro y
      have := (World.ownsRow.stored h (t.length * 2 + 1) (.int .i64 y)).1
      rw [flat_set] at this
      unfold OwnR
      rw [show (t ++ [(p.1, y)]).length = t.length + 1 by simp]
      exact this
theorem OwnB.shape {w : World} {base : Nat} {v : Value} {l : List UInt8} (h : OwnB w base v l) : ∃ a c, v = .slice a l.length c := by
  rcases h.2 with ⟨rfl, h0⟩ | ⟨g, cap, cur, rfl, _⟩
  · exact ⟨none, 0, by rw [h0]⟩
  · exact ⟨_, _, rfl⟩
theorem own_set {e : TypeId} {w : World} {base g n cap : Nat} {t : Pcs} {p : Int × Int} (h : OwnR pc e 2 w base (.slice (some ⟨g, 0, none⟩) n cap) (t ++ [p])) (y : Int) :
    OwnR pc e 2 (w.setCell ⟨g, t.length * 2 + 1, none⟩ (.int .i64 y)) base (.slice (some ⟨g, 0, none⟩) n cap) (t ++ [(p.1, y)]) := by
  obtain ⟨g', cap', hv, _, _, _, _, _, h8, _⟩ := own_last h
  simp only [Value.slice.injEq, Option.some.injEq, Addr.mk.injEq, and_true] at hv
  obtain ⟨rfl, rfl, rfl⟩ := hv
  exact h8 y
/-- a block of a text -/
theorem chunk_slice (s : List UInt8) (i : Nat) : (S s).extract (512 * i) (min (512 * i + 512) s.length) = S (chunkL s i) := by
  rw [S_extract]
  unfold chunkL
  rcases Nat.le_total (512 * i + 512) s.length with h | h
  · rw [Nat.min_eq_left h, Nat.add_sub_cancel_left]
  · rw [Nat.min_eq_right h, List.take_of_length_le (l := s.drop (512 * i)) (by rw [List.length_drop]; omega), List.take_of_length_le (by rw [List.length_drop]; omega)]
end Go.Proofs.YtnemjfojlgjkfaaDoor
