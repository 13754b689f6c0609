/- boulterref06.Parse: plain parts. -/
import Derived.Test.YtjoalambgckchaaDoorRecI
namespace Go.Proofs.YtjoalambgckchaaDoor
open Go.RowKit Go.Lib

theorem OwnP.lit0 (w : World) : OwnP (w.alloc (.cells #[] 25)) w.heap.size (.slice (some ⟨w.heap.size, 0, none⟩) 0 0) [] :=
  World.ownsRow_lit w #[] 0 (Nat.le_refl _) (by decide) rfl
/-- the number that stands from a place on, and how many digits it has -/
theorem drop_get (s : List UInt8) (a k : Nat) : (s.drop a)[k]? = s[a + k]? := List.getElem?_drop
theorem take_drop_snoc (s : List UInt8) (a k : Nat) (h : a + k < s.length) : (s.drop a).take (k + 1) = (s.drop a).take k ++ [(S s)[a + k]'(by rw [S_size]; exact h)] := by
  have h2 : k < (s.drop a).length := by rw [List.length_drop]; omega
  rw [List.take_succ_eq_append_getElem h2]
  congr 2
  rw [List.getElem_drop]; rfl
/-- where the first '=' stands in a part -/
theorem tw_at (b : List UInt8) (j : Nat) (hj : j ≤ b.length) (h : ∀ m (hm : m < b.length), m < j → b[m] ≠ 61) (hs : j = b.length ∨ ∃ h : j < b.length, b[j] = 61) : twC 61 b = b.take j ∧ dwC 61 b = b.drop j := by
  unfold twC dwC
  induction b generalizing j with
  | nil => simp
  | cons c b ih =>
    cases j with
    | zero =>
      rcases hs with hs | ⟨_, hs⟩
      · simp at hs
      · have : c = 61 := hs
        subst this
        simp
    | succ j =>
      have hc : c ≠ 61 := h 0 (by simp) (by omega)
      have := ih j (by simpa using hj) (fun m hm hm2 => h (m + 1) (by simpa using hm) (by omega)) (by
        rcases hs with hs | ⟨h1, hs⟩
        · left; simpa using hs
        · right; exact ⟨by simpa using h1, hs⟩)
      rw [List.takeWhile_cons, List.dropWhile_cons, if_pos (by simpa using hc), if_pos (by simpa using hc), this.1, this.2]
      exact ⟨rfl, rfl⟩
theorem getD_S (s : List UInt8) (k j : Nat) (h : k + j < s.length) : (s.drop k)[j]? = some ((S s)[k + j]'(by rw [S_size]; exact h)) := by
  rw [List.getElem?_drop]; exact getS s (k + j) h
theorem headD_S (s : List UInt8) (k : Nat) (h : k < s.length) : (s.drop k).head? = some ((S s)[k]'(by rw [S_size]; exact h)) := by
  rw [List.head?_eq_getElem?, List.getElem?_drop]; exact getS s k h
structure RpInv (w : World) (s : List UInt8) (at_ : Nat) (out : List PR) (v : Value) (wr : World) : Prop where
  fuel : ∃ f, (s.drop at_).length < f ∧ parseF f (s.drop at_) out = parseF (s.length + 1) s []
  outs : out.length ≤ 256
  own : OwnP wr w.heap.size v out
  below : Below w.heap.size w wr
/-- a round of the document's reading: what it tells if it stops, and where it goes on -/
theorem parse_no (f : Nat) (q : List UInt8) (out : List PR) (R : List PR × Nat) (h : parseF (f + 1) q out = R) (h0 : q ≠ []) (h1 : out.length ≠ 256) (h2 : (countF q).2 = 0) : ([], 2) = R := by
  rw [← h, parseF, if_neg h0, if_neg h1, if_pos h2]
theorem parse_short (f : Nat) (q : List UInt8) (out : List PR) (R : List PR × Nat) (h : parseF (f + 1) q out = R) (h0 : q ≠ []) (h1 : out.length ≠ 256) (v n : Nat) (hc : countF q = (v, n)) (hn : n ≠ 0) (h3 : q.length < v) : ([], 3) = R := by
  rw [← h, parseF, if_neg h0, if_neg h1, hc, if_neg hn, if_pos h3]
theorem parse_bad (f : Nat) (q : List UInt8) (out : List PR) (R : List PR × Nat) (h : parseF (f + 1) q out = R) (h0 : q ≠ []) (h1 : out.length ≠ 256) (v n : Nat) (hc : countF q = (v, n)) (hn : n ≠ 0) (h3 : ¬ q.length < v) (ho : oneF (q.take v) n = none) : ([], 2) = R := by
  rw [← h, parseF, if_neg h0, if_neg h1, hc, if_neg hn, if_neg h3]
  simp only [ho]
theorem parse_on (f : Nat) (q : List UInt8) (out : List PR) (R : List PR × Nat) (h : parseF (f + 1) q out = R) (h0 : q ≠ []) (h1 : out.length ≠ 256) (v n : Nat) (hc : countF q = (v, n)) (hn : n ≠ 0) (h3 : ¬ q.length < v) (p : PR) (ho : oneF (q.take v) n = some p) : parseF f (q.drop v) (out ++ [p]) = R := by
  rw [← h, parseF, if_neg h0, if_neg h1, hc, if_neg hn, if_neg h3]
  simp only [ho]
theorem oneF_split (q : List UInt8) (m n : Nat) (hm : m < q.length) (hn : n < m) (h10 : q[m]? = some 10) : oneF (q.take (m + 1)) n = splitP ((q.take m).drop (n + 1)) := by
  have hl : (q.take (m + 1)).length = m + 1 := by rw [List.length_take]; omega
  unfold oneF
  rw [hl, Nat.add_sub_cancel, if_neg, List.take_take, Nat.min_eq_left (Nat.le_succ m)]
  rintro (g | g)
  · omega
  · rw [List.getElem?_take_of_lt (Nat.lt_succ_self m), h10] at g; exact g rfl
theorem oneF_none (q : List UInt8) (m n : Nat) (hm : m < q.length) (h : m ≤ n ∨ q[m]? ≠ some 10) : oneF (q.take (m + 1)) n = none := by
  have hl : (q.take (m + 1)).length = m + 1 := by rw [List.length_take]; omega
  unfold oneF
  rw [hl, Nat.add_sub_cancel, if_pos]
  rcases h with g | g
  · left; omega
  · right; rw [List.getElem?_take_of_lt (Nat.lt_succ_self m)]; exact g
theorem part_get (s : List UInt8) (a n m i : Nat) (hm : a + m < s.length) (hi : n + 1 + i < m) : ((((s.drop a).take m).drop (n + 1)))[i]? = some ((S s)[a + n + 1 + i]'(by rw [S_size]; omega)) := by
  rw [List.getElem?_drop, List.getElem?_take_of_lt (by omega), List.getElem?_drop, show a + (n + 1 + i) = a + n + 1 + i by omega]
  exact getS s (a + n + 1 + i) (by omega)
theorem part_len (s : List UInt8) (a n m : Nat) (hm : a + m < s.length) : ((((s.drop a).take m).drop (n + 1))).length = m - (n + 1) := by
  rw [List.length_drop, List.length_take, List.length_drop]; omega
theorem part_ext1 (s : List UInt8) (a n m j : Nat) (hj : n + 1 + j ≤ m) : (S s).extract (a + n + 1) (a + n + 1 + j) = S ((((s.drop a).take m).drop (n + 1)).take j) := by
  rw [S_extract, show a + n + 1 + j - (a + n + 1) = j by omega, List.drop_take, List.take_take, Nat.min_eq_left (by omega), List.drop_drop, show a + (n + 1) = a + n + 1 by omega]
theorem part_ext2 (s : List UInt8) (a n m j : Nat) : (S s).extract (a + n + 1 + j + 1) (a + m) = S ((((s.drop a).take m).drop (n + 1)).drop (j + 1)) := by
  rw [S_extract, List.drop_drop, List.drop_take, List.drop_drop, show a + (n + 1 + (j + 1)) = a + n + 1 + j + 1 by omega, show a + m - (a + n + 1 + j + 1) = m - (n + 1 + (j + 1)) by omega]
theorem tw_take (c : UInt8) (b : List UInt8) : twC c b = b.take (twC c b).length ∧ dwC c b = b.drop (twC c b).length ∧ (twC c b).length ≤ b.length := by
  have h : twC c b ++ dwC c b = b := by unfold twC dwC; exact List.takeWhile_append_dropWhile
  generalize twC c b = x at *
  generalize dwC c b = y at *
  subst h
  exact ⟨by rw [List.take_left], by rw [List.drop_left], by rw [List.length_append]; omega⟩
/-- 'append(v, p)', a step of a region that draws -/
theorem step_app_pair {ops : Array Oper} {o : Oper} {a : Act} {K : Act → World → Prop} {Q : Exit → Act → World → Prop} {E : Prop} {w0 : World} (hgd : o.guard = none) (s x : Operand)
    (ho : o.op = .call { callee := .builtin .append, args := #[s, x], argTypes := #[22, 22] })
    (base : Nat) (v : Value) (l : List PR) (n : PR) (hs : a.eval s = v) (hown : OwnP w0 base v l) (g : Nat)
    (hx : a.eval x = .slice (some ⟨g, 0, none⟩) 1 1) (hc0 : w0.cell? ⟨g, 0, none⟩ = some (.string (S n.1))) (hc1 : w0.cell? ⟨g, 1, none⟩ = some (.string (S n.2)))
    (hbound : l.length ≤ 1000000000) (hbase : base ≤ w0.heap.size)
    (h : ∀ v' w', OwnP w' base v' (l ++ [n]) → Below base w0 w' → K (a.put o.dst v') w') :
    if Region.wanted o (yielded ops a.tmps) = true then o.wp Tryd.prog a w0 K Q else E := by
  have hw : Region.wanted o (yielded ops a.tmps) = true := by simp [Region.wanted, hgd]
  rw [if_pos hw]
  obtain ⟨i0, hi, hz0, hz1, hz2⟩ := info_parts info_pair
  obtain ⟨v', w', hr, h2, h3⟩ := run_append_sep (P := Tryd.prog) w0 base 22 o.type 25 i0 _ 2 32 Tryd.underlying22 hi hz0 hz1 hz2 rfl (by decide) v l.length (l.flatMap pf) hown
    ⟨g, 0, none⟩ 1 1 (pf n) rfl (fun j u hj => by
      have e : (⟨g, 0, none⟩ : Addr).add j = ⟨g, j, none⟩ := by rw [Addr.add_lit]; simp
      rw [e]
      match j, hj with
      | 0, hj => rw [← hj]; exact hc0
      | 1, hj => rw [← hj]; exact hc1) (pf_one n) (by unfold maxLen; omega) (by omega) hbase
  unfold Oper.wp execOp
  simp only [ho, resolve, invoke, builtin, Sem.run_bind, Sem.run_pure, Result.andThen_ok, List.map_toArray, List.map_cons, List.map_nil, hs, hx, hr]
  refine h v' w' ?_ ?_
  · show w'.ownsRow base 25 2 v' (l ++ [n]).length ((l ++ [n]).flatMap pf)
    rw [List.flatMap_append, List.length_append, List.flatMap_singleton]
    exact h2
  · refine (Below.refl base w0).grown h3.grown hbase ?_
    intro k hk
    exact (World.ownsRow.lt hown k hk).1
end Go.Proofs.YtjoalambgckchaaDoor
