/- record.Parse. (Printed by gen_rece.py.) -/
import Derived.Test.YtjoalambgckchaaDoorRecD
namespace Go.Proofs.YtjoalambgckchaaDoor
open Go.RowKit Go.Lib

/-- a block holds two texts -/
def PairX (w : World) (g : Nat) : Prop := ∃ x y, w.heap[g]? = some (.cells #[.string x, .string y] 25 (0, 0))
theorem PairX.below {w w' : World} {g B : Nat} (h : PairX w g) (hb : Below B w w') (hB : g < B) : PairX w' g := by
  obtain ⟨x, y, h⟩ := h; exact ⟨x, y, by rw [hb.block g hB]; exact h⟩
theorem PairX.lt {w : World} {g : Nat} (h : PairX w g) : g < w.heap.size := by
  obtain ⟨x, y, h⟩ := h
  exact (Array.getElem?_eq_some_iff.1 h).1
theorem set_heap (w : World) (g o : Nat) (C : Array Value) (t : TypeId) (fr : Nat × Nat) (u : Value) (h : w.heap[g]? = some (.cells C t fr)) : (w.setCell ⟨g, o, none⟩ u).heap[g]? = some (.cells (C.setIfInBounds o u) t fr) := by
  unfold World.setCell
  show (w.heap.modify g _)[g]? = _
  rw [Array.getElem?_modify, if_pos rfl, h]
  rfl
theorem PairX.set {w : World} {g : Nat} (h : PairX w g) (a b : ByteArray) : ((w.setCell ⟨g, 0, none⟩ (.string a)).setCell ⟨g, 1, none⟩ (.string b)).heap[g]? = some (.cells #[.string a, .string b] 25 (0, 0)) := by
  obtain ⟨x, y, h⟩ := h
  rw [set_heap _ g 1 _ _ _ _ (set_heap w g 0 _ _ _ _ h)]
  rfl
theorem OwnR.set {α : Type} {f : α → List Value} {e : TypeId} {sz : Nat} {w : World} {base : Nat} {v : Value} {l : List α} (h : OwnR f e sz w base v l) {g : Nat} (hg : g < base) (o : Nat) (u : Value) : OwnR f e sz (w.setCell ⟨g, o, none⟩ u) base v l := by
  obtain ⟨h1, h2⟩ := h
  refine ⟨h1, ?_⟩
  rcases h2 with h2 | ⟨k, cap, cur, hv, hk, hh, r⟩
  · exact Or.inl h2
  · exact Or.inr ⟨k, cap, cur, hv, hk, by rw [Below.heap_setCell _ _ _ _ (by show k ≠ g; omega)]; exact hh, r⟩
theorem PairX.facts {w : World} {g : Nat} (h : PairX w g) : (∃ x, w.cell? ⟨g, 0, none⟩ = some (.string x)) ∧ (∃ y, w.cell? ⟨g, 1, none⟩ = some (.string y)) ∧ w.frozen? ⟨g, 0, none⟩ = false ∧ w.frozen? ⟨g, 1, none⟩ = false := by
  obtain ⟨x, y, h⟩ := h
  unfold World.cell? World.frozen?
  simp only [h]
  exact ⟨⟨x, rfl⟩, ⟨y, rfl⟩, rfl, rfl⟩
theorem app_pair_at {ops : Array Oper} {rest : List Oper} {o : Oper} {a : Act} {Q : Exit → Act → World → Prop} {w0 : World} (hgd : o.guard = none) (s x : Operand)
    (ho : o.op = .call { callee := .builtin .append, args := #[s, x], argTypes := #[22, 22] })
    (base : Nat) (v : Value) (l : List PR) (n : PR) (hs : a.eval s = v) (hown : OwnP w0 base v l) (g : Nat)
    (hx : a.eval x = .slice (some ⟨g, 0, none⟩) 1 1) (hg : g = w0.heap.size)
    (hbound : l.length ≤ 1000000000) (hbase : base ≤ w0.heap.size)
    (h : ∀ v' w', OwnP w' base v' (l ++ [n]) → Below base w0 w' → Grew w0 w' v v' → wpList Tryd.prog ops Q rest (a.put o.dst v') w') :
    wpList Tryd.prog ops Q (o :: rest) a (w0.alloc (.cells #[.string (S n.1), .string (S n.2)] 25)) := by
  subst hg
  exact app_pair hgd s x ho base v l n hs hown hx hbound hbase h
theorem size_set (w : World) (p : Addr) (u : Value) : (w.setCell p u).heap.size = w.heap.size := by unfold World.setCell; simp
structure PkInv (w : World) (s0 s : List UInt8) (out : List PR) (v : Value) (wr : World) : Prop where
  fuel : ∃ f, s.length < f ∧ parseF f s out = parseF (s0.length + 1) s0 []
  len : s.length ≤ 65536
  outs : out.length ≤ 256
  own : OwnP wr (w.heap.size + 1) v out
  at' : PairX wr w.heap.size
  below : Below w.heap.size w wr
/-- a scope whose text is five regions, a label, and what is jumped back to -/
theorem wp_scope_label5 {P : Program} {r1 r2 r3 r4 r5 R : Code} {Q : Exit → Act → World → Prop} {a : Act} {w : World} (l : Nat) (J : Act → World → Prop) (μ : Act → World → Nat)
    (h1 : findLabel r1 l = none) (h2 : findLabel r2 l = none) (h3 : findLabel r3 l = none) (h4 : findLabel r4 l = none) (h5 : findLabel r5 l = none)
    (body : ∀ a w, J a w → R.wp P (Exit.jump l (fun a' w' => J a' w' ∧ μ a' w' < μ a w) Q) a w)
    (first : (∀ a w, J a w → R.wp P (Exit.jump l J Q) a w) → (r1.seq (r2.seq (r3.seq (r4.seq (r5.seq ((Code.label l).seq R)))))).wp P (Exit.jump l J Q) a w) :
    (Code.scope (r1.seq (r2.seq (r3.seq (r4.seq (r5.seq ((Code.label l).seq R))))))).wp P Q a w := by
  refine wp_scope_jumps (rest := Code.seq .skip R) l J μ (by simp [findLabel, h1, h2, h3, h4, h5]) (first fun a w h => Code.wp_mono ?_ (body a w h)) ?_
  · intro e a' w' hq
    cases e <;> first | exact hq | exact ⟨hq.1, hq.2.1⟩
  · intro a w h
    exact wp_seq (wp_skip (body a w h))
theorem takeS (s : List UInt8) (k : Nat) : (S s).extract 0 k = S (s.take k) := by rw [S_extract, List.drop_zero, Nat.sub_zero]
theorem dropS (s : List UInt8) (k : Nat) : (S s).extract k s.length = S (s.drop k) := by rw [S_extract, List.take_of_length_le (by rw [List.length_drop]; exact Nat.le_refl _)]
set_option maxRecDepth 100000 in
set_option maxHeartbeats 400000 in
theorem Parse06_big (s0 : List UInt8) (hs : s0.length ≤ 1000000) (hbig : 65536 < s0.length) (w : World) :
    Calls Tryd.prog 14 #[.string (S s0)] w fun e w' => e = .returned (.tuple #[.slice none 0 0, .int .i64 12]) ∧ Below w.heap.size w w' := by
  have hB0 := (Below.refl w.heap.size w).alloc (Nat.le_refl _) (.cells #[.string ⟨#[]⟩, .string ⟨#[]⟩] 25)
  go_enter Tryd.func14, Tryd.ntmps14
  go_wp2_with fail
  refine wp_scope_label5 0 (fun _ _ => False) (fun _ _ => 0) rfl rfl rfl rfl rfl (fun _ _ h => h.elim) (fun _ => ?_)
  go_wp2
  simp only [Exit.jump]
  try rw [Exit.noGoto_ret]
  go_ret2
  exact ⟨rfl, hB0⟩
set_option maxRecDepth 100000 in
set_option maxHeartbeats 4000000 in
theorem Parse06_small (s0 : List UInt8) (hs : s0.length ≤ 65536) (w : World) :
    Calls Tryd.prog 14 #[.string (S s0)] w fun e w' => (∃ v, e = .returned (.tuple #[v, .int .i64 ((parseF (s0.length + 1) s0 []).2 : Nat)]) ∧ OwnP w' (w.heap.size + 1) v (parseF (s0.length + 1) s0 []).1) ∧ Below w.heap.size w w' := by
  go_enter Tryd.func14, Tryd.ntmps14
  go_wp2_with fail
  refine wp_scope_label5 0 (fun a' w' => ∃ (s : List UInt8) (out : List PR) (v u1 u2 u3 u5 u6 u8 u9 u10 u11 u12 u13 u14 u15 u16 u17 u18 u19 u20 u21 u22 u23 u24 u25 u26 u27 u28 u29 u30 u31 u32 u33 u34 u35 u36 u37 u38 u39 u40 u41 u42 u43 u44 u45 : Value), a' = { tmps := #[.string (S s), u1, u2, u3, v, u5, u6, .pointer (some ⟨w.heap.size, 0, none⟩), u8, u9, u10, u11, u12, u13, u14, u15, u16, u17, u18, u19, u20, u21, u22, u23, u24, u25, u26, u27, u28, u29, u30, u31, u32, u33, u34, u35, u36, u37, u38, u39, u40, u41, u42, u43, u44, u45], defers := [] } ∧ PkInv w s0 s out v w') (fun a' _ => match a'.tmps.getD 0 undef with | .string t => t.size | _ => 0) rfl rfl rfl rfl rfl ?_ ?_
  · rintro a' wr ⟨s, out, v, u1, u2, u3, u5, u6, u8, u9, u10, u11, u12, u13, u14, u15, u16, u17, u18, u19, u20, u21, u22, u23, u24, u25, u26, u27, u28, u29, u30, u31, u32, u33, u34, u35, u36, u37, u38, u39, u40, u41, u42, u43, u44, u45, rfl, hI⟩
    obtain ⟨⟨f, hf, hR⟩, hlen, houts, hO, hX, hB⟩ := hI
    obtain ⟨f, rfl⟩ : ∃ g, f = g + 1 := ⟨f - 1, by omega⟩
    obtain ⟨a4, c4, e4⟩ := hO.shape
    subst e4
    have hsz := hB.size
    have hxl := hX.lt
    rw [parseF] at hR
    by_cases h0 : s = []
    · rw [if_pos h0] at hR
      have HR := Lib.hid hR
      have he : s.isEmpty = true := by rw [h0]; rfl
      clear hR h0
      go_wp2_with fail
      simp only [Exit.jump]
      try rw [Exit.noGoto_ret]
      go_ret2
      refine ⟨⟨_, by rw [← HR.out]; rfl, by rw [← HR.out]; exact hO⟩, hB⟩
    have he : s.isEmpty = false := by cases s with | nil => exact absurd rfl h0 | cons => rfl
    rw [if_neg h0] at hR
    have hpos : 1 ≤ s.length := List.length_pos_iff.2 h0
    clear h0
    by_cases h1 : out.length = 256
    · rw [if_pos h1] at hR
      have HR := Lib.hid hR
      have hb : ((out.length : Int) == 256) = true := by rw [h1]; rfl
      clear hR h1
      go_wp2_with fail
      simp only [Exit.jump]
      try rw [Exit.noGoto_ret]
      go_ret2
      refine ⟨⟨.slice none 0 0, by rw [← HR.out]; rfl, by rw [← HR.out]; exact OwnR.nil _ _ _ _ _⟩, hB⟩
    rw [if_neg h1] at hR
    have hb : ((out.length : Int) == 256) = false := by rw [beq_eq_false_iff_ne]; omega
    have hlk : out.length < 256 := by omega
    clear h1
    have hC := fun W => count06_any s (by omega) W
    by_cases h2 : (countF s).2 = 0
    · rw [if_pos h2] at hR
      have HR := Lib.hid hR
      generalize countF s = p at *
      obtain ⟨cv, cn⟩ := p
      have h2 : cn = 0 := h2
      subst h2
      have HC := Lib.hid hC
      clear hR hC
      go_wp2_with fail
      refine (HC.out _).mono ?_
      rintro e w1 ⟨rfl, rfl⟩
      unfold cntV
      go_wp2_with fail
      simp only [Exit.jump]
      try rw [Exit.noGoto_ret]
      go_ret2
      refine ⟨⟨.slice none 0 0, by rw [← HR.out]; rfl, by rw [← HR.out]; exact OwnR.nil _ _ _ _ _⟩, hB⟩
    rw [if_neg h2] at hR
    obtain ⟨-, -, c3, c4', -, c6, c7⟩ := count_ok s h2
    have hcn : (countF s).2 ≠ 0 := h2
    clear h2
    by_cases h3 : s.length < (countF s).1
    · rw [if_pos h3] at hR
      have HR := Lib.hid hR
      generalize countF s = p at *
      obtain ⟨cv, cn⟩ := p
      have hcnb : ((cn : Int) == 0) = false := by rw [beq_eq_false_iff_ne]; exact fun e => hcn (by exact_mod_cast e)
      have h3 : s.length < cv := h3
      have c7 : cv < 1000000 := c7
      have HC := Lib.hid hC
      clear hR hC hcn
      go_wp2_with fail
      refine (HC.out _).mono ?_
      rintro e w1 ⟨rfl, rfl⟩
      unfold cntV
      go_wp2_with fail
      simp only [Exit.jump]
      try rw [Exit.noGoto_ret]
      go_ret2
      refine ⟨⟨.slice none 0 0, by rw [← HR.out]; rfl, by rw [← HR.out]; exact OwnR.nil _ _ _ _ _⟩, hB⟩
    rw [if_neg h3] at hR
    have hlv : (countF s).1 ≤ s.length := by omega
    clear h3
    generalize countF s = p at *
    obtain ⟨cv, cn⟩ := p
    have hcnb : ((cn : Int) == 0) = false := by rw [beq_eq_false_iff_ne]; exact fun e => hcn (by exact_mod_cast e)
    have hlv : cv ≤ s.length := hlv
    have c7 : cv < 1000000 := c7
    have c6 : 1 ≤ cv := c6
    have c3 : cn ≤ 6 := c3
    have HC := Lib.hid hC
    have hR : (match oneF (s.take cv) cn with | none => ([], 2) | some p => parseF f (s.drop cv) (out ++ [p])) = parseF (s0.length + 1) s0 [] := hR
    have hO1 := fun W => one06_any (s.take cv) cn (by rw [List.length_take]; omega) (by rw [List.length_take]; omega) (by omega) W
    have ht := takeS s cv
    have hd := dropS s cv
    have hdl : (s.drop cv).length = s.length - cv := List.length_drop
    clear hC hcn
    cases ho : oneF (s.take cv) cn with
    | none =>
      rw [ho] at hR hO1
      have HR := Lib.hid hR
      generalize s.take cv = t at *
      generalize s.drop cv = d at *
      have HO1 := Lib.hid hO1
      clear hR hO1 ho
      go_wp2_with fail
      refine (HC.out _).mono ?_
      rintro e w1 ⟨rfl, rfl⟩
      unfold cntV
      go_wp2_with fail
      refine (HO1.out _).mono ?_
      rintro e w2 ⟨⟨x, y, rfl, _⟩, hb2⟩
      have hB2 := chain hB hb2
      have hs2 := hb2.size
      have hX2 := hX.below hb2 hxl
      have hxl2 := hX2.lt
      obtain ⟨⟨x5, hc5⟩, ⟨y5, hc6⟩, hf5, hf6⟩ := hX2.facts
      go_wp2_with fail
      simp only [Exit.jump]
      try rw [Exit.noGoto_ret]
      go_ret2
      refine ⟨⟨.slice none 0 0, by rw [← HR.out]; rfl, by rw [← HR.out]; exact OwnR.nil _ _ _ _ _⟩, (hB2.setCell (Nat.le_refl _) _).setCell (Nat.le_refl _) _⟩
    | some p =>
      rw [ho] at hR hO1
      have HR := Lib.hid hR
      generalize s.take cv = t at *
      generalize s.drop cv = d at *
      have HO1 := Lib.hid hO1
      clear hR hO1 ho
      go_wp2_with fail
      refine (HC.out _).mono ?_
      rintro e w1 ⟨rfl, rfl⟩
      unfold cntV
      go_wp2_with fail
      refine (HO1.out _).mono ?_
      rintro e w2 ⟨⟨x, y, rfl, hxy⟩, hb2⟩
      obtain ⟨rfl, rfl⟩ := hxy p rfl
      have hB2 := chain hB hb2
      have hs2 := hb2.size
      have hX2 := hX.below hb2 hxl
      have hxl2 := hX2.lt
      obtain ⟨⟨x5, hc5⟩, ⟨y5, hc6⟩, hf5, hf6⟩ := hX2.facts
      have hX3 := hX2.set (S p.1) (S p.2)
      have hO2 := ((hO.below hb2 (Nat.le_refl _)).set (by omega) 0 (.string (S p.1)) (g := w.heap.size)).set (by omega) 1 (.string (S p.2)) (g := w.heap.size)
      have hB3 := (hB2.setCell (p := ⟨w.heap.size, 0, none⟩) (Nat.le_refl _) (.string (S p.1))).setCell (p := ⟨w.heap.size, 1, none⟩) (Nat.le_refl _) (.string (S p.2))
      have hsz3 : w.heap.size + 1 ≤ ((w2.setCell ⟨w.heap.size, 0, none⟩ (.string (S p.1))).setCell ⟨w.heap.size, 1, none⟩ (.string (S p.2))).heap.size := by have := hB3.size; have := (PairX.lt ⟨_, _, hX3⟩); omega
      have hX4 : PairX ((w2.setCell ⟨w.heap.size, 0, none⟩ (.string (S p.1))).setCell ⟨w.heap.size, 1, none⟩ (.string (S p.2))) w.heap.size := ⟨_, _, hX3⟩
      have hdc : (S d).size = d.length := S_size d
      go_wp2_with (at_builtin; go_must (refine app_pair_at rfl (.tmp 39) (.tmp 41) rfl (w.heap.size + 1) (.slice a4 out.length c4) out p rfl hO2 _ rfl (by rw [size_set, size_set]) (by omega) hsz3 ?_); intro v' w' hO3 hb3 _)
      have hX5 := hX4.below hb3 (Nat.lt_succ_self _)
      have hB4 := hB3.trans (hb3.mono (Nat.le_succ _))
      try go_step3
      try simp only [Exit.jump]
      refine ⟨rfl, ⟨d, out ++ [p], v', _, _, _, _, _, _, _, _, _, _, _, _, _, _, _, _, _, _, _, _, _, _, _, _, _, _, _, _, _, _, _, _, _, _, _, _, _, _, _, _, _, _, _, by push_cast; rfl, ⟨⟨f, by omega, HR.out⟩, by omega, by rw [List.length_append, List.length_singleton]; omega, hO3, hX5, hB4⟩⟩, ?_⟩
      show (S d).size < (S s).size
      rw [S_size, S_size]; omega
  · intro hR
    go_wp2_with fail
    go_step3
    simp only [Exit.then]
    rename_i hK
    refine hK _ _ ?_
    exact hR _ _ ⟨s0, [], .slice none 0 0, _, _, _, _, _, _, _, _, _, _, _, _, _, _, _, _, _, _, _, _, _, _, _, _, _, _, _, _, _, _, _, _, _, _, _, _, _, _, _, _, _, _, _, rfl, ⟨⟨_, Nat.lt_succ_self _, rfl⟩, by omega, by simp, OwnR.nil _ _ _ _ _, ⟨_, _, heap_alloc_new _ _⟩, (Below.refl w.heap.size w).alloc (Nat.le_refl _) _⟩⟩
end Go.Proofs.YtjoalambgckchaaDoor
