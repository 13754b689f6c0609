/- Bytes at the head of a block, whatever lies behind them; texts copied over them, as far as they fit. -/
import Derived.Test.YtidnckcgclfaoaaPutB
import Derived.Lib.LazyBuf
namespace Go.Proofs.Ytidnckcgclfaoaa
open Go.RowKit

/-- the block g begins with these bytes, none of which is frozen -/
def ByAt (w : World) (g : Nat) (l : List UInt8) : Prop :=
  ∃ (ex : List Value) (fr : Nat × Nat), w.heap[g]? = some (.cells ((l.map bv) ++ ex).toArray 5 fr) ∧ ∀ i, i < l.length → ¬ (fr.1 ≤ i ∧ i < fr.2)
theorem ByAt.lt {w : World} {g : Nat} {l : List UInt8} (h : ByAt w g l) : g < w.heap.size := by
  obtain ⟨ex, fr, h, _⟩ := h
  exact (Array.getElem?_eq_some_iff.1 h).1
theorem ByAt.same {w w' : World} {g : Nat} {l : List UInt8} (h : ByAt w g l) (e : w'.heap[g]? = w.heap[g]?) : ByAt w' g l := by
  obtain ⟨ex, fr, h, h2⟩ := h
  exact ⟨ex, fr, e.trans h, h2⟩
theorem ByAt.under {w w' : World} {g B : Nat} {l : List UInt8} (h : ByAt w g l) (hb : Below B w w') (hg : g < B) : ByAt w' g l := h.same (hb.block g hg)
theorem ByAt.drew {w : World} {g : Nat} {l : List UInt8} (h : ByAt w g l) : ByAt w.drew g l := h
theorem ByAt.cell {w : World} {g : Nat} {l : List UInt8} (h : ByAt w g l) (i : Nat) (hi : i < l.length) : w.cell? ⟨g, i, none⟩ = some (bv l[i]) := by
  obtain ⟨ex, fr, h, _⟩ := h
  simp [World.cell?, h, List.getElem?_append_left, hi]
theorem ByAt.fz {w : World} {g : Nat} {l : List UInt8} (h : ByAt w g l) (i : Nat) (hi : i < l.length) : w.frozen? ⟨g, i, none⟩ = false := by
  obtain ⟨ex, fr, h, h2⟩ := h
  have := h2 i hi
  simp [World.frozen?, h]
  intro h3
  omega
theorem heap_setCell_any (w : World) (g i : Nat) (cs : Array Value) (t : TypeId) (fr : Nat × Nat) (v : Value) (hg : w.heap[g]? = some (.cells cs t fr)) :
    (w.setCell ⟨g, i, none⟩ v).heap[g]? = some (.cells (cs.setIfInBounds i v) t fr) := by
  simp [World.setCell, Array.getElem?_modify, hg]
theorem ByAt.set {w : World} {g : Nat} {l : List UInt8} (h : ByAt w g l) (i : Nat) (b : UInt8) (hi : i < l.length) : ByAt (w.setCell ⟨g, i, none⟩ (bv b)) g (l.set i b) := by
  obtain ⟨ex, fr, h, h2⟩ := h
  refine ⟨ex, fr, ?_, by rw [List.length_set]; exact h2⟩
  rw [heap_setCell_any w g i _ _ _ (bv b) h]
  simp [List.map_set, List.set_append_left, hi]
theorem lay_cons (l : List UInt8) (off : Nat) (b : UInt8) (s : List UInt8) (h : off < l.length) : layL l off (b :: s) = layL (l.set off b) (off + 1) s := by
  unfold layL
  rw [List.drop_set_of_lt (by omega), show off + 1 + s.length = off + (b :: s).length by rw [List.length_cons]; omega]
  congr 1
  rw [List.take_succ_eq_append_getElem (by rw [List.length_set]; exact h)]
  rw [List.take_set_of_le (Nat.le_refl _)]
  simp
theorem lay_len (l : List UInt8) (off : Nat) (s : List UInt8) (h : off + s.length ≤ l.length) : (layL l off s).length = l.length := by
  unfold layL
  rw [List.length_append, List.length_append, List.length_take, List.length_drop]
  omega
theorem ByAt.lay {g : Nat} : ∀ (s : List UInt8) (off : Nat) (l : List UInt8) (w : World), ByAt w g l → off + s.length ≤ l.length → ByAt (w.setCells g off (s.map bv)) g (layL l off s)
  | [], off, l, w, h, _ => by
    have : layL l off [] = l := by unfold layL; simp
    rw [this]
    exact h
  | b :: s, off, l, w, h, hl => by
    rw [List.length_cons] at hl
    rw [lay_cons l off b s (by omega)]
    exact ByAt.lay s (off + 1) (l.set off b) (w.setCell ⟨g, off, none⟩ (bv b)) (h.set off b (by omega)) (by rw [List.length_set]; omega)
theorem setCells_other (g k : Nat) (hk : k ≠ g) : ∀ (vs : List Value) (off : Nat) (w : World), (w.setCells g off vs).heap[k]? = w.heap[k]?
  | [], _, _ => rfl
  | v :: vs, off, w => (setCells_other g k hk vs (off + 1) _).trans (setCell_other w g off k v hk)
theorem run_copy_min (w : World) (ty : TypeId) (g off dLen dCap : Nat) (s l : List UInt8) (n : Nat) (hn : Nat.min s.length dLen = n) (hA : ByAt w g l) (hfit : off + n ≤ l.length) :
    (Builtin.copy_ #[39, 9] ty #[.slice (some ⟨g, off, none⟩) dLen dCap, .string (S s)]).run Try.prog w = .ok (goInt n) (w.setCells g off ((s.take n).map bv)) := by
  have hz : ∀ w, (Go.sizeOf 5).run Try.prog w = .ok 1 w := fun w => by kernel_rfl
  have hnl : n ≤ s.length := by rw [← hn]; exact Nat.min_le_left _ _
  have hl : ((s.take n).map bv).length = n := by rw [List.length_map, List.length_take]; omega
  have hst := run_storeCells_cells (P := Try.prog) g off ((s.take n).map bv) 0 w (by
      intro j hj
      rw [hl] at hj
      rw [Nat.add_zero, hA.cell (off + j) (by omega)]; rfl) (by
      intro j hj
      rw [hl] at hj
      rw [Nat.add_zero]; exact hA.fz (off + j) (by omega)) (bv_one _)
  simp [Builtin.copy_, run_underlying Try.underlying39, Builtin.lenOf, Builtin.firstCells, hz]
  have e : List.take n (List.map (fun b : UInt8 => Value.int IntKind.u8 (b.toNat : Int)) s) = (s.take n).map bv := by rw [List.map_take]; rfl
  rw [hn, e, hst, Nat.add_zero, ← List.map_take]
  rfl
theorem below_setCells (B g : Nat) (wb : World) (hB : B ≤ g) : ∀ (vs : List Value) (off : Nat) (w : World), Below B wb w → Below B wb (w.setCells g off vs)
  | [], _, _, h => h
  | v :: vs, off, _, h => below_setCells B g wb hB vs (off + 1) _ (h.setCell hB v)
/-- 'copy(d, s)' of a text, as far as it fits -/
theorem app_copy {ops : Array Oper} {rest : List Oper} {o : Oper} {a : Act} {Q : Exit → Act → World → Prop} {w0 : World} (hgd : o.guard = none) (d x : Operand)
    (ho : o.op = .call { callee := .builtin .copy, args := #[d, x], argTypes := #[39, 9] })
    (g off dLen dCap : Nat) (hd : a.eval d = .slice (some ⟨g, off, none⟩) dLen dCap) (s cur : List UInt8) (hx : a.eval x = .string (S s)) (n : Nat) (hn : Nat.min s.length dLen = n) (hW : ByAt w0 g cur) (hfit : off + n ≤ cur.length)
    (B : Nat) (wb : World) (hb : Below B wb w0) (hBg : B ≤ g)
    (h : ∀ w', ByAt w' g (layL cur off (s.take n)) → Below B wb w' → (∀ k, k ≠ g → w'.heap[k]? = w0.heap[k]?) → wpList Try.prog ops Q rest (a.put o.dst (goInt n)) w') :
    wpList Try.prog ops Q (o :: rest) a w0 := by
  refine wpList_plain hgd fun K hK => ?_
  have hr := run_copy_min w0 o.type g off dLen dCap s cur n hn hW hfit
  unfold Oper.wp execOp
  simp only [ho, resolve, invoke, builtin, Sem.run_bind, Sem.run_pure, Result.andThen_ok, List.map_toArray, List.map_cons, List.map_nil, hd, hx, hr]
  have hnl : n ≤ s.length := by rw [← hn]; exact Nat.min_le_left _ _
  exact hK _ _ (h _ (ByAt.lay (s.take n) off cur w0 hW (by rw [List.length_take]; omega)) (below_setCells B g wb hBg _ _ _ hb) (fun k hk => setCells_other g k hk _ _ _))
theorem step_copy {ops : Array Oper} {o : Oper} {a : Act} {K : Act → World → Prop} {Q : Exit → Act → World → Prop} {E : Prop} {w0 : World} (hgd : o.guard = none) (d x : Operand)
    (ho : o.op = .call { callee := .builtin .copy, args := #[d, x], argTypes := #[39, 9] })
    (g off dLen dCap : Nat) (hd : a.eval d = .slice (some ⟨g, off, none⟩) dLen dCap) (s cur : List UInt8) (hx : a.eval x = .string (S s)) (n : Nat) (hn : Nat.min s.length dLen = n) (hW : ByAt w0 g cur) (hfit : off + n ≤ cur.length)
    (B : Nat) (wb : World) (hb : Below B wb w0) (hBg : B ≤ g)
    (h : ∀ w', ByAt w' g (layL cur off (s.take n)) → Below B wb w' → (∀ k, k ≠ g → w'.heap[k]? = w0.heap[k]?) → K (a.put o.dst (goInt n)) w') :
    if Region.wanted o (yielded ops a.tmps) = true then o.wp Try.prog a w0 K Q else E := by
  have hw : Region.wanted o (yielded ops a.tmps) = true := by simp [Region.wanted, hgd]
  rw [if_pos hw]
  have hr := run_copy_min w0 o.type g off dLen dCap s cur n hn hW hfit
  unfold Oper.wp execOp
  simp only [ho, resolve, invoke, builtin, Sem.run_bind, Sem.run_pure, Result.andThen_ok, List.map_toArray, List.map_cons, List.map_nil, hd, hx, hr]
  have hnl : n ≤ s.length := by rw [← hn]; exact Nat.min_le_left _ _
  exact h _ (ByAt.lay (s.take n) off cur w0 hW (by rw [List.length_take]; omega)) (below_setCells B g wb hBg _ _ _ hb) (fun k hk => setCells_other g k hk _ _ _)
/-- 'string(v)' of such bytes -/
theorem ByAt.str {w : World} {g : Nat} {l : List UInt8} (h : ByAt w g l) (n c : Nat) (hn : n = l.length) : (convert 39 9 (.slice (some ⟨g, 0, none⟩) n c)).run Try.prog w = .ok (.string (S l)) w := by
  subst hn
  rw [run_convert_bytes_string w 39 9 5 _ _ _ Try.underlying39 Try.underlying5 Try.underlying9]
  have hl : (loadCells ⟨g, 0, none⟩ l.length).run Try.prog w = .ok ((l.map fun b => (b.toNat : Int)).map (Value.int .u8)).toArray w := by
    have := run_loadCells_list (P := Try.prog) w ⟨g, 0, none⟩ (l.map bv) (fun j v hj => by
      rw [List.getElem?_map] at hj
      obtain ⟨b, hb, rfl⟩ := Option.map_eq_some_iff.1 hj
      obtain ⟨hj2, rfl⟩ := List.getElem?_eq_some_iff.1 hb
      rw [Addr.add_lit]
      simpa using h.cell j hj2)
    rw [List.length_map] at this
    rw [this, List.map_map]
    rfl
  rw [run_bytesToString w _ _ _ _ hl, foldl_push_bytes]
  simp [S, List.map_map, Function.comp_def]
/-- '[]byte(s)' -/
theorem app_bytes {ops : Array Oper} {rest : List Oper} {o : Oper} {a : Act} {Q : Exit → Act → World → Prop} {w : World} (hgd : o.guard = none) (x : Operand)
    (ho : o.op = .convert 9 39 x) (l : List UInt8) (hx : a.eval x = .string (S l))
    (h : ∀ w' c, Below w.heap.size w w' → ByAt w' w.heap.size l → l.length ≤ c → wpList Try.prog ops Q rest (a.put o.dst (.slice (some ⟨w.heap.size, 0, none⟩) l.length c)) w') :
    wpList Try.prog ops Q (o :: rest) a w := by
  refine wpList_plain hgd fun K hK => ?_
  unfold Oper.wp execOp
  simp only [ho, hx, Lib.run_convert_string_bytes w 9 39 5 (S l) Try.underlying9 Try.underlying39 Try.underlying5, Sem.run_bind, Sem.run_pure, Result.andThen_ok]
  rw [S_size]
  refine hK _ _ (h _ _ (below_bytesWorld _ _ _ _ (Nat.le_refl _)) ?_ (grownCap_ge _ _ _ _))
  have hcells : Lib.bytesCells w 5 (S l) = (l.map bv ++ List.replicate (grownCap w (S l).size 0 5 - (S l).size) (Value.int .u8 0)).toArray := by
    unfold Lib.bytesCells
    apply Array.toList_inj.1
    simp [S]
    exact fun _ _ => rfl
  refine ⟨List.replicate (grownCap w (S l).size 0 5 - (S l).size) (Value.int .u8 0), ((Lib.bytesCells w 5 (S l)).size, (Lib.bytesCells w 5 (S l)).size + 1), ?_, ?_⟩
  · rw [Lib.bytesWorld_at_new, ← hcells]
  · intro i hi
    have : i < (Lib.bytesCells w 5 (S l)).size := by
      unfold Lib.bytesCells
      simp [S]
      omega
    omega
end Go.Proofs.Ytidnckcgclfaoaa
