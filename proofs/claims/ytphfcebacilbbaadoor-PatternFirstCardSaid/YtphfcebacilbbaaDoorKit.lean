/- The kit of this seat's own: strings as lists of bytes, owned byte slices, and the laws on them. Plain helpers; no statement of the seat is proved here. -/
import Derived.Test.YtphfcebacilbbaaDoorProg
import Derived.WalkKit
import Derived.ProofKit
import Derived.OpenShut
import Derived.Handy
import Derived.WalkSpells
import Derived.WalkLawsBesides
import Derived.BigQuiet
import Derived.Deep.QuietTactic
import Derived.Laws.BytesArg
import Derived.Lib.Hide
import Derived.Deep.DeepCutAuto
import Derived.Lib.ConvBytes
import Derived.Lib.SlBytesConst
import Derived.Laws.IdiomStrings
import Derived.Deep.RegionLaw
namespace Go.Proofs.YtphfcebacilbbaaDoor
open Go.RowKit

@[go_sem] theorem wrap_lit_i64 (n : Int) (h1 : -9223372036854775808 ≤ n) (h2 : n ≤ 9223372036854775807) : IntKind.i64.wrap n = n := IntWalk.i64_in n ⟨h1, h2⟩
@[go_sem] theorem wrap_lit_u8 (n : Int) (h1 : 0 ≤ n) (h2 : n ≤ 255) : IntKind.u8.wrap n = n := IntWalk.u8_in n ⟨h1, h2⟩
/-- a text out of its bytes -/
def S (l : List UInt8) : ByteArray := ⟨l.toArray⟩
@[go_sem, simp] theorem S_size (l : List UInt8) : (S l).size = l.length := by simp [S, ByteArray.size]
@[simp] theorem S_data (l : List UInt8) : (S l).data.toList = l := rfl
@[go_sem, simp] theorem S_toList (l : List UInt8) : (S l).toList = l := by simp [S]
theorem S_eta (s : ByteArray) : s = S s.data.toList := rfl
theorem S_append (a b : List UInt8) : S a ++ S b = S (a ++ b) := ByteArray.mk_append_mk a b
theorem S_extract (l : List UInt8) (i j : Nat) : (S l).extract i j = S ((l.drop i).take (j - i)) := ByteArray.extract_mk l i j
theorem S_get (l : List UInt8) (k : Nat) (h : k < (S l).size) : (S l)[k]'h = l[k]'(by simpa using h) := rfl
theorem size_len (s : ByteArray) : s.data.toList.length = s.size := by rw [Array.length_toList]; rfl

/-- a byte as a value -/
def bv (b : UInt8) : Value := .int .u8 b.toNat
theorem bv_one (l : List UInt8) : ∀ u ∈ l.map bv, u.oneCell' = true := by
  intro u hu
  obtain ⟨b, _, rfl⟩ := List.mem_map.1 hu
  rfl

/-- a byte out of a number -/
def byteI (x : Int) : UInt8 := UInt8.ofNat x.toNat
theorem bv_byteI (x : Int) (h0 : 0 ≤ x) (h1 : x < 256) : bv (byteI x) = .int .u8 x := by
  unfold bv byteI
  rw [UInt8.toNat_ofNat', Nat.mod_eq_of_lt (by omega)]
  congr 1
  omega
theorem byteI_toNat (x : Int) (h0 : 0 ≤ x) (h1 : x < 256) : ((byteI x).toNat : Int) = x := by
  unfold byteI
  rw [UInt8.toNat_ofNat', Nat.mod_eq_of_lt (by omega)]
  omega
theorem byteI_of (b : UInt8) : byteI (b.toNat : Int) = b := by
  unfold byteI
  simp
theorem byte_ne (b c : UInt8) (n : Int) (hn : n = c.toNat) (h : b ≠ c) : (b.toNat : Int) ≠ n := by
  subst hn
  intro e
  exact h (UInt8.toNat_inj.1 (by omega))
theorem byte_bne (b c : UInt8) (n : Int) (hn : n = c.toNat) (h : b ≠ c) : ((b.toNat : Int) != n) = true := bne_iff_ne.2 (byte_ne b c n hn h)
theorem byte_bne' (b c : UInt8) (n : Int) (hn : n = c.toNat) (h : b = c) : ((b.toNat : Int) != n) = false := by subst hn h; simp
theorem byte_beq (b c : UInt8) (n : Int) (hn : n = c.toNat) (h : b = c) : ((b.toNat : Int) == n) = true := by subst hn h; simp
theorem byte_beq' (b c : UInt8) (n : Int) (hn : n = c.toNat) (h : b ≠ c) : ((b.toNat : Int) == n) = false := beq_eq_false_iff_ne.2 (byte_ne b c n hn h)
theorem all_bytes (p : UInt8 → Bool) (h : ((List.range 256).all fun n => p (UInt8.ofNat n)) = true) (b : UInt8) : p b = true := by
  have h1 := List.all_eq_true.1 h b.toNat (List.mem_range.2 b.toNat_lt)
  simpa using h1
theorem take_snoc (s : ByteArray) (k : Nat) (h : k < s.size) : s.data.toList.take (k + 1) = s.data.toList.take k ++ [s[k]] := by
  rw [List.take_succ_eq_append_getElem (by rw [size_len]; exact h)]; rfl
theorem take_all (s : ByteArray) (k : Nat) (h : s.size ≤ k) : s.data.toList.take k = s.data.toList := by
  rw [List.take_of_length_le (by rw [size_len]; exact h)]

theorem ext_one (s : ByteArray) (k : Nat) (h : k < s.size) : s.extract k (k + 1) = S [s[k]] := by
  have h2 : k < s.data.toList.length := by rw [size_len]; exact h
  have e : (S s.data.toList).extract k (k + 1) = S [s.data.toList[k]] := by
    rw [S_extract]
    congr 1
    have : k + 1 - k = 1 := by omega
    rw [this, List.drop_eq_getElem_cons h2]
    rfl
  exact e
theorem ext1 (s : ByteArray) (k : Nat) (h : k < s.size) (l : List UInt8) : S l ++ s.extract k (k + 1) = S (l ++ [s[k]]) := by
  rw [ext_one s k h, S_append]

theorem ext_getD (s : ByteArray) (i j m : Nat) (h : i + m < s.size) (hj : i + m < j) : (s.extract i j).data.toList.getD m 0 = s[i + m] := by
  have e : s.extract i j = S ((s.data.toList.drop i).take (j - i)) := S_extract s.data.toList i j
  rw [e, S_data, List.getD_eq_getElem?_getD, List.getElem?_take_of_lt (by omega), List.getElem?_drop, List.getElem?_eq_getElem (by rw [size_len]; exact h)]
  rfl

/-- a slice of bytes that the call itself made holds these bytes -/
def OwnB (w : World) (base : Nat) (v : Value) (l : List UInt8) : Prop := w.ownsRow base 5 1 v l.length (l.map bv)

theorem OwnB.nil (w : World) (base : Nat) : OwnB w base (.slice none 0 0) [] := World.ownsRow_nil _ _ _ _

theorem OwnB.below {w w' : World} {base B : Nat} {v : Value} {l : List UInt8} (h : OwnB w base v l) (hb : Below B w w') (hB : w.heap.size ≤ B) : OwnB w' base v l := by
  obtain ⟨h1, h2⟩ := h
  refine ⟨h1, ?_⟩
  rcases h2 with h2 | ⟨g, cap, cur, hv, hg, hh, r⟩
  · exact Or.inl h2
  · have hlt : g < w.heap.size := by
      rcases Nat.lt_or_ge g w.heap.size with h | h
      · exact h
      · rw [Array.getElem?_eq_none h] at hh; cases hh
    exact Or.inr ⟨g, cap, cur, hv, hg, by rw [hb.block g (by omega)]; exact hh, r⟩

attribute [go_sem] World.cell?_alloc_mark World.frozen?_alloc_mark
@[go_sem] theorem setCell_mark (w : World) (c : Array Value) (t : TypeId) (fr : Nat × Nat) (i : Nat) (v : Value) :
    (w.alloc (.cells c t fr)).setCell ⟨w.heap.size, i, none⟩ v = w.alloc (.cells (c.setIfInBounds i v) t fr) := by
  unfold World.setCell
  show ({ w with heap := (w.heap.push (.cells c t fr)).modify w.heap.size _ } : World) = { w with heap := w.heap.push (.cells (c.setIfInBounds i v) t fr) }
  congr 1
  apply Array.ext
  · simp
  · intro k h1 h2
    simp only [Array.getElem_modify, Array.getElem_push]
    by_cases h : w.heap.size = k
    · subst h
      simp
    · have hk : k < w.heap.size := by simp at h1; omega
      simp [h, hk]
@[go_sem] theorem setCell_mark_at (w : World) (c : Array Value) (t : TypeId) (fr : Nat × Nat) (n i : Nat) (v : Value) (hn : n = w.heap.size) :
    (w.alloc (.cells c t fr)).setCell ⟨n, i, none⟩ v = w.alloc (.cells (c.setIfInBounds i v) t fr) := by subst hn; exact setCell_mark w c t fr i v
@[go_sem] theorem cell?_mark_at (w : World) (c : Array Value) (t : TypeId) (fr : Nat × Nat) (n i : Nat) (hn : n = w.heap.size) :
    (w.alloc (.cells c t fr)).cell? ⟨n, i, none⟩ = c[i]? := by subst hn; exact World.cell?_alloc_mark w c t fr i
@[go_sem] theorem frozen?_mark_at (w : World) (c : Array Value) (t : TypeId) (lo hi n i : Nat) (hn : n = w.heap.size) :
    (w.alloc (.cells c t (lo, hi))).frozen? ⟨n, i, none⟩ = (decide (lo ≤ i) && decide (i < hi)) := by subst hn; exact World.frozen?_alloc_mark w c t lo hi i
/-- '[]byte("abc")' of a constant -/
@[go_sem] theorem conv_const (w : World) (C : Array Value) (b n c : Nat) (hb : b = w.heap.size) :
    (convert 69 69 (.slice (some ⟨b, 0, none⟩) n c)).run Tryd.prog (w.alloc (.cells C 5)) = .ok (.slice (some ⟨b, 0, none⟩) n c) (w.alloc (.cells C 5 (C.size, C.size + 1))) := by
  subst hb
  exact Lib.run_convert_bytes_const w 69 5 C n c Tryd.underlying69 Tryd.underlying5
theorem bcell {W w1 : World} (hb : Below W.heap.size W w1) : (∀ b o, b < W.heap.size → w1.cell? ⟨b, o, none⟩ = W.cell? ⟨b, o, none⟩) ∧ (∀ b o, b < W.heap.size → w1.frozen? ⟨b, o, none⟩ = W.frozen? ⟨b, o, none⟩) :=
  ⟨fun b o h => hb.cell (p := ⟨b, o, none⟩) h, fun b o h => hb.frozen (p := ⟨b, o, none⟩) h⟩
theorem belowDrewN {B n : Nat} {a w : World} (h : Below B a w) : Below B a (w.drewN n) := ⟨h.os, h.tape, h.output, h.size, h.block⟩
theorem info_u8 : (Tryd.prog.info? 5).map (fun i => (i.zero, i.size, i.bytes)) = some (some (.int .u8 0), 1, 1) := by kernel_rfl

theorem cells_new (w : World) (C : Array Value) (e : TypeId) (news : List UInt8) (hC : C.toList = news.map bv) :
    ∀ j u, (news.map bv)[j]? = some u → (w.alloc (.cells C e)).cell? ((⟨w.heap.size, 0, none⟩ : Addr).add j) = some u := by
  intro j u hj
  rw [← hC] at hj
  have e : (⟨w.heap.size, 0, none⟩ : Addr).add j = ⟨w.heap.size, j, none⟩ := by rw [Addr.add_lit]; simp
  rw [e]
  simp only [Array.getElem?_toList] at hj
  unfold World.cell?
  rw [heap_alloc_new]
  exact hj

/-- a row of bytes lies at the head of a block -/
def CellsB (w : World) (g : Nat) (l : List UInt8) : Prop := ∀ j u, (l.map bv)[j]? = some u → w.cell? ((⟨g, 0, none⟩ : Addr).add j) = some u
theorem CellsB.of_own {w : World} {base g n c : Nat} {l : List UInt8} (h : OwnB w base (.slice (some ⟨g, 0, none⟩) n c) l) : CellsB w g l := h.cells (g := g) rfl
theorem CellsB.mk (w : World) (g : Nat) (l : List UInt8) (h : ∀ j (hj : j < l.length), w.cell? ⟨g, j, none⟩ = some (bv l[j])) : CellsB w g l := by
  intro j u hu
  rw [List.getElem?_map] at hu
  obtain ⟨b, hb, rfl⟩ := Option.map_eq_some_iff.1 hu
  obtain ⟨hj, rfl⟩ := List.getElem?_eq_some_iff.1 hb
  rw [Addr.add_lit]
  simpa using h j hj
theorem CellsB.below {w w' : World} {g B : Nat} {l : List UInt8} (h : CellsB w g l) (hb : Below B w w') (hg : g < B) : CellsB w' g l := by
  intro j u hu
  rw [hb.cell (by rw [Addr.add_lit]; exact hg)]
  exact h j u hu
/-- what an append on a slice of the call's own does to the rest: only its own row may be written, and it stays where it is or moves to a new block -/
structure Grew (w w' : World) (v v' : Value) : Prop where
  grown : w.grownBy w' v.ownBlock
  fresh : v'.ownBlock = v.ownBlock ∨ ∃ g, v'.ownBlock = some g ∧ w.heap.size ≤ g

theorem Grew.cells {w w' : World} {v v' : Value} (h : Grew w w' v v') {g : Nat} {l : List UInt8} (hc : CellsB w g l) (hne : v.ownBlock ≠ some g) : CellsB w' g l := by
  intro j u hu
  refine h.grown.cell (hc j u hu) ?_
  rw [Addr.add_lit]
  exact fun e => hne e.symm
theorem Grew.sep {w w' : World} {v v' : Value} (h : Grew w w' v v') {g : Nat} (hg : g < w.heap.size) (hne : v.ownBlock ≠ some g) : v'.ownBlock ≠ some g := by
  rcases h.fresh with e | ⟨k, e, hk⟩
  · rw [e]; exact hne
  · rw [e]
    intro x
    cases x
    omega

theorem run_append_sep {P : Program} (w : World) (base : Nat) (t ty e : TypeId) (i : TypeInfo) (z : Value) (size bytes : Nat) (ht : P.underlying t = some (.slice e)) (hi : P.info? e = some i) (hz : i.zero = some z)
    (hsize : i.size = size) (hby : i.bytes = bytes) (hzs : z.cells.size = size) (hsz : 0 < size)
    (v : Value) (n : Nat) (xs : List Value) (hown : w.ownsRow base e size v n xs)
    (a : Addr) (m c : Nat) (news : List Value) (hl : news.length = m * size) (hnews : ∀ j u, news[j]? = some u → w.cell? (a.add j) = some u) (h1 : ∀ u ∈ news, u.oneCell' = true)
    (h63 : n + m ≤ maxLen) (hbytes : (n + m) * bytes ≤ 140737488355328) (hbase : base ≤ w.heap.size) :
    ∃ v' w', (Builtin.append_ #[t, t] ty #[v, .slice (some a) m c]).run P w = .ok v' w' ∧ w'.ownsRow base e size v' (n + m) (xs ++ news) ∧ Grew w w' v v' := by
  obtain ⟨v', w', hr, h2, h3, h4⟩ := run_append_own (P := P) w base t ty e i z size bytes ht hi hz hsize hby hzs hsz v n xs hown a m c news hl hnews h1 h63 hbytes hbase
  refine ⟨v', w', hr, h2, h3, ?_⟩
  have hsmall : n + m ≤ 9223372036854775807 := by simp only [maxLen] at h63; omega
  subst hsize
  subst hby
  rcases hown.2 with ⟨rfl, rfl⟩ | ⟨g, cap, cur, rfl, hbg, hg, hnc, hcm, hcs, htake⟩
  · by_cases hm : m = 0
    · exact .inl (by rw [h4.2 ⟨rfl, hm⟩])
    · have hr2 := run_append_nil (P := P) w t ty e i z ht hi hz a m c news hl hnews (by omega) (by omega) (by have hb := hbytes; simp only [Nat.zero_add] at hb; omega)
      rw [hr2] at hr
      injection hr with e1 e2
      subst e1
      exact .inr ⟨_, rfl, Nat.le_refl _⟩
  · by_cases hroom : n + m ≤ cap
    · have hfit : n * i.size + news.length ≤ cur.size := by rw [hl, hcs, ← Nat.add_mul]; exact Nat.mul_le_mul_right _ hroom
      have hr2 := run_append_room (P := P) w t ty e i ht hi g n cap cur hg a m c news hl hnews h1 hroom hfit
      rw [hr2] at hr
      injection hr with e1 e2
      subst e1
      exact .inl rfl
    · have hr2 := run_append_grow (P := P) w t ty e i z ht hi hz ⟨g, 0, none⟩ n cap xs hown.1 (hown.cells (g := g) rfl) a m c news hl hnews (by omega) (by omega) (growslice_fits (by omega) hbytes)
      rw [hr2] at hr
      injection hr with e1 e2
      subst e1
      exact .inr ⟨_, rfl, Nat.le_refl _⟩

/-- 'append(v, src...)' -/
theorem wp_app_cells {o : Oper} {a : Act} {K : Act → World → Prop} {Q : Exit → Act → World → Prop} {w0 : World} (s x : Operand)
    (ho : o.op = .call { callee := .builtin .append, args := #[s, x], argTypes := #[69, 69] })
    (base : Nat) (v : Value) (l news : List UInt8) (hs : a.eval s = v) (hown : OwnB w0 base v l) (m c g : Nat)
    (hx : a.eval x = .slice (some ⟨g, 0, none⟩) m c) (hC : CellsB w0 g news) (hm : news.length = m)
    (hbound : l.length + m ≤ 140737488355328) (hbase : base ≤ w0.heap.size)
    (h : ∀ v' w', OwnB w' base v' (l ++ news) → Below base w0 w' → Grew w0 w' v v' → K (a.put o.dst v') w') :
    o.wp Tryd.prog a w0 K Q := by
  obtain ⟨i0, hi, hz0, hz1, hz2⟩ := info_parts info_u8
  obtain ⟨v', w', hr, h2, h3⟩ := run_append_sep (P := Tryd.prog) w0 base 69 o.type 5 i0 (.int .u8 0) 1 1 Tryd.underlying69 hi hz0 hz1 hz2 rfl (by decide) v l.length (l.map bv) hown
    ⟨g, 0, none⟩ m c (news.map bv) (by simp [hm]) hC (bv_one _) (by unfold maxLen; omega) (by omega) hbase
  unfold Oper.wp execOp
  simp only [ho, resolve, invoke, builtin, Sem.run_bind, Sem.run_pure, Result.andThen_ok, List.map_toArray, List.map_cons, List.map_nil, hs, hx, hr]
  refine h v' w' ?_ ?_ h3
  · unfold OwnB
    rw [List.map_append, List.length_append, hm]
    exact h2
  · refine (Below.refl base w0).grown h3.grown hbase ?_
    intro k hk
    exact (hown.lt k hk).1
theorem app_cells {ops : Array Oper} {rest : List Oper} {o : Oper} {a : Act} {Q : Exit → Act → World → Prop} {w0 : World} (hgd : o.guard = none) (s x : Operand)
    (ho : o.op = .call { callee := .builtin .append, args := #[s, x], argTypes := #[69, 69] })
    (base : Nat) (v : Value) (l news : List UInt8) (hs : a.eval s = v) (hown : OwnB w0 base v l) (m c g : Nat)
    (hx : a.eval x = .slice (some ⟨g, 0, none⟩) m c) (hC : CellsB w0 g news) (hm : news.length = m)
    (hbound : l.length + m ≤ 140737488355328) (hbase : base ≤ w0.heap.size)
    (h : ∀ v' w', OwnB w' base v' (l ++ news) → Below base w0 w' → Grew w0 w' v v' → wpList Tryd.prog ops Q rest (a.put o.dst v') w') :
    wpList Tryd.prog ops Q (o :: rest) a w0 :=
  wpList_plain hgd fun _ hK => wp_app_cells s x ho base v l news hs hown m c g hx hC hm hbound hbase fun v' w' h1 h2 h3 => hK _ _ (h v' w' h1 h2 h3)
theorem step_app_cells {ops : Array Oper} {o : Oper} {a : Act} {K : Act → World → Prop} {Q : Exit → Act → World → Prop} {E : Prop} {w0 : World} (hgd : o.guard = none) (s x : Operand)
    (ho : o.op = .call { callee := .builtin .append, args := #[s, x], argTypes := #[69, 69] })
    (base : Nat) (v : Value) (l news : List UInt8) (hs : a.eval s = v) (hown : OwnB w0 base v l) (m c g : Nat)
    (hx : a.eval x = .slice (some ⟨g, 0, none⟩) m c) (hC : CellsB w0 g news) (hm : news.length = m)
    (hbound : l.length + m ≤ 140737488355328) (hbase : base ≤ w0.heap.size)
    (h : ∀ v' w', OwnB w' base v' (l ++ news) → Below base w0 w' → Grew w0 w' v v' → K (a.put o.dst v') w') :
    if Region.wanted o (yielded ops a.tmps) = true then o.wp Tryd.prog a w0 K Q else E := by
  have hw : Region.wanted o (yielded ops a.tmps) = true := by simp [Region.wanted, hgd]
  rw [if_pos hw]
  exact wp_app_cells s x ho base v l news hs hown m c g hx hC hm hbound hbase h

theorem OwnB.alloc {w : World} {base : Nat} {v : Value} {l : List UInt8} (h : OwnB w base v l) (o : Obj) : OwnB (w.alloc o) base v l := World.ownsRow.alloc h o
theorem Grew.alloc {w w' : World} {v v' : Value} {o : Obj} (h : Grew (w.alloc o) w' v v') : Grew w w' v v' := by
  refine ⟨⟨h.grown.os, h.grown.tape, h.grown.output, ?_, fun k hk hne => ?_⟩, ?_⟩
  · have := h.grown.size
    simp at this
    omega
  · rw [h.grown.block k (by simp; omega) hne]
    exact Below.heap_alloc w o k hk
  · rcases h.fresh with e | ⟨k, e, hk⟩
    · exact .inl e
    · exact .inr ⟨k, e, by simp at hk; omega⟩

/-- 'append(v, b1, .., bm)' on a slice of the call's own. -/
theorem app_lit {ops : Array Oper} {rest : List Oper} {o : Oper} {a : Act} {Q : Exit → Act → World → Prop} {w0 : World} (hgd : o.guard = none) (s x : Operand)
    (ho : o.op = .call { callee := .builtin .append, args := #[s, x], argTypes := #[69, 69] })
    (base : Nat) (v : Value) (l news : List UInt8) (hs : a.eval s = v) (hown : OwnB w0 base v l) (m : Nat) (C : Array Value)
    (hx : a.eval x = .slice (some ⟨w0.heap.size, 0, none⟩) m m) (hC : C.toList = news.map bv) (hm : news.length = m)
    (hbound : l.length + m ≤ 140737488355328) (hbase : base ≤ w0.heap.size)
    (h : ∀ v' w', OwnB w' base v' (l ++ news) → Below base w0 w' → Grew w0 w' v v' → wpList Tryd.prog ops Q rest (a.put o.dst v') w') :
    wpList Tryd.prog ops Q (o :: rest) a (w0.alloc (.cells C 5)) :=
  app_cells hgd s x ho base v l news hs (hown.alloc _) m m w0.heap.size hx (cells_new _ _ _ _ hC) hm hbound (by simp; omega)
    fun v' w' h1 h2 h3 => h v' w' h1 (((Below.refl base w0).alloc hbase _).trans h2) h3.alloc

theorem below_bytesWorld (B : Nat) (w : World) (e : TypeId) (s : ByteArray) (h : B ≤ w.heap.size) : Below B w (Lib.bytesWorld w e s) := by
  refine ⟨rfl, rfl, rfl, ?_, fun k hk => Lib.bytesWorld_at_old w e s k (by omega)⟩
  rw [Lib.bytesWorld_size]
  omega
/-- '[]byte(s)' -/
theorem conv_bytes {ops : Array Oper} {rest : List Oper} {o : Oper} {a : Act} {Q : Exit → Act → World → Prop} {w : World} (hgd : o.guard = none) (x : Operand)
    (ho : o.op = .convert 9 69 x) (s : ByteArray) (hx : a.eval x = .string s)
    (h : ∀ w' c, Below w.heap.size w w' → w.heap.size < w'.heap.size → (∀ j, j < s.size → w'.cell? ⟨w.heap.size, j, none⟩ = some (.int .u8 (s.data.toList.getD j 0).toNat)) →
      wpList Tryd.prog ops Q rest (a.put o.dst (.slice (some ⟨w.heap.size, 0, none⟩) s.size c)) w') :
    wpList Tryd.prog ops Q (o :: rest) a w := by
  refine wpList_plain hgd fun K hK => ?_
  unfold Oper.wp execOp
  simp only [ho, hx, Lib.run_convert_string_bytes w 9 69 5 s Tryd.underlying9 Tryd.underlying69 Tryd.underlying5, Sem.run_bind, Sem.run_pure, Result.andThen_ok]
  exact hK _ _ (h _ _ (below_bytesWorld _ _ _ _ (Nat.le_refl _)) (by rw [Lib.bytesWorld_size]; omega) (fun j hj => Lib.bytesWorld_cell _ _ _ j hj))

/-- 'string(v)' of a slice of the call's own. -/
theorem run_string_own (w : World) (base : Nat) (v : Value) (l : List UInt8) (hown : OwnB w base v l) :
    (convert 69 9 v).run Tryd.prog w = .ok (.string (S l)) w := by
  rcases hown.2 with ⟨rfl, h0⟩ | ⟨g, cap, cur, rfl, hg, hh, hn, hc, hs, ht⟩
  · rw [run_convert_bytes_string w 69 9 5 none 0 0 Tryd.underlying69 Tryd.underlying5 Tryd.underlying9]
    have : l = [] := List.eq_nil_of_length_eq_zero h0
    subst this
    rfl
  · rw [run_convert_bytes_string w 69 9 5 _ _ _ Tryd.underlying69 Tryd.underlying5 Tryd.underlying9]
    have hl : (loadCells ⟨g, 0, none⟩ l.length).run Tryd.prog w = .ok ((l.map fun b => (b.toNat : Int)).map (Value.int .u8)).toArray w := by
      have := run_loadCells_list (P := Tryd.prog) w ⟨g, 0, none⟩ (l.map bv) (hown.cells (g := g) rfl)
      rw [List.length_map] at this
      rw [this, List.map_map]
      rfl
    rw [run_bytesToString w _ _ _ _ hl, foldl_push_bytes]
    simp [S, List.map_map, Function.comp_def]
/-- 'string([]byte{..})' -/
theorem str_lit (w : World) (C : Array Value) (n : Nat) (l : List UInt8) (hC : C.toList = l.map bv) (hn : l.length = n) (hm : n ≤ 1000000) :
    (convert 69 9 (.slice (some ⟨w.heap.size, 0, none⟩) n n)).run Tryd.prog (w.alloc (.cells C 5)) = .ok (.string (S l)) (w.alloc (.cells C 5)) := by
  have hs : C.size = n * 1 := by rw [← Array.length_toList, hC, List.length_map, hn, Nat.mul_one]
  have h := World.ownsRow_lit (base := 0) (e := 5) (size := 1) w C n (Nat.zero_le _) (by unfold maxLen; omega) hs
  rw [hC] at h
  subst hn
  exact run_string_own _ 0 _ l h
end Go.Proofs.YtphfcebacilbbaaDoor
