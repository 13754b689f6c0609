/- A block of bytes, known whole; texts laid over it. -/
import Derived.Test.YtjldphpdfckjnaaDoorHdN
import Derived.Test.YtjldphpdfckjnaaDoorMakeB
import Derived.Lib.BufferWrite
import Derived.Laws.CopyOwn
namespace Go.Proofs.YtjldphpdfckjnaaDoor
open Go.RowKit

/-- a block of bytes, known whole -/
def WholeB (w : World) (g : Nat) (l : List UInt8) : Prop := w.heap[g]? = some (.cells (l.map bv).toArray 5 (0, 0))
theorem WholeB.lt {w : World} {g : Nat} {l : List UInt8} (h : WholeB w g l) : g < w.heap.size := (Array.getElem?_eq_some_iff.1 h).1
theorem WholeB.zeros (w : World) (n : Nat) : WholeB (w.alloc (.cells (zerosA n) 5)) w.heap.size (List.replicate n 0) := by
  unfold WholeB
  rw [heap_alloc_new]
  have h1 := toList_madeCells_one (.int .u8 0) n
  have h2 : zerosA n = ((List.replicate n (0 : UInt8)).map bv).toArray := by
    rw [List.map_replicate]
    apply Array.toList_inj.1
    rw [List.toList_toArray]
    exact h1
  rw [h2]
theorem WholeB.own {w : World} {g : Nat} {l : List UInt8} (h : WholeB w g l) (base : Nat) (hb : base ≤ g) (hl : l.length ≤ 1000000) : OwnB w base (.slice (some ⟨g, 0, none⟩) l.length l.length) l :=
  ⟨by simp, Or.inr ⟨g, l.length, (l.map bv).toArray, rfl, hb, h, Nat.le_refl _, by unfold maxLen; omega, by simp, by rw [Nat.mul_one, List.take_of_length_le (by simp)]⟩⟩
theorem WholeB.alloc {w : World} {g : Nat} {l : List UInt8} (h : WholeB w g l) (o : Obj) : WholeB (w.alloc o) g l := (((Below.refl w.heap.size w).alloc (Nat.le_refl _) o).block g h.lt).trans h
theorem WholeB.drew {w : World} {g : Nat} {l : List UInt8} (h : WholeB w g l) : WholeB w.drew g l := h
theorem info_u8s : (Tryd.prog.info? 5).map (·.size) = some 1 := by kernel_rfl
theorem WholeB.under {w w' : World} {g B : Nat} {l : List UInt8} (h : WholeB w g l) (hb : Below B w w') (hg : g < B) : WholeB w' g l := (hb.block g hg).trans h
theorem WholeB.same {w w' : World} {g : Nat} {l : List UInt8} (h : WholeB w g l) (e : w'.heap[g]? = w.heap[g]?) : WholeB w' g l := e.trans h
/-- 'copy(d, s)' of a text -/
theorem app_lay {ops : Array Oper} {rest : List Oper} {o : Oper} {a : Act} {Q : Exit → Act → World → Prop} {w0 : World} (hgd : o.guard = none) (d x : Operand)
    (ho : o.op = .call { callee := .builtin .copy, args := #[d, x], argTypes := #[46, 9] })
    (g off dLen dCap : Nat) (hd : a.eval d = .slice (some ⟨g, off, none⟩) dLen dCap) (s cur : List UInt8) (hx : a.eval x = .string (S s)) (hW : WholeB w0 g cur) (hle : s.length ≤ dLen) (hfit : off + s.length ≤ cur.length)
    (B : Nat) (wb : World) (hb : Below B wb w0) (hBg : B ≤ g)
    (h : ∀ w', WholeB w' g (layL cur off s) → Below B wb w' → (∀ k, k ≠ g → w'.heap[k]? = w0.heap[k]?) → w0.heap.size ≤ w'.heap.size → wpList Tryd.prog ops Q rest (a.put o.dst (goInt s.length)) w') :
    wpList Tryd.prog ops Q (o :: rest) a w0 := by
  refine wpList_plain hgd fun K hK => ?_
  have hr := Lib.run_copy_row_string (P := Tryd.prog) w0 46 9 o.type 5 g off dLen dCap (S s) (cur.map bv).toArray 5 Tryd.underlying46 info_u8s hW (by rw [S_size]; exact hle) (by rw [S_size]; simpa using hfit)
  unfold Oper.wp execOp
  simp only [ho, resolve, invoke, builtin, Sem.run_bind, Sem.run_pure, Result.andThen_ok, List.map_toArray, List.map_cons, List.map_nil, hd, hx, hr]
  rw [S_size]
  refine hK _ _ (h _ ?_ (below_setRow hb hBg _) (fun k hk => setRow_other w0 g k _ hk) (by unfold World.setRow; simp))
  refine (setRow_heap w0 g _ _ _ _ hW).trans (congrArg (fun z => some (Obj.cells z 5 (0, 0))) ?_)
  unfold layL
  rw [List.map_append, List.map_append, List.map_take, List.map_drop]
  rfl
theorem WholeB.set {w : World} {g : Nat} {l : List UInt8} (h : WholeB w g l) (i : Nat) (b : UInt8) : WholeB (w.setCell ⟨g, i, none⟩ (bv b)) g (l.set i b) := by
  unfold WholeB at *
  rw [heap_setCell_same w g i _ _ (bv b) h]
  simp [List.map_set]
theorem WholeB.cell {w : World} {g : Nat} {l : List UInt8} (h : WholeB w g l) (i : Nat) (hi : i < l.length) : w.cell? ⟨g, i, none⟩ = some (bv l[i]) := by
  unfold WholeB at h
  simp [World.cell?, h, hi]
theorem WholeB.fz {w : World} {g : Nat} {l : List UInt8} (h : WholeB w g l) (i : Nat) : w.frozen? ⟨g, i, none⟩ = false := by
  unfold WholeB at h
  simp [World.frozen?, h]
end Go.Proofs.YtjldphpdfckjnaaDoor
