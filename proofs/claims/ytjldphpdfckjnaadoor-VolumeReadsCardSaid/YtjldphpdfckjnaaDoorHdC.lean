/- Heads of members: a head at a block; header.numbers and the document's number, walked; header.form. -/
import Derived.Test.YtjldphpdfckjnaaDoorHdB
import Derived.Laws.Tables
import Derived.Laws.CopyOwn
namespace Go.Proofs.YtjldphpdfckjnaaDoor
open Go.RowKit

/-- a head's cells -/
def HC (h : HeadL) : List Value := [.string (S h.name), .string (S h.link), .int .u8 h.kind.toNat, .int .i64 h.mode, .int .i64 h.uid, .int .i64 h.gid, .int .i64 h.size, .int .i64 h.time, .string (S h.uname), .string (S h.gname), .int .i64 h.major, .int .i64 h.minor, .int .i64 h.form]
theorem HV_eq (h : HeadL) : HV h = .agg (HC h).toArray := rfl
def HAt (w : World) (g : Nat) (h : HeadL) : Prop := AtB w g 68 (HC h)
theorem info_head : (Tryd.prog.info? 68).map (·.size) = some 13 := by kernel_rfl
theorem hl_load {ops : Array Oper} {rest : List Oper} {o : Oper} {a : Act} {Q : Exit → Act → World → Prop} {w : World} (hgd : o.guard = none) (x : Operand) (ho : o.op = .load 68 x)
    (g : Nat) (hx : a.eval x = .pointer (some ⟨g, 0, none⟩)) (hd : HeadL) (hA : HAt w g hd) (h : wpList Tryd.prog ops Q rest (a.put o.dst (HV hd)) w) : wpList Tryd.prog ops Q (o :: rest) a w :=
  wpList_load_row hgd 68 x ho g hx 68 (HC hd).toArray (0, 0) _ hA Tryd.underlying68 rfl info_head h
theorem HC_one (h : HeadL) : (HC h).toArray.all (·.oneCell') = true := by simp [HC, Value.oneCell']
theorem HAt.setRow {w : World} {g : Nat} {hd : HeadL} (hA : HAt w g hd) (h2 : HeadL) : HAt (w.setRow g (HC h2).toArray) g h2 := setRow_heap w g _ _ _ _ hA
theorem hl_store {ops : Array Oper} {rest : List Oper} {o : Oper} {a : Act} {Q : Exit → Act → World → Prop} {w : World} (hgd : o.guard = none) (x y : Operand) (ho : o.op = .store 68 x y)
    (g : Nat) (hx : a.eval x = .pointer (some ⟨g, 0, none⟩)) (hd h2 : HeadL) (hA : HAt w g hd) (hy : a.eval y = HV h2) (B : Nat) (wb : World) (hb : Below B wb w) (hBg : B ≤ g)
    (h : ∀ w', HAt w' g h2 → Below B wb w' → (∀ k, k ≠ g → w'.heap[k]? = w.heap[k]?) → wpList Tryd.prog ops Q rest (a.put o.dst undef) w') : wpList Tryd.prog ops Q (o :: rest) a w :=
  wpList_store_row hgd 68 x y ho g (HC h2).toArray hx hy 68 (HC hd).toArray hA info_head rfl (HC_one h2)
    (h _ (hA.setRow h2) (below_setRow hb hBg _) (fun k hk => setRow_other w g k _ hk))
theorem HAt.lt {w : World} {g : Nat} {h : HeadL} (hA : HAt w g h) : g < w.heap.size := AtB.lt hA
theorem HAt.under {w w' : World} {g B : Nat} {h : HeadL} (hA : HAt w g h) (hb : Below B w w') (hg : g < B) : HAt w' g h := AtB.under hA hb hg
theorem HAt.same {w w' : World} {g : Nat} {h : HeadL} (hA : HAt w g h) (e : w'.heap[g]? = w.heap[g]?) : HAt w' g h := e.trans hA
theorem HAt.fz {w : World} {g : Nat} {h : HeadL} (hA : HAt w g h) (i : Nat) : w.frozen? ⟨g, i, none⟩ = false := AtB.fz hA i
theorem HAt.cell {w : World} {g : Nat} {h : HeadL} (hA : HAt w g h) (i : Nat) : w.cell? ⟨g, i, none⟩ = (HC h)[i]? := AtB.cell hA i
theorem setCell_other (w : World) (g i k : Nat) (v : Value) (hk : k ≠ g) : (w.setCell ⟨g, i, none⟩ v).heap[k]? = w.heap[k]? :=
  heap_setCell_other w ⟨g, i, none⟩ k v hk

/-! ### Rows of numbers -/
def colOf (r : Nat) : Nat := if r ≤ 5 then r + 2 else r + 1
def rowOk (r : Nat) : Prop := r = 1 ∨ r = 2 ∨ r = 3 ∨ r = 4 ∨ r = 5 ∨ r = 9 ∨ r = 10
def setNum (r : Nat) (v : Int) (h : HeadL) : HeadL :=
  if r = 1 then { h with mode := v } else if r = 2 then { h with uid := v } else if r = 3 then { h with gid := v } else if r = 4 then { h with size := v } else if r = 5 then { h with time := v } else if r = 9 then { h with major := v } else { h with minor := v }
theorem set_num (r : Nat) (v : Int) (h : HeadL) (hr : rowOk r) : (HC h).set (colOf r) (.int .i64 v) = HC (setNum r v h) := by
  rcases hr with rfl | rfl | rfl | rfl | rfl | rfl | rfl <;> rfl
theorem num_at (r : Nat) (h : HeadL) (hr : rowOk r) : ∃ x : Int, (HC h)[colOf r]? = some (.int .i64 x) := by
  rcases hr with rfl | rfl | rfl | rfl | rfl | rfl | rfl <;> exact ⟨_, rfl⟩
/-- a row's number, and an error's number -/
def numR (s : List UInt8) (r : Nat) : Int × Nat := numN s (placesL.getD r (0, 0)).1 (placesL.getD r (0, 0)).2 (r == 5)
def errR (s : List UInt8) : List Nat → Nat
  | [] => 0
  | r :: l => if (numR s r).2 = 0 then errR s l else (numR s r).2
def setR (s : List UInt8) : List Nat → HeadL → HeadL
  | [], h => h
  | r :: l, h => setR s l (setNum r (numR s r).1 h)
theorem setR_snoc (s : List UInt8) (r : Nat) : ∀ (l : List Nat) (h : HeadL), setR s (l ++ [r]) h = setNum r (numR s r).1 (setR s l h)
  | [], _ => rfl
  | _ :: l, _ => setR_snoc s r l _
structure But (g : Nat) (w w' : World) : Prop where
  size : w.heap.size ≤ w'.heap.size
  block : ∀ k, k < w.heap.size → k ≠ g → w'.heap[k]? = w.heap[k]?
theorem But.refl (g : Nat) (w : World) : But g w w := ⟨Nat.le_refl _, fun _ _ _ => rfl⟩
theorem But.below {g : Nat} {w w1 w2 : World} (h : But g w w1) (hb : Below w1.heap.size w1 w2) : But g w w2 :=
  ⟨Nat.le_trans h.size hb.size, fun k hk hne => (hb.block k (Nat.lt_of_lt_of_le hk h.size)).trans (h.block k hk hne)⟩
theorem But.set {g : Nat} {w w1 : World} (h : But g w w1) (i : Nat) (v : Value) : But g w (w1.setCell ⟨g, i, none⟩ v) :=
  ⟨by rw [World.size_setCell]; exact h.size, fun k hk hne => (setCell_other w1 g i k v hne).trans (h.block k hk hne)⟩

set_option maxRecDepth 100000 in
set_option maxHeartbeats 2000000 in
theorem rnumber_any (s : List UInt8) (a n : Nat) (b : Bool) (w : World) (hs : s.length = 512) (ha : a + n ≤ 512) (hn : n ≤ 12) :
    Calls Tryd.prog 66 #[.string (S s), .int .i64 a, .int .i64 n, .bool b] w fun e w' => e = .returned (.tuple #[.int .i64 (numN s a n b).1, .int .i64 (numN s a n b).2]) ∧ w = w' := by
  have hext := fld_ext s a (a + n)
  rw [show a + n - a = n by omega] at hext
  have haI : (a : Int) + (n : Int) ≤ (s.length : Int) := by omega
  have hwp : IntKind.i64.wrap ((a : Int) + (n : Int)) = (a : Int) + (n : Int) := wrap_lit_i64 _ (by omega) (by omega)
  have HR := Lib.hid (rRead_any (fldL s a n) w (by rw [fld_len s a n (by omega)]; omega))
  have HN : Hid (numN s a n b = if (readO (fldL s a n)).2 = 0 ∧ (readO (fldL s a n)).1 < 0 ∧ b = false then (0, 6) else readO (fldL s a n)) := Lib.hid rfl
  generalize readO (fldL s a n) = R at *
  obtain ⟨v, e⟩ := R
  generalize fldL s a n = F at *
  clear hs ha hn
  by_cases he : e = 0
  · by_cases hv : v < 0
    · subst he
      cases b with
      | true =>
        have H : Hid (numN s a n true = (v, 0)) := Lib.hid (by rw [HN.out, if_neg (by simp)])
        clear HN
        go_enter Tryd.func66, Tryd.ntmps66
        go_wp2_with fail
        refine HR.out.mono ?_
        rintro e w1 ⟨rfl, rfl⟩
        go_wp2_with fail
        go_ret2
        exact ⟨by rw [H.out]; rfl, rfl⟩
      | false =>
        have H : Hid (numN s a n false = (0, 6)) := Lib.hid (by rw [HN.out, if_pos ⟨rfl, hv, rfl⟩])
        clear HN
        go_enter Tryd.func66, Tryd.ntmps66
        go_wp2_with fail
        refine HR.out.mono ?_
        rintro e w1 ⟨rfl, rfl⟩
        go_wp2_with fail
        go_ret2
        exact ⟨by rw [H.out]; rfl, rfl⟩
    · subst he
      have H : Hid (numN s a n b = (v, 0)) := Lib.hid (by rw [HN.out, if_neg (fun g => hv g.2.1)])
      clear HN
      go_enter Tryd.func66, Tryd.ntmps66
      go_wp2_with fail
      refine HR.out.mono ?_
      rintro e w1 ⟨rfl, rfl⟩
      go_wp2_with fail
      go_ret2
      exact ⟨by rw [H.out]; rfl, rfl⟩
  · have H : Hid (numN s a n b = (v, e)) := Lib.hid (by rw [HN.out, if_neg (fun g => he g.1)])
    have heb : ((e : Int) == 0) = false := beq_eq_false_iff_ne.2 (by omega)
    clear HN
    go_enter Tryd.func66, Tryd.ntmps66
    go_wp2_with fail
    refine HR.out.mono ?_
    rintro e w1 ⟨rfl, rfl⟩
    go_wp2_with fail
    go_ret2
    exact ⟨by rw [H.out]; rfl, rfl⟩
end Go.Proofs.YtjldphpdfckjnaaDoor
