/- sparse.Expand, walked. -/
import Derived.Test.YtnemjfojlgjkfaaDoorShrE
import Derived.Test.YtnemjfojlgjkfaaDoorMakeB
import Derived.Lib.BufferWrite
import Derived.Laws.CopyOwn
import Derived.Deep.RegionHeld3
import Derived.Deep.DrawnRows
import Derived.Outline
namespace Go.Proofs.YtnemjfojlgjkfaaDoor
open Go.RowKit
attribute [local go_sem ↓] Go.wp_at_zero Go.wp_at_succ

/-- a block of bytes, known whole -/
def WholeB (w : World) (g : Nat) (l : List UInt8) : Prop := w.heap[g]? = some (.cells (l.map bv).toArray 5 (0, 0))
theorem WholeB.lt {w : World} {g : Nat} {l : List UInt8} (h : WholeB w g l) : g < w.heap.size := (Array.getElem?_eq_some_iff.1 h).1
theorem WholeB.zeros (w : World) (n : Nat) : WholeB (w.alloc (.cells (zerosA n) 5)) w.heap.size (List.replicate n 0) := by
  unfold WholeB
  rw [heap_alloc_new]
  have h1 := toList_madeCells_one (.int .u8 0) n
  have h2 : zerosA n = ((List.replicate n (0 : UInt8)).map bv).toArray := by
    rw [List.map_replicate]
    apply Array.toList_inj.1
    rw [List.toList_toArray]
    exact h1
  rw [h2]
theorem WholeB.own {w : World} {g : Nat} {l : List UInt8} (h : WholeB w g l) (base : Nat) (hb : base ≤ g) (hl : l.length ≤ 1000000) : OwnB w base (.slice (some ⟨g, 0, none⟩) l.length l.length) l :=
  ⟨by simp, Or.inr ⟨g, l.length, (l.map bv).toArray, rfl, hb, h, Nat.le_refl _, by unfold maxLen; omega, by simp, by rw [Nat.mul_one, List.take_of_length_le (by simp)]⟩⟩
theorem WholeB.alloc {w : World} {g : Nat} {l : List UInt8} (h : WholeB w g l) (o : Obj) : WholeB (w.alloc o) g l := (((Below.refl w.heap.size w).alloc (Nat.le_refl _) o).block g h.lt).trans h
theorem WholeB.drew {w : World} {g : Nat} {l : List UInt8} (h : WholeB w g l) : WholeB w.drew g l := h
theorem info_u8s : (Tryd.prog.info? 5).map (·.size) = some 1 := by kernel_rfl
theorem step_put {ops : Array Oper} {o : Oper} {a : Act} {K : Act → World → Prop} {Q : Exit → Act → World → Prop} {E : Prop} {w0 : World} (hgd : o.guard = none) (d x : Operand)
    (ho : o.op = .call { callee := .builtin .copy, args := #[d, x], argTypes := #[53, 9] })
    (g off dLen dCap : Nat) (hd : a.eval d = .slice (some ⟨g, off, none⟩) dLen dCap) (s cur : List UInt8) (hx : a.eval x = .string (S s)) (hW : WholeB w0 g cur) (hle : s.length ≤ dLen) (hfit : off + s.length ≤ cur.length)
    (B : Nat) (wb : World) (hb : Below B wb w0) (hBg : B ≤ g)
    (h : ∀ w', WholeB w' g (putL cur off s) → Below B wb w' → (∀ k, k ≠ g → w'.heap[k]? = w0.heap[k]?) → K (a.put o.dst (goInt s.length)) w') :
    if Region.wanted o (yielded ops a.tmps) = true then o.wp Tryd.prog a w0 K Q else E := by
  have hw : Region.wanted o (yielded ops a.tmps) = true := by simp [Region.wanted, hgd]
  rw [if_pos hw]
  have hr := Lib.run_copy_row_string (P := Tryd.prog) w0 53 9 o.type 5 g off dLen dCap (S s) (cur.map bv).toArray 5 Tryd.underlying53 info_u8s hW (by rw [S_size]; exact hle) (by rw [S_size]; simpa using hfit)
  unfold Oper.wp execOp
  simp only [ho, resolve, invoke, builtin, Sem.run_bind, Sem.run_pure, Result.andThen_ok, List.map_toArray, List.map_cons, List.map_nil, hd, hx, hr]
  rw [S_size]
  refine h _ ?_ (below_setRow hb hBg _) (fun k hk => setRow_other w0 g k _ hk)
  refine (setRow_heap w0 g _ _ _ _ hW).trans (congrArg (fun z => some (Obj.cells z 5 (0, 0))) ?_)
  unfold putL
  rw [List.map_append, List.map_append, List.map_take, List.map_drop]
  rfl
set_option maxRecDepth 100000 in
set_option maxHeartbeats 2000000 in
theorem sExpand_no (size : Int) (l : Pcs) (v : Value) (s : List UInt8) (w : World) (hv : PieV w v l) (hr : mapB size l = false) :
    Calls Tryd.prog 10 #[.agg #[.int .i64 size, v], .string (S s)] w fun e w' => e = .returned (.tuple #[.string (S []), .int .i64 1]) ∧ Below w.heap.size w w' := by
  have hx0 := (Below.refl w.heap.size w).alloc (Nat.le_refl _) (.cells #[.int .i64 size, v] 25)
  have HR := Lib.hid (Right_any size l v _ (hv.below hx0 (Nat.le_refl _)))
  rw [hr] at HR
  clear hv hr
  go_enter Tryd.func10, Tryd.ntmps10
  go_wp2_with fail
  refine HR.out.mono ?_
  rintro e w1 ⟨rfl, hb1⟩
  have hx1 := hx0.trans (hb1.mono hx0.size)
  go_wp2_with fail
  go_ret2
  exact ⟨rfl, hx1⟩
/-- the first thing that is wrong with a right map and bytes -/
def expE (size : Int) (l : Pcs) (n : Nat) : Int := if 16777216 < size then 12 else if (n : Int) < pieLen l then 3 else 2
set_option maxRecDepth 100000 in
set_option maxHeartbeats 2000000 in
theorem sExpand_err (size : Int) (l : Pcs) (v : Value) (s : List UInt8) (w : World) (hv : PieV w v l) (hr : mapB size l = true) (he : 16777216 < size ∨ (s.length : Int) ≠ pieLen l) :
    Calls Tryd.prog 10 #[.agg #[.int .i64 size, v], .string (S s)] w fun e w' => e = .returned (.tuple #[.string (S []), .int .i64 (expE size l s.length)]) ∧ Below w.heap.size w w' := by
  have hM0 := MapAt.new w size v
  have hx0 := (Below.refl w.heap.size w).alloc (Nat.le_refl _) (.cells #[.int .i64 size, v] 25)
  have hv0 := hv.below hx0 (Nat.le_refl _)
  have HR := Lib.hid (Right_any size l v _ hv0)
  rw [hr] at HR
  have HLn : Hid (∀ W, Below (w.alloc (.cells #[.int .i64 size, v] 25)).heap.size (w.alloc (.cells #[.int .i64 size, v] 25)) W → Calls Tryd.prog 14 #[.agg #[.int .i64 size, v]] W fun e w' => e = .returned (.int .i64 (pieLen l)) ∧ Below W.heap.size W w') := Lib.hid (fun W h => by
    have := Len_any size l v W (hv0.below h (Nat.le_refl _))
    unfold sLen at this
    rw [if_pos hr] at this
    exact this)
  by_cases hbig : 16777216 < size
  · have HE := Lib.hid (show expE size l s.length = 12 by unfold expE; rw [if_pos hbig])
    clear he HLn hv0 hv hr
    go_enter Tryd.func10, Tryd.ntmps10
    go_wp2_with fail
    refine HR.out.mono ?_
    rintro e w1 ⟨rfl, hb1⟩
    have hx1 := hx0.trans (hb1.mono hx0.size)
    have c0 := (hM0.below hb1).c0
    go_wp2_with fail
    go_ret2
    exact ⟨by rw [HE.out]; rfl, hx1⟩
  · have hne : (s.length : Int) ≠ pieLen l := by rcases he with h | h; exact absurd h hbig; exact h
    have hE0 : expE size l s.length = if (s.length : Int) < pieLen l then 3 else 2 := by unfold expE; rw [if_neg hbig]
    clear he hv0 hv hr
    by_cases hlt : (s.length : Int) < pieLen l
    · rw [if_pos hlt] at hE0
      have HE := Lib.hid hE0
      clear hE0 hne
      generalize pieLen l = pl at *
      go_enter Tryd.func10, Tryd.ntmps10
      go_wp2_with fail
      refine HR.out.mono ?_
      rintro e w1 ⟨rfl, hb1⟩
      have hx1 := hx0.trans (hb1.mono hx0.size)
      have hM1 := hM0.below hb1
      have c0 := hM1.c0
      have c1 := hM1.c1
      go_wp2_with fail
      refine (HLn.out _ hb1).mono ?_
      rintro e w2 ⟨rfl, hb2⟩
      have hx2 := hx1.trans (hb2.mono hx1.size)
      go_wp2_with fail
      go_ret2
      exact ⟨by rw [HE.out]; rfl, hx2⟩
    · rw [if_neg hlt] at hE0
      have HE := Lib.hid hE0
      have hgt : pieLen l < (s.length : Int) := by omega
      clear hE0 hne
      generalize pieLen l = pl at *
      go_enter Tryd.func10, Tryd.ntmps10
      go_wp2_with fail
      refine HR.out.mono ?_
      rintro e w1 ⟨rfl, hb1⟩
      have hx1 := hx0.trans (hb1.mono hx0.size)
      have hM1 := hM0.below hb1
      have c0 := hM1.c0
      have c1 := hM1.c1
      go_wp2_with fail
      refine (HLn.out _ hb1).mono ?_
      rintro e w2 ⟨rfl, hb2⟩
      have hb12 := hb1.trans (hb2.mono hb1.size)
      have hx2 := hx1.trans (hb2.mono hx1.size)
      have hM2 := hM1.below hb2
      have d0 := hM2.c0
      have d1 := hM2.c1
      clear c0 c1
      go_wp2_with fail
      refine (HLn.out _ hb12).mono ?_
      rintro e w3 ⟨rfl, hb3⟩
      have hx3 := hx2.trans (hb3.mono hx2.size)
      go_wp2_with fail
      go_ret2
      exact ⟨by rw [HE.out]; rfl, hx3⟩
set_option maxRecDepth 100000 in
set_option maxHeartbeats 4000000 in
theorem sExpand_yes (n : Nat) (l : Pcs) (v : Value) (s : List UInt8) (hs : s.length ≤ 1000000) (hn : n ≤ 6000) (w : World) (hv : PieV w v l) (hr : mapB n l = true) (he : (s.length : Int) = pieLen l) :
    Calls Tryd.prog 10 #[.agg #[.int .i64 n, v], .string (S s)] w fun e w' => e = .returned (.tuple #[.string (S (expL n l s)), .int .i64 0]) ∧ Below w.heap.size w w' := by
  have hM0 := MapAt.new w n v
  have hx0 := (Below.refl w.heap.size w).alloc (Nat.le_refl _) (.cells #[.int .i64 n, v] 25)
  have hv0 := hv.below hx0 (Nat.le_refl _)
  have HR := Lib.hid (Right_any n l v _ hv0)
  rw [hr] at HR
  obtain ⟨g1, g2, g3⟩ := mapB_size hr
  have hmem := mapB_mem hr
  have hpb : pieB n 0 l = true := by
    unfold mapB at hr
    rw [if_neg (by omega)] at hr
    exact hr
  have HLn : Hid (∀ W, Below (w.alloc (.cells #[.int .i64 n, v] 25)).heap.size (w.alloc (.cells #[.int .i64 n, v] 25)) W → Calls Tryd.prog 14 #[.agg #[.int .i64 n, v]] W fun e w' => e = .returned (.int .i64 s.length) ∧ Below W.heap.size W w') := Lib.hid (fun W h => by
    have := Len_any n l v W (hv0.below h (Nat.le_refl _))
    unfold sLen at this
    rw [if_pos hr, ← he] at this
    exact this)
  have HPut : Hid (∀ k (hk : k < l.length), expL n (l.take (k + 1)) s = putL (expL n (l.take k) s) l[k].1.toNat ((s.drop (pieLen (l.take k)).toNat).take l[k].2.toNat) ∧ 0 ≤ pieLen (l.take k) ∧ pieLen (l.take k) + l[k].2 ≤ s.length ∧ pieLen (l.take (k + 1)) = pieLen (l.take k) + l[k].2) := Lib.hid (fun k hk => by
    have h1 := expL_put n l s k hk 0 (Int.le_refl _) hpb (by omega)
    have htk : l.take (k + 1) = l.take k ++ [l[k]] := List.take_succ_eq_append_getElem hk
    have h2 : pieLen (l.take (k + 1)) = pieLen (l.take k) + l[k].2 := by
      rw [htk, pieLen_append, pieLen_cons]; show _ + (_ + 0) = _; omega
    have h3 : pieLen l = pieLen (l.take (k + 1)) + pieLen (l.drop (k + 1)) := by rw [← pieLen_append, List.take_append_drop]
    have h4 := (cov_bound (l.drop (k + 1)) 0 (fun p hp => by have := hmem p (List.mem_of_mem_drop hp); omega))
    have h5 := (cov_bound (l.take k) 0 (fun p hp => by have := hmem p (List.mem_of_mem_take hp); omega))
    exact ⟨h1, by omega, by omega, h2⟩)
  have HZ := Lib.hid (expL_nil n s)
  have HPL := Lib.hid he
  clear hpb hr he hv0
  obtain ⟨a, c, rfl, hcell⟩ := hv
  have hlI : (l.length : Int) ≤ 4096 := by omega
  have hmk := mk_bytes n n (Nat.le_refl _) (by omega)
  have HMk := Lib.hid hmk
  clear hmk
  go_enter Tryd.func10, Tryd.ntmps10
  go_wp2_with fail
  refine HR.out.mono ?_
  rintro e w1 ⟨rfl, hb1⟩
  have hx1 := hx0.trans (hb1.mono hx0.size)
  have hM1 := hM0.below hb1
  have c0 := hM1.c0
  have c1 := hM1.c1
  go_wp2_with fail
  refine (HLn.out _ hb1).mono ?_
  rintro e w2 ⟨rfl, hb2⟩
  have hb12 := hb1.trans (hb2.mono hb1.size)
  have hx2 := hx1.trans (hb2.mono hx1.size)
  have hM2 := hM1.below hb2
  have d0 := hM2.c0
  have d1 := hM2.c1
  clear c0 c1
  go_wp2_with fail
  refine (HLn.out _ hb12).mono ?_
  rintro e w3 ⟨rfl, hb3⟩
  have hx3 := hx2.trans (hb3.mono hx2.size)
  have hM3 := hM2.below hb3
  have e0 := hM3.c0
  have e1 := hM3.c1
  clear d0 d1 HR HLn hM0 hM1 hM2 hx0 hx1 hx2 hb1 hb2 hb12
  have hmk := HMk.out w3
  go_upto_region 10 with fail
  have hM4 := hM3.below ((Below.refl _ _).alloc (Nat.le_refl _) (.cells (zerosA n) 5))
  have hW4 := WholeB.zeros w3 n
  have hx4 : Below w.heap.size w (w3.alloc (.cells (zerosA n) 5)) := hx3.alloc hx3.size _
  have hg3 : w.heap.size < w3.heap.size := hM3.lt
  have f1 := hM4.c1
  clear e0 e1 hM3 hx3 hmk HMk hb3
  generalize w3.alloc (.cells (zerosA n) 5) = w4 at *
  generalize w3.heap.size = g at *
  have hW0 : WholeB w4 g (expL n (l.take 0) s) := by rw [List.take_zero, HZ.out]; exact hW4
  clear hW4 HZ
  go_wp2_with fail
  go_loopw [1, 35] (fun v1 v35 wr => ∃ (k P : Nat), v1 = .string (S (s.drop P)) ∧ v35 = .int .i64 k ∧ k ≤ l.length ∧ (P : Int) = pieLen (l.take k) ∧ P ≤ s.length ∧ WholeB wr g (expL n (l.take k) s) ∧ Below w.heap.size w wr) (fun _ v35 _ => l.length - (intOf v35).toNat)
  case atStart => exact ⟨0, 0, rfl, rfl, Nat.zero_le _, rfl, Nat.zero_le _, hW0, hx4⟩
  case round =>
    clear hW0 hx4 hM4 f1
    obtain ⟨k, P, rfl, rfl, hk, hP, hPs, hW, hb⟩ := hrel
    by_cases hlt : k < l.length
    · obtain ⟨b, off, rfl, hbl, hcl⟩ := hcell (by omega)
      have hkI : (k : Int) < (l.length : Int) := by omega
      obtain ⟨u1, u2, u3, u4⟩ := HPut.out k hlt
      have hy0 := (hb.cell (p := ⟨b, off + k * 2, none⟩) hbl).trans (hcl k hlt).1
      have hy1 := (hb.cell (p := ⟨b, off + k * 2 + 1, none⟩) hbl).trans (hcl k hlt).2
      obtain ⟨p1, p2, p3⟩ := hmem l[k] (List.getElem_mem hlt)
      rw [← hP] at u1 u2 u3 u4
      generalize l[k].1 = x at *
      generalize l[k].2 = y at *
      obtain ⟨nx, rfl⟩ : ∃ m : Nat, x = m := ⟨x.toNat, by omega⟩
      obtain ⟨ny, rfl⟩ : ∃ m : Nat, y = m := ⟨y.toNat, by omega⟩
      simp only [Int.toNat_natCast] at u1
      have U1 := Lib.hid u1
      have U4 := Lib.hid u4
      have HP := Lib.hid hP
      have hcur : (expL n (l.take k) s).length = n := expL_len ..
      have HCur := Lib.hid hcur
      have hdl : (s.drop P).length = s.length - P := by rw [List.length_drop]
      have hd1 : ny ≤ (s.drop P).length := by omega
      have hd2 : (s.drop P).length ≤ 1000000 := by omega
      have hE1 : (S (s.drop P)).extract 0 ny = S ((s.drop P).take ny) := by rw [S_extract, List.drop_zero, Nat.sub_zero]
      have hE2 : (S (s.drop P)).extract ny (s.drop P).length = S (s.drop (P + ny)) := by
        rw [S_extract, List.drop_drop, List.take_of_length_le (by rw [List.length_drop, List.length_drop]; omega)]
      have htk : ((s.drop P).take ny).length = ny := by rw [List.length_take]; omega
      have HTk := Lib.hid htk
      clear u1 u2 u4 hP hcur hdl htk hcl hcell HPut hmem
      generalize expL n (l.take k) s = cur at *
      generalize s.drop P = bs at *
      generalize bs.take ny = bt at *
      have hb2 := hb.alloc hb.size (.cells #[.int .i64 nx, .int .i64 ny] 57)
      have hW2 := hW.alloc (.cells #[.int .i64 nx, .int .i64 ny] 57)
      have q0 : (wr.alloc (.cells #[.int .i64 nx, .int .i64 ny] 57)).cell? ⟨wr.heap.size, 0, none⟩ = some (.int .i64 nx) := by simp
      have q1 : (wr.alloc (.cells #[.int .i64 nx, .int .i64 ny] 57)).cell? ⟨wr.heap.size, 1, none⟩ = some (.int .i64 ny) := by simp
      have hgw : g < wr.heap.size := hW.lt
      have hpz : wr.heap.size < (wr.alloc (.cells #[.int .i64 nx, .int .i64 ny] 57)).heap.size := by simp
      go_upto_region 13 with fail
      clear hy0 hy1 hb hW
      generalize wr.alloc (.cells #[.int .i64 nx, .int .i64 ny] 57) = w5 at *
      generalize wr.heap.size = gp at *
      have i1 : (0 : Int) ≤ (nx : Int) := by omega
      have i2 : (nx : Int) ≤ (n : Int) := by omega
      have i3 : (0 : Int) ≤ (ny : Int) := by omega
      have i4 : (ny : Int) ≤ (bs.length : Int) := by omega
      have i5 : (nx : Int) < (n : Int) := by omega
      have i6 : ¬ n = nx := by omega
      have q0d : w5.drew.cell? ⟨gp, 0, none⟩ = some (.int .i64 nx) := q0
      have q1d : w5.drew.cell? ⟨gp, 1, none⟩ = some (.int .i64 ny) := q1
      have hbd : Below w.heap.size w w5.drew := hb2.drew
      have hWd : WholeB w5.drew g cur := hW2
      have hle : bt.length ≤ n - nx := by rw [HTk.out]; omega
      have hfit : nx + bt.length ≤ cur.length := by rw [HTk.out, HCur.out]; omega
      have hgn : gp ≠ g := by omega
      have hBg : w.heap.size ≤ g := by omega
      go_region_held3 (fun W => W.cell? ⟨gp, 0, none⟩ = some (.int .i64 nx) ∧ W.cell? ⟨gp, 1, none⟩ = some (.int .i64 ny)) (first | exact ⟨r0, r1⟩ | exact ⟨q0d, q1d⟩) (first
        | (refine step_put (by rfl) (.tmp 42) (.tmp 46) (by rfl) g nx (n - nx) (n - nx) (by rfl) bt cur (by rfl) hWd hle hfit w.heap.size w hbd hBg ?_; intro w6 hW6 hb6 hk6; have r0 : w6.cell? ⟨gp, 0, none⟩ = some (.int .i64 nx) := (World.cell?_of_block (a := ⟨gp, 0, none⟩) (hk6 gp hgn)).trans q0d; have r1 : w6.cell? ⟨gp, 1, none⟩ = some (.int .i64 ny) := (World.cell?_of_block (a := ⟨gp, 1, none⟩) (hk6 gp hgn)).trans q1d))
      go_wp2_with fail
      go_roundw
      case rel => exact ⟨k + 1, P + ny, rfl, by go_num, by omega, by rw [U4.out]; push_cast; rfl, by omega, by rw [U1.out]; exact hW6, hb6⟩
      case measure => simp [intOf]; omega
    · have hk2 : k = l.length := by omega
      subst hk2
      rw [List.take_length] at hW
      have hlen : (expL n l s).length ≤ 1000000 := by rw [expL_len]; omega
      have hel : (expL n l s).length = n := expL_len ..
      have hown := hW.own (g := g) 0 (Nat.zero_le _) hlen
      have hcv := run_string_own _ _ _ _ hown
      rw [hel] at hcv
      clear hel hown
      go_wp2_with fail
      go_ret2
      exact ⟨rfl, hb⟩
end Go.Proofs.YtnemjfojlgjkfaaDoor
