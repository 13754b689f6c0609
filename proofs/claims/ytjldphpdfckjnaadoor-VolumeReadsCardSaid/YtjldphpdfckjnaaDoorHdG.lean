/- Heads of members: header.form, walked; what header.Parse needs of appended rows. Heads of members: header.Parse, walked, at a block that is none. Heads of members: single fields of a head at a block, stored and loaded. -/
import Derived.Test.YtjldphpdfckjnaaDoorHdD
import Derived.Laws.Append
import Derived.Laws.IdiomCopy
namespace Go.Proofs.YtjldphpdfckjnaaDoor
open Go.RowKit

set_option maxRecDepth 100000 in
theorem hform_any (m : List UInt8) (w : World) : Calls Tryd.prog 56 #[.string (S m)] w fun e w' => e = .returned (.int .i64 (formN m)) ∧ w = w' := by
  by_cases h1 : m = [117, 115, 116, 97, 114, 0, 48, 48]
  · subst h1
    go_enter Tryd.func56, Tryd.ntmps56
    go_wp2_with fail
    go_ret
    exact ⟨rfl, rfl⟩
  have b1 : (m == [117, 115, 116, 97, 114, 0, 48, 48]) = false := beq_eq_false_iff_ne.2 h1
  by_cases h2 : m = [117, 115, 116, 97, 114, 32, 32, 0]
  · subst h2
    go_enter Tryd.func56, Tryd.ntmps56
    go_wp2_with fail
    go_ret
    exact ⟨rfl, rfl⟩
  have b2 : (m == [117, 115, 116, 97, 114, 32, 32, 0]) = false := beq_eq_false_iff_ne.2 h2
  by_cases h3 : m = [0, 0, 0, 0, 0, 0, 0, 0]
  · subst h3
    go_enter Tryd.func56, Tryd.ntmps56
    go_wp2_with fail
    go_ret
    exact ⟨rfl, rfl⟩
  have b3 : (m == [0, 0, 0, 0, 0, 0, 0, 0]) = false := beq_eq_false_iff_ne.2 h3
  have H : Hid (formN m = 0) := Lib.hid (by unfold formN; rw [if_neg h1, if_neg h2, if_neg h3])
  clear h1 h2 h3
  go_enter Tryd.func56, Tryd.ntmps56
  go_wp2_with fail
  go_ret
  exact ⟨by rw [H.out]; rfl, rfl⟩
theorem form_cases (m : List UInt8) : formN m = 0 ∨ formN m = 1 ∨ formN m = 2 ∨ formN m = 3 := by
  unfold formN
  split
  · exact .inr (.inr (.inl rfl))
  · split
    · exact .inr (.inr (.inr rfl))
    · split
      · exact .inr (.inl rfl)
      · exact .inl rfl
end Go.Proofs.YtjldphpdfckjnaaDoor
namespace Go.Proofs.YtjldphpdfckjnaaDoor
open Go.RowKit

theorem results_ht {fn : Func} {t u : Tmp} (h : fn.results = #[.cell t 68, .tmp u]) (tmps : Array Value) (w : World) (g : Nat) (hd : HeadL) (hp : tmps.getD t undef = .pointer (some ⟨g, 0, none⟩)) (hA : HAt w g hd) :
    (results fn tmps).run Tryd.prog w = .ok (.tuple #[HV hd, tmps.getD u undef]) w := by
  have hl := run_loadVar_row (P := Tryd.prog) w g 68 68 (HC hd).toArray (0, 0) _ hA Tryd.underlying68 rfl info_head
  have hp2 : tmps[t]?.getD undef = .pointer (some ⟨g, 0, none⟩) := by simpa using hp
  simp [results, h, hp2, asAddr, hl, HV_eq]
/-- an append that finds no room: all that there was stays as it is -/
theorem app_grow {T e : TypeId} {z : Value} {by_ : Nat} (hT : Tryd.prog.underlying T = some (.slice e)) (hinfo : (Tryd.prog.info? e).map (fun i => (i.zero, i.size, i.bytes)) = some (some z, 1, by_))
    {ops : Array Oper} {rest : List Oper} {o : Oper} {a : Act} {Q : Exit → Act → World → Prop} {w0 : World} (hgd : o.guard = none) (s x : Operand)
    (ho : o.op = .call { callee := .builtin .append, args := #[s, x], argTypes := #[T, T] }) (g m g2 m2 c2 : Nat) (olds news : List Value)
    (hs : a.eval s = .slice (some ⟨g, 0, none⟩) m m) (hx : a.eval x = .slice (some ⟨g2, 0, none⟩) m2 c2) (hm : olds.length = m) (hm2 : news.length = m2) (h0 : 0 < m2) (hsmall : (m + m2) * by_ ≤ 1000000) (hsmall2 : m + m2 ≤ 1000000)
    (hO : ∀ j, j < m → w0.cell? ⟨g, j, none⟩ = olds[j]?) (hN : ∀ j, j < m2 → w0.cell? ⟨g2, j, none⟩ = news[j]?)
    (h : ∀ w' c' g', g' = w0.heap.size → Below w0.heap.size w0 w' → g' < w'.heap.size → (∀ j, j < (olds ++ news).length → w'.cell? ⟨g', j, none⟩ = (olds ++ news)[j]?) →
      wpList Tryd.prog ops Q rest (a.put o.dst (.slice (some ⟨g', 0, none⟩) (m + m2) c')) w') :
    wpList Tryd.prog ops Q (o :: rest) a w0 := by
  obtain ⟨i0, hi, hz0, hz1, hz2⟩ := info_parts hinfo
  have hadd : ∀ (b : Nat) j, (⟨b, 0, none⟩ : Addr).add j = ⟨b, j, none⟩ := fun b j => by rw [Addr.add_lit]; simp
  have hr := run_append_grow (P := Tryd.prog) w0 T o.type e i0 z hT hi hz0 ⟨g, 0, none⟩ m m olds (by rw [hz1, hm]; omega) (fun j v hv => by
      have hj : j < m := by rw [← hm]; exact (List.getElem?_eq_some_iff.1 hv).1
      rw [hadd, hO j hj, hv]) ⟨g2, 0, none⟩ m2 c2 news (by rw [hz1, hm2]; omega) (fun j v hv => by
      have hj : j < m2 := by rw [← hm2]; exact (List.getElem?_eq_some_iff.1 hv).1
      rw [hadd, hN j hj, hv]) (by omega) (by omega) (by rw [hz2]; exact growslice_fits (by omega) (by omega))
  refine wpList_plain hgd fun K hK => ?_
  unfold Oper.wp execOp
  simp only [ho, resolve, invoke, builtin, Sem.run_bind, Sem.run_pure, Result.andThen_ok, List.map_toArray, List.map_cons, List.map_nil, hs, hx, hr]
  refine hK _ _ (h _ _ _ rfl ?_ (by simp) ?_)
  · exact (belowDrewN (n := 1) (Below.refl w0.heap.size w0)).alloc (Nat.le_refl _) _
  · intro j hj
    unfold World.cell?
    have e1 := heap_alloc_new w0.drew (.cells (olds.toArray ++ news.toArray ++ Builtin.zeroCells z.cells (grownCap w0 (m + m2) m e - (m + m2))) e)
    have e2 : w0.drew.heap.size = w0.heap.size := rfl
    rw [e2] at e1
    rw [e1]
    have hl : j < (olds ++ news).length := hj
    show (olds.toArray ++ news.toArray ++ Builtin.zeroCells z.cells (grownCap w0 (m + m2) m e - (m + m2)))[j]? = _
    rw [Array.getElem?_append_left (by simp; rw [List.length_append] at hl; exact hl)]
    simp
set_option maxRecDepth 100000 in
set_option maxHeartbeats 4000000 in
theorem hParse_none (s : List UInt8) (w : World) (hs : s.length ≤ 1000000) (h : s.length ≠ 512 ∨ rightL s = false ∨ formN (fldL s 257 8) = 0) :
    Calls Tryd.prog 28 #[.string (S s)] w fun e w' => e = .returned (.tuple #[HV (parseN s).1, .int .i64 (parseN s).2]) ∧ Below w.heap.size w w' := by
  have hR0 : HAt (w.alloc (.cells (HC noneH).toArray 68)) w.heap.size noneH := AtB.new w _ (HC noneH)
  have hx0 : Below w.heap.size w (w.alloc (.cells (HC noneH).toArray 68)) := (Below.refl _ _).alloc (Nat.le_refl _) _
  by_cases h1 : s.length = 512
  rotate_left
  · have HF : Hid (parseN s = (noneH, 1)) := Lib.hid (by unfold parseN; rw [if_pos h1])
    have h1b : ((s.length : Int) != 512) = true := bne_iff_ne.2 (by omega)
    clear h h1
    go_enter Tryd.func28, Tryd.ntmps28
    go_wp2_with (refine hl_store rfl _ _ rfl _ rfl noneH noneH hR0 rfl _ w hx0 (Nat.le_refl _) ?_; intro w9 hR9 hb9 hk9)
    refine bodyPost_ret (results_ht rfl _ _ _ noneH rfl hR9) rfl ⟨by rw [HF.out]; rfl, hb9⟩
  have h1b : ((s.length : Int) != 512) = false := by rw [h1]; rfl
  have h2I : (257 : Int) ≤ (s.length : Int) := by omega
  have h3I : (265 : Int) ≤ (s.length : Int) := by omega
  have HSR := Lib.hid (fun w => sRight_any s w hs)
  by_cases h2 : rightL s = false
  · have HF : Hid (parseN s = (noneH, 4)) := Lib.hid (by unfold parseN; rw [if_neg (not_not_intro h1), if_pos h2])
    rw [h2] at HSR
    clear h h1 h2
    go_enter Tryd.func28, Tryd.ntmps28
    go_wp2_with fail
    refine (HSR.out _).mono ?_
    rintro e w1 ⟨rfl, hb1⟩
    have hR1 : HAt w1 w.heap.size noneH := hR0.under hb1 (by simp)
    have hx1 : Below w.heap.size w w1 := hx0.trans (hb1.mono hx0.size)
    go_wp2_with (refine hl_store rfl _ _ rfl _ rfl noneH noneH hR1 rfl _ w hx1 (Nat.le_refl _) ?_; intro w9 hR9 hb9 hk9)
    refine bodyPost_ret (results_ht rfl _ _ _ noneH rfl hR9) rfl ⟨by rw [HF.out]; rfl, hb9⟩
  have h3 : formN (fldL s 257 8) = 0 := by
    rcases h with h | h | h
    · exact absurd h1 h
    · exact absurd h h2
    · exact h
  have HF : Hid (parseN s = (noneH, 2)) := Lib.hid (by unfold parseN; rw [if_neg (not_not_intro h1), if_neg h2, if_pos h3])
  have HFM := Lib.hid (fun w => hform_any (fldL s 257 8) w)
  have hext : (S s).extract 257 265 = S (fldL s 257 8) := fld_ext s 257 265
  rw [h3] at HFM
  rw [Bool.not_eq_false] at h2
  rw [h2] at HSR
  generalize fldL s 257 8 = M at *
  clear h h1 h2 h3
  go_enter Tryd.func28, Tryd.ntmps28
  go_wp2_with fail
  refine (HSR.out _).mono ?_
  rintro e w1 ⟨rfl, hb1⟩
  have hR1 : HAt w1 w.heap.size noneH := hR0.under hb1 (by simp)
  have hx1 : Below w.heap.size w w1 := hx0.trans (hb1.mono hx0.size)
  clear hR0 hx0 hb1
  go_wp2_with fail
  refine (HFM.out _).mono ?_
  rintro e w2 ⟨rfl, rfl⟩
  clear HFM HSR
  have hH2 : HAt (w1.alloc (.cells (HC noneH).toArray 68)) w1.heap.size noneH := AtB.new w1 _ (HC noneH)
  have hR2 : HAt (w1.alloc (.cells (HC noneH).toArray 68)) w.heap.size noneH := AtB.alloc hR1 _
  have hx2 : Below w.heap.size w (w1.alloc (.cells (HC noneH).toArray 68)) := hx1.alloc hx1.size _
  have c12 : (HC noneH)[12]? = some (.int .i64 0) := rfl
  go_wp2_with (first | (refine app_storeAll rfl _ _ _ rfl (HC noneH).toArray (HC noneH).toArray rfl rfl info_head rfl (HC_one _) ?_) | (refine hl_store rfl _ _ rfl _ rfl noneH noneH hR2 rfl _ w hx2 (Nat.le_refl _) ?_; intro w9 hR9 hb9 hk9))
  refine bodyPost_ret (results_ht rfl _ _ _ noneH rfl hR9) rfl ⟨by rw [HF.out]; rfl, hb9⟩
end Go.Proofs.YtjldphpdfckjnaaDoor
namespace Go.Proofs.YtjldphpdfckjnaaDoor
open Go.RowKit

theorem size_str : (Tryd.prog.info? 9).map (·.size) = some 1 := by kernel_rfl
theorem size_int : (Tryd.prog.info? 3).map (·.size) = some 1 := by kernel_rfl
theorem size_u8 : (Tryd.prog.info? 5).map (·.size) = some 1 := by kernel_rfl
/-- a store to a field of a head -/
theorem hl_set {ops : Array Oper} {rest : List Oper} {o : Oper} {a : Act} {Q : Exit → Act → World → Prop} {w : World} (hgd : o.guard = none) (T : TypeId) (hT : (Tryd.prog.info? T).map (·.size) = some 1) (x y : Operand) (ho : o.op = .store T x y)
    (g i : Nat) (hx : a.eval x = .pointer (some ⟨g, i, none⟩)) (hd : HeadL) (hA : HAt w g hd) (hi : i < 13) (v : Value) (hy : a.eval y = v) (hc : v.cells = #[v]) (h1 : v.oneCell' = true) (h2 : HeadL) (hset : (HC hd).set i v = HC h2) (B : Nat) (wb : World) (hb : Below B wb w) (hBg : B ≤ g)
    (h : ∀ w', HAt w' g h2 → Below B wb w' → (∀ k, k ≠ g → w'.heap[k]? = w.heap[k]?) → wpList Tryd.prog ops Q rest (a.put o.dst undef) w') : wpList Tryd.prog ops Q (o :: rest) a w := by
  have hcell : (w.cell? ⟨g, i, none⟩).isSome = true := by
    rw [hA.cell i]
    have : i < (HC hd).length := hi
    rw [List.getElem?_eq_getElem this]; rfl
  have hs := run_storeCells_cells (P := Tryd.prog) g i [v] 0 w (fun j hj => by
      have : j = 0 := by simpa using hj
      subst this
      simpa using hcell) (fun j hj => by
      have : j = 0 := by simpa using hj
      subst this
      simpa using hA.fz i) (fun u hu => by
      have : u = v := by simpa using hu
      rw [this]; exact h1)
  have hs2 : (storeCells ⟨g, i, none⟩ [v] 0).run Tryd.prog w = .ok () (w.setCell ⟨g, i, none⟩ v) := by rw [hs]; rfl
  have hr : (Instr.storeAt T (.pointer (some ⟨g, i, none⟩)) v).run Tryd.prog w = .ok () (w.setCell ⟨g, i, none⟩ v) := by
    simp only [Instr.storeAt, Instr.sureAddr, Sem.run_bind, Sem.run_pure, Result.andThen]
    cases hq : Tryd.prog.info? T with
    | none => rw [hq] at hT; cases hT
    | some inf =>
      rw [hq] at hT
      have hsz : inf.size = 1 := by simpa using hT
      simp [storeVar, sizeOf, typeInfo, hq, hc, hsz, hs2]
  refine wpList_plain hgd fun K hK => ?_
  unfold Oper.wp execOp
  simp only [ho, hx, hy, hr, Sem.run_bind, Sem.run_pure, Result.andThen_ok]
  refine hK _ _ (h _ ?_ (hb.setCell hBg _) (fun k hk => setCell_other w g i k v hk))
  have := AtB.set hA i v
  rw [hset] at this
  exact this
/-- a field's load -/
theorem hl_get {ops : Array Oper} {rest : List Oper} {o : Oper} {a : Act} {Q : Exit → Act → World → Prop} {w : World} (hgd : o.guard = none) (T : TypeId) (x : Operand) (ho : o.op = .load T x)
    (hag : (isAgg T).run Tryd.prog w = .ok false w) (g i : Nat) (hx : a.eval x = .pointer (some ⟨g, i, none⟩)) (hd : HeadL) (hA : HAt w g hd) (v : Value) (hv : (HC hd)[i]? = some v)
    (h : wpList Tryd.prog ops Q rest (a.put o.dst v) w) : wpList Tryd.prog ops Q (o :: rest) a w := by
  have hc : w.cell? ⟨g, i, none⟩ = some v := by rw [hA.cell i]; exact hv
  have hr : (Instr.loadAt T (.pointer (some ⟨g, i, none⟩))).run Tryd.prog w = .ok v w := by
    simp [Instr.loadAt, Instr.sureAddr, loadVar, hag, go_sem, hc]
  refine wpList_plain hgd fun K hK => ?_
  unfold Oper.wp execOp
  simp only [ho, hx, hr, Sem.run_bind, Sem.run_pure, Result.andThen_ok]
  exact hK _ _ h
theorem noagg_str (w : World) : (isAgg 9).run Tryd.prog w = .ok false w := by kernel_rfl
theorem noagg_int (w : World) : (isAgg 3).run Tryd.prog w = .ok false w := by kernel_rfl
theorem noagg_u8 (w : World) : (isAgg 5).run Tryd.prog w = .ok false w := by kernel_rfl
theorem row_cells {w : World} {b : Nat} {T : TypeId} {rs : List Nat} (f : Nat → Value) (h : AtB w b T (rs.map f)) : ∀ k (hk : k < rs.length), w.cell? ⟨b, k, none⟩ = some (f rs[k]) := by
  intro k hk
  rw [h.cell k, List.getElem?_map, List.getElem?_eq_getElem hk]
  rfl
theorem joinF_L (p b : List UInt8) : joinF (S p) (S b) = S (joinL p b) := by
  unfold joinF joinL
  rw [S_size]
  by_cases h : p.length = 0
  · rw [if_pos h, if_pos h]
  · rw [if_neg h, if_neg h, S_append, S_append]
    congr 1
    simp
theorem hjoin_any (p b : List UInt8) (w : World) (hp : p.length ≤ 1000000) (hb : b.length ≤ 1000000) :
    Calls Tryd.prog 60 #[.string (S p), .string (S b)] w fun e w' => e = .returned (.string (S (joinL p b))) ∧ w = w' := by
  have h := join_any (S p) (S b) w (by rw [S_size]; exact hp) (by rw [S_size]; exact hb)
  rw [joinF_L] at h
  exact h
end Go.Proofs.YtjldphpdfckjnaaDoor
