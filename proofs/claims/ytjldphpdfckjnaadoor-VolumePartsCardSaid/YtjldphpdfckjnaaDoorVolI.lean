/- Volumes: the chapter's example; the law VolumeParts, walked. -/
import Derived.Test.YtjldphpdfckjnaaDoorVolF
import Derived.Test.YtjldphpdfckjnaaDoorVolG
import Derived.Test.YtjldphpdfckjnaaDoorSame26
import Derived.Test.YtjldphpdfckjnaaDoorMakeB
namespace Go.Proofs.YtjldphpdfckjnaaDoor
open Go.RowKit

theorem one_length (s : List UInt8) (num cnt : Int) (hf : fitsN (volH s num cnt) = 0) : (oneV s num cnt).length = 512 + (s.length + padK s.length) := by
  unfold oneV padB zerosL
  rw [List.length_append, (build_fields _ hf).len, List.length_append, List.length_replicate]
theorem zeros_vols1 : ∃ x, volsV 512 (List.replicate 512 0) = [x] ∧ x.length = 1024 := by
  have hc : cntV 512 (List.replicate 512 0) = 1 := by unfold cntV; rw [List.length_replicate]; decide
  refine ⟨oneV (chunkV 512 (List.replicate 512 0) 0) 0 1, ?_, ?_⟩
  · unfold volsV
    rw [hc]; rfl
  · have hl : (chunkV 512 (List.replicate 512 (0 : UInt8)) 0).length = 512 := by
      unfold chunkV
      rw [List.length_take, List.length_drop, List.length_replicate]; decide
    rw [one_length _ _ _ (fits_vol _ _ _ (by decide) (by decide) (by decide) (by decide) (by rw [hl]; decide)), hl]
    rfl
theorem zeros_vols2 : (volsV 512 (List.replicate 513 0)).length = 2 := by
  rw [vols_len]
  unfold cntV
  rw [List.length_replicate]; decide
set_option maxRecDepth 100000 in
set_option maxHeartbeats 4000000 in
theorem awake39 (w : World) : Calls Tryd.prog 8 #[] w fun e w' => e = .returned (.bool true) ∧ Below w.heap.size w w' := by
  have hmk1 : ∀ w, (Instr.makeSlice 46 (.int .i64 512) (.int .i64 512)).run Tryd.prog w = .ok (.slice (some ⟨w.heap.size, 0, none⟩) 512 512) (w.alloc (.cells (zerosA 512) 5)) := fun w => mk_bytes 512 512 (by decide) (by decide) w
  have hmk2 : ∀ w, (Instr.makeSlice 46 (.int .i64 513) (.int .i64 513)).run Tryd.prog w = .ok (.slice (some ⟨w.heap.size, 0, none⟩) 513 513) (w.alloc (.cells (zerosA 513) 5)) := fun w => mk_bytes 513 513 (by decide) (by decide) w
  have hcv1 := fun w => conv_zeros 512 (by decide) w
  have hcv2 := fun w => conv_zeros 513 (by decide) w
  have HP1 := Lib.hid (fun w => vPart_any (List.replicate 512 0) 2 (by decide) (by decide) (by rw [List.length_replicate]; decide) w)
  have HP2 := Lib.hid (fun w => vPart_any (List.replicate 513 0) 2 (by decide) (by decide) (by rw [List.length_replicate]; decide) w)
  have e2 := zeros_vols2
  obtain ⟨x, e1, hx1⟩ := zeros_vols1
  rw [show 512 * (2 - 1) = 512 from rfl, e1] at HP1
  rw [show 512 * (2 - 1) = 512 from rfl] at HP2
  generalize volsV 512 (List.replicate 513 0) = L2 at *
  have hz1 : (List.replicate 512 (0 : UInt8)).length ≤ 2000 := by rw [List.length_replicate]; decide
  have hz2 : (List.replicate 513 (0 : UInt8)).length ≤ 2000 := by rw [List.length_replicate]; decide
  generalize List.replicate 512 (0 : UInt8) = z1 at *
  generalize List.replicate 513 (0 : UInt8) = z2 at *
  have H2 := Lib.hid e2
  have HX1 := Lib.hid hx1
  clear e1 e2 hx1
  have hB0 : Below w.heap.size w (w.alloc (.cells (zerosA 512) 5)) := (Below.refl _ _).alloc (Nat.le_refl _) _
  go_enter Tryd.func8, Tryd.ntmps8
  go_wp2_with fail
  refine (HP1.out _).mono ?_
  rintro e w1 ⟨⟨v1, rfl, hO1⟩, hb1⟩
  have hB1 := hB0.trans (hb1.mono hB0.size)
  obtain ⟨a1, c1, rfl, hc1⟩ := hO1.strs
  obtain ⟨b1, off1, rfl, hl1, hq1⟩ := hc1 Nat.one_pos
  have hq1 : w1.cell? ⟨b1, off1, none⟩ = some (.string (S x)) := hq1 0 Nat.one_pos
  have hB2 : Below w1.heap.size w1 (w1.alloc (.cells (zerosA 513) 5)) := (Below.refl _ _).alloc (Nat.le_refl _) _
  clear hmk1 hcv1 hB0 hc1 hO1 hb1
  go_wp2_with fail
  refine (HP2.out _).mono ?_
  rintro e w2 ⟨⟨v2, rfl, hO2⟩, hb2⟩
  have hB3 := hB2.trans (hb2.mono hB2.size)
  obtain ⟨a2, c2, e4⟩ := hO2.shape
  rw [H2.out] at e4
  subst e4
  have hq2 : w2.cell? ⟨b1, off1, none⟩ = some (.string (S x)) := by rw [hB3.cell (by exact hl1)]; exact hq1
  have hxl : ((x.length : Int) == 1024) = true := by rw [HX1.out]; rfl
  have hB4 := hB1.trans (hB3.mono hB1.size)
  clear hmk2 hcv2 hB2 hB3 hO2 hb2 hB1 hq1
  go_wp2_with fail
  go_ret
  exact ⟨rfl, hB4⟩
/-- 'append(v, x...)' of a slice of strings, as a step of a region that draws -/
theorem step_app_strs {ops : Array Oper} {o : Oper} {a : Act} {K : Act → World → Prop} {Q : Exit → Act → World → Prop} {E : Prop} {w0 : World} (hgd : o.guard = none) (s x : Operand)
    (ho : o.op = .call { callee := .builtin .append, args := #[s, x], argTypes := #[29, 29] })
    (base : Nat) (v : Value) (l news : List (List UInt8)) (hs : a.eval s = v) (hown : OwnS w0 base v l) (g off m c : Nat)
    (hx : a.eval x = .slice (some ⟨g, off, none⟩) m c) (hm : news.length = m) (hc : ∀ j (h : j < news.length), w0.cell? ⟨g, off + j, none⟩ = some (.string (S news[j])))
    (hbound : l.length + m ≤ 1000000000) (hbase : base ≤ w0.heap.size)
    (h : ∀ v' w', OwnS w' base v' (l ++ news) → Below base w0 w' → Grew w0 w' v v' → K (a.put o.dst v') w') :
    if Region.wanted o (yielded ops a.tmps) = true then o.wp Tryd.prog a w0 K Q else E := by
  have hw : Region.wanted o (yielded ops a.tmps) = true := by simp [Region.wanted, hgd]
  rw [if_pos hw]
  obtain ⟨i0, hi, hz0, hz1, hz2⟩ := info_parts info_str
  obtain ⟨v', w', hr, h2, h3⟩ := run_append_sep (P := Tryd.prog) w0 base 29 o.type 9 i0 (.string ⟨#[]⟩) 1 16 Tryd.underlying29 hi hz0 hz1 hz2 rfl (by decide) v l.length (l.map sv) hown
    ⟨g, off, none⟩ m c (news.map sv) (by simp [hm]) (fun j u hj => by
      rw [List.getElem?_map] at hj
      obtain ⟨q, hq, rfl⟩ := Option.map_eq_some_iff.1 hj
      obtain ⟨hj2, rfl⟩ := List.getElem?_eq_some_iff.1 hq
      rw [Addr.add_lit]
      exact hc j hj2) (sv_one _) (by unfold maxLen; omega) (by omega) hbase
  unfold Oper.wp execOp
  simp only [ho, resolve, invoke, builtin, Sem.run_bind, Sem.run_pure, Result.andThen_ok, List.map_toArray, List.map_cons, List.map_nil, hs, hx, hr]
  refine h v' w' ?_ ?_ h3
  · unfold OwnS
    rw [List.map_append, List.length_append, hm]
    exact h2
  · refine (Below.refl base w0).grown h3.grown hbase ?_
    intro k hk
    exact (World.ownsRow.lt hown k hk).1
theorem OwnS.full {w : World} {base : Nat} {v : Value} {L : List (List UInt8)} (h : OwnS w base v L) {C : Nat} (hC : L.length = C) (h0 : 0 < C) :
    ∃ g c, v = .slice (some ⟨g, 0, none⟩) C c ∧ C ≤ c ∧ base ≤ g ∧ g < w.heap.size ∧ ∀ j, j < C → w.cell? ⟨g, j, none⟩ = some (.string (S (L.getD j []))) := by
  have hc := fun g => World.ownsRow.cells h (g := g)
  have hlt := World.ownsRow.lt h
  rcases h.2 with ⟨e, h1⟩ | ⟨g, cap, cur, rfl, h1, h2, h3, _⟩
  · omega
  · refine ⟨g, cap, by rw [hC], by omega, h1, (hlt g rfl).2, fun j hj => ?_⟩
    have := hc g rfl j (sv (L.getD j [])) (by
      rw [List.getElem?_map, List.getD_eq_getElem?_getD, List.getElem?_eq_getElem (by omega)]; rfl)
    rw [Addr.add_lit, Nat.zero_add] at this
    exact this
set_option maxRecDepth 100000 in
set_option maxHeartbeats 8000000 in
theorem lawParts39 (s : ByteArray) (n : Int) (turn : UInt8) (w : World) :
    Calls Tryd.prog 4 #[.string s, .int .i64 n, .int .u8 turn.toNat] w fun e w' => e = .returned (.bool true) ∧ Below w.heap.size w w' := by
  have HAW := Lib.hid awake39
  by_cases hbig : 6000 < s.size
  · have hbI : (s.size : Int) > 6000 := by omega
    clear hbig
    go_enter Tryd.func4, Tryd.ntmps4
    go_wp2_with fail
    refine (HAW.out _).mono ?_
    rintro e w2 ⟨rfl, hb2⟩
    go_wp2_with fail
    go_ret
    exact ⟨rfl, hb2⟩
  have hbI : ¬ (s.size : Int) > 6000 := by omega
  by_cases hn : n < 2 ∨ 1048576 < n
  · have HN := Lib.hid (fun w => no_part s n w hn)
    clear hbig
    rcases hn with hn | hn
    · go_enter Tryd.func4, Tryd.ntmps4
      go_wp2_with fail
      refine (HN.out _).mono ?_
      rintro e w1 ⟨rfl, rfl⟩
      go_wp2_with fail
      refine (HAW.out _).mono ?_
      rintro e w2 ⟨rfl, hb2⟩
      go_wp2_with fail
      go_ret
      exact ⟨rfl, hb2⟩
    · have hn2 : ¬ n < 2 := by omega
      go_enter Tryd.func4, Tryd.ntmps4
      go_wp2_with fail
      refine (HN.out _).mono ?_
      rintro e w1 ⟨rfl, rfl⟩
      go_wp2_with fail
      refine (HAW.out _).mono ?_
      rintro e w2 ⟨rfl, hb2⟩
      go_wp2_with fail
      go_ret
      exact ⟨rfl, hb2⟩
  obtain ⟨m, rfl⟩ : ∃ m : Nat, n = m := ⟨n.toNat, by omega⟩
  have hm2 : ¬ (m : Int) < 2 := by omega
  have hm3 : ¬ (m : Int) > 1048576 := by omega
  obtain ⟨l, hl⟩ : ∃ l, l = s.data.toList := ⟨_, rfl⟩
  have hsl : s = S l := by rw [hl]; rfl
  have hll : l.length ≤ 6000 := by rw [hl, size_len]; omega
  subst hsl
  clear hl
  have HP := Lib.hid (fun w => vPart_any l m (by omega) (by omega) (by omega) w)
  have HR := Lib.hid (fun w => rPart_any l m (by omega) (by omega) (by omega) w)
  obtain ⟨sz, hsz⟩ : ∃ sz, sz = 512 * (m - 1) := ⟨_, rfl⟩
  rw [← hsz] at HP HR
  have hz1 : 512 ≤ sz := by omega
  have hC := vols_len sz l
  have hc1 := cnt_pos sz l
  have hc2 : cntV sz l ≤ 20 := by
    unfold cntV
    have : (l.length + sz - 1) / sz < 21 := by
      rw [Nat.div_lt_iff_lt_mul (by omega)]
      omega
    omega
  have hJP := fun k hk => join_vols sz l k (by omega) (by omega) (by omega) hk
  have hvl : ∀ q ∈ volsV sz l, q.length ≤ 1000000 := by
    intro q hq
    unfold volsV at hq
    obtain ⟨i, hi, rfl⟩ := List.mem_map.1 hq
    have hi := List.mem_range.1 hi
    have h1 := chunk_len sz l i
    have h2 := restI_bd (chunkV sz l i).length
    rw [one_length _ _ _ (fits_vol _ _ _ (by omega) (by omega) (by omega) (by omega) (by omega))]
    unfold padK
    omega
  generalize volsV sz l = L at *
  generalize cntV sz l = C at *
  obtain ⟨k, hk⟩ : ∃ k, k = turn.toNat % C := ⟨_, rfl⟩
  have hkC : k < C := by rw [hk]; exact Nat.mod_lt _ (by omega)
  have hkI : ((turn.toNat : Int)) % (C : Int) = (k : Int) := by rw [hk]; rfl
  have htl := turn.toNat_lt
  have hM := hJP k (by omega)
  have HML : Hid ((L.drop k ++ L.take k).length = C) := Lib.hid (by rw [List.length_append, List.length_drop, List.length_take]; omega)
  have hMv : joinV (L.drop k ++ L.take k).length (L.drop k ++ L.take k) 0 [] = (l, 0, 0) := by
    unfold joinR at hM
    rwa [if_neg (by intro g; have := HML.out; rw [g] at this; simp at this; omega)] at hM
  have HMV := Lib.hid hMv
  have HVL := Lib.hid (show ∀ q ∈ L.drop k ++ L.take k, q.length ≤ 1000000 by
    intro q hq
    rcases List.mem_append.1 hq with g | g
    · exact hvl q (List.mem_of_mem_drop g)
    · exact hvl q (List.mem_of_mem_take g))
  have HCL := Lib.hid hC
  clear hC hM hMv hJP hvl hsz hz1 hk hbig hn
  go_enter Tryd.func4, Tryd.ntmps4
  go_wp2_with fail
  refine (HP.out _).mono ?_
  rintro e w1 ⟨⟨v1, rfl, hO1⟩, hb1⟩
  obtain ⟨g5, c1, rfl, hg5, _, hgl, hq1⟩ := hO1.full HCL.out (by omega)
  have HS1 := Lib.hid hO1.strs
  have HQ1 := Lib.hid hq1
  have hcc : ((C : Int) == 0) = false := beq_eq_false_iff_ne.2 (by omega)
  clear hO1 hq1
  go_wp2_with fail
  refine (HR.out _).mono ?_
  rintro e w2 ⟨⟨v2, rfl, hO2⟩, hb2⟩
  have hB2 := hb1.trans (hb2.mono hb1.size)
  have hSm := Same_any L L _ _ (by rw [HCL.out]; omega) w2 (HS1.out.below hb2 (Nat.le_refl _)) hO2.strs
  rw [show decide (L = L) = true from decide_eq_true rfl] at hSm
  have HSm := Lib.hid hSm
  obtain ⟨a2, c2, e2⟩ := hO2.shape
  rw [HCL.out] at e2
  subst e2
  clear hSm hO2
  go_wp2_with fail
  refine (HSm.out).mono ?_
  rintro e w3 ⟨rfl, q, rfl⟩
  have hB3 : Below w.heap.size w (w2.drewN q) := belowDrewN hB2
  have hb3 : Below w1.heap.size w1 (w2.drewN q) := belowDrewN hb2
  have HQ3 : Hid (∀ j, j < C → (w2.drewN q).cell? ⟨g5, j, none⟩ = some (.string (S (L.getD j [])))) := Lib.hid (fun j hj => by rw [hb3.cell (by exact hgl)]; exact HQ1.out j hj)
  have hgl3 : g5 < (w2.drewN q).heap.size := Nat.lt_of_lt_of_le hgl hb3.size
  clear HSm HQ1 HS1 hb2 hB2 hb3
  generalize w2.drewN q = W at *
  have z0 : (0 : Int) ≤ (k : Int) := by omega
  have z1 : (k : Int) ≤ (C : Int) := by omega
  have z2 : (k : Int) ≤ (c1 : Int) := by omega
  have z3 : (C : Int) ≤ (c1 : Int) := by omega
  have z4 : ¬ c1 = k := by omega
  have z5 : ¬ c1 = 0 := by omega
  go_upto_region 9 with (fail)
  simp only [hkI]
  clear hkI
  have hx1 : Below W.heap.size W ((W.alloc (.cells #[] 9)).drew) := ((Below.refl _ _).alloc (Nat.le_refl _) _).drew
  go_region_law (first
    | (refine step_app_strs rfl (.tmp 55) (.tmp 58) rfl W.heap.size _ [] (L.drop k) rfl (ownS_lit W) g5 k (C - k) (c1 - k) rfl (by rw [List.length_drop, HCL.out]) (fun j hj => by rw [List.length_drop, HCL.out] at hj; rw [hx1.cell (by exact hgl3), HQ3.out _ (by omega), List.getElem_drop, List.getD_eq_getElem?_getD, List.getElem?_eq_getElem (by rw [HCL.out]; omega)]; rfl) (by simp; omega) (by simp) ?_; intro v3 w3 hO3 hb3 hg3)
    | (refine step_app_strs rfl (.tmp 59) (.tmp 62) rfl W.heap.size v3 ([] ++ L.drop k) (L.take k) rfl hO3 g5 0 k c1 rfl (by rw [List.length_take, HCL.out]; omega) (fun j hj => by rw [List.length_take, HCL.out] at hj; rw [Nat.zero_add, hb3.cell (by exact hgl3), hx1.cell (by exact hgl3), HQ3.out _ (by omega), List.getElem_take, List.getD_eq_getElem?_getD, List.getElem?_eq_getElem (by rw [HCL.out]; omega)]; rfl) (by simp [HCL.out]; omega) (Nat.le_trans hx1.size hb3.size) ?_; intro v4 w4 hO4 hb4 hg4))
  rw [List.nil_append] at hO4
  have hB4 : Below w.heap.size w w4 := hB3.trans (((hx1.trans hb3).trans hb4).mono hB3.size)
  have hJ := vJoin_some _ v4 (by rw [HML.out]; omega) (by rw [HML.out]; omega) HVL.out w4 hO4.strs
  rw [HMV.out] at hJ
  have HJ := Lib.hid hJ
  clear hJ hO4 hb4 hg4 hO3 hb3 hg3 hx1 hB3 HQ3
  go_wp2_with fail
  refine (HJ.out).mono ?_
  rintro e w5 ⟨rfl, hb5⟩
  have hB5 := hB4.trans (hb5.mono hB4.size)
  have hll2 : (l == l) = true := by simp
  go_wp2_with fail
  refine (HAW.out _).mono ?_
  rintro e w6 ⟨rfl, hb6⟩
  go_wp2_with fail
  go_ret
  exact ⟨rfl, hB5.trans (hb6.mono hB5.size)⟩
end Go.Proofs.YtjldphpdfckjnaaDoor
