/- All lines of a list: listing.All; the law ListingAll, walked. -/
import Derived.Test.YtjldphpdfckjnaaDoorLineAll
import Derived.Test.YtjldphpdfckjnaaDoorAppT
namespace Go.Proofs.YtjldphpdfckjnaaDoor
open Go.RowKit Go.Lib

abbrev MX2 := MemL × List PR
noncomputable def rowL (q : MX2) : List UInt8 := lineL q.1 q.1.data.length ++ [10]
noncomputable def rowsL (l : List MX2) : List UInt8 := l.flatMap rowL
/-- a member that may be gone through -/
structure FitM (q : MX2) : Prop where
  ok : OkM q.1
  data : q.1.data.length ≤ 2000
theorem fit_of (q : MX2) (hi : IntsM q.1) (h : longM q.1 q.2 = false) : FitM q := by
  obtain ⟨n1, n2, n3, n4, n5⟩ := longM_no q.1 q.2 h
  exact ⟨⟨n1, n2, n3, n4, hi.mode, hi.uid, hi.gid, hi.major, hi.minor, hi.sec, hi.nsec⟩, n5⟩
theorem FitM.i64 {q : MX2} (h : FitM q) : I64 (q.1.data.length : Int) := by have := h.data; exact ⟨by omega, by omega⟩
theorem rowL_len {q : MX2} (h : FitM q) : (rowL q).length ≤ 10001 := by
  have := line_len q.1 q.1.data.length h.ok h.i64
  unfold rowL
  rw [List.length_append, List.length_singleton]; omega
theorem rows_take (l : List MX2) (k : Nat) (h : k < l.length) : rowsL (l.take (k + 1)) = rowsL (l.take k) ++ rowL l[k] := by
  unfold rowsL
  rw [List.take_succ_eq_append_getElem h, List.flatMap_append]
  simp
theorem rows_len (l : List MX2) (h : ∀ q ∈ l, FitM q) : (rowsL l).length ≤ 10001 * l.length := by
  unfold rowsL
  induction l with
  | nil => simp
  | cons q l ih =>
    have h1 := rowL_len (h q List.mem_cons_self)
    have h2 := ih (fun x hx => h x (List.mem_cons_of_mem _ hx))
    rw [List.flatMap_cons, List.length_append, List.length_cons]
    omega
theorem rows_take_len (l : List MX2) (k : Nat) (hk : k ≤ 8) (h : ∀ q ∈ l.take k, FitM q) : (rowsL (l.take k)).length ≤ 100000 := by
  have h1 := rows_len (l.take k) h
  have h2 : (l.take k).length ≤ k := List.length_take_le _ _
  have : 10001 * (l.take k).length ≤ 10001 * 8 := Nat.mul_le_mul_left _ (by omega)
  omega
/-- the cells of the k-th member of a slice -/
theorem mem_cells {W : World} {b off k : Nat} {q : MX2} (h : ∀ i u, (memC q)[i]? = some u → W.cell? ⟨b, off + k * 14 + i, none⟩ = some u) (ea : Option Addr) (en ec : Nat) (he : q.1.extra = .slice ea en ec) :
    W.cell? ⟨b, off + k * 14, none⟩ = some (.string (S q.1.name)) ∧ W.cell? ⟨b, off + k * 14 + 1, none⟩ = some (.string (S q.1.link)) ∧ W.cell? ⟨b, off + k * 14 + 2, none⟩ = some (.int .u8 q.1.kind.toNat) ∧ W.cell? ⟨b, off + k * 14 + 3, none⟩ = some (.int .i64 q.1.mode) ∧ W.cell? ⟨b, off + k * 14 + 4, none⟩ = some (.int .i64 q.1.uid) ∧ W.cell? ⟨b, off + k * 14 + 5, none⟩ = some (.int .i64 q.1.gid) ∧ W.cell? ⟨b, off + k * 14 + 6, none⟩ = some (.string (S q.1.uname)) ∧ W.cell? ⟨b, off + k * 14 + 7, none⟩ = some (.string (S q.1.gname)) ∧ W.cell? ⟨b, off + k * 14 + 8, none⟩ = some (.int .i64 q.1.major) ∧ W.cell? ⟨b, off + k * 14 + 9, none⟩ = some (.int .i64 q.1.minor) ∧ W.cell? ⟨b, off + k * 14 + 10, none⟩ = some (.int .i64 q.1.sec) ∧ W.cell? ⟨b, off + k * 14 + 11, none⟩ = some (.int .i64 q.1.nsec) ∧ W.cell? ⟨b, off + k * 14 + 12, none⟩ = some (.slice ea en ec) ∧ W.cell? ⟨b, off + k * 14 + 13, none⟩ = some (.string (S q.1.data)) :=
  ⟨h 0 _ rfl, h 1 _ rfl, h 2 _ rfl, h 3 _ rfl, h 4 _ rfl, h 5 _ rfl, h 6 _ rfl, h 7 _ rfl, h 8 _ rfl, h 9 _ rfl, h 10 _ rfl, h 11 _ rfl, by rw [← he]; exact h 12 _ rfl, h 13 _ rfl⟩
set_option maxRecDepth 100000 in
set_option maxHeartbeats 8000000 in
theorem all_any (l : List MX2) (v : Value) (hl : l.length ≤ 8) (hf : ∀ q ∈ l, FitM q) (w : World) (hv : MemsV w v l) (hT : TM w) :
    Calls Tryd.prog 21 #[v] w fun e w' => e = .returned (.string (S (rowsL l))) ∧ Below w.heap.size w w' := by
  obtain ⟨⟨a, c, rfl, hcell⟩, hq⟩ := hv
  have HC := Lib.hid hcell
  have HQ := Lib.hid hq
  have HF := Lib.hid hf
  have HL := Lib.hid hl
  have HTK := Lib.hid (fun k (hk : k ≤ 8) => rows_take_len l k hk (fun q hq => hf q (List.mem_of_mem_take hq)))
  have HLN := Lib.hid (fun q (hq : FitM q) W (h : Below w.heap.size w W) => line_any q.1 q.1.data.length hq.ok hq.i64 W (hT.on h))
  have hlI : (l.length : Int) ≤ 8 := by omega
  clear hcell hq hf hT hl
  go_enter Tryd.func21, Tryd.ntmps21
  go_wp2_with fail
  go_loopw [3, 8] (fun o i wr => ∃ k : Nat, i = .int .i64 k ∧ k ≤ l.length ∧ OwnB wr w.heap.size o (rowsL (l.take k)) ∧ Below w.heap.size w wr) (fun _ i _ => l.length - (RowKit.intOf i).toNat)
  case atStart => exact ⟨0, rfl, Nat.zero_le _, OwnB.nil _ _, Below.refl _ _⟩
  case round =>
    obtain ⟨k, rfl, hk, hO, hX⟩ := hrel
    have hsz := hX.size
    by_cases hlt : k < l.length
    · obtain ⟨b, off, rfl, hb, hcs⟩ := HC.out (by omega)
      have hcs2 : ∀ i u, (memC l[k])[i]? = some u → wr.cell? ⟨b, off + k * 14 + i, none⟩ = some u := fun i u hu => by rw [hX.cell (by exact hb)]; exact hcs k hlt i u hu
      obtain ⟨-, -, ⟨ea, ec, he, -⟩, -⟩ := HQ.out l[k] (List.getElem_mem hlt)
      have HFk := HF.out l[k] (List.getElem_mem hlt)
      have HRT := Lib.hid (rows_take l k hlt)
      have hrl := HTK.out k (by omega)
      clear HC HQ HF hcs
      generalize l[k] = q at *
      generalize rowsL (l.take k) = rs at *
      have hrw := rowL_len HFk
      have hdl := HFk.data
      have HLQ := Lib.hid (HLN.out q HFk)
      have HRW := Lib.hid (show rowL q = lineL q.1 q.1.data.length ++ [10] from rfl)
      have hll : (lineL q.1 q.1.data.length).length ≤ 10000 := line_len q.1 q.1.data.length HFk.ok HFk.i64
      clear HLN HFk
      obtain ⟨⟨nm, lk, kd, mo, ui, gi, un, gn, ma, mi, se, ns, xt, da⟩, ex⟩ := q
      obtain rfl : xt = .slice ea ex.length ec := he
      obtain ⟨c0, c1, c2, c3, c4, c5, c6, c7, c8, c9, c10, c11, c12, c13⟩ := mem_cells hcs2 ea ex.length ec rfl
      have hA0 := Lib.hid (AtB.new wr 55 (MC ⟨nm, lk, kd, mo, ui, gi, un, gn, ma, mi, se, ns, .slice ea ex.length ec, da⟩))
      have hX0 := Lib.hid (hX.alloc hsz (.cells (MC ⟨nm, lk, kd, mo, ui, gi, un, gn, ma, mi, se, ns, .slice ea ex.length ec, da⟩).toArray 55))
      have hO0 := Lib.hid (hO.alloc (.cells (MC ⟨nm, lk, kd, mo, ui, gi, un, gn, ma, mi, se, ns, .slice ea ex.length ec, da⟩).toArray 55))
      clear hcs2 hX hO
      go_upto_region 5 with (fail)
      change Code.wp _ _ _ _ (wr.alloc (.cells (MC ⟨nm, lk, kd, mo, ui, gi, un, gn, ma, mi, se, ns, .slice ea ex.length ec, da⟩).toArray 55))
      generalize wr.alloc (.cells (MC ⟨nm, lk, kd, mo, ui, gi, un, gn, ma, mi, se, ns, .slice ea ex.length ec, da⟩).toArray 55) = W1 at *
      generalize wr.heap.size = g5 at *
      clear c0 c1 c2 c3 c4 c5 c6 c7 c8 c9 c10 c11 c12 c13
      have d13 : W1.cell? ⟨g5, 13, none⟩ = some (.string (S da)) := hA0.out.cell 13
      go_wp2_with (refine rw_load Tryd.underlying55 rfl _ rfl g5 rfl _ hA0.out info_mem ?_)
      refine (HLQ.out _ hX0.out).mono ?_
      rintro e w2 ⟨⟨_, rfl⟩, hb2⟩
      have hX2 := Lib.hid (chain hX0.out hb2)
      have hO2 := Lib.hid (hO0.out.below hb2 (Nat.le_refl _))
      have hcat := cat_k1 (lineL ⟨nm, lk, kd, mo, ui, gi, un, gn, ma, mi, se, ns, .slice ea ex.length ec, da⟩ da.length) 10 (rowL (⟨nm, lk, kd, mo, ui, gi, un, gn, ma, mi, se, ns, .slice ea ex.length ec, da⟩, ex)) HRW.out (by omega)
      clear HLQ hX0 hO0 hA0 d13 hb2 HRW
      generalize rowL (⟨nm, lk, kd, mo, ui, gi, un, gn, ma, mi, se, ns, .slice ea ex.length ec, da⟩, ex) = row at *
      generalize lineL ⟨nm, lk, kd, mo, ui, gi, un, gn, ma, mi, se, ns, .slice ea ex.length ec, da⟩ da.length = L at *
      go_wp2_with (at_builtin; go_must (refine app_text rfl _ _ rfl w.heap.size _ rs row rfl hO2.out rfl (by omega) hX2.out.size ?_); intro v3 w3 hO3 hb3)
      go_roundw
      case rel => exact ⟨k + 1, by go_num, hlt, by rw [HRT.out]; exact hO3, hX2.out.trans hb3⟩
      case measure => simp [RowKit.intOf]; omega
    · have hkl : k = l.length := by omega
      subst hkl
      rw [List.take_length] at hO
      have hstr := run_string_own wr _ _ _ hO
      clear HC
      go_wp2_with fail
      go_ret
      exact ⟨rfl, hX⟩
end Go.Proofs.YtjldphpdfckjnaaDoor
