/- The law ListingAll, walked. -/
import Derived.Test.YtjldphpdfckjnaaDoorLineR
namespace Go.Proofs.YtjldphpdfckjnaaDoor
open Go.RowKit Go.Lib

theorem MemsV.below {w w' : World} {v : Value} {l : List MX2} (h : MemsV w v l) (hb : Below w.heap.size w w') : MemsV w' v l :=
  ⟨RowsV.below h.1 hb (Nat.le_refl _), fun q hq => ⟨(h.2 q hq).1, (h.2 q hq).2.1, RowsV.below (h.2 q hq).2.2.1 hb (Nat.le_refl _), (h.2 q hq).2.2.2⟩⟩
theorem fit_take (l : List MX2) (k : Nat) (h : k < l.length) (hf : ∀ q ∈ l.take k, FitM q) (hk : FitM l[k]) : ∀ q ∈ l.take (k + 1), FitM q := by
  rw [List.take_succ_eq_append_getElem h]
  intro q hq
  rcases List.mem_append.1 hq with hq | hq
  · exact hf q hq
  · rw [List.mem_singleton.1 hq]; exact hk
set_option maxRecDepth 100000 in
set_option maxHeartbeats 8000000 in
theorem lawAll (l : List MX2) (v : Value) (w : World) (hv : MemsV w v l) (hT : TM w) :
    Calls Tryd.prog 6 #[v] w fun e w' => e = .returned (.bool true) ∧ Below w.heap.size w w' := by
  have HV := Lib.hid (fun W (h : Below w.heap.size w W) => hv.below h)
  obtain ⟨⟨a, c, rfl, hcell⟩, hq⟩ := hv
  have HAW := Lib.hid awake36
  by_cases h8 : 8 < l.length
  · have hI : (8 : Int) < (l.length : Int) := by omega
    clear hcell hq h8 hT HV
    go_enter Tryd.func6, Tryd.ntmps6
    go_wp2_with fail
    refine (HAW.out _).mono ?_
    rintro e w2 ⟨rfl, hb2⟩
    go_wp2_with fail
    go_ret
    exact ⟨rfl, hb2⟩
  have hI : ¬ (8 : Int) < (l.length : Int) := by omega
  have hJ : (l.length : Int) ≤ 8 := by omega
  have HL8 := Lib.hid (show l.length ≤ 8 by omega)
  have HC := Lib.hid hcell
  have HQ := Lib.hid hq
  have HTO := Lib.hid (fun W (h : Below w.heap.size w W) => hT.on h)
  have HRL := Lib.hid (fun q (hq : FitM q) W => rline_any q.1 q.1.data.length hq.ok hq.i64 W)
  clear hcell hq hT h8
  go_enter Tryd.func6, Tryd.ntmps6
  go_wp2_with fail
  go_loopw [3, 12] (fun o i wr => ∃ k : Nat, i = .int .i64 k ∧ k ≤ l.length ∧ o = .string (S (rowsL (l.take k))) ∧ Hid (∀ q ∈ l.take k, FitM q) ∧ Below w.heap.size w wr) (fun _ i _ => l.length - (RowKit.intOf i).toNat)
  case atStart => exact ⟨0, rfl, Nat.zero_le _, rfl, fun q hq => (by cases hq), Below.refl _ _⟩
  case round =>
    obtain ⟨k, rfl, hk, rfl, HFT, hX⟩ := hrel
    have hsz := hX.size
    by_cases hlt : k < l.length
    · obtain ⟨b, off, rfl, hb, hcs⟩ := HC.out (by omega)
      have hcs2 : ∀ i u, (memC l[k])[i]? = some u → wr.cell? ⟨b, off + k * 14 + i, none⟩ = some u := fun i u hu => by rw [hX.cell (by exact hb)]; exact hcs k hlt i u hu
      obtain ⟨hin, -, hE⟩ := HQ.out l[k] (List.getElem_mem hlt)
      have hE2 : ExtraOk wr l[k].1 l[k].2 := ⟨RowsV.below hE.1 hX (Nat.le_refl _), hE.2⟩
      have HRT := Lib.hid (rows_take l k hlt)
      have hrl := rows_take_len l k (by have := HL8.out; omega) HFT.out
      have HFS := Lib.hid (fit_take l k hlt HFT.out)
      have HFI := Lib.hid (fit_of l[k] hin)
      obtain ⟨ea, ec, he, -⟩ := hE2.1
      clear HC HQ hcs hE hin
      generalize l[k] = q at *
      generalize rowsL (l.take k) = rs at *
      obtain ⟨⟨nm, lk, kd, mo, ui, gi, un, gn, ma, mi, se, ns, xt, da⟩, ex⟩ := q
      obtain rfl : xt = .slice ea ex.length ec := he
      obtain ⟨c0, c1, c2, c3, c4, c5, c6, c7, c8, c9, c10, c11, c12, c13⟩ := mem_cells hcs2 ea ex.length ec rfl
      have hA0 := Lib.hid (AtB.new wr 55 (MC ⟨nm, lk, kd, mo, ui, gi, un, gn, ma, mi, se, ns, .slice ea ex.length ec, da⟩))
      have hX0 := Lib.hid (hX.alloc hsz (.cells (MC ⟨nm, lk, kd, mo, ui, gi, un, gn, ma, mi, se, ns, .slice ea ex.length ec, da⟩).toArray 55))
      have HLG := Lib.hid (Long_any ⟨nm, lk, kd, mo, ui, gi, un, gn, ma, mi, se, ns, .slice ea ex.length ec, da⟩ ex hE2.2 _ (RowsV.below hE2.1 ((Below.refl wr.heap.size wr).alloc (Nat.le_refl _) (.cells (MC ⟨nm, lk, kd, mo, ui, gi, un, gn, ma, mi, se, ns, .slice ea ex.length ec, da⟩).toArray 55)) (Nat.le_refl _)))
      clear hcs2 hX hE2
      go_upto_region 7 with (fail)
      change Code.wp _ _ _ _ (wr.alloc (.cells (MC ⟨nm, lk, kd, mo, ui, gi, un, gn, ma, mi, se, ns, .slice ea ex.length ec, da⟩).toArray 55))
      generalize wr.alloc (.cells (MC ⟨nm, lk, kd, mo, ui, gi, un, gn, ma, mi, se, ns, .slice ea ex.length ec, da⟩).toArray 55) = W1 at *
      generalize wr.heap.size = g5 at *
      clear c0 c1 c2 c3 c4 c5 c6 c7 c8 c9 c10 c11 c12 c13
      cases hlg : longM ⟨nm, lk, kd, mo, ui, gi, un, gn, ma, mi, se, ns, .slice ea ex.length ec, da⟩ ex
      · have hFq : FitM (⟨nm, lk, kd, mo, ui, gi, un, gn, ma, mi, se, ns, .slice ea ex.length ec, da⟩, ex) := HFI.out hlg
        rw [hlg] at HLG
        have HFS2 := Lib.hid (HFS.out hFq)
        have hdl : da.length ≤ 2000 := hFq.data
        have hrw := rowL_len hFq
        have HRQ := Lib.hid (HRL.out _ hFq)
        have hll : (lineL ⟨nm, lk, kd, mo, ui, gi, un, gn, ma, mi, se, ns, .slice ea ex.length ec, da⟩ da.length).length ≤ 10000 := line_len _ _ hFq.ok hFq.i64
        have hcat := cat_k1 (lineL ⟨nm, lk, kd, mo, ui, gi, un, gn, ma, mi, se, ns, .slice ea ex.length ec, da⟩ da.length) 10 (rowL (⟨nm, lk, kd, mo, ui, gi, un, gn, ma, mi, se, ns, .slice ea ex.length ec, da⟩, ex)) rfl (by omega)
        obtain ⟨z, hz⟩ : ∃ z, z = rs ++ rowL (⟨nm, lk, kd, mo, ui, gi, un, gn, ma, mi, se, ns, .slice ea ex.length ec, da⟩, ex) := ⟨_, rfl⟩
        have hcat2 := cat_s rs _ z hz (by omega)
        have HZ := Lib.hid hz
        clear hlg HFI HFS hFq HRL hz
        go_wp2_with (refine rw_load Tryd.underlying55 rfl _ rfl g5 rfl _ hA0.out info_mem ?_)
        refine HLG.out.mono ?_
        rintro e w2 ⟨rfl, hb2⟩
        have hX2 := Lib.hid (chain hX0.out hb2)
        have hA2 := Lib.hid (hA0.out.below hb2)
        have d13 : w2.cell? ⟨g5, 13, none⟩ = some (.string (S da)) := hA2.out.cell 13
        clear hX0 hA0 hb2 HLG
        go_wp2_with (refine rw_load Tryd.underlying55 rfl _ rfl g5 rfl _ hA2.out info_mem ?_)
        refine (HRQ.out _).mono ?_
        rintro e w3 ⟨⟨_, rfl⟩, hb3⟩
        have hX3 := Lib.hid (chain hX2.out hb3)
        clear hX2 hA2 d13 hb3 HRQ
        generalize rowL (⟨nm, lk, kd, mo, ui, gi, un, gn, ma, mi, se, ns, .slice ea ex.length ec, da⟩, ex) = row at *
        generalize lineL ⟨nm, lk, kd, mo, ui, gi, un, gn, ma, mi, se, ns, .slice ea ex.length ec, da⟩ da.length = L at *
        go_wp2_with fail
        go_roundw
        case rel => exact ⟨k + 1, by go_num, hlt, by rw [HRT.out, ← HZ.out], HFS2.out, hX3.out⟩
        case measure => simp [RowKit.intOf]; omega
      · rw [hlg] at HLG
        clear hlg HFI HFS
        go_wp2_with (refine rw_load Tryd.underlying55 rfl _ rfl g5 rfl _ hA0.out info_mem ?_)
        refine HLG.out.mono ?_
        rintro e w2 ⟨rfl, hb2⟩
        have hX2 := Lib.hid (chain hX0.out hb2)
        go_wp2_with fail
        refine (HAW.out _).mono ?_
        rintro e w3 ⟨rfl, hb3⟩
        go_wp2_with fail
        go_ret
        exact ⟨rfl, chain hX2.out hb3⟩
    · have hkl : k = l.length := by omega
      subst hkl
      have HF := HFT.out
      rw [List.take_length] at HF ⊢
      have HALL := Lib.hid (all_any l (.slice a l.length c) HL8.out HF wr (HV.out _ hX) (HTO.out _ hX))
      clear HF HFT HC HQ HTO HRL HV
      generalize rowsL l = L at *
      go_wp2_with fail
      refine HALL.out.mono ?_
      rintro e w2 ⟨rfl, hb2⟩
      have hX2 := chain hX hb2
      go_wp2_with fail
      refine (HAW.out _).mono ?_
      rintro e w3 ⟨rfl, hb3⟩
      go_wp2_with fail
      go_ret
      exact ⟨rfl, chain hX2 hb3⟩
end Go.Proofs.YtjldphpdfckjnaaDoor
