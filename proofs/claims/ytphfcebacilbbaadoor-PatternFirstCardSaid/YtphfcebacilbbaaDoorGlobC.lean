/- A glob: Match, walked. -/
import Derived.Test.YtphfcebacilbbaaDoorGlobB
import Derived.ScopeJumps
import Derived.WalkMore
namespace Go.Proofs.YtphfcebacilbbaaDoor
open Go.RowKit
attribute [local irreducible] wordP

theorem wp_scope_label2 {P : Program} {r1 r2 R : Code} {Q : Exit → Act → World → Prop} {a : Act} {w : World} (l : Nat) (J : Act → World → Prop) (μ : Act → World → Nat)
    (h1 : findLabel r1 l = none) (h2 : findLabel r2 l = none)
    (body : ∀ a w, J a w → R.wp P (Exit.jump l (fun a' w' => J a' w' ∧ μ a' w' < μ a w) Q) a w)
    (first : (∀ a w, J a w → R.wp P (Exit.jump l J Q) a w) → (r1.seq (r2.seq ((Code.label l).seq R))).wp P (Exit.jump l J Q) a w) :
    (Code.scope (r1.seq (r2.seq ((Code.label l).seq R)))).wp P Q a w := by
  refine wp_scope_jumps (rest := Code.seq .skip R) l J μ (by simp [findLabel, h1, h2]) (first fun a w h => Code.wp_mono ?_ (body a w h)) ?_
  · intro e a' w' hq
    cases e <;> first | exact hq | exact ⟨hq.1, hq.2.1⟩
  · intro a w h
    exact wp_seq (wp_skip (body a w h))
set_option maxRecDepth 100000 in
set_option maxHeartbeats 4000000 in
theorem Match_any (l : List Tk) (s : List UInt8) (fold slash : Bool) (v : Value) (w : World) (hl : RowsV Tk.cells 6 w v l) (hln : l.length ≤ 2000) (hs : s.length ≤ 100000) :
    Calls Tryd.prog 12 #[v, .agg #[.bool fold, .bool slash], .string (S s)] w fun e w' => e = .returned (.bool (matchG (freeG slash) (l.map (Tk.gt fold slash)) s)) ∧ Below w.heap.size w w' := by
  obtain ⟨a, c, rfl, hrow⟩ := hl
  generalize hr : matchG (freeG slash) (l.map (Tk.gt fold slash)) s = r
  have hx0 : Below w.heap.size w (w.alloc (.cells #[.bool fold, .bool slash] 36)) := (Below.refl _ _).alloc (Nat.le_refl _) _
  have f0 : (w.alloc (.cells #[.bool fold, .bool slash] 36)).cell? ⟨w.heap.size, 0, none⟩ = some (.bool fold) := by simp
  have f1 : (w.alloc (.cells #[.bool fold, .bool slash] 36)).cell? ⟨w.heap.size, 1, none⟩ = some (.bool slash) := by simp
  have hz0 : w.heap.size < (w.alloc (.cells #[.bool fold, .bool slash] 36)).heap.size := by simp
  have HS0 := Lib.hid (GState.start (fr := freeG slash) (l := l.map (Tk.gt fold slash)) (s := s) hr.symm)
  clear hr
  have HST : Hid (∀ t ∈ l.map (Tk.gt fold slash), Strict (freeG slash) t) := Lib.hid (fun t ht => by
    obtain ⟨x, _, rfl⟩ := List.mem_map.1 ht
    exact gt_strict fold slash x)
  have HL : Hid (∀ i (h : i < l.length), (l.map (Tk.gt fold slash))[i]? = some (l[i].gt fold slash)) := Lib.hid (fun i h => by rw [List.getElem?_map, List.getElem?_eq_getElem h]; rfl)
  have HLL : Hid ((l.map (Tk.gt fold slash)).length = l.length) := Lib.hid (List.length_map _)
  generalize hLe : l.map (Tk.gt fold slash) = L at *
  clear hLe
  have HF := Lib.hid (fun b W => free_any fold slash b W)
  have HO := Lib.hid (fun t b W => oneG_any fold slash t b W)
  have hlI : (l.length : Int) ≤ 2000 := by omega
  have hsI : (s.length : Int) ≤ 100000 := by omega
  go_enter Tryd.func12, Tryd.ntmps12
  go_wp2_with fail
  generalize w.alloc (.cells #[.bool fold, .bool slash] 36) = W at *
  refine wp_scope_label2 0 (fun _ _ => False) (fun _ _ => 0) rfl rfl (fun _ _ h => h.elim) (fun hJ => ?_)
  clear hJ
  go_wp2_with fail
  try refine wp_label ?_
  go_wp2_with fail
  go_loopw [7, 8, 9, 10] (fun v7 v8 v9 v10 wr => ∃ i k z f : Nat, v7 = .int .i64 k ∧ v8 = .int .i64 i ∧ v9 = .int .i64 ((z : Int) - 1) ∧ v10 = .int .i64 f ∧ Hid (GState (freeG slash) L s r i k z f) ∧ i ≤ l.length ∧ k ≤ s.length ∧ z ≤ l.length ∧ f ≤ s.length ∧ Below W.heap.size W wr)
    (fun _ v8 v9 v10 _ => muG l.length s.length (l.length + 1 - (intOf v9 + 1).toNat) (s.length + 1 - (intOf v10).toNat) (l.length + 1 - (intOf v8).toNat))
  case atStart => exact ⟨0, 0, 0, 0, rfl, rfl, rfl, rfl, HS0, Nat.zero_le _, Nat.zero_le _, Nat.zero_le _, Nat.zero_le _, Below.refl _ _⟩
  case round =>
    obtain ⟨i, k, z, f, rfl, rfl, rfl, rfl, HG, hi, hk, hz, hf, hbW⟩ := hrel
    have hf0 := (hbW.cell (p := ⟨w.heap.size, 0, none⟩) hz0).trans f0
    have hf1 := (hbW.cell (p := ⟨w.heap.size, 1, none⟩) hz0).trans f1
    have hbr : Below w.heap.size w wr := hx0.trans (hbW.mono hx0.size)
    have hzr : w.heap.size < wr.heap.size := Nat.lt_of_lt_of_le hz0 hbW.size
    clear f0 f1 HS0
    have HLL' := HLL.out
    by_cases hil : i < l.length
    · obtain ⟨b, off, rfl, hbw, hcell⟩ := hrow (by omega)
      have hLi := HL.out i hil
      have tc : ∀ j u, (l[i]).cells[j]? = some u → wr.cell? ⟨b, off + i * 6 + j, none⟩ = some u := fun j u h => (hbr.cell (p := ⟨b, off + i * 6 + j, none⟩) hbw).trans (hcell i hil j u h)
      have hiI : (i : Int) < (l.length : Int) := by omega
      clear hcell hrow
      generalize l[i] = t at *
      have t0 : wr.cell? ⟨b, off + i * 6, none⟩ = some (.int .i64 t.kind) := tc 0 _ rfl
      by_cases h4 : t.kind = 4
      · have hst := gt_is_star fold slash t h4
        rw [hst] at hLi
        obtain ⟨hg2, hzl⟩ := HG.out.star HST.out hLi
        have HG2 := Lib.hid hg2
        rw [h4] at t0
        clear tc hg2 hLi hst
        go_wp2_with fail
        go_roundw
        case rel => exact ⟨i + 1, k, i + 1, k, rfl, by go_num, by rw [show ((i + 1 : Nat) : Int) - 1 = (i : Int) by omega], rfl, HG2, hil, hk, hil, hk, hbW⟩
        case measure =>
          simp only [intOf]
          rw [show ((z : Int) - 1 + 1).toNat = z by omega, show ((f : Int)).toNat = f by omega, show ((i : Int)).toNat = i by omega]
          exact muG_a (by omega) (by omega) (by omega)
      · have hk4 : (t.kind == 4) = false := beq_eq_false_iff_ne.2 h4
        have hns : (t.gt fold slash).isStar = false := (gt_star fold slash t).trans hk4
        by_cases hkl : k < s.length
        · have hks : k < (S s).size := by rw [S_size]; exact hkl
          have hkI : (k : Int) < (s.length : Int) := by omega
          have hkI2 : ¬ (k : Int) = (s.length : Int) := by omega
          have hkI3 : ((k : Int) == (s.length : Int)) = false := beq_eq_false_iff_ne.2 hkI2
          have hkg : s[k]? = some ((S s)[k]'hks) := List.getElem?_eq_getElem hkl
          have t1 : wr.cell? ⟨b, off + i * 6 + 1, none⟩ = some (.int .u8 t.b.toNat) := tc 1 _ rfl
          have t2 : wr.cell? ⟨b, off + i * 6 + 2, none⟩ = some (.int .u64 (wordP t.p 0)) := tc 2 _ rfl
          have t3 : wr.cell? ⟨b, off + i * 6 + 3, none⟩ = some (.int .u64 (wordP t.p 1)) := tc 3 _ rfl
          have t4 : wr.cell? ⟨b, off + i * 6 + 4, none⟩ = some (.int .u64 (wordP t.p 2)) := tc 4 _ rfl
          have t5 : wr.cell? ⟨b, off + i * 6 + 5, none⟩ = some (.int .u64 (wordP t.p 3)) := tc 5 _ rfl
          clear tc
          have HO1 := HO.out t ((S s)[k]'hks)
          have hbb : b < wr.heap.size := Nat.lt_of_lt_of_le hbw hbr.size
          cases ho : oneG fold slash t ((S s)[k]'hks)
          · rw [ho] at HO1
            have HO1 := Lib.hid HO1
            have HSK : Hid (matchG (freeG slash) (L.drop i) (s.drop k) = false) := Lib.hid (stuck L s i k (fun t' ht => by rw [hLi] at ht; cases ht; exact hns) (fun h => by omega) hk (by omega) (fun t' b' ht hb' => by rw [hLi] at ht; rw [hkg] at hb'; cases ht; cases hb'; rw [gt_tells]; exact ho))
            clear hLi hkg
            go_upto_region 8 with fail
            go_cut [57] (fun v wx => v = .bool false ∧ wx.cell? ⟨w.heap.size, 0, none⟩ = some (.bool fold) ∧ wx.cell? ⟨w.heap.size, 1, none⟩ = some (.bool slash) ∧ Below w.heap.size w wx ∧ Below W.heap.size W wx)
            case first =>
              have HK : Hid (∀ w3, Below wr.heap.size wr w3 → (w3.cell? ⟨w.heap.size, 0, none⟩ = some (.bool fold) ∧ w3.cell? ⟨w.heap.size, 1, none⟩ = some (.bool slash)) ∧ (w3.cell? ⟨b, off + i * 6, none⟩ = some (.int .i64 t.kind) ∧ w3.cell? ⟨b, off + i * 6 + 1, none⟩ = some (.int .u8 t.b.toNat) ∧ w3.cell? ⟨b, off + i * 6 + 2, none⟩ = some (.int .u64 (wordP t.p 0)) ∧ w3.cell? ⟨b, off + i * 6 + 3, none⟩ = some (.int .u64 (wordP t.p 1)) ∧ w3.cell? ⟨b, off + i * 6 + 4, none⟩ = some (.int .u64 (wordP t.p 2)) ∧ w3.cell? ⟨b, off + i * 6 + 5, none⟩ = some (.int .u64 (wordP t.p 3))) ∧ Below w.heap.size w w3 ∧ Below W.heap.size W w3) := Lib.hid (fun w3 h3 => ⟨⟨(h3.cell (p := ⟨w.heap.size, 0, none⟩) hzr).trans hf0, (h3.cell (p := ⟨w.heap.size, 1, none⟩) hzr).trans hf1⟩, ⟨(h3.cell (p := ⟨b, off + i * 6, none⟩) hbb).trans t0, (h3.cell (p := ⟨b, off + i * 6 + 1, none⟩) hbb).trans t1, (h3.cell (p := ⟨b, off + i * 6 + 2, none⟩) hbb).trans t2, (h3.cell (p := ⟨b, off + i * 6 + 3, none⟩) hbb).trans t3, (h3.cell (p := ⟨b, off + i * 6 + 4, none⟩) hbb).trans t4, (h3.cell (p := ⟨b, off + i * 6 + 5, none⟩) hbb).trans t5⟩, hbr.trans (h3.mono hbr.size), hbW.trans (h3.mono hbW.size)⟩)
              obtain ⟨⟨x0, x1⟩, ⟨x2, x3, x4, x5, x6, x7⟩, x8, x9⟩ := HK.out wr.drew ((Below.refl _ _).drew)
              go_region_held3 (fun w' => w'.cell? ⟨w.heap.size, 0, none⟩ = some (.bool fold) ∧ w'.cell? ⟨w.heap.size, 1, none⟩ = some (.bool slash) ∧ w'.cell? ⟨b, off + i * 6, none⟩ = some (.int .i64 t.kind) ∧ w'.cell? ⟨b, off + i * 6 + 1, none⟩ = some (.int .u8 t.b.toNat) ∧ w'.cell? ⟨b, off + i * 6 + 2, none⟩ = some (.int .u64 (wordP t.p 0)) ∧ w'.cell? ⟨b, off + i * 6 + 3, none⟩ = some (.int .u64 (wordP t.p 1)) ∧ w'.cell? ⟨b, off + i * 6 + 4, none⟩ = some (.int .u64 (wordP t.p 2)) ∧ w'.cell? ⟨b, off + i * 6 + 5, none⟩ = some (.int .u64 (wordP t.p 3)) ∧ Below w.heap.size w w' ∧ Below W.heap.size W w') (first | exact ⟨x0, x1, x2, x3, x4, x5, x6, x7, x8, x9⟩ | exact ⟨y0, y1, y2, y3, y4, y5, y6, y7, y8, y9⟩) (first
                | (go_at_call 27; rw [← Tk.val_def t]; refine (HO1.out _).mono ?_; rintro e w3 ⟨rfl, hb3⟩; have hb3 := ((Below.refl wr.heap.size wr).drew).trans hb3; obtain ⟨⟨y0, y1⟩, ⟨y2, y3, y4, y5, y6, y7⟩, y8, y9⟩ := HK.out w3 hb3))
              go_wp2_with fail
              go_meet
              exact ⟨rfl, y0, y1, y8, y9⟩
            case rest =>
              obtain ⟨rfl, hc0, hc1, hcb, hcW⟩ := hcut
              have hcz : w.heap.size < wc.heap.size := Nat.lt_of_lt_of_le hz0 hcW.size
              have hstuck : matchG (freeG slash) (L.drop i) (s.drop k) = false := HSK.out
              by_cases hz0' : z = 0
              · subst hz0'
                have hr0 : r = false := HG.out.no hstuck (Or.inl rfl)
                subst hr0
                have hneg : ((0 : Nat) : Int) - 1 < 0 := by decide
                have hneg2 : decide (((0 : Nat) : Int) - 1 < 0) = true := by decide
                go_wp2_with fail
                go_region
                go_wp2_with fail
                simp only [Exit.jump]
                try rw [Exit.noGoto_ret]
                go_ret
                exact ⟨rfl, hcb.drew⟩
              · have hnn : ¬ ((z : Int) - 1 < 0) := by omega
                have hnn2 : decide ((z : Int) - 1 < 0) = false := decide_eq_false hnn
                by_cases hfl : f < s.length
                · have hfs : f < (S s).size := by rw [S_size]; exact hfl
                  have hfI : ¬ (s.length : Int) ≤ (f : Int) := by omega
                  have hfI3 : (f : Int) < (s.length : Int) := by omega
                  have hfg : s[f]? = some ((S s)[f]'hfs) := List.getElem?_eq_getElem hfl
                  have HK5 : Hid (∀ w3, Below wc.heap.size wc w3 → (w3.cell? ⟨w.heap.size, 0, none⟩ = some (.bool fold) ∧ w3.cell? ⟨w.heap.size, 1, none⟩ = some (.bool slash)) ∧ Below w.heap.size w w3 ∧ Below W.heap.size W w3) := Lib.hid (fun w3 h3 => ⟨⟨(h3.cell (p := ⟨w.heap.size, 0, none⟩) hcz).trans hc0, (h3.cell (p := ⟨w.heap.size, 1, none⟩) hcz).trans hc1⟩, hcb.trans (h3.mono hcb.size), hcW.trans (h3.mono hcW.size)⟩)
                  have HF1 := HF.out ((S s)[f]'hfs)
                  cases hfr : freeG slash ((S s)[f]'hfs)
                  · have hr0 : r = false := HG.out.no hstuck (Or.inr (fun b hb => by rw [hfg] at hb; cases hb; exact hfr))
                    subst hr0
                    rw [hfr] at HF1
                    have HF1 := Lib.hid HF1
                    go_upto_region 11 with fail
                    obtain ⟨⟨x0, x1⟩, x2, x3⟩ := HK5.out wc.drew ((Below.refl _ _).drew)
                    go_region_held3 (fun w' => w'.cell? ⟨w.heap.size, 0, none⟩ = some (.bool fold) ∧ w'.cell? ⟨w.heap.size, 1, none⟩ = some (.bool slash) ∧ Below w.heap.size w w' ∧ Below W.heap.size W w') (first | exact ⟨x0, x1, x2, x3⟩ | exact ⟨y0, y1, y2, y3⟩) (first
                      | (go_at_call 28; refine (HF1.out _).mono ?_; rintro e w5 ⟨rfl, hb5⟩; have hb5 := ((Below.refl wc.heap.size wc).drew).trans hb5; obtain ⟨⟨y0, y1⟩, y2, y3⟩ := HK5.out w5 hb5))
                    go_wp2_with fail
                    simp only [Exit.jump]
                    try rw [Exit.noGoto_ret]
                    go_ret
                    exact ⟨rfl, y2⟩
                  · have HG2 : Hid (GState (freeG slash) L s r z (f + 1) z (f + 1)) := Lib.hid (HG.out.back hstuck (by omega) _ hfg hfr)
                    rw [hfr] at HF1
                    have HF1 := Lib.hid HF1
                    go_upto_region 11 with fail
                    obtain ⟨⟨x0, x1⟩, x2, x3⟩ := HK5.out wc.drew ((Below.refl _ _).drew)
                    go_region_held3 (fun w' => w'.cell? ⟨w.heap.size, 0, none⟩ = some (.bool fold) ∧ w'.cell? ⟨w.heap.size, 1, none⟩ = some (.bool slash) ∧ Below w.heap.size w w' ∧ Below W.heap.size W w') (first | exact ⟨x0, x1, x2, x3⟩ | exact ⟨y0, y1, y2, y3⟩) (first
                      | (go_at_call 28; refine (HF1.out _).mono ?_; rintro e w5 ⟨rfl, hb5⟩; have hb5 := ((Below.refl wc.heap.size wc).drew).trans hb5; obtain ⟨⟨y0, y1⟩, y2, y3⟩ := HK5.out w5 hb5))
                    go_wp2_with fail
                    go_roundw
                    case rel => exact ⟨z, f + 1, z, f + 1, by go_num, by first | rfl | (rw [show (z : Int) - 1 + 1 = (z : Int) by omega]), rfl, by go_num, HG2, hz, hfl, hz, hfl, y3⟩
                    case measure =>
                      simp only [intOf]
                      rw [show ((z : Int) - 1 + 1).toNat = z by omega, show ((f : Int)).toNat = f by omega, show ((i : Nat) : Int).toNat = i by omega, show ((f : Int) + 1).toNat = f + 1 by omega]
                      exact muG_b (by omega) (by omega)
                · have hr0 : r = false := HG.out.no hstuck (Or.inr (fun b hb => by rw [List.getElem?_eq_none (by omega)] at hb; cases hb))
                  subst hr0
                  have hfI : (s.length : Int) ≤ (f : Int) := by omega
                  have hfI2 : decide ((s.length : Int) ≤ (f : Int)) = true := decide_eq_true hfI
                  go_wp2_with fail
                  go_region
                  go_wp2_with fail
                  simp only [Exit.jump]
                  try rw [Exit.noGoto_ret]
                  go_ret
                  exact ⟨rfl, hcb.drew⟩
          · rw [ho] at HO1
            have HO1 := Lib.hid HO1
            have HG2 : Hid (GState (freeG slash) L s r (i + 1) (k + 1) z f) := Lib.hid (HG.out.one _ _ hLi hkg hns ((gt_tells _ _ _ _).trans ho))
            clear hLi hkg
            go_upto_region 8 with fail
            have HK : Hid (∀ w3, Below wr.heap.size wr w3 → (w3.cell? ⟨w.heap.size, 0, none⟩ = some (.bool fold) ∧ w3.cell? ⟨w.heap.size, 1, none⟩ = some (.bool slash)) ∧ (w3.cell? ⟨b, off + i * 6, none⟩ = some (.int .i64 t.kind) ∧ w3.cell? ⟨b, off + i * 6 + 1, none⟩ = some (.int .u8 t.b.toNat) ∧ w3.cell? ⟨b, off + i * 6 + 2, none⟩ = some (.int .u64 (wordP t.p 0)) ∧ w3.cell? ⟨b, off + i * 6 + 3, none⟩ = some (.int .u64 (wordP t.p 1)) ∧ w3.cell? ⟨b, off + i * 6 + 4, none⟩ = some (.int .u64 (wordP t.p 2)) ∧ w3.cell? ⟨b, off + i * 6 + 5, none⟩ = some (.int .u64 (wordP t.p 3))) ∧ Below w.heap.size w w3 ∧ Below W.heap.size W w3) := Lib.hid (fun w3 h3 => ⟨⟨(h3.cell (p := ⟨w.heap.size, 0, none⟩) hzr).trans hf0, (h3.cell (p := ⟨w.heap.size, 1, none⟩) hzr).trans hf1⟩, ⟨(h3.cell (p := ⟨b, off + i * 6, none⟩) hbb).trans t0, (h3.cell (p := ⟨b, off + i * 6 + 1, none⟩) hbb).trans t1, (h3.cell (p := ⟨b, off + i * 6 + 2, none⟩) hbb).trans t2, (h3.cell (p := ⟨b, off + i * 6 + 3, none⟩) hbb).trans t3, (h3.cell (p := ⟨b, off + i * 6 + 4, none⟩) hbb).trans t4, (h3.cell (p := ⟨b, off + i * 6 + 5, none⟩) hbb).trans t5⟩, hbr.trans (h3.mono hbr.size), hbW.trans (h3.mono hbW.size)⟩)
            obtain ⟨⟨x0, x1⟩, ⟨x2, x3, x4, x5, x6, x7⟩, x8, x9⟩ := HK.out wr.drew ((Below.refl _ _).drew)
            go_region_held3 (fun w' => w'.cell? ⟨w.heap.size, 0, none⟩ = some (.bool fold) ∧ w'.cell? ⟨w.heap.size, 1, none⟩ = some (.bool slash) ∧ w'.cell? ⟨b, off + i * 6, none⟩ = some (.int .i64 t.kind) ∧ w'.cell? ⟨b, off + i * 6 + 1, none⟩ = some (.int .u8 t.b.toNat) ∧ w'.cell? ⟨b, off + i * 6 + 2, none⟩ = some (.int .u64 (wordP t.p 0)) ∧ w'.cell? ⟨b, off + i * 6 + 3, none⟩ = some (.int .u64 (wordP t.p 1)) ∧ w'.cell? ⟨b, off + i * 6 + 4, none⟩ = some (.int .u64 (wordP t.p 2)) ∧ w'.cell? ⟨b, off + i * 6 + 5, none⟩ = some (.int .u64 (wordP t.p 3)) ∧ Below w.heap.size w w' ∧ Below W.heap.size W w') (first | exact ⟨x0, x1, x2, x3, x4, x5, x6, x7, x8, x9⟩ | exact ⟨y0, y1, y2, y3, y4, y5, y6, y7, y8, y9⟩) (first
              | (go_at_call 27; rw [← Tk.val_def t]; refine (HO1.out _).mono ?_; rintro e w3 ⟨rfl, hb3⟩; have hb3 := ((Below.refl wr.heap.size wr).drew).trans hb3; obtain ⟨⟨y0, y1⟩, ⟨y2, y3, y4, y5, y6, y7⟩, y8, y9⟩ := HK.out w3 hb3))
            go_wp2_with fail
            go_roundw
            case rel => exact ⟨i + 1, k + 1, z, f, by go_num, by go_num, rfl, rfl, HG2, hil, hkl, hz, hf, y9⟩
            case measure =>
              simp only [intOf]
              rw [show ((z : Int) - 1 + 1).toNat = z by omega, show ((f : Int)).toNat = f by omega, show ((i : Int)).toNat = i by omega, show ((i : Int) + 1).toNat = i + 1 by omega]
              exact muG_c (by omega)
        · have hkI : (k : Int) = (s.length : Int) := by omega
          have hkI2 : ¬ (k : Int) < (s.length : Int) := by omega
          have hiI2 : ¬ (i : Int) = (l.length : Int) := by omega
          have hiI3 : ((i : Int) == (l.length : Int)) = false := beq_eq_false_iff_ne.2 hiI2
          have hkk : k = s.length := by omega
          subst hkk
          have HSK : Hid (matchG (freeG slash) (L.drop i) (s.drop s.length) = false) := Lib.hid (stuck L s i s.length (fun t' ht => by rw [hLi] at ht; cases ht; exact hns) (fun h => by omega) hk (by omega) (fun t' b' ht hb' => by rw [List.getElem?_eq_none (Nat.le_refl _)] at hb'; cases hb'))
          clear hLi tc
          go_upto_region 8 with fail
          go_cut [57] (fun v wx => v = .bool false ∧ wx.cell? ⟨w.heap.size, 0, none⟩ = some (.bool fold) ∧ wx.cell? ⟨w.heap.size, 1, none⟩ = some (.bool slash) ∧ Below w.heap.size w wx ∧ Below W.heap.size W wx)
          case first =>
            go_region
            go_wp2_with fail
            go_meet
            exact ⟨rfl, hf0, hf1, hbr.drew, hbW.drew⟩
          case rest =>
            obtain ⟨rfl, hc0, hc1, hcb, hcW⟩ := hcut
            have hcz : w.heap.size < wc.heap.size := Nat.lt_of_lt_of_le hz0 hcW.size
            have hstuck : matchG (freeG slash) (L.drop i) (s.drop s.length) = false := HSK.out
            by_cases hz0' : z = 0
            · subst hz0'
              have hr0 : r = false := HG.out.no hstuck (Or.inl rfl)
              subst hr0
              have hneg : ((0 : Nat) : Int) - 1 < 0 := by decide
              have hneg2 : decide (((0 : Nat) : Int) - 1 < 0) = true := by decide
              go_wp2_with fail
              go_region
              go_wp2_with fail
              simp only [Exit.jump]
              try rw [Exit.noGoto_ret]
              go_ret
              exact ⟨rfl, hcb.drew⟩
            · have hnn : ¬ ((z : Int) - 1 < 0) := by omega
              have hnn2 : decide ((z : Int) - 1 < 0) = false := decide_eq_false hnn
              by_cases hfl : f < s.length
              · have hfs : f < (S s).size := by rw [S_size]; exact hfl
                have hfI : ¬ (s.length : Int) ≤ (f : Int) := by omega
                have hfI3 : (f : Int) < (s.length : Int) := by omega
                have hfg : s[f]? = some ((S s)[f]'hfs) := List.getElem?_eq_getElem hfl
                have HK5 : Hid (∀ w3, Below wc.heap.size wc w3 → (w3.cell? ⟨w.heap.size, 0, none⟩ = some (.bool fold) ∧ w3.cell? ⟨w.heap.size, 1, none⟩ = some (.bool slash)) ∧ Below w.heap.size w w3 ∧ Below W.heap.size W w3) := Lib.hid (fun w3 h3 => ⟨⟨(h3.cell (p := ⟨w.heap.size, 0, none⟩) hcz).trans hc0, (h3.cell (p := ⟨w.heap.size, 1, none⟩) hcz).trans hc1⟩, hcb.trans (h3.mono hcb.size), hcW.trans (h3.mono hcW.size)⟩)
                have HF1 := HF.out ((S s)[f]'hfs)
                cases hfr : freeG slash ((S s)[f]'hfs)
                · have hr0 : r = false := HG.out.no hstuck (Or.inr (fun b hb => by rw [hfg] at hb; cases hb; exact hfr))
                  subst hr0
                  rw [hfr] at HF1
                  have HF1 := Lib.hid HF1
                  go_upto_region 11 with fail
                  obtain ⟨⟨x0, x1⟩, x2, x3⟩ := HK5.out wc.drew ((Below.refl _ _).drew)
                  go_region_held3 (fun w' => w'.cell? ⟨w.heap.size, 0, none⟩ = some (.bool fold) ∧ w'.cell? ⟨w.heap.size, 1, none⟩ = some (.bool slash) ∧ Below w.heap.size w w' ∧ Below W.heap.size W w') (first | exact ⟨x0, x1, x2, x3⟩ | exact ⟨y0, y1, y2, y3⟩) (first
                    | (go_at_call 28; refine (HF1.out _).mono ?_; rintro e w5 ⟨rfl, hb5⟩; have hb5 := ((Below.refl wc.heap.size wc).drew).trans hb5; obtain ⟨⟨y0, y1⟩, y2, y3⟩ := HK5.out w5 hb5))
                  go_wp2_with fail
                  simp only [Exit.jump]
                  try rw [Exit.noGoto_ret]
                  go_ret
                  exact ⟨rfl, y2⟩
                · have HG2 : Hid (GState (freeG slash) L s r z (f + 1) z (f + 1)) := Lib.hid (HG.out.back hstuck (by omega) _ hfg hfr)
                  rw [hfr] at HF1
                  have HF1 := Lib.hid HF1
                  go_upto_region 11 with fail
                  obtain ⟨⟨x0, x1⟩, x2, x3⟩ := HK5.out wc.drew ((Below.refl _ _).drew)
                  go_region_held3 (fun w' => w'.cell? ⟨w.heap.size, 0, none⟩ = some (.bool fold) ∧ w'.cell? ⟨w.heap.size, 1, none⟩ = some (.bool slash) ∧ Below w.heap.size w w' ∧ Below W.heap.size W w') (first | exact ⟨x0, x1, x2, x3⟩ | exact ⟨y0, y1, y2, y3⟩) (first
                    | (go_at_call 28; refine (HF1.out _).mono ?_; rintro e w5 ⟨rfl, hb5⟩; have hb5 := ((Below.refl wc.heap.size wc).drew).trans hb5; obtain ⟨⟨y0, y1⟩, y2, y3⟩ := HK5.out w5 hb5))
                  go_wp2_with fail
                  go_roundw
                  case rel => exact ⟨z, f + 1, z, f + 1, by go_num, by first | rfl | (rw [show (z : Int) - 1 + 1 = (z : Int) by omega]), rfl, by go_num, HG2, hz, hfl, hz, hfl, y3⟩
                  case measure =>
                    simp only [intOf]
                    rw [show ((z : Int) - 1 + 1).toNat = z by omega, show ((f : Int)).toNat = f by omega, show ((i : Nat) : Int).toNat = i by omega, show ((f : Int) + 1).toNat = f + 1 by omega]
                    exact muG_b (by omega) (by omega)
              · have hr0 : r = false := HG.out.no hstuck (Or.inr (fun b hb => by rw [List.getElem?_eq_none (by omega)] at hb; cases hb))
                subst hr0
                have hfI : (s.length : Int) ≤ (f : Int) := by omega
                have hfI2 : decide ((s.length : Int) ≤ (f : Int)) = true := decide_eq_true hfI
                go_wp2_with fail
                go_region
                go_wp2_with fail
                simp only [Exit.jump]
                try rw [Exit.noGoto_ret]
                go_ret
                exact ⟨rfl, hcb.drew⟩
    · have hii : i = l.length := by omega
      have hiI : ¬ (i : Int) < (l.length : Int) := by omega
      have hiI2 : (i : Int) = (l.length : Int) := by omega
      by_cases hkl : k < s.length
      · have hkI2 : ¬ (k : Int) = (s.length : Int) := by omega
        have hkI3 : ((k : Int) == (s.length : Int)) = false := beq_eq_false_iff_ne.2 hkI2
        have HSK : Hid (matchG (freeG slash) (L.drop i) (s.drop k) = false) := Lib.hid (stuck L s i k (fun t' ht => by rw [List.getElem?_eq_none (by omega)] at ht; cases ht) (fun h => by omega) hk (by omega) (fun t' b' ht hb' => by rw [List.getElem?_eq_none (by omega)] at ht; cases ht))
        subst hii
        go_upto_region 8 with fail
        go_cut [57] (fun v wx => v = .bool false ∧ wx.cell? ⟨w.heap.size, 0, none⟩ = some (.bool fold) ∧ wx.cell? ⟨w.heap.size, 1, none⟩ = some (.bool slash) ∧ Below w.heap.size w wx ∧ Below W.heap.size W wx)
        case first =>
          go_region
          go_wp2_with fail
          go_meet
          exact ⟨rfl, hf0, hf1, hbr.drew, hbW.drew⟩
        case rest =>
          obtain ⟨rfl, hc0, hc1, hcb, hcW⟩ := hcut
          have hcz : w.heap.size < wc.heap.size := Nat.lt_of_lt_of_le hz0 hcW.size
          have hstuck : matchG (freeG slash) (L.drop l.length) (s.drop k) = false := HSK.out
          by_cases hz0' : z = 0
          · subst hz0'
            have hr0 : r = false := HG.out.no hstuck (Or.inl rfl)
            subst hr0
            have hneg : ((0 : Nat) : Int) - 1 < 0 := by decide
            have hneg2 : decide (((0 : Nat) : Int) - 1 < 0) = true := by decide
            go_wp2_with fail
            go_region
            go_wp2_with fail
            simp only [Exit.jump]
            try rw [Exit.noGoto_ret]
            go_ret
            exact ⟨rfl, hcb.drew⟩
          · have hnn : ¬ ((z : Int) - 1 < 0) := by omega
            have hnn2 : decide ((z : Int) - 1 < 0) = false := decide_eq_false hnn
            by_cases hfl : f < s.length
            · have hfs : f < (S s).size := by rw [S_size]; exact hfl
              have hfI : ¬ (s.length : Int) ≤ (f : Int) := by omega
              have hfI3 : (f : Int) < (s.length : Int) := by omega
              have hfg : s[f]? = some ((S s)[f]'hfs) := List.getElem?_eq_getElem hfl
              have HK5 : Hid (∀ w3, Below wc.heap.size wc w3 → (w3.cell? ⟨w.heap.size, 0, none⟩ = some (.bool fold) ∧ w3.cell? ⟨w.heap.size, 1, none⟩ = some (.bool slash)) ∧ Below w.heap.size w w3 ∧ Below W.heap.size W w3) := Lib.hid (fun w3 h3 => ⟨⟨(h3.cell (p := ⟨w.heap.size, 0, none⟩) hcz).trans hc0, (h3.cell (p := ⟨w.heap.size, 1, none⟩) hcz).trans hc1⟩, hcb.trans (h3.mono hcb.size), hcW.trans (h3.mono hcW.size)⟩)
              have HF1 := HF.out ((S s)[f]'hfs)
              cases hfr : freeG slash ((S s)[f]'hfs)
              · have hr0 : r = false := HG.out.no hstuck (Or.inr (fun b hb => by rw [hfg] at hb; cases hb; exact hfr))
                subst hr0
                rw [hfr] at HF1
                have HF1 := Lib.hid HF1
                go_upto_region 11 with fail
                obtain ⟨⟨x0, x1⟩, x2, x3⟩ := HK5.out wc.drew ((Below.refl _ _).drew)
                go_region_held3 (fun w' => w'.cell? ⟨w.heap.size, 0, none⟩ = some (.bool fold) ∧ w'.cell? ⟨w.heap.size, 1, none⟩ = some (.bool slash) ∧ Below w.heap.size w w' ∧ Below W.heap.size W w') (first | exact ⟨x0, x1, x2, x3⟩ | exact ⟨y0, y1, y2, y3⟩) (first
                  | (go_at_call 28; refine (HF1.out _).mono ?_; rintro e w5 ⟨rfl, hb5⟩; have hb5 := ((Below.refl wc.heap.size wc).drew).trans hb5; obtain ⟨⟨y0, y1⟩, y2, y3⟩ := HK5.out w5 hb5))
                go_wp2_with fail
                simp only [Exit.jump]
                try rw [Exit.noGoto_ret]
                go_ret
                exact ⟨rfl, y2⟩
              · have HG2 : Hid (GState (freeG slash) L s r z (f + 1) z (f + 1)) := Lib.hid (HG.out.back hstuck (by omega) _ hfg hfr)
                rw [hfr] at HF1
                have HF1 := Lib.hid HF1
                go_upto_region 11 with fail
                obtain ⟨⟨x0, x1⟩, x2, x3⟩ := HK5.out wc.drew ((Below.refl _ _).drew)
                go_region_held3 (fun w' => w'.cell? ⟨w.heap.size, 0, none⟩ = some (.bool fold) ∧ w'.cell? ⟨w.heap.size, 1, none⟩ = some (.bool slash) ∧ Below w.heap.size w w' ∧ Below W.heap.size W w') (first | exact ⟨x0, x1, x2, x3⟩ | exact ⟨y0, y1, y2, y3⟩) (first
                  | (go_at_call 28; refine (HF1.out _).mono ?_; rintro e w5 ⟨rfl, hb5⟩; have hb5 := ((Below.refl wc.heap.size wc).drew).trans hb5; obtain ⟨⟨y0, y1⟩, y2, y3⟩ := HK5.out w5 hb5))
                go_wp2_with fail
                go_roundw
                case rel => exact ⟨z, f + 1, z, f + 1, by go_num, by first | rfl | (rw [show (z : Int) - 1 + 1 = (z : Int) by omega]), rfl, by go_num, HG2, hz, hfl, hz, hfl, y3⟩
                case measure =>
                  simp only [intOf]
                  rw [show ((z : Int) - 1 + 1).toNat = z by omega, show ((f : Int)).toNat = f by omega, show ((l.length : Nat) : Int).toNat = l.length by omega, show ((f : Int) + 1).toNat = f + 1 by omega]
                  exact muG_b (by omega) (by omega)
            · have hr0 : r = false := HG.out.no hstuck (Or.inr (fun b hb => by rw [List.getElem?_eq_none (by omega)] at hb; cases hb))
              subst hr0
              have hfI : (s.length : Int) ≤ (f : Int) := by omega
              have hfI2 : decide ((s.length : Int) ≤ (f : Int)) = true := decide_eq_true hfI
              go_wp2_with fail
              go_region
              go_wp2_with fail
              simp only [Exit.jump]
              try rw [Exit.noGoto_ret]
              go_ret
              exact ⟨rfl, hcb.drew⟩
      · have hkk : k = s.length := by omega
        have hr1 : r = true := HG.out.done hkk (by omega)
        subst hr1
        subst hii
        subst hkk
        go_wp2_with fail
        simp only [Exit.jump]
        try rw [Exit.noGoto_ret]
        go_ret
        exact ⟨rfl, hbr⟩
end Go.Proofs.YtphfcebacilbbaaDoor
