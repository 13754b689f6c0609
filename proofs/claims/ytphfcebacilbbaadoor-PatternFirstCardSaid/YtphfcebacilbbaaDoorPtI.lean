/- The law PatternFirst, walked. -/
import Derived.Test.YtphfcebacilbbaaDoorPtEH
import Derived.Test.YtphfcebacilbbaaDoorPtAll
import Derived.Test.YtphfcebacilbbaaDoorPost9
import Derived.Test.YtphfcebacilbbaaDoorGlobM
namespace Go.Proofs.YtphfcebacilbbaaDoor
open Go.RowKit
attribute [local irreducible] wordP

set_option maxRecDepth 100000 in
set_option maxHeartbeats 2000000 in
theorem first_awake (l : List RuleL) (v : Value) (n : List UInt8) (m : Int) (w : World) (hl : RulesV w v l) (hm : w.cell? ⟨2, 0, none⟩ = some (.int .i64 m)) (h : 6 < l.length ∨ (l.length ≤ 6 ∧ 60 < n.length)) :
    Calls Tryd.prog 6 #[v, .string (S n)] w fun e w' => e = .returned (.bool true) ∧ Below w.heap.size w w' := by
  have HW := Lib.hid (awake17 m w hm)
  obtain ⟨a, c, rfl, _⟩ := hl
  rcases h with h | ⟨h1, h⟩
  all_goals
    go_enter Tryd.func6, Tryd.ntmps6
    go_wp2_with fail
    refine (HW.out).mono ?_
    rintro e w1 ⟨rfl, hb1⟩
    go_wp2_with fail
    go_ret
    exact ⟨rfl, hb1⟩
theorem info_pp : (Tryd.prog.info? 44).map (fun i => (i.zero, i.size, i.bytes)) = some (some (.pointer none), 1, 8) := by kernel_rfl
/-- which of the patterns so far is wanted -/
def WantR (ds : List PatD) (name : List UInt8) (want : Int) : Prop :=
  (want = -1 ∧ ∀ (j : Nat) (x : PatD), ds[j]? = some x → ¬ x.hits name) ∨ (∃ (k : Nat) (d : PatD), want = (k : Int) ∧ ds[k]? = some d ∧ d.hits name ∧ ∀ (j : Nat) (x : PatD), j < k → ds[j]? = some x → ¬ x.hits name)
theorem WantR.keep {ds : List PatD} {name : List UInt8} {k : Nat} (h : WantR ds name (k : Int)) (d : PatD) : WantR (ds ++ [d]) name (k : Int) := by
  rcases h with ⟨h, _⟩ | ⟨k', x, e, h1, h2, h3⟩
  · omega
  · have hk : k = k' := by omega
    subst hk
    have hkl := (List.getElem?_eq_some_iff.1 h1).1
    refine .inr ⟨k, x, rfl, by rw [List.getElem?_append_left hkl]; exact h1, h2, fun j y hj hy => h3 j y hj ?_⟩
    rw [List.getElem?_append_left (by omega)] at hy
    exact hy
theorem WantR.no {ds : List PatD} {name : List UInt8} (h : WantR ds name (-1)) (d : PatD) (hd : ¬ d.hits name) : WantR (ds ++ [d]) name (-1) := by
  rcases h with ⟨_, h⟩ | ⟨k', x, e, _⟩
  · refine .inl ⟨rfl, fun j x hx => ?_⟩
    rcases Nat.lt_or_ge j ds.length with hj | hj
    · rw [List.getElem?_append_left hj] at hx; exact h j x hx
    · rw [List.getElem?_append_right hj] at hx
      rcases Nat.eq_zero_or_pos (j - ds.length) with h0 | h0
      · rw [h0] at hx
        have : d = x := by simpa using hx
        subst this; exact hd
      · rw [List.getElem?_eq_none (by simp only [List.length_cons, List.length_nil]; omega)] at hx
        cases hx
  · omega
theorem WantR.yes {ds : List PatD} {name : List UInt8} (h : WantR ds name (-1)) (d : PatD) (hd : d.hits name) : WantR (ds ++ [d]) name (ds.length : Int) := by
  rcases h with ⟨_, h⟩ | ⟨k', x, e, _⟩
  · refine .inr ⟨ds.length, d, rfl, by rw [List.getElem?_append_right (Nat.le_refl _)]; simp, hd, fun j x hj hx => ?_⟩
    rw [List.getElem?_append_left hj] at hx
    exact h j x hx
  · omega
/-- First tells just what is wanted -/
theorem first_want {ds : List PatD} {name : List UInt8} {want i : Int} {is : Bool} (h : WantR ds name want) (hf : FirstR ds name i is) : (want = -1 ∧ is = false ∧ i = 0) ∨ (∃ k : Nat, want = (k : Int) ∧ is = true ∧ i = (k : Int)) := by
  rcases h with ⟨rfl, h⟩ | ⟨k, d, rfl, h1, h2, h3⟩ <;> rcases hf with ⟨rfl, k', d', rfl, g1, g2, g3⟩ | ⟨rfl, rfl, g⟩
  · exact absurd g2 (h k' d' g1)
  · exact .inl ⟨rfl, rfl, rfl⟩
  · have : k = k' := by
      rcases Nat.lt_trichotomy k k' with e | e | e
      · exact absurd h2 (g3 k d e h1)
      · exact e
      · exact absurd g2 (h3 k' d' e g1)
    subst this
    exact .inr ⟨k, rfl, rfl, rfl⟩
  · exact absurd h2 (g k d h1)
theorem PatGood.app {w w' : World} {base base' : Nat} {d : PatD} {v v' : Value} {l : List Value} (h : PatGood w base d) (ho : OwnV 44 w base' v l) (hg : Grew w w' v v') : PatGood w' base d :=
  ⟨h.ok, AtB.kept (by decide) h.at_.p ho hg, AtB.kept (by decide) h.at_.t.tb ho hg, OwnV.kept (by decide) h.at_.t.on ho hg, OwnV.kept (by decide) h.at_.t.oe ho hg⟩
theorem all_snoc {α : Type} {P Q : α → Prop} {l : List α} {a : α} (h : ∀ x ∈ l, P x) (hq : ∀ x, P x → Q x) (ha : Q a) : ∀ x ∈ l ++ [a], Q x := by
  intro x hx
  rcases List.mem_append.1 hx with hx | hx
  · exact hq x (h x hx)
  · rw [List.mem_singleton] at hx; subst hx; exact ha
set_option maxRecDepth 100000 in
set_option maxHeartbeats 8000000 in
theorem first_main (l : List RuleL) (v : Value) (n : List UInt8) (m : Int) (w : World) (hl : RulesV w v l) (hm : w.cell? ⟨2, 0, none⟩ = some (.int .i64 m)) (h1 : l.length ≤ 6) (h2 : n.length ≤ 60) :
    Calls Tryd.prog 6 #[v, .string (S n)] w fun e w' => e = .returned (.bool true) ∧ Below w.heap.size w w' := by
  have HA := Lib.hid (fun W (h : Below w.heap.size w W) => awake17 m W (cellB h hm))
  have HM := Lib.hid (fun W (h : Below w.heap.size w W) => cellB h hm)
  obtain ⟨a, c, rfl, hc⟩ := hl
  have HC := Lib.hid hc
  have h1I : (l.length : Int) ≤ 6 := by omega
  have h2I : (n.length : Int) ≤ 60 := by omega
  have HL := Lib.hid h1
  have HN := Lib.hid h2
  clear hc hm h1 h2
  go_enter Tryd.func6, Tryd.ntmps6
  go_wp2_with fail
  go_loopw [28, 5, 6] (fun i va vw wr => ∃ (k : Nat) (ds : List PatD) (want : Int), i = .int .i64 k ∧ vw = .int .i64 want ∧ k ≤ l.length ∧ ds.length ≤ k ∧ WantR ds n want ∧ OwnV 44 wr w.heap.size va (ds.map PatD.ptr) ∧ (∀ d ∈ ds, PatGood wr w.heap.size d) ∧ Below w.heap.size w wr) (fun i _ _ _ => l.length - (RowKit.intOf i).toNat)
  case atStart => exact ⟨0, [], -1, rfl, rfl, Nat.zero_le _, Nat.le_refl _, .inl ⟨rfl, fun j x hx => by simp at hx⟩, OwnV.nil _ _ _, fun d hd => (by cases hd), Below.refl _ _⟩
  case round =>
    obtain ⟨k, ds, want, rfl, rfl, hk, hdk, hw, hO, hG, hX⟩ := hrel
    obtain ⟨av, cv, hv⟩ := hO.shape
    rw [List.length_map] at hv
    subst hv
    have HW := Lib.hid hw
    have HO := Lib.hid hO
    have HG := Lib.hid hG
    have HX := Lib.hid hX
    have hdI : (ds.length : Int) ≤ 6 := by have := HL.out; omega
    have HDK := Lib.hid hdk
    clear hw hO hG hX hdk
    by_cases hkl : k < l.length
    · have hkI : (k : Int) < (l.length : Int) := by omega
      obtain ⟨b, off, rfl, hb, hcs⟩ := HC.out (by omega)
      obtain ⟨⟨t, anch, fold, slash⟩, hrk⟩ : ∃ r, r = l[k] := ⟨_, rfl⟩
      have hcs := fun i u (hu : (ruleC (t, anch, fold, slash))[i]? = some u) => (HX.out.cell (p := ⟨b, off + k * 4 + i, none⟩) hb).trans (hcs k hkl i u (by rw [← hrk]; exact hu))
      have c0 : wr.cell? ⟨b, off + k * 4, none⟩ = some (.string (S t)) := hcs 0 _ rfl
      have c1 : wr.cell? ⟨b, off + k * 4 + 1, none⟩ = some (.bool anch) := hcs 1 _ rfl
      have c2 : wr.cell? ⟨b, off + k * 4 + 2, none⟩ = some (.bool fold) := hcs 2 _ rfl
      have c3 : wr.cell? ⟨b, off + k * 4 + 3, none⟩ = some (.bool slash) := hcs 3 _ rfl
      have HX1 := Lib.hid (HX.out.alloc HX.out.size (.cells #[.string (S t), .bool anch, .bool fold, .bool slash] 43))
      have HBA := Lib.hid ((Below.refl wr.heap.size wr).alloc (Nat.le_refl _) (.cells #[.string (S t), .bool anch, .bool fold, .bool slash] 43))
      have HF1 : Hid (AtB (wr.alloc (.cells #[.string (S t), .bool anch, .bool fold, .bool slash] 43)) wr.heap.size 43 [.string (S t), .bool anch, .bool fold, .bool slash]) := Lib.hid (AtB.new wr _ [.string (S t), .bool anch, .bool fold, .bool slash])
      have HO1 := Lib.hid (HO.out.below HBA.out (Nat.le_refl _))
      have HG1 := Lib.hid (fun d hd => (HG.out d hd).below HBA.out)
      clear hcs hrk HO HG HX HBA
      go_upto_region 8 with (fail)
      generalize wr.alloc (.cells #[.string (S t), .bool anch, .bool fold, .bool slash] 43) = W1 at *
      generalize wr.heap.size = gr at *
      clear c0 c1 c2 c3 HC
      have d0 : W1.cell? ⟨gr, 0, none⟩ = some (.string (S t)) := HF1.out.cell 0
      have d1 : W1.cell? ⟨gr, 1, none⟩ = some (.bool anch) := HF1.out.cell 1
      have d2 : W1.cell? ⟨gr, 2, none⟩ = some (.bool fold) := HF1.out.cell 2
      have d3 : W1.cell? ⟨gr, 3, none⟩ = some (.bool slash) := HF1.out.cell 3
      by_cases ht : 50 < t.length
      · have htI : (t.length : Int) > 50 := by omega
        have HAW := Lib.hid (HA.out _ HX1.out)
        clear ht
        go_wp2_with fail
        refine HAW.out.mono ?_
        rintro e w2 ⟨rfl, hb2⟩
        go_wp2_with fail
        go_ret
        exact ⟨rfl, HX1.out.trans (hb2.mono HX1.out.size)⟩
      · have htI : ¬ (t.length : Int) > 50 := by omega
        have HT : Hid (t.length ≤ 50) := Lib.hid (by omega)
        clear ht
        cases hR : parseG t (t.length + 1) 0 [] with
        | none =>
          exfalso
          have h := GParse_any t (by have := HT.out; omega) W1 m (HM.out _ HX1.out)
          rw [hR] at h
          obtain ⟨e, w', fr, h, _⟩ := h []
          exact h
        | some r =>
          obtain ⟨toks, pa, er⟩ := r
          have HNW := Lib.hid (new_any t anch fold slash 4096 toks pa er hR (by have := HT.out; omega) (by decide) (by decide) m W1 (HM.out _ HX1.out))
          have HRP := Lib.hid (fun W => RParse_any t (by have := HT.out; omega) W)
          rw [hR] at HRP
          have HTL := Lib.hid (parseG_len t _ _ _ toks pa er (by simp) hR)
          clear hR
          go_wp2_with fail
          refine HNW.out.mono ?_
          rintro e w2 ⟨hb2, h2⟩
          have HX2 := Lib.hid (HX1.out.trans (hb2.mono HX1.out.size))
          have HF2 := Lib.hid (HF1.out.below hb2)
          have HO2 := Lib.hid (HO1.out.below hb2 (Nat.le_refl _))
          have HG2 := Lib.hid (fun d hd => (HG1.out d hd).below hb2)
          have lW : w.heap.size ≤ W1.heap.size := HX1.out.size
          clear d0 d1 d2 d3 HNW HF1 HO1 HG1 HX1 hb2
          rcases h2 with ⟨h0, rfl⟩ | ⟨h0, gp, gt, T, rfl, hok, hat⟩ | ⟨h0, rfl, _⟩
          · have heI : ¬ (er : Int) = 0 := by omega
            have heB : ((er : Int) != 0) = true := bne_iff_ne.2 heI
            go_wp2_with fail
            go_roundw
            case rel => exact ⟨k + 1, ds, want, by go_num, by trivial, hkl, by have := HDK.out; omega, HW.out, HO2.out, HG2.out, HX2.out⟩
            case measure => simp [RowKit.intOf]; omega
          · subst h0
            have HD := Lib.hid (show PatGood w2 w.heap.size ⟨gp, t, anch, fold, slash, toks, gt, T⟩ from ⟨hok, hat.p, hat.t.rebase lW⟩)
            clear hok hat lW
            have d0 : w2.cell? ⟨gr, 0, none⟩ = some (.string (S t)) := HF2.out.cell 0
            go_wp2_with fail
            refine (HRP.out _).mono ?_
            rintro e w3 ⟨v3, rfl, hown3, hb3⟩
            have HQ3 := Lib.hid (hown3.rows Tk.rcells_len)
            have HX3 := Lib.hid (HX2.out.trans (hb3.mono HX2.out.size))
            have HF3 := Lib.hid (HF2.out.below hb3)
            have HO3 := Lib.hid (HO2.out.below hb3 (Nat.le_refl _))
            have HG3 := Lib.hid (fun d hd => (HG2.out d hd).below hb3)
            have HD3 := Lib.hid (HD.out.below hb3)
            clear d0 HRP HF2 HO2 HG2 HX2 HD hb3 hown3
            have hcases : want = -1 ∨ ∃ q : Nat, want = (q : Int) := by
              rcases HW.out with ⟨h, _⟩ | ⟨q, _, h, _⟩
              · exact .inl h
              · exact .inr ⟨q, h⟩
            rcases hcases with rfl | ⟨q, rfl⟩
            · have d1 : w3.cell? ⟨gr, 1, none⟩ = some (.bool anch) := HF3.out.cell 1
              have d2 : w3.cell? ⟨gr, 2, none⟩ = some (.bool fold) := HF3.out.cell 2
              have d3 : w3.cell? ⟨gr, 3, none⟩ = some (.bool slash) := HF3.out.cell 3
              have HC := Lib.hid (rmatch17_any toks anch fold slash n v3 w3 HQ3.out (by have := HTL.out; omega) (by have := HN.out; omega))
              go_wp2_with fail
              refine HC.out.mono ?_
              rintro e w4 ⟨⟨r, rfl, hr⟩, hb4⟩
              have HR := Lib.hid (show r = true ↔ (⟨gp, t, anch, fold, slash, toks, gt, T⟩ : PatD).hits n from hr)
              have HX4 := Lib.hid (HX3.out.trans (hb4.mono HX3.out.size))
              have HO4 := Lib.hid (HO3.out.below hb4 (Nat.le_refl _))
              have HG4 := Lib.hid (fun d hd => (HG3.out d hd).below hb4)
              have HD4 := Lib.hid (HD3.out.below hb4)
              clear d1 d2 d3 HC hr HQ3 HX3 HF3 HO3 HG3 HD3 hb4
              cases r
              · have HW2 := Lib.hid (HW.out.no ⟨gp, t, anch, fold, slash, toks, gt, T⟩ (fun h => (by have := HR.out.2 h; cases this)))
                clear HR
                have HL9 : Hid ((ds.map PatD.ptr ++ [Value.pointer (some ⟨gp, 0, none⟩)]).length = ds.length + 1) := Lib.hid (by simp)
                go_wp2_with (at_builtin; refine app_v 49 44 (.pointer none) 8 Tryd.underlying49 info_pp rfl (by decide) rfl (.tmp 67) (.tmp 69) rfl w.heap.size (.slice av ds.length cv) (ds.map PatD.ptr) (.pointer (some ⟨gp, 0, none⟩)) rfl rfl HO4.out rfl (by rw [List.length_map]; have := HDK.out; have := HL.out; omega) HX4.out.size ?_; intro v' w' hO hb hG; obtain ⟨a3, c3, hv'⟩ := hO.shape; rw [HL9.out] at hv'; subst hv'; have hbb := Lib.hid hb; have HO9 := Lib.hid hO; have HGR := Lib.hid hG)
                go_roundw
                case rel => exact ⟨k + 1, ds ++ [⟨gp, t, anch, fold, slash, toks, gt, T⟩], _, by go_num, by trivial, hkl, by rw [List.length_append]; have := HDK.out; simp; omega, HW2.out, by rw [List.map_append]; exact HO9.out, all_snoc HG4.out (fun x hx => hx.app HO4.out HGR.out) (HD4.out.app HO4.out HGR.out), HX4.out.trans hbb.out⟩
                case measure => simp [RowKit.intOf]; omega
              · have HW2 := Lib.hid (HW.out.yes ⟨gp, t, anch, fold, slash, toks, gt, T⟩ (HR.out.1 rfl))
                clear HR
                have HL9 : Hid ((ds.map PatD.ptr ++ [Value.pointer (some ⟨gp, 0, none⟩)]).length = ds.length + 1) := Lib.hid (by simp)
                go_wp2_with (at_builtin; refine app_v 49 44 (.pointer none) 8 Tryd.underlying49 info_pp rfl (by decide) rfl (.tmp 67) (.tmp 69) rfl w.heap.size (.slice av ds.length cv) (ds.map PatD.ptr) (.pointer (some ⟨gp, 0, none⟩)) rfl rfl HO4.out rfl (by rw [List.length_map]; have := HDK.out; have := HL.out; omega) HX4.out.size ?_; intro v' w' hO hb hG; obtain ⟨a3, c3, hv'⟩ := hO.shape; rw [HL9.out] at hv'; subst hv'; have hbb := Lib.hid hb; have HO9 := Lib.hid hO; have HGR := Lib.hid hG)
                go_roundw
                case rel => exact ⟨k + 1, ds ++ [⟨gp, t, anch, fold, slash, toks, gt, T⟩], _, by go_num, by trivial, hkl, by rw [List.length_append]; have := HDK.out; simp; omega, HW2.out, by rw [List.map_append]; exact HO9.out, all_snoc HG4.out (fun x hx => hx.app HO4.out HGR.out) (HD4.out.app HO4.out HGR.out), HX4.out.trans hbb.out⟩
                case measure => simp [RowKit.intOf]; omega
            · have hq0 : ¬ (q : Int) < 0 := by omega
              have HW2 := Lib.hid (HW.out.keep ⟨gp, t, anch, fold, slash, toks, gt, T⟩)
              have HL9 : Hid ((ds.map PatD.ptr ++ [Value.pointer (some ⟨gp, 0, none⟩)]).length = ds.length + 1) := Lib.hid (by simp)
              go_wp2_with (at_builtin; refine app_v 49 44 (.pointer none) 8 Tryd.underlying49 info_pp rfl (by decide) rfl (.tmp 67) (.tmp 69) rfl w.heap.size (.slice av ds.length cv) (ds.map PatD.ptr) (.pointer (some ⟨gp, 0, none⟩)) rfl rfl HO3.out rfl (by rw [List.length_map]; have := HDK.out; have := HL.out; omega) HX3.out.size ?_; intro v' w' hO hb hG; obtain ⟨a3, c3, hv'⟩ := hO.shape; rw [HL9.out] at hv'; subst hv'; have hbb := Lib.hid hb; have HO9 := Lib.hid hO; have HGR := Lib.hid hG)
              go_roundw
              case rel => exact ⟨k + 1, ds ++ [⟨gp, t, anch, fold, slash, toks, gt, T⟩], _, by go_num, by trivial, hkl, by rw [List.length_append]; have := HDK.out; simp; omega, HW2.out, by rw [List.map_append]; exact HO9.out, all_snoc HG3.out (fun x hx => hx.app HO3.out HGR.out) (HD3.out.app HO3.out HGR.out), HX3.out.trans hbb.out⟩
              case measure => simp [RowKit.intOf]; omega
          · subst h0
            go_wp2_with fail
            go_roundw
            case rel => exact ⟨k + 1, ds, want, by go_num, by trivial, hkl, by have := HDK.out; omega, HW.out, HO2.out, HG2.out, HX2.out⟩
            case measure => simp [RowKit.intOf]; omega
    · have hke : k = l.length := by omega
      have HPF := Lib.hid (pfirst_any ds n (.slice av ds.length cv) w.heap.size (by have := HN.out; omega) (by have := HDK.out; have := HL.out; omega) wr HO.out HG.out)
      have HKE := Lib.hid hke
      clear hke HC
      go_wp2_with fail
      refine HPF.out.mono ?_
      rintro e w2 ⟨i, is, rfl, hf, hb2⟩
      have HX2 := Lib.hid (HX.out.trans (hb2.mono HX.out.size))
      have HAW := Lib.hid (HA.out _ HX2.out)
      have HFW := Lib.hid (first_want HW.out hf)
      clear hf hb2 HPF
      rcases HFW.out with ⟨hwn, rfl, rfl⟩ | ⟨q, rfl, rfl, rfl⟩
      · have hneg : ¬ want ≥ 0 := by omega
        have hmax : max want 0 = 0 := by omega
        have hle : want ≤ 0 := by omega
        have hlt : want < 0 := by omega
        have HWN := Lib.hid hwn
        clear HFW hwn
        go_wp2_with fail
        refine HAW.out.mono ?_
        rintro e w4 ⟨rfl, hb4⟩
        go_wp2_with fail
        go_ret
        exact ⟨ret_b (by rw [decide_eq_false (by have := HWN.out; omega)]; rfl), HX2.out.trans (hb4.mono HX2.out.size)⟩
      · clear HFW
        have hq0 : (q : Int) ≥ 0 := by omega
        have hself : ((q : Int) == (q : Int)) = true := by simp
        go_wp2_with fail
        refine HAW.out.mono ?_
        rintro e w4 ⟨rfl, hb4⟩
        go_wp2_with fail
        go_ret
        exact ⟨rfl, HX2.out.trans (hb4.mono HX2.out.size)⟩
theorem lawFirstP (l : List RuleL) (v : Value) (n : ByteArray) (w : World) (hl : RulesV w v l) (hmx : ∃ m, w.cell? ⟨2, 0, none⟩ = some (.int .i64 m)) :
    Calls Tryd.prog 6 #[v, .string n] w fun e w' => e = .returned (.bool true) ∧ Below w.heap.size w w' := by
  obtain ⟨m, hm⟩ := hmx
  have e2 := size_len n
  by_cases h1 : 6 < l.length
  · exact first_awake l v n.data.toList m w hl hm (.inl h1)
  by_cases h2 : 60 < n.data.toList.length
  · exact first_awake l v n.data.toList m w hl hm (.inr ⟨by omega, h2⟩)
  · exact first_main l v n.data.toList m w hl hm (by omega) (by omega)
end Go.Proofs.YtphfcebacilbbaaDoor
