/- The document's globs: Match. Patterns: the document's Match. Patterns: First. -/
import Derived.Test.YtphfcebacilbbaaDoorGlobP
import Derived.Test.YtphfcebacilbbaaDoorPtAll
namespace Go.Proofs.YtphfcebacilbbaaDoor
open Go.RowKit
attribute [local irreducible] wordP

set_option maxRecDepth 100000 in
set_option maxHeartbeats 2000000 in
theorem RMatch_any (l : List Tk) (s : List UInt8) (fold slash : Bool) (v : Value) (w : World) (hl : RowsV Tk.rcells 3 w v l) (hln : l.length ≤ 2000) (hs : s.length ≤ 100000) :
    Calls Tryd.prog 33 #[v, .bool fold, .bool slash, .string (S s)] w fun e w' => e = .returned (.bool (matchG (freeG slash) (l.map (Tk.gt fold slash)) s)) ∧ Below w.heap.size w w' := by
  have HE := Lib.hid (Ends_any l s fold slash v w hl hln hs)
  have hsI : (s.length : Int) ≤ 100000 := by omega
  go_enter Tryd.func33, Tryd.ntmps33
  go_wp2_with fail
  refine (HE.out).mono ?_
  rintro e w1 ⟨v1, rfl, hown, hb⟩
  obtain ⟨g, c, rfl, _, _, hc⟩ := hown.at' (by rw [endsK_len]; omega)
  have c0 : w1.cell? ⟨g, s.length, none⟩ = some (.bool (matchG (freeG slash) (l.map (Tk.gt fold slash)) s)) := by rw [hc s.length (by rw [endsK_len]; omega), endsK_at, List.take_length]
  clear hc hown
  rw [endsK_len]
  go_wp2_with fail
  go_ret
  exact ⟨rfl, hb⟩
end Go.Proofs.YtphfcebacilbbaaDoor
namespace Go.Proofs.YtphfcebacilbbaaDoor
open Go.RowKit
attribute [local irreducible] wordP

theorem beg_zero (anch : Bool) (u : List UInt8) : isBeg anch u 0 := ⟨Nat.zero_le _, .inl rfl⟩
theorem beg_succ (anch : Bool) (u : List UInt8) (k : Nat) (hk : k + 1 ≤ u.length) : isBeg anch u (k + 1) ↔ (anch = false ∧ u[k]? = some 47) := by
  constructor
  · rintro ⟨_, h | h⟩
    · omega
    · exact h
  · intro h
    exact ⟨hk, .inr h⟩
/-- a call's answer: whether P -/
def AnsP (e : Ending) (P : Prop) : Prop := ∃ r : Bool, e = .returned (.bool r) ∧ (r = true ↔ P)
set_option maxRecDepth 100000 in
set_option maxHeartbeats 4000000 in
/-- the ends tried from one place -/
theorem rmatch17_any (l : List Tk) (anch fold slash : Bool) (s : List UInt8) (v : Value) (w : World) (hl : RowsV Tk.rcells 3 w v l) (hln : l.length ≤ 2000) (hs : s.length ≤ 100000) :
    Calls Tryd.prog 17 #[v, .bool anch, .bool fold, .bool slash, .string (S s)] w fun e w' => AnsP e (patP (freeG slash) (gts fold slash l) anch (bareL s)) ∧ Below w.heap.size w w' := by
  have HRB := Lib.hid (rbare_any s (by omega) w)
  have hbl := bare_len s
  have HM := Lib.hid (fun W (hb : Below w.heap.size w W) (t : List UInt8) (ht : t.length ≤ 100000) => RMatch_any l t fold slash v W (RowsV.below hl hb (Nat.le_refl _)) hln ht)
  unfold gts
  generalize bareL s = u at *
  have huI : (u.length : Int) ≤ 100000 := by omega
  have HU := Lib.hid (show u.length ≤ 100000 by omega)
  clear hbl hl
  go_enter Tryd.func17, Tryd.ntmps17
  go_wp2_with fail
  refine HRB.out.mono ?_
  rintro e w1 ⟨rfl, rfl⟩
  clear HRB
  go_wp2_with fail
  go_loopw [12] (fun i wr => ∃ x : Nat, i = .int .i64 x ∧ x ≤ u.length + 1 ∧ (∀ y, y < x → isBeg anch u y → ¬ hitP (freeG slash) (l.map (Tk.gt fold slash)) u y) ∧ Below w1.heap.size w1 wr) (fun i _ => u.length + 1 - (RowKit.intOf i).toNat)
  case atStart => exact ⟨0, rfl, Nat.zero_le _, fun y hy => absurd hy (Nat.not_lt_zero y), Below.refl _ _⟩
  case round =>
    obtain ⟨x, rfl, hx, hno, hX⟩ := hrel
    have HNO := Lib.hid hno
    have HX := Lib.hid hX
    clear hno hX
    by_cases hxl : x ≤ u.length
    · have hxI : (x : Int) ≤ (u.length : Int) := by omega
      have main : ∀ (hb : isBeg anch u x), (x = 0 ∨ ∃ k, x = k + 1 ∧ anch = false ∧ u[k]? = some 47) := by
        intro hb
        rcases hb.2 with h | ⟨h1, h2⟩
        · exact .inl h
        · rcases Nat.eq_zero_or_pos x with h0 | h0
          · exact .inl h0
          · exact .inr ⟨x - 1, by omega, h1, h2⟩
      by_cases hbeg : isBeg anch u x
      · have HBEG := Lib.hid hbeg
        have HCASE := Lib.hid (main hbeg)
        clear main hbeg
        go_upto_region 5 with (fail)
        go_cut [33] (fun v33 wx => v33 = .bool false ∧ wx = wr)
        case first =>
          rcases HCASE.out with h0 | ⟨k, hk, ha, hu⟩
          · have h0I : ¬ (x : Int) > 0 := by omega
            have HH := Lib.hid h0
            clear h0
            go_wp2_with fail
            go_meet
            exact ⟨rfl, rfl⟩
          · subst ha
            have h0I : (x : Int) > 0 := by omega
            have hsub : (x : Int) - 1 = (k : Int) := by omega
            have hkl := (List.getElem?_eq_some_iff.1 hu).1
            have hkS : k < (S u).size := by rw [S_size]; exact hkl
            have hidx : (S u)[k]'hkS = 47 := by
              have e := S_get u k hkS
              rw [e]
              exact (List.getElem?_eq_some_iff.1 hu).2
            have hkI : (k : Int) < (u.length : Int) := by omega
            have h47 : (((47 : UInt8).toNat : Int) != 47) = false := rfl
            have HH := Lib.hid hk
            clear hk hu
            go_wp2_with fail
            go_meet
            exact ⟨rfl, rfl⟩
        case rest =>
          obtain ⟨rfl, rfl⟩ := hcut
          go_wp2_with fail
          go_loopw [13] (fun i wr => ∃ y : Nat, i = .int .i64 y ∧ x ≤ y ∧ y ≤ u.length + 1 ∧ (∀ n, x + n < y → (x + n = u.length ∨ u[x + n]? = some 47) → matchG (freeG slash) (l.map (Tk.gt fold slash)) ((u.drop x).take n) = false) ∧ Below w1.heap.size w1 wr) (fun i _ => u.length + 1 - (RowKit.intOf i).toNat)
          case atStart => exact ⟨x, rfl, Nat.le_refl _, by omega, fun n hn => absurd hn (by omega), HX.out⟩
          case round =>
            clear HX HCASE
            obtain ⟨y, rfl, hxy, hy, hno, hX⟩ := hrel
            have HM2 := Lib.hid hno
            have HX := Lib.hid hX
            clear hno hX
            by_cases hyl : y ≤ u.length
            · have hyI : (y : Int) ≤ (u.length : Int) := by omega
              have hxyI : (x : Int) ≤ (y : Int) := by omega
              by_cases hend : y = u.length ∨ u[y]? = some 47
              · have HEND := Lib.hid hend
                clear hend
                go_upto_region 9 with (fail)
                go_cut [50] (fun v50 wx => v50 = .bool false ∧ wx = wr)
                case first =>
                  rcases HEND.out with h0 | h0
                  · have h0I : ¬ (y : Int) < (u.length : Int) := by omega
                    have HH := Lib.hid h0
                    clear h0
                    go_wp2_with fail
                    go_meet
                    exact ⟨rfl, rfl⟩
                  · have hkl := (List.getElem?_eq_some_iff.1 h0).1
                    have h0I : (y : Int) < (u.length : Int) := by omega
                    have hkS : y < (S u).size := by rw [S_size]; exact hkl
                    have hidx : (S u)[y]'hkS = 47 := by
                      have e := S_get u y hkS
                      rw [e]
                      exact (List.getElem?_eq_some_iff.1 h0).2
                    have h47 : (((47 : UInt8).toNat : Int) != 47) = false := rfl
                    clear h0
                    go_wp2_with fail
                    go_meet
                    exact ⟨rfl, rfl⟩
                case rest =>
                  obtain ⟨rfl, rfl⟩ := hcut
                  have hext : (S u).extract x y = S ((u.drop x).take (y - x)) := S_extract u x y
                  have HC := Lib.hid (HM.out _ HX.out ((u.drop x).take (y - x)) (by rw [List.length_take, List.length_drop]; have := HU.out; omega))
                  go_wp2_with fail
                  refine HC.out.mono ?_
                  rintro e w3 ⟨rfl, hb3⟩
                  have HX3 := Lib.hid (HX.out.trans (hb3.mono HX.out.size))
                  clear HC hb3 hext
                  cases hmt : matchG (freeG slash) (l.map (Tk.gt fold slash)) ((u.drop x).take (y - x))
                  · have HMT := Lib.hid hmt
                    clear hmt
                    go_wp2_with fail
                    go_roundw
                    case rel =>
                      refine ⟨y + 1, by go_num, by omega, by omega, fun n hn hc => ?_, HX3.out⟩
                      by_cases e : x + n = y
                      · have : n = y - x := by omega
                        rw [this]; exact HMT.out
                      · exact HM2.out n (by omega) hc
                    case measure => simp [RowKit.intOf]; omega
                  · have HMT := Lib.hid hmt
                    clear hmt
                    go_wp2_with fail
                    go_ret
                    refine ⟨⟨true, by trivial, ?_⟩, HX3.out⟩
                    refine ⟨fun _ => ⟨x, HBEG.out, y - x, by omega, HMT.out, ?_⟩, fun _ => rfl⟩
                    have e : x + (y - x) = y := by omega
                    rw [e]
                    exact HEND.out
              · have hlt : y < u.length := by
                  rcases Nat.lt_or_ge y u.length with h | h
                  · exact h
                  · exact absurd (.inl (by omega)) hend
                have h0I : (y : Int) < (u.length : Int) := by omega
                have hkS : y < (S u).size := by rw [S_size]; exact hlt
                have hidx : (S u)[y]'hkS = u[y] := S_get u y hkS
                have hb : u[y] ≠ 47 := fun e => hend (.inr (by rw [List.getElem?_eq_getElem hlt]; exact congrArg some e))
                have h47 : ((u[y].toNat : Int) != 47) = true := byte_bne u[y] 47 47 rfl hb
                have HEND := Lib.hid hend
                generalize u[y] = b at *
                clear hend hb
                go_wp2_with fail
                go_roundw
                case rel =>
                  refine ⟨y + 1, by go_num, by omega, by omega, fun n hn hc => ?_, HX.out⟩
                  by_cases e : x + n = y
                  · rw [e] at hc; exact absurd hc HEND.out
                  · exact HM2.out n (by omega) hc
                case measure => simp [RowKit.intOf]; omega
            · have hyI : ¬ (y : Int) ≤ (u.length : Int) := by omega
              go_wp2_with fail
              go_roundw
              case rel =>
                refine ⟨x + 1, by go_num, by omega, fun z hz hzb => ?_, HX.out⟩
                by_cases e : z = x
                · subst e
                  rintro ⟨n, h1, h2, h3⟩
                  have := HM2.out n (by omega) h3
                  rw [this] at h2; cases h2
                · exact HNO.out z (by omega) hzb
              case measure => simp [RowKit.intOf]; omega
      · have hx0 : x ≠ 0 := fun e => hbeg (by rw [e]; exact beg_zero _ _)
        obtain ⟨k, hk⟩ : ∃ k, x = k + 1 := ⟨x - 1, by omega⟩
        have hkl : k < u.length := by omega
        have hnb : ¬ (anch = false ∧ u[k]? = some 47) := by
          rw [hk] at hbeg
          rwa [beg_succ _ _ _ (by omega)] at hbeg
        have HBEG := Lib.hid hbeg
        have HNB := Lib.hid hnb
        have h0I : (x : Int) > 0 := by omega
        have hsub : (x : Int) - 1 = (k : Int) := by omega
        have hkS : k < (S u).size := by rw [S_size]; exact hkl
        have hidx : (S u)[k]'hkS = u[k] := S_get u k hkS
        have hkI : (k : Int) < (u.length : Int) := by omega
        have HG : Hid (u[k]? = some u[k]) := Lib.hid (List.getElem?_eq_getElem hkl)
        have HH := Lib.hid hk
        generalize u[k] = b at *
        clear hk hx0 hnb hbeg main
        have fin : ∀ y, y < x + 1 → isBeg anch u y → ¬ hitP (freeG slash) (l.map (Tk.gt fold slash)) u y := by
          intro y hy hyb
          by_cases e : y = x
          · subst e; exact absurd hyb HBEG.out
          · exact HNO.out y (by omega) hyb
        have HFIN := Lib.hid fin
        clear fin
        cases anch
        · have hb : b ≠ 47 := fun e => HNB.out ⟨rfl, by rw [HG.out, e]⟩
          have h47 : ((b.toNat : Int) != 47) = true := byte_bne b 47 47 rfl hb
          clear hb
          go_wp2_with fail
          go_roundw
          case rel => exact ⟨x + 1, by go_num, by omega, HFIN.out, HX.out⟩
          case measure => simp [RowKit.intOf]; omega
        · go_wp2_with fail
          go_roundw
          case rel => exact ⟨x + 1, by go_num, by omega, HFIN.out, HX.out⟩
          case measure => simp [RowKit.intOf]; omega
    · have hxe : x = u.length + 1 := by omega
      have hxI : ¬ (x : Int) ≤ (u.length : Int) := by omega
      have HXE := Lib.hid hxe
      clear hxe
      go_wp2_with fail
      go_ret
      refine ⟨⟨false, by trivial, ?_⟩, HX.out⟩
      constructor
      · intro h; cases h
      · rintro ⟨y, hb, hh⟩
        exact absurd hh (HNO.out y (by have := HXE.out; have := hb.1; omega) hb)
end Go.Proofs.YtphfcebacilbbaaDoor
namespace Go.Proofs.YtphfcebacilbbaaDoor
open Go.RowKit
attribute [local irreducible] wordP

/-- a pattern: where it lies, its rule, its tokens, its table -/
structure PatD where
  gp : Nat
  text : List UInt8
  anch : Bool
  fold : Bool
  slash : Bool
  toks : List Tk
  gt : Nat
  T : Tab
def PatD.ptr (d : PatD) : Value := .pointer (some ⟨d.gp, 0, none⟩)
def PatD.hits (d : PatD) (name : List UInt8) : Prop := patP (freeG d.slash) (gts d.fold d.slash d.toks) d.anch (bareL name)
/-- it lies there -/
structure PatGood (W : World) (base : Nat) (d : PatD) : Prop where
  ok : TabOK d.fold d.slash d.toks 4096 d.T
  at_ : PatAt W base d.gp d.text d.anch d.fold d.slash d.gt d.T
theorem PatGood.below {W W' : World} {base : Nat} {d : PatD} (h : PatGood W base d) (hb : Below W.heap.size W W') : PatGood W' base d := ⟨h.ok, h.at_.below hb⟩
/-- the first that matches -/
def FirstR (ds : List PatD) (name : List UInt8) (i : Int) (is : Bool) : Prop :=
  (is = true ∧ ∃ (k : Nat) (d : PatD), i = (k : Int) ∧ ds[k]? = some d ∧ d.hits name ∧ ∀ (j : Nat) (x : PatD), j < k → ds[j]? = some x → ¬ x.hits name) ∨ (is = false ∧ i = 0 ∧ ∀ (j : Nat) (x : PatD), ds[j]? = some x → ¬ x.hits name)
set_option maxRecDepth 100000 in
set_option maxHeartbeats 2000000 in
theorem pfirst_any (ds : List PatD) (name : List UInt8) (v : Value) (base : Nat) (hn : name.length ≤ 100000) (hl : ds.length ≤ 1000) (w : World) (hv : OwnV 44 w base v (ds.map PatD.ptr)) (hg : ∀ d ∈ ds, PatGood w base d) :
    Calls Tryd.prog 18 #[v, .string (S name)] w fun e w' => ∃ i is, e = .returned (.tuple #[.int .i64 i, .bool is]) ∧ FirstR ds name i is ∧ Below w.heap.size w w' := by
  obtain ⟨a, c, hs⟩ := hv.shape
  rw [List.length_map] at hs
  subst hs
  have HV := Lib.hid hv
  have HG := Lib.hid hg
  have HN := Lib.hid hn
  have hlI : (ds.length : Int) ≤ 1000 := by omega
  clear hv hg hn
  go_enter Tryd.func18, Tryd.ntmps18
  go_wp2_with fail
  go_loopw [10] (fun i wr => ∃ k : Nat, i = .int .i64 k ∧ k ≤ ds.length ∧ (∀ (j : Nat) (x : PatD), j < k → ds[j]? = some x → ¬ x.hits name) ∧ Below w.heap.size w wr) (fun i _ => ds.length - (RowKit.intOf i).toNat)
  case atStart => exact ⟨0, rfl, Nat.zero_le _, fun j x hj => absurd hj (Nat.not_lt_zero j), Below.refl _ _⟩
  case round =>
    obtain ⟨k, rfl, hk, hno, hX⟩ := hrel
    have HNO := Lib.hid hno
    have HX := Lib.hid hX
    clear hno hX
    by_cases hkl : k < ds.length
    · obtain ⟨g, c2, hv2, _, hgl, _, hcell, _⟩ := HV.out.at (by rw [List.length_map]; omega)
      rw [List.length_map] at hv2 hcell
      injection hv2 with e1 e2 e3
      subst e1; subst e3
      have HD : Hid (ds[k]? = some ds[k]) := Lib.hid (List.getElem?_eq_getElem hkl)
      have ck : wr.cell? ⟨g, k, none⟩ = some (ds[k]).ptr := by
        rw [HX.out.cell (p := ⟨g, k, none⟩) hgl, hcell k hkl, List.getElem?_map, HD.out]; rfl
      have HGD := Lib.hid (HG.out ds[k] (List.getElem_mem hkl))
      generalize ds[k] = d at *
      have HC := Lib.hid (pmatch_any HGD.out.ok (by decide) name HN.out wr (HGD.out.below HX.out).at_)
      unfold PatD.ptr at ck
      have hkI : (k : Int) < (ds.length : Int) := by omega
      clear hcell
      go_wp2_with fail
      refine HC.out.mono ?_
      rintro e w2 ⟨⟨r, rfl, hr⟩, hb2⟩
      have HR := Lib.hid hr
      have HX2 := Lib.hid (HX.out.trans (hb2.mono HX.out.size))
      clear hr hb2 HC ck
      cases r
      · go_wp2_with fail
        go_roundw
        case rel =>
          refine ⟨k + 1, by go_num, hkl, fun j x hj hx => ?_, HX2.out⟩
          by_cases e : j = k
          · subst e
            rw [HD.out] at hx
            injection hx with hx
            subst hx
            intro h
            have := HR.out.2 h
            cases this
          · exact HNO.out j x (by omega) hx
        case measure => simp [RowKit.intOf]; omega
      · go_wp2_with fail
        go_ret2
        exact ⟨k, true, rfl, .inl ⟨rfl, k, d, rfl, HD.out, HR.out.1 (by trivial), HNO.out⟩, HX2.out⟩
    · have hke : k = ds.length := by omega
      have HKE := Lib.hid hke
      clear hke
      go_wp2_with fail
      go_ret2
      exact ⟨0, false, rfl, .inr ⟨rfl, rfl, fun j x hx => HNO.out j x (by rw [HKE.out]; exact (List.getElem?_eq_some_iff.1 hx).1) hx⟩, HX.out⟩
end Go.Proofs.YtphfcebacilbbaaDoor
