/- Names without the slashes at their end: pattern.bare and the document's. Patterns: pattern.New. Patterns: the places at which a match may begin, as an iterator tells them. A region that draws its order, in a round of a range over a function, by a condition that is held: the law. Patterns: Match. Patterns: what lies below, and above. The plain law. Patterns: the chapter's example. -/
import Derived.Test.YtphfcebacilbbaaDoorKit
import Derived.Test.YtphfcebacilbbaaDoorShelf
import Derived.Lib.TrimByte
import Derived.Test.YtphfcebacilbbaaDoorGtAll
import Derived.Test.YtphfcebacilbbaaDoorGlobE
import Derived.Test.YtphfcebacilbbaaDoorGlobT
import Derived.RangeFuncNested
import Derived.RangeFuncBound
import Derived.RangeFuncCalls
import Derived.RangeFuncLeaves
import Derived.Shelf.Abstract
import Derived.Shelf.RegionOpen
import Derived.WalkKit
import Derived.OwnWalkIn
import Derived.TacticsInMore
import Derived.LoopNIn
import Derived.LoopIn
import Derived.Deep.RegionHeld3
import Derived.TacticsIn
import Derived.OrdersIn
import Derived.RangeFuncBox
namespace Go.Proofs.YtphfcebacilbbaaDoor
open Go.RowKit

/-- a name without the slashes at its end -/
def bareL (s : List UInt8) : List UInt8 := if (Lib.trimRightB s 47).isEmpty then s else Lib.trimRightB s 47
theorem tr_yes (l : List UInt8) : Lib.trimRightB (l ++ [47]) 47 = Lib.trimRightB l 47 := by
  unfold Lib.trimRightB
  rw [List.reverse_append]
  rfl
theorem tr_no (l : List UInt8) (b : UInt8) (h : b ≠ 47) : Lib.trimRightB (l ++ [b]) 47 = l ++ [b] := by
  unfold Lib.trimRightB
  rw [List.reverse_append, show [b].reverse ++ l.reverse = b :: l.reverse from rfl, List.dropWhile_cons_of_neg (by simpa using h)]
  simp
theorem tr_nil : Lib.trimRightB [] 47 = [] := rfl
theorem tr_len (s : List UInt8) : (Lib.trimRightB s 47).length ≤ s.length := by
  unfold Lib.trimRightB
  rw [List.length_reverse]
  have := (List.dropWhile_sublist (l := s.reverse) (· == 47)).length_le
  rwa [List.length_reverse] at this
theorem bare_len (s : List UInt8) : (bareL s).length ≤ s.length := by
  unfold bareL
  split
  · exact Nat.le_refl _
  · exact tr_len s
set_option maxRecDepth 100000 in
theorem bare_any (s : List UInt8) (hs : s.length ≤ 1000000) (w : World) :
    Calls Tryd.prog 29 #[.string (S s)] w fun e w' => e = .returned (.string (S (bareL s))) ∧ w' = w := by
  have HB : Hid (bareL s = if (Lib.trimRightB s 47).isEmpty then s else Lib.trimRightB s 47) := Lib.hid rfl
  go_enter Tryd.func29, Tryd.ntmps29
  go_wp2_with fail
  refine (Go.Proofs.Tryd.strings_TrimRight_one (S s) 47 (by decide) _ (by rw [S_size]; omega)).mono ?_
  rintro e w1 ⟨rfl, rfl⟩
  rw [S_data, show (⟨(Lib.trimRightB s 47).toArray⟩ : ByteArray) = S (Lib.trimRightB s 47) from rfl]
  generalize Lib.trimRightB s 47 = t at *
  cases ht : t.isEmpty
  · rw [ht] at HB
    go_wp2_with fail
    go_ret
    exact ⟨by rw [HB.out]; rfl, rfl⟩
  · rw [ht] at HB
    go_wp2_with fail
    go_ret
    exact ⟨by rw [HB.out]; rfl, rfl⟩
set_option maxRecDepth 100000 in
set_option maxHeartbeats 1000000 in
theorem rbare_any (s : List UInt8) (hs : s.length ≤ 1000000) (w : World) :
    Calls Tryd.prog 32 #[.string (S s)] w fun e w' => e = .returned (.string (S (bareL s))) ∧ w' = w := by
  have hsI : (s.length : Int) ≤ 1000000 := by omega
  go_enter Tryd.func32, Tryd.ntmps32
  go_wp2_with fail
  go_loopw [3] (fun i wr => ∃ n : Nat, i = .int .i64 n ∧ n ≤ s.length ∧ Lib.trimRightB s 47 = Lib.trimRightB (s.take n) 47 ∧ wr = w) (fun i _ => (RowKit.intOf i).toNat)
  case atStart => exact ⟨s.length, rfl, Nat.le_refl _, by rw [List.take_length], rfl⟩
  case round =>
    obtain ⟨n, rfl, hn, ht, rfl⟩ := hrel
    have HT := Lib.hid ht
    clear ht
    cases n with
    | zero =>
      have h00 : ((0 : Nat) : Int) = 0 := rfl
      simp only [h00]
      go_wp2_with fail
      go_ret
      refine ⟨?_, rfl⟩
      have : bareL s = s := by unfold bareL; rw [HT.out, List.take_zero, tr_nil]; rfl
      rw [this]
      rfl
    | succ k =>
      have hkl : k < s.length := by omega
      have hkS : k < (S s).size := by rw [S_size]; exact hkl
      have hidx : (S s)[k]'hkS = s[k] := S_get s k hkS
      have hsub : ((k + 1 : Nat) : Int) - 1 = (k : Int) := by omega
      have hkI : (k : Int) < (s.length : Int) := by omega
      have hpos : ((k + 1 : Nat) : Int) > 0 := by omega
      have HTK : Hid (s.take (k + 1) = s.take k ++ [s[k]]) := Lib.hid (List.take_succ_eq_append_getElem hkl)
      generalize s[k] = b at *
      by_cases hb : b = 47
      · subst hb
        go_wp2_with fail
        go_roundw
        case rel => exact ⟨k, by first | rfl | go_num, by omega, by rw [HT.out, HTK.out, tr_yes], by trivial⟩
        case measure => simp [RowKit.intOf]
      · have hbn := byte_bne b 47 47 rfl hb
        have hbe : ((b.toNat : Int) == 47) = false := by rw [bne, Bool.not_eq_true'] at hbn; exact hbn
        have hne0 : ((k + 1 : Nat) : Int) ≠ 0 := by omega
        have HE : Hid (bareL s = s.take (k + 1)) := by
          unfold Hid bareL
          rw [HT.out, HTK.out, tr_no _ _ hb]
          simp
        have e1 : (S s).extract 0 (k + 1) = S (s.take (k + 1)) := by rw [S_extract, List.drop_zero, Nat.sub_zero]
        go_wp2_with fail
        go_ret
        refine ⟨?_, rfl⟩
        rw [HE.out, ← e1]
        rfl
end Go.Proofs.YtphfcebacilbbaaDoor
namespace Go.Proofs.YtphfcebacilbbaaDoor
open Go.RowKit
attribute [local irreducible] wordP

theorem TabAt.rebase {w : World} {base base' gt : Nat} {T : Tab} (h : TabAt w base gt T) (hb : base' ≤ base) : TabAt w base' gt T := ⟨h.tb, h.on.rebase hb, h.oe.rebase hb⟩
/-- a pattern in memory -/
structure PatAt (w : World) (base gp : Nat) (text : List UInt8) (anch fold slash : Bool) (gt : Nat) (T : Tab) : Prop where
  p : AtB w gp 82 [.string (S text), .bool anch, .bool fold, .bool slash, .pointer (some ⟨gt, 0, none⟩)]
  t : TabAt w base gt T
theorem PatAt.below {w w' : World} {base gp gt : Nat} {text : List UInt8} {anch fold slash : Bool} {T : Tab} (h : PatAt w base gp text anch fold slash gt T) (hb : Below w.heap.size w w') : PatAt w' base gp text anch fold slash gt T := ⟨h.p.below hb, h.t.below hb⟩
/-- what New tells -/
def NewR (text : List UInt8) (anch fold slash : Bool) (most : Int) (l : List Tk) (a er : Nat) (base : Nat) (e : Ending) (w' : World) : Prop :=
  (er ≠ 0 ∧ e = .returned (.tuple #[.pointer none, .int .i64 a, .int .i64 er])) ∨
  (er = 0 ∧ ∃ gp gt T, e = .returned (.tuple #[.pointer (some ⟨gp, 0, none⟩), .int .i64 0, .int .i64 0]) ∧ TabOK fold slash l most T ∧ PatAt w' base gp text anch fold slash gt T) ∨
  (er = 0 ∧ e = .returned (.tuple #[.pointer none, .int .i64 0, .int .i64 7]) ∧ PFull (freeG slash) (gts fold slash l) most)
set_option maxRecDepth 100000 in
set_option maxHeartbeats 4000000 in
theorem new_any (text : List UInt8) (anch fold slash : Bool) (most : Int) (l : List Tk) (a er : Nat) (hR : parseG text (text.length + 1) 0 [] = some (l, a, er)) (ht : text.length ≤ 100000) (hm1 : 1 ≤ most) (hm2 : most ≤ 4096) (m : Int) (w : World) (hm : w.cell? ⟨2, 0, none⟩ = some (.int .i64 m)) :
    Calls Tryd.prog 14 #[.agg #[.string (S text), .bool anch, .bool fold, .bool slash], .int .i64 most] w fun e w' => Below w.heap.size w w' ∧ NewR text anch fold slash most l a er w.heap.size e w' := by
  have hll := parseG_len text _ _ _ l a er (by simp) hR
  have hbA := (Below.refl w.heap.size w).alloc (Nat.le_refl _) (.cells #[.string (S text), .bool anch, .bool fold, .bool slash] 43)
  have HP := GParse_any text ht (w.alloc (.cells #[.string (S text), .bool anch, .bool fold, .bool slash] 43)) m (cellB hbA hm)
  rw [hR] at HP
  have HP := Lib.hid HP
  have HBA := Lib.hid hbA
  have HF : Hid (AtB (w.alloc (.cells #[.string (S text), .bool anch, .bool fold, .bool slash] 43)) w.heap.size 43 [.string (S text), .bool anch, .bool fold, .bool slash]) := Lib.hid (AtB.new w _ [.string (S text), .bool anch, .bool fold, .bool slash])
  have HLL := Lib.hid hll
  clear hR hbA hll hm
  go_enter Tryd.func14, Tryd.ntmps14
  go_upto_region 1 with (fail)
  generalize w.alloc (.cells #[.string (S text), .bool anch, .bool fold, .bool slash] 43) = W0 at *
  have f0 : W0.cell? ⟨w.heap.size, 0, none⟩ = some (.string (S text)) := HF.out.cell 0
  go_wp2_with fail
  refine HP.out.mono ?_
  rintro e w1 ⟨v, rfl, hown, hb1⟩
  have HX1 := Lib.hid (HBA.out.trans (hb1.mono HBA.out.size))
  have HF1 := Lib.hid (HF.out.below hb1)
  by_cases he : er = 0
  · subst he
    have hr1 := hown.rows Tk.cells_len
    have HC := Lib.hid (compile_any l fold slash most v HLL.out hm1 hm2 w1 hr1)
    have d0 : w1.cell? ⟨w.heap.size, 0, none⟩ = some (.string (S text)) := HF1.out.cell 0
    have d1 : w1.cell? ⟨w.heap.size, 1, none⟩ = some (.bool anch) := HF1.out.cell 1
    have d2 : w1.cell? ⟨w.heap.size, 2, none⟩ = some (.bool fold) := HF1.out.cell 2
    have d3 : w1.cell? ⟨w.heap.size, 3, none⟩ = some (.bool slash) := HF1.out.cell 3
    clear hown hr1 HP HF HBA hb1 f0
    go_wp2_with fail
    refine HC.out.mono ?_
    rintro e w2 ⟨hb2, h2⟩
    have HX2 := Lib.hid (HX1.out.trans (hb2.mono HX1.out.size))
    rcases h2 with ⟨gt, T, rfl, hok, hat⟩ | ⟨rfl, hpf⟩
    · have e0 : w2.cell? ⟨w.heap.size, 0, none⟩ = some (.string (S text)) := cellB hb2 d0
      have e1 : w2.cell? ⟨w.heap.size, 1, none⟩ = some (.bool anch) := cellB hb2 d1
      have e2 : w2.cell? ⟨w.heap.size, 2, none⟩ = some (.bool fold) := cellB hb2 d2
      have e3 : w2.cell? ⟨w.heap.size, 3, none⟩ = some (.bool slash) := cellB hb2 d3
      clear d0 d1 d2 d3 HC hb2
      have HT := Lib.hid (hat.rebase HX1.out.size)
      go_wp2_with fail
      go_ret3
      refine ⟨HX2.out.alloc HX2.out.size _, .inr (.inl ⟨rfl, _, gt, T, rfl, hok, AtB.new w2 _ [.string (S text), .bool anch, .bool fold, .bool slash, .pointer (some ⟨gt, 0, none⟩)], ?_⟩)⟩
      exact HT.out.below ((Below.refl _ _).alloc (Nat.le_refl _) _)
    · clear d0 d1 d2 d3 HC hb2
      go_wp2_with fail
      go_ret3
      exact ⟨HX2.out, .inr (.inr ⟨rfl, rfl, hpf⟩)⟩
  · have heI : ¬ (er : Int) = 0 := by omega
    have heB : ((er : Int) != 0) = true := bne_iff_ne.2 heI
    clear HP HF HBA hb1 f0
    go_wp2_with fail
    go_ret3
    exact ⟨HX1.out, .inl ⟨he, rfl⟩⟩
end Go.Proofs.YtphfcebacilbbaaDoor
namespace Go.Proofs.YtphfcebacilbbaaDoor
open Go.RowKit
attribute [local go_sem] Oper.semAt_some
attribute [local irreducible] wordP

/-- a place of a name at which a match may begin -/
def isBeg (anch : Bool) (s : List UInt8) (x : Nat) : Prop := x ≤ s.length ∧ (x = 0 ∨ (anch = false ∧ s[x - 1]? = some 47))
abbrev Beg (anch : Bool) (s : List UInt8) : Type := { x : Nat // isBeg anch s x }
def beg0 (anch : Bool) (s : List UInt8) : Beg anch s := ⟨0, Nat.zero_le _, .inl rfl⟩
def begE (anch : Bool) (s : List UInt8) (x : Beg anch s) : Array Value := #[.int .i64 (x.1 : Nat)]
set_option maxRecDepth 100000 in
set_option maxHeartbeats 4000000 in
theorem begins1_in (n : Nat) (hn : 1 ≤ n) (l n₀ b0 b1 gp : Nat) (anch : Bool) (s : List UInt8) (hs : s.length ≤ 1000000) (J Jx : List (Beg anch s) → World → Prop)
    (hY : ∀ pre x W, J pre W → pre.length < s.length + 2 → YieldAt Fence.wide (n - 1) Tryd.prog l (begE anch s x) W fun e W' =>
      (e = .returned (.bool true) ∧ J (pre ++ [x]) W' ∧ Below n₀ W W') ∨ (e = .returned (.bool false) ∧ Jx (pre ++ [x]) W'))
    (W : World) (h0 : b0 < n₀) (h1 : b1 < n₀) (h2 : gp < n₀) (c0 : W.cell? ⟨b0, 0, none⟩ = some (.pointer (some ⟨gp, 0, none⟩))) (c1 : W.cell? ⟨b1, 0, none⟩ = some (.string (S s))) (c2 : W.cell? ⟨gp, 1, none⟩ = some (.bool anch)) (hJ : J [] W) :
    CallsIn Fence.wide n Tryd.prog 46 #[.func (.yield l) #[] #[], .pointer (some ⟨b0, 0, none⟩), .pointer (some ⟨b1, 0, none⟩)] W fun e W' => (∃ v, e = .returned v) ∧
      ((∃ ys, (∀ x : Beg anch s, x ∈ ys) ∧ J ys W') ∨ (∃ pre, True ∧ Jx pre W')) := by
  refine callsIn_of_wp Tryd.func46 rfl trivial ?_ rfl
  simp only [Tryd.ntmps46, List.size_toArray, List.length_cons, List.length_nil, Nat.reduceAdd, Nat.reduceSub, Array.replicate_succ, Array.replicate_zero, List.push_toArray, List.append_toArray, List.nil_append, List.cons_append]
  obtain ⟨fn, tmps, assign, body, hy, hR⟩ := hY [] (beg0 anch s) W hJ (by simp)
  have HC := Lib.hid (fun W' (hk : Below n₀ W W') => (⟨(hk.cell (p := ⟨b0, 0, none⟩) h0).trans c0, (hk.cell (p := ⟨b1, 0, none⟩) h1).trans c1, (hk.cell (p := ⟨gp, 1, none⟩) h2).trans c2⟩ : W'.cell? ⟨b0, 0, none⟩ = some (.pointer (some ⟨gp, 0, none⟩)) ∧ W'.cell? ⟨b1, 0, none⟩ = some (.string (S s)) ∧ W'.cell? ⟨gp, 1, none⟩ = some (.bool anch)))
  simp only [begE, beg0] at hy
  have h00 : ((0 : Nat) : Int) = 0 := rfl
  simp only [h00] at hy
  have hsI : (s.length : Int) ≤ 1000000 := by omega
  clear c0 c1 c2
  gi_wp2
  refine hR.mono ?_
  rintro e W1 (⟨rfl, hJ1, hk1⟩ | ⟨rfl, hJx⟩)
  · obtain ⟨d0, d1, d2⟩ := HC.out W1 hk1
    clear hy hR
    cases anch
    · gi_wp2
      gi_loopw [17] (fun i wr => ∃ (k : Nat) (pre : List (Beg false s)), i = .int .i64 k ∧ k ≤ s.length ∧ (∀ x : Beg false s, x.1 ≤ k → x ∈ pre) ∧ pre.length ≤ k + 1 ∧ J pre wr ∧ Below n₀ W wr) (fun i _ => s.length - (RowKit.intOf i).toNat)
      case atStart =>
        refine ⟨0, _, rfl, Nat.zero_le _, ?_, by simp, hJ1, hk1⟩
        rintro ⟨x, hx, hx2⟩ hx0
        have : x = 0 := Nat.le_zero.1 hx0
        subst this
        exact List.mem_singleton.2 rfl
      case round =>
        obtain ⟨k, pre, rfl, hk, hall, hpl, hJp, hkb⟩ := hrel
        clear d0 d1 d2 hJ1 hk1
        obtain ⟨d0, d1, d2⟩ := HC.out wr hkb
        have HALL := Lib.hid hall
        have HJP := Lib.hid hJp
        have HKB := Lib.hid hkb
        have HPL := Lib.hid hpl
        clear hall hJp hkb hpl
        by_cases hkl : k < s.length
        · have hkS : k < (S s).size := by rw [S_size]; exact hkl
          have hidx : (S s)[k]'hkS = s[k] := S_get s k hkS
          have HG : Hid (s[k]? = some s[k]) := Lib.hid (List.getElem?_eq_getElem hkl)
          have hkI : (k : Int) < (s.length : Int) := by omega
          generalize s[k] = b at *
          by_cases hb : b = 47
          · subst hb
            obtain ⟨fn, tmps, assign, body, hy, hR⟩ := hY pre ⟨k + 1, by omega, .inr ⟨rfl, HG.out⟩⟩ wr HJP.out (by have := HPL.out; omega)
            simp only [begE] at hy
            have hk1e : ((k + 1 : Nat) : Int) = (k : Int) + 1 := by omega
            rw [hk1e] at hy
            have h47 : (((47 : UInt8).toNat : Int) == 47) = true := rfl
            gi_wp2
            refine hR.mono ?_
            rintro e W2 (⟨rfl, hJ2, hk2⟩ | ⟨rfl, hJx⟩)
            · gi_wp2
              go_roundw
              case rel =>
                refine ⟨k + 1, _, by go_num, hkl, ?_, by rw [List.length_append]; have := HPL.out; simp; omega, hJ2, HKB.out.trans hk2⟩
                intro x hx
                by_cases e : x.1 = k + 1
                · exact List.mem_append.2 (.inr (List.mem_singleton.2 (Subtype.ext e)))
                · exact List.mem_append.2 (.inl (HALL.out x (by omega)))
              case measure => simp [RowKit.intOf]; omega
            · gi_wp2
              refine bodyPost_ret (results_none rfl _ _ _) rfl ?_
              exact ⟨⟨_, rfl⟩, .inr ⟨_, trivial, hJx⟩⟩
          · have hbn := byte_bne b 47 47 rfl hb
            have hbe : ((b.toNat : Int) == 47) = false := by rw [bne, Bool.not_eq_true'] at hbn; exact hbn
            gi_wp2
            refine ⟨fun _ h => (by cases h), ?_⟩
            gi_wp2
            go_roundw
            case rel =>
              refine ⟨k + 1, pre, by go_num, hkl, ?_, by have := HPL.out; omega, HJP.out, HKB.out⟩
              intro x hx
              by_cases e : x.1 = k + 1
              · exfalso
                rcases x.2.2 with h | ⟨_, h⟩
                · omega
                · rw [e, Nat.add_sub_cancel, HG.out] at h
                  injection h with h
                  exact hb h
              · exact HALL.out x (by omega)
            case measure => simp [RowKit.intOf]; omega
        · have hkn : k = s.length := by omega
          subst hkn
          gi_wp2
          go_end0
          exact ⟨⟨_, rfl⟩, .inl ⟨pre, fun x => HALL.out x x.2.1, HJP.out⟩⟩
    · gi_wp2
      refine bodyPost_ret (results_none rfl _ _ _) rfl ?_
      refine ⟨⟨_, rfl⟩, .inl ⟨_, ?_, hJ1⟩⟩
      rintro ⟨x, hx, hx2⟩
      rcases hx2 with rfl | ⟨h, _⟩
      · exact List.mem_singleton.2 rfl
      · cases h
  · gi_wp2
    refine bodyPost_ret (results_none rfl _ _ _) rfl ?_
    exact ⟨⟨_, rfl⟩, .inr ⟨_, trivial, hJx⟩⟩
end Go.Proofs.YtphfcebacilbbaaDoor
namespace Go.Proofs.YtphfcebacilbbaaDoor
open Go.RowKit

/-- Q, but no panic and no running out -/
def NoOut (Q : Exit → Act → World → Prop) : Exit → Act → World → Prop
  | .panic _, _, _ => False
  | .outgrown, _, _ => False
  | e, a, w => Q e a w
theorem NoOut.normal {Q : Exit → Act → World → Prop} {a : Act} {w : World} (h : Q .normal a w) : NoOut Q .normal a w := h
theorem NoOut.imp {Q : Exit → Act → World → Prop} : ∀ (e : Exit) (a : Act) (w : World), NoOut Q e a w → Q e a w := fun e a w h => by
  cases e <;> first | exact h | exact (h : False).elim
/-- no operation is a defer statement -/
def noDefer (ops : Array Oper) : Bool := ops.all fun o => match o.op with
  | .defer _ => false
  | _ => true
theorem noDefer_at {ops : Array Oper} (h : noDefer ops = true) {i : Nat} {o : Oper} (hi : ops[i]? = some o) (c : Call) : o.op ≠ .defer c := by
  intro e
  unfold noDefer at h
  rw [Array.all_eq_true] at h
  obtain ⟨hl, rfl⟩ := Array.getElem?_eq_some_iff.1 hi
  have := h i hl
  rw [e] at this
  cases this
variable {P : Program} {ops : Array Oper} {Q : Exit → Act → World → Prop} {S : World → Prop}
theorem oper_round {l n : Nat} {o : Oper} {a : Act} {w : World} {K : Act → World → Prop} (hd : ∀ c, o.op ≠ .defer c) (h : o.wp P a w K (NoOut Q)) : o.wpIn (Fence.wide.inRound l) n P a w K (NoOut Q) := by
  unfold Oper.wp at h
  refine ⟨fun f _ => trivial, ?_⟩
  rw [show (Fence.wide.inRound l).round = some l from rfl, Oper.semAt_some l a.eval o hd]
  generalize (execOp a.eval o).run P w = r at *
  cases r with
  | ok x w' =>
    cases x with
    | value v => exact h
    | skip => exact h
    | defer d => exact h
    | enter f args =>
      refine ⟨fun hx => (by cases hx), ?_⟩
      exact CallsIn.inRound l (callsIn_wide.2 h)
    | row row args =>
      refine ⟨fun hx => (by cases hx), fun c cs _ => ?_⟩
      obtain ⟨v, w'', r, s⟩ := h c cs
      exact ⟨v, w'', r, stepsIn_wide.2 s⟩
    | round l2 f tmps assign body => exact h.elim
    | _ => exact h.elim
  | halt x w' => cases x <;> first | exact h | exact h.elim
theorem ops_round {l n : Nat} (hd : noDefer ops = true) : ∀ (is : List Nat) (a : Act) (w : World), wpOps P ops (NoOut Q) is a w → wpOpsIn (Fence.wide.inRound l) n P ops (NoOut Q) is a w
  | [], _, _, h => h
  | i :: rest, a, w, h => by
    rw [wpOps_cons] at h
    unfold wpOp at h
    unfold wpOpsIn
    cases ho : ops[i]? with
    | none =>
      simp only [ho] at h ⊢
      exact ops_round hd rest a w h
    | some o =>
      simp only [ho] at h ⊢
      by_cases hw : Region.wanted o (yielded ops a.tmps) = true
      · rw [if_pos hw] at h ⊢
        rcases h with h | ⟨_, ⟨_, _, h⟩⟩
        · exact Oper.wpIn_mono (fun a' w' h' => ops_round hd rest a' w' h') (oper_round (noDefer_at hd ho) h)
        · exact h.elim
      · rw [if_neg hw] at h ⊢
        exact ⟨fun f _ => trivial, ops_round hd rest _ w h⟩
theorem wpIn_region_round {id l n : Nat} {a : Act} {w : World} (hm : P.follows .mixedOrders = true) (hd : noDefer ops = true) (hS : S w.drew)
    (h : S w.drew → wpAnyH P .any ops (NoOut Q) S ops.size (Array.replicate ops.size false) a w.drew) : (Code.region id ops true).wpIn (Fence.wide.inRound l) n P Q a w := by
  refine wpIn_mono ?_ NoOut.imp
  refine wpIn_region_draw fun t => ?_
  simp only [Region.schedule, hm, Bool.true_or, if_true]
  exact ops_round hd _ _ _ (wpAny_sound ops.size t _ a _ (wpAny_of_held _ _ _ _ (h hS)))
end Go.Proofs.YtphfcebacilbbaaDoor
namespace Go.Proofs.YtphfcebacilbbaaDoor
open Go.RowKit
attribute [local go_sem] Oper.semAt_some
attribute [local irreducible] wordP

set_option maxRecDepth 100000 in
theorem pbegins_any (gp : Nat) (s : List UInt8) (w : World) :
    Calls Tryd.prog 30 #[.pointer (some ⟨gp, 0, none⟩), .string (S s)] w fun e w' => e = .returned (.func (.func 46) #[] #[.pointer (some ⟨w.heap.size, 0, none⟩), .pointer (some ⟨w.heap.size + 1, 0, none⟩)]) ∧
      w' = (w.alloc (.cells #[.pointer (some ⟨gp, 0, none⟩)] 44)).alloc (.cells #[.string (S s)] 9) := by
  go_enter Tryd.func30, Tryd.ntmps30
  go_wp2
  go_ret
  exact ⟨rfl, rfl⟩
/-- a match begins at x and ends at the name's end or ahead of a slash -/
def hitP (fr : UInt8 → Bool) (L : List GT) (s : List UInt8) (x : Nat) : Prop := ∃ n, n ≤ s.length - x ∧ matchG fr L ((s.drop x).take n) = true ∧ (x + n = s.length ∨ s[x + n]? = some 47)
/-- a pattern matches a name that bears no slash at its end -/
def patP (fr : UInt8 → Bool) (L : List GT) (anch : Bool) (s : List UInt8) : Prop := ∃ x, isBeg anch s x ∧ hitP fr L s x
set_option maxRecDepth 100000 in
set_option maxHeartbeats 4000000 in
theorem pmatch_any {base gp gt : Nat} {text : List UInt8} {anch fold slash : Bool} {toks : List Tk} {most : Int} {T : Tab} (hT : TabOK fold slash toks most T) (hmost : most ≤ 4096) (s : List UInt8) (hs : s.length ≤ 100000) (w : World) (hA : PatAt w base gp text anch fold slash gt T) :
    Calls Tryd.prog 15 #[.pointer (some ⟨gp, 0, none⟩), .string (S s)] w fun e w' => (∃ r : Bool, e = .returned (.bool r) ∧ (r = true ↔ patP (freeG slash) (gts fold slash toks) anch (bareL s))) ∧ Below w.heap.size w w' := by
  have hbl := bare_len s
  refine (callsIn_wide (n := 9)).1 ?_
  refine callsIn_of_wp_marks Tryd.func15 rfl trivial ?_ rfl
  simp only [Tryd.ntmps15, List.size_toArray, List.length_cons, List.length_nil, Nat.reduceAdd, Nat.reduceSub, Array.replicate_succ, Array.replicate_zero, List.push_toArray, List.append_toArray, List.nil_append, List.cons_append]
  gi_wp2_with (first
    | (refine ⟨trivial, ?_⟩; gi_at_call 29; refine (callsIn_wide.2 (bare_any s (by omega) _)).mono ?_; rintro e w1 ⟨rfl, rfl⟩)
    | (refine ⟨trivial, ?_⟩; gi_at_call 30; refine (callsIn_wide.2 (pbegins_any gp (bareL s) _)).mono ?_; rintro e w1 ⟨rfl, rfl⟩))
  have hul : (bareL s).length ≤ 100000 := by omega
  clear hbl
  generalize hu : bareL s = u at *
  have HU := Lib.hid hu
  clear hu
  have huI : (u.length : Int) ≤ 100000 := by omega
  have hB0 : Below w.heap.size w (((((w.alloc (.cells #[.pointer (some ⟨gp, 0, none⟩)] 44)).alloc (.cells #[.string (S u)] 9)).alloc (.cells #[.bool false] 4)).alloc (.cells #[.pointer (some ⟨gp, 0, none⟩)] 44)).alloc (.cells #[.string (S u)] 9)) :=
    (((((Below.refl _ _).alloc (Nat.le_refl _) _).alloc (by simp) _).alloc (by simp; omega) _).alloc (by simp; omega) _).alloc (by simp; omega) _
  have H2 : OneAt (((((w.alloc (.cells #[.pointer (some ⟨gp, 0, none⟩)] 44)).alloc (.cells #[.string (S u)] 9)).alloc (.cells #[.bool false] 4)).alloc (.cells #[.pointer (some ⟨gp, 0, none⟩)] 44)).alloc (.cells #[.string (S u)] 9)) w.heap.size 44 (.pointer (some ⟨gp, 0, none⟩)) := ((((AtB.new w 44 [.pointer (some ⟨gp, 0, none⟩)]).alloc _).alloc _).alloc _).alloc _
  have H3 : OneAt (((((w.alloc (.cells #[.pointer (some ⟨gp, 0, none⟩)] 44)).alloc (.cells #[.string (S u)] 9)).alloc (.cells #[.bool false] 4)).alloc (.cells #[.pointer (some ⟨gp, 0, none⟩)] 44)).alloc (.cells #[.string (S u)] 9)) (w.heap.size + 1) 9 (.string (S u)) := (((AtB.new2 _ _ 9 [.string (S u)] (by simp)).alloc _).alloc _).alloc _
  have H4 : OneAt (((((w.alloc (.cells #[.pointer (some ⟨gp, 0, none⟩)] 44)).alloc (.cells #[.string (S u)] 9)).alloc (.cells #[.bool false] 4)).alloc (.cells #[.pointer (some ⟨gp, 0, none⟩)] 44)).alloc (.cells #[.string (S u)] 9)) (w.heap.size + 1 + 1) 4 (.bool false) := ((AtB.new2 _ _ 4 [.bool false] (by simp)).alloc _).alloc _
  have H5 : OneAt (((((w.alloc (.cells #[.pointer (some ⟨gp, 0, none⟩)] 44)).alloc (.cells #[.string (S u)] 9)).alloc (.cells #[.bool false] 4)).alloc (.cells #[.pointer (some ⟨gp, 0, none⟩)] 44)).alloc (.cells #[.string (S u)] 9)) (w.heap.size + 1 + 1 + 1) 44 (.pointer (some ⟨gp, 0, none⟩)) := (AtB.new2 _ _ 44 [.pointer (some ⟨gp, 0, none⟩)] (by simp)).alloc _
  have H6 : OneAt (((((w.alloc (.cells #[.pointer (some ⟨gp, 0, none⟩)] 44)).alloc (.cells #[.string (S u)] 9)).alloc (.cells #[.bool false] 4)).alloc (.cells #[.pointer (some ⟨gp, 0, none⟩)] 44)).alloc (.cells #[.string (S u)] 9)) (w.heap.size + 1 + 1 + 1 + 1) 9 (.string (S u)) := AtB.new2 _ _ 9 [.string (S u)] (by simp)
  have hz : (((((w.alloc (.cells #[.pointer (some ⟨gp, 0, none⟩)] 44)).alloc (.cells #[.string (S u)] 9)).alloc (.cells #[.bool false] 4)).alloc (.cells #[.pointer (some ⟨gp, 0, none⟩)] 44)).alloc (.cells #[.string (S u)] 9)).heap.size = w.heap.size + 5 := by simp
  generalize ((((w.alloc (.cells #[.pointer (some ⟨gp, 0, none⟩)] 44)).alloc (.cells #[.string (S u)] 9)).alloc (.cells #[.bool false] 4)).alloc (.cells #[.pointer (some ⟨gp, 0, none⟩)] 44)).alloc (.cells #[.string (S u)] 9) = W0 at *
  have hA0 := hA.below hB0
  have hgp := hA0.p.lt
  refine wpIn_rangeFunc_ownF rfl (by omega) (gf := 46) (lb := #[.pointer (some ⟨w.heap.size + 1 + 1 + 1, 0, none⟩), .pointer (some ⟨w.heap.size + 1 + 1 + 1 + 1, 0, none⟩)]) rfl trivial (enters_of Tryd.func46 (by kernel_rfl) rfl)
    (encs := begE anch u) (Kp := Below W0.heap.size) (S := fun ys => ∀ x : Beg anch u, x ∈ ys) (Sp := fun _ => True) (N := u.length + 2) (w0 := W0)
    (fun l J Jx W hW _ _ hY h0 => begins1_in 8 (by omega) l W0.heap.size _ _ gp anch u (by omega) J Jx hY W (by omega) (by omega) hgp ((hW.cell (p := ⟨_, 0, none⟩) H5.lt).trans (H5.cell 0)) ((hW.cell (p := ⟨_, 0, none⟩) H6.lt).trans (H6.cell 0)) ((hW.cell (p := ⟨gp, 1, none⟩) hgp).trans (hA0.p.cell 1)) h0)
    belowK_t (belowK_b (Nat.le_refl _)) (Below.refl _ _) (fun _ => rfl)
    (fun pre W => (∀ x ∈ pre, ¬ hitP (freeG slash) (gts fold slash toks) u x.1) ∧ Below W0.heap.size W0 W)
    (fun c _ W => (c = .ret ∧ patP (freeG slash) (gts fold slash toks) anch u ∧ W.cell? ⟨w.heap.size + 1 + 1, 0, none⟩ = some (.bool true)) ∧ Below w.heap.size w W)
    (OwnFrom.and (ownFrom_pure _ _) (ownFrom_below (Nat.le_refl _) (Nat.le_refl _)))
    (fun c => OwnFrom.and (Own.from (fun s A B row hs hg hr => ⟨hs.1, hs.2.1, cell_kept hs.2.2 hg hr⟩) _) (ownFrom_below (Nat.le_refl _) (by omega)))
    ⟨fun x hx => absurd hx (List.not_mem_nil), Below.refl _ _⟩
    (fun x => { tmps := #[.pointer (some ⟨gp, 0, none⟩), .string (S s), .pointer (some ⟨w.heap.size, 0, none⟩), .pointer (some ⟨w.heap.size + 1, 0, none⟩), .pointer (some ⟨w.heap.size + 1 + 1, 0, none⟩), .int .i64 (x.1 : Nat), undef, undef, undef, .string (S s), .string (S u), .pointer (some ⟨gp, 0, none⟩), .string (S u), .func (.func 46) #[] #[.pointer (some ⟨w.heap.size + 1 + 1 + 1, 0, none⟩), .pointer (some ⟨w.heap.size + 1 + 1 + 1 + 1, 0, none⟩)], .int .i64 (x.1 : Nat), undef, undef, undef, undef, undef, undef, undef, undef, undef, undef, undef, undef, undef, undef, undef, undef, undef, undef, undef, undef, undef, undef, undef, undef, undef, undef, undef], defers := [] }) ?assign ?body ?done ?stop
  case assign =>
    intro l x W K hK
    simp only [begE]
    gi_wp2
    exact hK
  case body =>
    rintro l pre ⟨x, hx⟩ W ⟨hno, hB⟩ _
    have hxu := hx.1
    have hxI : (x : Int) ≤ (u.length : Int) := by omega
    have c2 : W.cell? ⟨w.heap.size, 0, none⟩ = some (.pointer (some ⟨gp, 0, none⟩)) := (H2.below hB).cell 0
    have c3 : W.cell? ⟨w.heap.size + 1, 0, none⟩ = some (.string (S u)) := (H3.below hB).cell 0
    have hAW := hA0.below hB
    have cp : W.cell? ⟨gp, 4, none⟩ = some (.pointer (some ⟨gt, 0, none⟩)) := hAW.p.cell 4
    have hext : (S u).extract x u.length = S (u.drop x) := by rw [S_extract, List.take_of_length_le (by rw [List.length_drop]; exact Nat.le_refl _)]
    have hdl : (u.drop x).length = u.length - x := List.length_drop
    have hE := fun W' (hb : Below W.heap.size W W') => ends_any hT hmost (u.drop x) (by omega) W' (hAW.t.below hb)
    obtain ⟨q, hq⟩ : ∃ q, q = allM (fun k => matchG (freeG slash) (gts fold slash toks) ((u.drop x).take k)) ((u.drop x).length + 1) := ⟨_, rfl⟩
    rw [← hq] at hE
    have HE := Lib.hid hE
    have HQ : Hid (∀ k, k ∈ q ↔ (k ≤ u.length - x ∧ matchG (freeG slash) (gts fold slash toks) ((u.drop x).take k) = true)) := by
      unfold Hid
      intro k
      rw [hq]
      unfold allM
      rw [List.mem_filter, List.mem_range, hdl, Nat.lt_succ_iff]
    have hqlen : q.length ≤ u.length + 1 := by rw [hq]; have := allM_len (fun k => matchG (freeG slash) (gts fold slash toks) ((u.drop x).take k)) ((u.drop x).length + 1); omega
    have hqI : (q.length : Int) ≤ 100001 := by omega
    clear hE hq
    have HNO := Lib.hid hno
    have HBW := Lib.hid hB
    clear hno
    have hmo : Tryd.prog.follows .mixedOrders = true := by kernel_rfl
    gi_wp2
    refine wpIn_region_round (S := fun W' => W'.cell? ⟨w.heap.size, 0, none⟩ = some (.pointer (some ⟨gp, 0, none⟩)) ∧ W'.cell? ⟨w.heap.size + 1, 0, none⟩ = some (.string (S u)) ∧ W'.cell? ⟨gp, 4, none⟩ = some (.pointer (some ⟨gt, 0, none⟩))) hmo (by kernel_rfl) ⟨c2, c3, cp⟩ (fun hHeld => ?_)
    refine wpAnyH_take (i := 0) (v := ?_) rfl (by kernel_rfl) (by kernel_rfl) (by kernel_rfl) (fun _ _ _ h => h) (Or.inl ⟨by rfl, ?_⟩) (by assumption) ?_
    rotate_left
    focus (intro w' hSw; (try dsimp only at hSw); go_simp; first | done | with_reducible rfl)
    try simp only [Act.put, List.getElem_toArray, List.getElem_cons_zero, List.setIfInBounds_toArray, List.set_cons_zero, List.set_cons_succ]
    refine wpAnyH_take (i := 1) (v := ?_) rfl (by kernel_rfl) (by kernel_rfl) (by kernel_rfl) (fun _ _ _ h => h) (Or.inl ⟨by rfl, ?_⟩) (by assumption) ?_
    rotate_left
    focus (intro w' hSw; (try dsimp only at hSw); go_simp; first | done | with_reducible rfl)
    try simp only [Act.put, List.getElem_toArray, List.getElem_cons_succ, List.getElem_cons_zero, List.setIfInBounds_toArray, List.set_cons_zero, List.set_cons_succ]
    refine wpAnyH_take (i := 2) (v := ?_) rfl (by kernel_rfl) (by kernel_rfl) (by kernel_rfl) (fun _ _ _ h => h) (Or.inl ⟨by rfl, ?_⟩) (by assumption) ?_
    rotate_left
    focus (intro w' hSw; (try dsimp only at hSw); go_simp; first | done | with_reducible rfl)
    try simp only [Act.put, List.getElem_toArray, List.getElem_cons_succ, List.getElem_cons_zero, List.setIfInBounds_toArray, List.set_cons_zero, List.set_cons_succ]
    refine wpAnyH_take (i := 3) (v := ?_) rfl (by kernel_rfl) (by kernel_rfl) (by kernel_rfl) (fun _ _ _ h => h) (Or.inl ⟨by rfl, ?_⟩) (by assumption) ?_
    rotate_left
    focus (intro w' hSw; (try dsimp only at hSw); go_simp; first | done | with_reducible rfl)
    try simp only [Act.put, List.getElem_toArray, List.getElem_cons_succ, List.getElem_cons_zero, List.setIfInBounds_toArray, List.set_cons_zero, List.set_cons_succ]
    refine wpAnyH_take (i := 4) (v := ?_) rfl (by kernel_rfl) (by kernel_rfl) (by kernel_rfl) (fun _ _ _ h => h) (Or.inl ⟨by rfl, ?_⟩) (by assumption) ?_
    rotate_left
    focus (intro w' hSw; (try dsimp only at hSw); go_simp; first | done | with_reducible rfl)
    try simp only [Act.put, List.getElem_toArray, List.getElem_cons_succ, List.getElem_cons_zero, List.setIfInBounds_toArray, List.set_cons_zero, List.set_cons_succ]
    refine wpAnyH_take (i := 5) (v := ?_) rfl (by kernel_rfl) (by kernel_rfl) (by kernel_rfl) (fun _ _ _ h => h) (Or.inl ⟨by rfl, ?_⟩) (by assumption) ?_
    rotate_left
    focus (intro w' hSw; (try dsimp only at hSw); go_simp; first | done | with_reducible rfl)
    try simp only [Act.put, List.getElem_toArray, List.getElem_cons_succ, List.getElem_cons_zero, List.setIfInBounds_toArray, List.set_cons_zero, List.set_cons_succ]
    refine wpAnyH_take (i := 6) (v := ?_) rfl (by kernel_rfl) (by kernel_rfl) (by kernel_rfl) (fun _ _ _ h => h) (Or.inl ⟨by rfl, ?_⟩) (by assumption) ?_
    rotate_left
    focus (intro w' hSw; (try dsimp only at hSw); go_simp; first | done | with_reducible rfl)
    try simp only [Act.put, List.getElem_toArray, List.getElem_cons_succ, List.getElem_cons_zero, List.setIfInBounds_toArray, List.set_cons_zero, List.set_cons_succ]
    refine wpAnyH_take (i := 9) (v := ?_) rfl (by kernel_rfl) (by kernel_rfl) (by kernel_rfl) (fun _ _ _ h => h) (Or.inl ⟨by rfl, ?_⟩) (by assumption) ?_
    rotate_left
    focus (intro w' hSw; (try dsimp only at hSw); go_simp; first | done | with_reducible rfl)
    try simp only [Act.put, List.getElem_toArray, List.getElem_cons_succ, List.getElem_cons_zero, List.setIfInBounds_toArray, List.set_cons_zero, List.set_cons_succ]
    refine wpAnyH_ready (rs := [7]) (by kernel_rfl) (by simp) ?_
    refine AllReadyH.cons rfl (fun K1 hK1 => ?_) AllReadyH.nil
    go_simp
    refine (HE.out _ (Below.refl _ _).drew).mono ?_
    rintro e w2 ⟨hb2, v2, rfl, hO2⟩
    obtain ⟨a2, k2, hv2⟩ := hO2.shape
    rw [List.length_map] at hv2
    subst hv2
    refine hK1.out _ _ ⟨cellB hb2 c2, cellB hb2 c3, cellB hb2 cp⟩ (fun hHeld2 => ?_)
    clear hK1
    try simp only [Act.put, List.getElem_toArray, List.getElem_cons_succ, List.getElem_cons_zero, List.setIfInBounds_toArray, List.set_cons_zero, List.set_cons_succ]
    refine wpAnyH_take (i := 8) (v := ?_) rfl (by kernel_rfl) (by kernel_rfl) (by kernel_rfl) (fun _ _ _ h => h) (Or.inl ⟨by rfl, ?_⟩) (by assumption) ?_
    rotate_left
    focus (intro w' hSw; (try dsimp only at hSw); go_simp; first | done | with_reducible rfl)
    try simp only [Act.put, List.getElem_toArray, List.getElem_cons_succ, List.getElem_cons_zero, List.setIfInBounds_toArray, List.set_cons_zero, List.set_cons_succ]
    refine wpAnyH_done (by kernel_rfl) ?_ _
    refine NoOut.normal ?_
    have hbW : Below W.heap.size W w2 := (Below.refl _ W).drew.trans hb2
    have HKO : Hid (KeepsOthers W w2) := Lib.hid ⟨hbW.size, fun b o h _ => (hbW.block b (Array.getElem?_eq_some_iff.1 h).1).trans h⟩
    have HB2 := Lib.hid (hB.trans (hbW.mono hB.size))
    have HBC : Hid (Below W0.heap.size W w2) := Lib.hid (hbW.mono hB.size)
    have HO := Lib.hid hO2
    have e3 := hHeld2.2.1
    have hA4 : OneAt w2 (w.heap.size + 1 + 1) 4 (.bool false) := H4.below HB2.out
    have c4 : w2.cell? ⟨w.heap.size + 1 + 1, 0, none⟩ = some (.bool false) := hA4.cell 0
    have f4 := hA4.fz 0
    clear hHeld hHeld2 hb2 hO2 HE c2 c3 cp hAW hbW hA4 hB
    gi_wp2
    gi_loopw [24] (fun i wr => ∃ k : Nat, i = .int .i64 k ∧ k ≤ q.length ∧ (∀ j, j < k → ∀ n, q[j]? = some n → ¬ (x + n = u.length ∨ u[x + n]? = some 47)) ∧ wr = w2) (fun i _ => q.length - (RowKit.intOf i).toNat)
    case atStart => exact ⟨0, rfl, Nat.zero_le _, fun j hj => absurd hj (Nat.not_lt_zero j), rfl⟩
    case round =>
      obtain ⟨k, rfl, hk, hn, rfl⟩ := hrel
      have HN := Lib.hid hn
      clear hn
      by_cases hkl : k < q.length
      · have hkI : (k : Int) < (q.length : Int) := by omega
        obtain ⟨g, c, hv, _, _, _, hcell, _⟩ := HO.out.at (by rw [List.length_map]; omega)
        rw [List.length_map] at hv hcell
        injection hv with e1 e2 e4
        subst e1; subst e4
        obtain ⟨n, hnk⟩ : ∃ n, q[k]? = some n := ⟨_, List.getElem?_eq_getElem hkl⟩
        have ck : wr.cell? ⟨g, k, none⟩ = some (.int .i64 (n : Int)) := by rw [hcell k hkl, List.getElem?_map, hnk]; rfl
        obtain ⟨hn1, hn2⟩ := (HQ.out n).1 (List.mem_of_getElem? hnk)
        have HNK := Lib.hid hnk
        have HN2 := Lib.hid hn2
        have hnI : (n : Int) ≤ 100000 := by omega
        have HX := Lib.hid hx
        clear hcell hnk hn2
        by_cases he : x + n = u.length
        · have heI : ((x : Int) + (n : Int) == (u.length : Int)) = true := by rw [beq_iff_eq]; omega
          have HP : Hid (patP (freeG slash) (gts fold slash toks) anch u) := Lib.hid ⟨x, HX.out, n, hn1, HN2.out, .inl he⟩
          clear he
          gi_wp2
          exact ⟨HKO.out.trans (KeepsOthers.setCell _ _ _), ⟨rfl, HP.out, World.cell?_setCell_same' _ _ _ (by rw [c4]; rfl)⟩, (hB0.trans (HB2.out.mono hB0.size)).setCell (p := ⟨w.heap.size + 1 + 1, 0, none⟩) (by simp; omega) _⟩
        · have heI : ((x : Int) + (n : Int) == (u.length : Int)) = false := by rw [beq_eq_false_iff_ne]; omega
          have hlt : x + n < u.length := by omega
          have hkS : x + n < (S u).size := by rw [S_size]; exact hlt
          have hidx : (S u)[x + n]'hkS = u[x + n] := S_get u (x + n) hkS
          have HG : Hid (u[x + n]? = some u[x + n]) := Lib.hid (List.getElem?_eq_getElem hlt)
          have hltI : (x : Int) + (n : Int) < (u.length : Int) := by omega
          have HE1 := Lib.hid he
          generalize u[x + n] = b at *
          clear he hlt
          by_cases hb : b = 47
          · subst hb
            have h47 : (((47 : UInt8).toNat : Int) == 47) = true := rfl
            have HP : Hid (patP (freeG slash) (gts fold slash toks) anch u) := Lib.hid ⟨x, HX.out, n, hn1, HN2.out, .inr HG.out⟩
            gi_wp2
            exact ⟨HKO.out.trans (KeepsOthers.setCell _ _ _), ⟨rfl, HP.out, World.cell?_setCell_same' _ _ _ (by rw [c4]; rfl)⟩, (hB0.trans (HB2.out.mono hB0.size)).setCell (p := ⟨w.heap.size + 1 + 1, 0, none⟩) (by simp; omega) _⟩
          · have hbn := byte_bne b 47 47 rfl hb
            have hbe : ((b.toNat : Int) == 47) = false := by rw [bne, Bool.not_eq_true'] at hbn; exact hbn
            have HB47 := Lib.hid hb
            clear hb
            gi_wp2
            go_roundw
            case rel =>
              refine ⟨k + 1, by go_num, hkl, fun j hj n' hn' => ?_, by trivial⟩
              by_cases e : j = k
              · subst e
                rw [HNK.out] at hn'
                injection hn' with hn'
                subst hn'
                rintro (h | h)
                · exact HE1.out h
                · rw [HG.out] at h; injection h with h; exact HB47.out h
              · exact HN.out j (by omega) n' hn'
            case measure => simp [RowKit.intOf]; omega
      · have hke : k = q.length := by omega
        subst hke
        gi_wp2
        refine ⟨HKO.out, HBC.out, ⟨fun y hy => ?_, HB2.out⟩⟩
        rcases List.mem_append.1 hy with hy | hy
        · exact HNO.out y hy
        · rw [List.mem_singleton] at hy
          subst hy
          rintro ⟨n, h1, h2, h3⟩
          obtain ⟨j, hj⟩ := List.getElem?_of_mem ((HQ.out n).2 ⟨h1, h2⟩)
          exact HN.out j (List.getElem?_eq_some_iff.1 hj).1 n hj h3
  case done =>
    rintro D ys W hD hall ⟨hno, hB⟩ hK
    have hA4 : OneAt W (w.heap.size + 1 + 1) 4 (.bool false) := H4.below hB
    have c4 : W.cell? ⟨w.heap.size + 1 + 1, 0, none⟩ = some (.bool false) := hA4.cell 0
    have f4 := hA4.fz 0
    gi_wp2
    have hK' := (KeepsOthers.setCell W ⟨w.heap.size + 1 + 1, 0, none⟩ (.bool false)).same D _ hK rfl
    refine ⟨by simp, .inl ⟨_, _, rfl, run_takeDeferred hK', ?_⟩⟩
    have hc5 := cell_kept (World.cell?_setCell_same' W ⟨w.heap.size + 1 + 1, 0, none⟩ (.bool false) (by rw [c4]; rfl)) (grownBy_putObj' _ D (.deferred none)) (fun r e => by cases e; exact ⟨_, hK', rfl⟩)
    refine ⟨.bool false, ?_, ⟨false, rfl, ⟨fun h => (by cases h), fun h => ?_⟩⟩, ((hB0.trans (hB.mono hB0.size)).setCell (p := ⟨w.heap.size + 1 + 1, 0, none⟩) (by simp; omega) _).trans (belowK_b (w := w) (Nat.le_refl _) _ D _ _ (by omega) hK' rfl rfl)⟩
    · simp [results, Tryd.f15, go_sem, hc5]
    · rw [HU.out] at h
      obtain ⟨x, hb, hh⟩ := h
      exact absurd hh (hno ⟨x, hb⟩ (hall ⟨x, hb⟩))
  case stop =>
    rintro D c pre W hD _ ⟨⟨rfl, hp, hcr⟩, hB⟩ hK
    gi_wp2
    refine ⟨by simp, .inl ⟨_, _, rfl, run_takeDeferred hK, ?_⟩⟩
    have hc5 := cell_kept hcr (grownBy_putObj' _ D (.deferred none)) (fun r e => by cases e; exact ⟨_, hK, rfl⟩)
    refine ⟨.bool true, ?_, ⟨true, rfl, ⟨fun _ => by rw [HU.out]; exact hp, fun _ => rfl⟩⟩, hB.trans (belowK_b (w := w) (Nat.le_refl _) W D _ _ (by omega) hK rfl rfl)⟩
    simp [results, Tryd.f15, go_sem, hc5]
end Go.Proofs.YtphfcebacilbbaaDoor
namespace Go.Proofs.YtphfcebacilbbaaDoor
open Go.RowKit

theorem bare_last (s : List UInt8) (b : UInt8) (h : b ≠ 47) : bareL (s ++ [b]) = s ++ [b] := by
  unfold bareL
  rw [tr_no s b h]
  split <;> rfl
/-- a name that does not end in a slash -/
def EndsIn (s : List UInt8) : Prop := ∃ r b, s = r ++ [b] ∧ b ≠ 47
theorem EndsIn.bare {s : List UInt8} (h : EndsIn s) : bareL s = s := by
  obtain ⟨r, b, rfl, hb⟩ := h
  exact bare_last r b hb
theorem EndsIn.app {s : List UInt8} (h : EndsIn s) (t : List UInt8) : EndsIn (t ++ s) := by
  obtain ⟨r, b, rfl, hb⟩ := h
  exact ⟨t ++ r, b, by rw [List.append_assoc], hb⟩
theorem last_ends (s : List UInt8) (h0 : 0 < s.length) (h : s[s.length - 1]'(by omega) ≠ 47) : EndsIn s := by
  refine ⟨s.take (s.length - 1), s[s.length - 1], ?_, h⟩
  have := List.take_succ_eq_append_getElem (l := s) (i := s.length - 1) (by omega)
  rw [← this, show s.length - 1 + 1 = s.length by omega, List.take_length]
theorem tr_ends {s : List UInt8} (h : EndsIn s) : Lib.trimRightB s 47 = s := by
  obtain ⟨r, b, rfl, hb⟩ := h
  exact tr_no r b hb
theorem tr_below {s : List UInt8} (h : EndsIn s) (below : List UInt8) : ∃ t, Lib.trimRightB (s ++ 47 :: below) 47 = s ++ t ∧ (t = [] ∨ ∃ r, t = 47 :: r) := by
  have key : ∀ r : List UInt8, ∃ t, Lib.trimRightB (s ++ 47 :: r.reverse) 47 = s ++ t ∧ (t = [] ∨ ∃ r, t = 47 :: r) := by
    intro r
    induction r with
    | nil => exact ⟨[], by rw [List.reverse_nil, tr_yes, tr_ends h, List.append_nil], .inl rfl⟩
    | cons c r ih =>
      have e : s ++ 47 :: (c :: r).reverse = (s ++ 47 :: r.reverse) ++ [c] := by rw [List.reverse_cons]; simp
      by_cases hc : c = 47
      · subst hc
        obtain ⟨t, h1, h2⟩ := ih
        exact ⟨t, by rw [e, tr_yes, h1], h2⟩
      · exact ⟨47 :: (r.reverse ++ [c]), by rw [e, tr_no _ c hc]; simp, .inr ⟨_, rfl⟩⟩
  have := key below.reverse
  rwa [List.reverse_reverse] at this
theorem bare_below {s : List UInt8} (h : EndsIn s) (below : List UInt8) : ∃ t, bareL (s ++ 47 :: below) = s ++ t ∧ (t = [] ∨ ∃ r, t = 47 :: r) := by
  obtain ⟨t, h1, h2⟩ := tr_below h below
  refine ⟨t, ?_, h2⟩
  unfold bareL
  rw [h1]
  obtain ⟨r, b, rfl, _⟩ := h
  rw [if_neg (by simp)]
variable {fr : UInt8 → Bool} {L : List GT}
theorem isBeg.more {anch : Bool} {s : List UInt8} {x : Nat} (h : isBeg anch s x) (t : List UInt8) : isBeg anch (s ++ t) x := by
  obtain ⟨h1, h2⟩ := h
  refine ⟨by rw [List.length_append]; omega, ?_⟩
  rcases h2 with h2 | ⟨h2, h3⟩
  · exact .inl h2
  · exact .inr ⟨h2, by rw [List.getElem?_append_left (List.getElem?_eq_some_iff.1 h3).1]; exact h3⟩
theorem isBeg.any {anch : Bool} {s : List UInt8} {x : Nat} (h : isBeg anch s x) : isBeg false s x := by
  obtain ⟨h1, h2⟩ := h
  refine ⟨h1, ?_⟩
  rcases h2 with h2 | ⟨h2, h3⟩
  · exact .inl h2
  · exact .inr ⟨rfl, h3⟩
theorem hitP.more {s : List UInt8} {x : Nat} (hx : x ≤ s.length) (h : hitP fr L s x) (t : List UInt8) (ht : t = [] ∨ ∃ r, t = 47 :: r) : hitP fr L (s ++ t) x := by
  obtain ⟨n, h1, h2, h3⟩ := h
  refine ⟨n, by rw [List.length_append]; omega, ?_, ?_⟩
  · rw [List.drop_append_of_le_length hx, List.take_append_of_le_length (by rw [List.length_drop]; exact h1)]
    exact h2
  · rcases h3 with h3 | h3
    · rcases ht with rfl | ⟨r, rfl⟩
      · left; rw [List.append_nil]; exact h3
      · right; rw [h3, List.getElem?_append_right (Nat.le_refl _), Nat.sub_self]; rfl
    · right
      rw [List.getElem?_append_left (List.getElem?_eq_some_iff.1 h3).1]
      exact h3
theorem pat_any {anch : Bool} {s : List UInt8} (h : patP fr L anch s) : patP fr L false s := by
  obtain ⟨x, hb, hh⟩ := h
  exact ⟨x, hb.any, hh⟩
/-- what matches a name matches all below it -/
theorem pat_below {anch : Bool} {s : List UInt8} (hs : EndsIn s) (below : List UInt8) (h : patP fr L anch s) : patP fr L anch (bareL (s ++ 47 :: below)) := by
  obtain ⟨t, ht, ht2⟩ := bare_below hs below
  obtain ⟨x, hb, hh⟩ := h
  rw [ht]
  exact ⟨x, hb.more t, hh.more hb.1 t ht2⟩
/-- what matches a name anywhere matches it below any directory -/
theorem pat_above {s : List UInt8} (hs : EndsIn s) (dir : List UInt8) (h : patP fr L false s) : patP fr L false (bareL (dir ++ 47 :: s)) := by
  have he : EndsIn (dir ++ 47 :: s) := by
    have := hs.app (dir ++ [47])
    rwa [List.append_assoc] at this
  rw [he.bare]
  obtain ⟨x, hb, n, h1, h2, h3⟩ := h
  have e : dir ++ 47 :: s = (dir ++ [47]) ++ s := by simp
  have hl : (dir ++ [47]).length = dir.length + 1 := by simp
  rw [e]
  refine ⟨dir.length + 1 + x, ⟨by rw [List.length_append, hl]; have := hb.1; omega, .inr ⟨rfl, ?_⟩⟩, n, ?_, ?_, ?_⟩
  · by_cases hx : x = 0
    · subst hx
      rw [List.getElem?_append_left (by omega)]
      simp
    · rcases hb.2 with h | ⟨_, h⟩
      · exact absurd h hx
      · rw [List.getElem?_append_right (by omega), hl, show dir.length + 1 + x - 1 - (dir.length + 1) = x - 1 by omega]
        exact h
  · rw [List.length_append, hl]; omega
  · rw [← hl, List.drop_append, List.drop_eq_nil_of_le (by omega), List.nil_append, Nat.add_sub_cancel_left]
    exact h2
  · rcases h3 with h3 | h3
    · left; rw [List.length_append, hl]; omega
    · right
      rw [List.getElem?_append_right (by omega), hl, show dir.length + 1 + x + n - (dir.length + 1) = x + n by omega]
      exact h3
end Go.Proofs.YtphfcebacilbbaaDoor
namespace Go.Proofs.YtphfcebacilbbaaDoor
open Go.RowKit
attribute [local irreducible] wordP

def toks17 : List Tk := [.star, .byte 46, .byte 111]
theorem parse17 : parseG [42, 46, 111] 4 0 [] = some (toks17, 0, 0) := by simp [parseG, tokF, toks17]
theorem m17a : matchG (freeG false) (gts false false toks17) [98, 46, 111] = true := by simp [matchG, Tk.gt, oneG, freeG, gts, toks17]
theorem m17b : matchG (freeG false) (gts false false toks17) [97] = false := by simp [matchG, Tk.gt, oneG, freeG, gts, toks17]
theorem m17c : matchG (freeG false) (gts false false toks17) [97, 47, 98, 46, 111] = false := by simp [matchG, Tk.gt, oneG, freeG, gts, toks17]
theorem p17a : patP (freeG false) (gts false false toks17) false (bareL [97, 47, 98, 46, 111]) := by
  have e : bareL [97, 47, 98, 46, 111] = [97, 47, 98, 46, 111] := bare_last [97, 47, 98, 46] 111 (by decide)
  rw [e]
  exact ⟨2, ⟨by decide, .inr ⟨rfl, rfl⟩⟩, 3, by decide, m17a, .inl rfl⟩
theorem p17b : patP (freeG false) (gts false false toks17) false (bareL [97, 47, 98, 46, 111, 47, 99]) := by
  have e : bareL [97, 47, 98, 46, 111, 47, 99] = [97, 47, 98, 46, 111, 47, 99] := bare_last [97, 47, 98, 46, 111, 47] 99 (by decide)
  rw [e]
  exact ⟨2, ⟨by decide, .inr ⟨rfl, rfl⟩⟩, 3, by decide, m17a, .inr rfl⟩
theorem p17c : ¬ patP (freeG false) (gts false false toks17) true (bareL [97, 47, 98, 46, 111]) := by
  have e : bareL [97, 47, 98, 46, 111] = [97, 47, 98, 46, 111] := bare_last [97, 47, 98, 46] 111 (by decide)
  rw [e]
  rintro ⟨x, ⟨h1, h2⟩, n, h3, h4, h5⟩
  have hx : x = 0 := by
    rcases h2 with h2 | ⟨h2, _⟩
    · exact h2
    · cases h2
  subst hx
  have hn : n ≤ 5 := h3
  match n, hn with
  | 0, _ => rcases h5 with h5 | h5 <;> simp at h5
  | 1, _ => rw [show ((([97, 47, 98, 46, 111] : List UInt8).drop 0).take 1) = [97] from rfl, m17b] at h4; cases h4
  | 2, _ => rcases h5 with h5 | h5 <;> simp at h5
  | 3, _ => rcases h5 with h5 | h5 <;> simp at h5
  | 4, _ => rcases h5 with h5 | h5 <;> simp at h5
  | 5, _ => rw [show ((([97, 47, 98, 46, 111] : List UInt8).drop 0).take 5) = [97, 47, 98, 46, 111] from rfl, m17c] at h4; cases h4
/-- New of a rule whose tokens have no more sets than may be -/
theorem new_ok {text : List UInt8} {anch fold slash : Bool} {most : Int} {l : List Tk} {a base : Nat} {e : Ending} {w' : World} (h : NewR text anch fold slash most l a 0 base e w') (hn : ¬ PFull (freeG slash) (gts fold slash l) most) :
    ∃ gp gt T, e = .returned (.tuple #[.pointer (some ⟨gp, 0, none⟩), .int .i64 0, .int .i64 0]) ∧ TabOK fold slash l most T ∧ PatAt w' base gp text anch fold slash gt T := by
  rcases h with ⟨h, _⟩ | ⟨_, h⟩ | ⟨_, _, h⟩
  · exact absurd rfl h
  · exact h
  · exact absurd h hn
theorem nf17 : ¬ PFull (freeG false) (gts false false toks17) 100 := by
  rintro ⟨ls, h1, h2, h3⟩
  have := count_stars _ _ ls h1 h3
  have e : (gts false false toks17).length = 3 := rfl
  rw [e] at this
  omega
set_option maxRecDepth 100000 in
set_option maxHeartbeats 2000000 in
theorem awake17 (m : Int) (w : World) (hm : w.cell? ⟨2, 0, none⟩ = some (.int .i64 m)) :
    Calls Tryd.prog 13 #[] w fun e w' => e = .returned (.bool true) ∧ Below w.heap.size w w' := by
  have HN := Lib.hid (fun W (hb : Below w.heap.size w W) anch => new_any [42, 46, 111] anch false false 100 toks17 0 0 parse17 (by decide) (by decide) (by decide) m W (cellB hb hm))
  go_enter Tryd.func13, Tryd.ntmps13
  go_wp2_with fail
  refine (HN.out _ (Below.refl _ _) false).mono ?_
  rintro e w1 ⟨hb1, h1⟩
  obtain ⟨gp, gt, T, rfl, hok, hat⟩ := new_ok h1 nf17
  clear h1
  have HB1 := Lib.hid hb1
  clear hb1
  go_wp2_with fail
  refine (HN.out _ HB1.out true).mono ?_
  rintro e w2 ⟨hb2, h2⟩
  obtain ⟨gp2, gt2, T2, rfl, hok2, hat2⟩ := new_ok h2 nf17
  have HB2 := Lib.hid (HB1.out.trans (hb2.mono HB1.out.size))
  have HP := Lib.hid (fun W (hb : Below w2.heap.size w2 W) s (hs : s.length ≤ 100000) => pmatch_any hok (by decide) s hs W ((hat.below hb2).below hb))
  have HQ := Lib.hid (fun W (hb : Below w2.heap.size w2 W) s (hs : s.length ≤ 100000) => pmatch_any hok2 (by decide) s hs W (hat2.below hb))
  clear h2 hb2 HB1 HN hok hok2 hat hat2
  go_wp2_with fail
  refine (HP.out _ (Below.refl _ _) [97, 47, 98, 46, 111] (by decide)).mono ?_
  rintro e w3 ⟨⟨r, rfl, hr⟩, hb3⟩
  have e1 : r = true := hr.2 p17a
  subst e1
  clear hr
  have HB3 := Lib.hid hb3
  clear hb3
  go_wp2_with fail
  refine (HP.out _ HB3.out [97, 47, 98, 46, 111, 47, 99] (by decide)).mono ?_
  rintro e w4 ⟨⟨r, rfl, hr⟩, hb4⟩
  have e1 : r = true := hr.2 p17b
  subst e1
  clear hr
  have HB4 := Lib.hid (HB3.out.trans (hb4.mono HB3.out.size))
  clear hb4
  go_wp2_with fail
  refine (HQ.out _ HB4.out [97, 47, 98, 46, 111] (by decide)).mono ?_
  rintro e w5 ⟨⟨r, rfl, hr⟩, hb5⟩
  have e1 : r = false := by
    cases r
    · rfl
    · exact absurd (hr.1 rfl) p17c
  subst e1
  clear hr
  have HB5 := Lib.hid (HB4.out.trans (hb5.mono HB4.out.size))
  clear hb5
  go_wp2_with fail
  go_ret
  exact ⟨rfl, HB2.out.trans (HB5.out.mono HB2.out.size)⟩
end Go.Proofs.YtphfcebacilbbaaDoor
