/- The document's Expand, walked. -/
import Derived.Test.YtnemjfojlgjkfaaDoorShrG
namespace Go.Proofs.YtnemjfojlgjkfaaDoor
open Go.RowKit

set_option maxRecDepth 100000 in
set_option maxHeartbeats 4000000 in
theorem rExpand_any (n : Nat) (l : Pcs) (v : Value) (s : List UInt8) (hn : n ≤ 6000) (hs : s.length ≤ 1000000) (w : World) (hv : PieV w v l) (hr : mapB n l = true) (he : (s.length : Int) = pieLen l) :
    Calls Tryd.prog 20 #[.agg #[.int .i64 n, v], .string (S s)] w fun e w' => e = .returned (.string (S (expL n l s))) ∧ Below w.heap.size w w' := by
  have hM0 := RMapAt.new w n v
  have hx0 := (Below.refl w.heap.size w).alloc (Nat.le_refl _) (.cells #[.int .i64 n, v] 31)
  have hv0 := hv.below hx0 (Nat.le_refl _)
  obtain ⟨g1, g2, g3⟩ := mapB_size hr
  have hmem := mapB_mem hr
  have hpb : pieB n 0 l = true := by
    unfold mapB at hr
    rw [if_neg (by omega)] at hr
    exact hr
  have HIn : Hid (∀ (x : Nat) W, Below (w.alloc (.cells #[.int .i64 n, v] 31)).heap.size (w.alloc (.cells #[.int .i64 n, v] 31)) W → Calls Tryd.prog 28 #[.agg #[.int .i64 n, v], .int .i64 x] W fun e w' => (∃ r : Int, e = .returned (.int .i64 r) ∧ decide (r < 0) = !hitB l x) ∧ Below W.heap.size W w') := Lib.hid (fun x W h => rIn_any n l v x W (hv0.below h (Nat.le_refl _)) hr)
  have HC : Hid (∀ x : Nat, covB l ((x : Int) + 1) = covB l x + (if hitB l x = true then 1 else 0)) := Lib.hid (fun x => cov_succ n l x 0 hpb)
  have HL : Hid (∀ x : Nat, hitB l x = true → 0 ≤ covB l x ∧ covB l x < s.length) := Lib.hid (fun x h => ⟨(cov_bound l x (fun p hp => by have := hmem p hp; omega)).1, by have := cov_lt l x (fun p hp => by have := hmem p hp; omega) h; omega⟩)
  have HB : Hid (∀ x : Nat, 0 ≤ covB l x ∧ covB l x ≤ s.length) := Lib.hid (fun x => by have := cov_bound l x (fun p hp => by have := hmem p hp; omega); omega)
  have HS : Hid (∀ x, expL (x + 1) l s = expL x l s ++ [expAt l s x]) := Lib.hid (fun x => expL_succ x l s)
  have HLen : Hid (∀ x, (expL x l s).length = x) := Lib.hid (fun x => expL_len ..)
  have HE : Hid (∀ x : Nat, expAt l s x = if hitB l x = true then (s[(covB l x).toNat]?).getD 0 else 0) := Lib.hid (fun x => rfl)
  have hc00 : covB l 0 = 0 := by
    refine cov_ahead l 0 (fun p hp => by have := hmem p hp; omega) (fun p hp => by have := hmem p hp; omega)
  have h0 : expL 0 l s = [] := rfl
  have HC0 := Lib.hid hc00
  have hsh : ∃ a c, v = .slice a l.length c := by
    obtain ⟨a, c, h, _⟩ := hv
    exact ⟨a, c, h⟩
  clear hc00 hmem hpb hr he hv0 hv h0
  obtain ⟨a, c, rfl⟩ := hsh
  have hnI : (n : Int) ≤ 6000 := by omega
  go_enter Tryd.func20, Tryd.ntmps20
  go_upto_region 1 with fail
  generalize w.alloc (.cells #[.int .i64 n, .slice a l.length c] 31) = W at *
  go_wp2_with fail
  go_loopw [5, 6, 7] (fun v5 v6 v7 wr => ∃ x : Nat, v7 = .int .i64 x ∧ v5 = .string (S (expL x l s)) ∧ v6 = .int .i64 (covB l x) ∧ x ≤ n ∧ Below W.heap.size W wr) (fun _ _ v7 _ => n - (intOf v7).toNat)
  case atStart => exact ⟨0, rfl, rfl, by rw [show covB l ((0 : Nat) : Int) = 0 from HC0.out], Nat.zero_le _, Below.refl _ _⟩
  case round =>
    obtain ⟨x, rfl, rfl, rfl, hx, hb⟩ := hrel
    have hM := hM0.below hb
    have c0 := hM.c0
    have c1 := hM.c1
    have hbw := hx0.trans (hb.mono hx0.size)
    by_cases hlt : x < n
    · have hxI : (x : Int) < (n : Int) := by omega
      have hlen : (expL x l s).length ≤ 6000 := by rw [HLen.out]; omega
      have HN : Hid (expL (x + 1) l s = expL x l s ++ [if hitB l x = true then (s[(covB l x).toNat]?).getD 0 else 0]) := Lib.hid (by rw [HS.out, HE.out])
      have HCx := Lib.hid (HC.out x)
      have HBx := HB.out x
      obtain ⟨hb0, hb1⟩ := HBx
      go_wp2_with fail
      refine (HIn.out x _ hb).mono ?_
      rintro e w1 ⟨⟨r, rfl, hd⟩, hbb⟩
      have hb2 := hb.trans (hbb.mono hb.size)
      cases hh : hitB l x
      · rw [hh, Bool.not_false] at hd
        rw [hh, if_neg (by decide)] at HN HCx
        have hr0 : r < 0 := of_decide_eq_true hd
        have hd' := Lib.hid hd
        clear hd hh HIn HC HL HB HS HLen HE
        generalize expL x l s = ex at *
        generalize covB l x = cv at *
        go_wp2_with fail
        go_roundw
        case rel => exact ⟨x + 1, by go_num, by rw [HN.out]; exact congrArg Value.string (S_append ex [0]), by rw [show (((x + 1 : Nat)) : Int) = (x : Int) + 1 by omega, HCx.out] <;> go_num, by omega, hb2⟩
        case measure => simp [intOf]; omega
      · rw [hh, Bool.not_true] at hd
        rw [hh, if_pos rfl] at HN HCx
        have hr0 : ¬ r < 0 := of_decide_eq_false hd
        obtain ⟨k0, k1⟩ := HL.out x hh
        have hd' := Lib.hid hd
        clear hd hh HIn HC HL HB HS HLen HE
        generalize expL x l s = ex at *
        generalize covB l x = cv at *
        obtain ⟨m, rfl⟩ : ∃ m : Nat, cv = m := ⟨cv.toNat, by omega⟩
        have hm : m < s.length := by omega
        have hsl : (S s).extract m (m + 1) = S [(s[m]?).getD 0] := by
          rw [S_extract, Nat.add_sub_cancel_left]
          congr 1
          rw [List.drop_eq_getElem_cons hm, List.take_succ_cons, List.take_zero, List.getElem?_eq_getElem hm]
          first | done | rfl
        rw [Int.toNat_natCast] at HN
        generalize (s[m]?).getD 0 = bt at *
        go_wp2_with fail
        go_roundw
        case rel => exact ⟨x + 1, by go_num, by rw [HN.out]; exact congrArg Value.string (S_append ex [bt]), by rw [show (((x + 1 : Nat)) : Int) = (x : Int) + 1 by omega, HCx.out] <;> go_num, by omega, hb2⟩
        case measure => simp [intOf]; omega
    · have hk2 : x = n := by omega
      subst hk2
      go_wp2_with fail
      go_ret
      exact ⟨rfl, hbw⟩
end Go.Proofs.YtnemjfojlgjkfaaDoor
