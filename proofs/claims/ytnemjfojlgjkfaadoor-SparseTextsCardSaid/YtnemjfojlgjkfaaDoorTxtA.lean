/- sparse.number, walked. -/
import Derived.Test.YtnemjfojlgjkfaaDoorTxtP
import Derived.Outline
namespace Go.Proofs.YtnemjfojlgjkfaaDoor
open Go.RowKit
open Go.Lib (decDigits itoa)

def numV (x : Nat × List UInt8 × Nat) : Value := .tuple #[.int .i64 x.1, .string (S x.2.1), .int .i64 x.2.2]
theorem all_take_bad (t : List UInt8) (i : Nat) (h : i < t.length) (hb : dg t[i] = false) : t.all dg = false := by
  rw [List.all_eq_false]
  exact ⟨t[i], List.getElem_mem h, by rw [hb]; decide⟩
set_option maxRecDepth 100000 in
set_option maxHeartbeats 2000000 in
theorem sNum_any (r : List UInt8) (hr : r.length ≤ 100000) (w : World) :
    Calls Tryd.prog 31 #[.string (S r)] w fun e w' => e = .returned (numV (numL r)) ∧ ∃ m, w' = w.drewN m := by
  have hC := cut_c 10 r (by omega) w
  unfold cutCV at hC
  have htl : (twC 10 r).length ≤ r.length := by
    have := congrArg List.length (tw_dw r)
    rw [List.length_append] at this
    omega
  have hN : numL r = if dwC 10 r = [] then (0, [], 3)
    else if (twC 10 r).length = 0 ∨ 13 < (twC 10 r).length ∨ ((twC 10 r).head? = some 48 ∧ 1 < (twC 10 r).length) then (0, [], 2)
    else if (twC 10 r).all dg = true then (decN (twC 10 r), (dwC 10 r).drop 1, 0) else (0, [], 2) := rfl
  generalize twC 10 r = t at *
  generalize dwC 10 r = d at *
  generalize numL r = N at *
  by_cases hd : d = []
  · subst hd
    rw [if_pos rfl] at hN
    have HN := Lib.hid hN
    have HC := Lib.hid (show Calls Tryd.prog 38 #[.string (S r), .string ⟨#[10]⟩] w (fun e w' => e = .returned (.tuple #[.string (S t), .string (S []), .bool false]) ∧ ∃ n, w' = w.drewN n) from hC)
    clear hC hN
    go_enter Tryd.func31, Tryd.ntmps31
    go_wp2_with fail
    refine HC.out.mono ?_
    rintro e w1 ⟨rfl, m, rfl⟩
    go_wp2_with fail
    go_ret3
    exact ⟨by rw [HN.out]; rfl, m, rfl⟩
  · have hde : d.isEmpty = false := by simpa using hd
    rw [if_neg hd] at hN
    rw [hde] at hC
    have HC := Lib.hid (show Calls Tryd.prog 38 #[.string (S r), .string ⟨#[10]⟩] w (fun e w' => e = .returned (.tuple #[.string (S t), .string (S (d.drop 1)), .bool true]) ∧ ∃ n, w' = w.drewN n) from hC)
    clear hC hd hde
    generalize d.drop 1 = q at *
    by_cases h0 : t.length = 0
    · rw [if_pos (Or.inl h0)] at hN
      have ht0 : t = [] := List.eq_nil_of_length_eq_zero h0
      have HN := Lib.hid hN
      clear hN h0
      subst ht0
      go_enter Tryd.func31, Tryd.ntmps31
      go_wp2_with fail
      refine HC.out.mono ?_
      rintro e w1 ⟨rfl, m, rfl⟩
      go_wp2_with fail
      go_ret3
      exact ⟨by rw [HN.out]; rfl, m, rfl⟩
    · have h0I : ¬ (t.length : Int) = 0 := by omega
      have h0B : ((t.length : Int) == 0) = false := beq_eq_false_iff_ne.2 h0I
      by_cases h13 : 13 < t.length
      · rw [if_pos (Or.inr (Or.inl h13))] at hN
        have HN := Lib.hid hN
        have h13I : (13 : Int) < (t.length : Int) := by omega
        clear hN
        go_enter Tryd.func31, Tryd.ntmps31
        go_wp2_with fail
        refine HC.out.mono ?_
        rintro e w1 ⟨rfl, m, rfl⟩
        go_wp2_with fail
        go_ret3
        exact ⟨by rw [HN.out]; rfl, m, rfl⟩
      · have h13I : ¬ (13 : Int) < (t.length : Int) := by omega
        have hz : 0 < (S t).size := by rw [S_size]; omega
        have hhd : t.head? = some ((S t)[0]'hz) := by
          cases t with
          | nil => exact absurd rfl h0
          | cons c t => rfl
        have hlI : (t.length : Int) ≤ 13 := by omega
        have h13B : decide ((13 : Int) < (t.length : Int)) = false := decide_eq_false h13I
        have hl0 : (0 : Int) < (t.length : Int) := by omega
        by_cases hlead : t.head? = some 48 ∧ 1 < t.length
        · rw [if_pos (Or.inr (Or.inr hlead))] at hN
          have HN := Lib.hid hN
          obtain ⟨hc, h1⟩ := hlead
          rw [hhd] at hc
          have hcv : ((S t)[0]'hz).toNat = 48 := by injection hc with hc; rw [hc]; rfl
          have hcI : (((S t)[0]'hz).toNat : Int) = 48 := by omega
          have h1I : (1 : Int) < (t.length : Int) := by omega
          clear hN hc hhd
          go_enter Tryd.func31, Tryd.ntmps31
          go_wp2_with fail
          refine HC.out.mono ?_
          rintro e w1 ⟨rfl, m, rfl⟩
          go_wp2_with fail
          go_ret3
          exact ⟨by rw [HN.out]; rfl, m, rfl⟩
        · rw [if_neg (by rintro (h | h | h); exact h0 h; exact h13 h; exact hlead h)] at hN
          have HN := Lib.hid hN
          have HLD : Hid (¬ (((S t)[0]'hz = 48) ∧ 1 < t.length)) := Lib.hid (by rintro ⟨h, g⟩; exact hlead ⟨by rw [hhd, h], g⟩)
          have HDD : Hid (∀ i, decN (t.take i) < 10 ^ 13 ∨ (t.take i).all dg = false) := Lib.hid (fun i => by
            by_cases ha : (t.take i).all dg = true
            · left
              have hlt := decN_lt _ (t.take i) (fun c hc => by rw [List.all_eq_true] at ha; exact ha c hc) rfl
              have : (t.take i).length ≤ 13 := by rw [List.length_take]; omega
              exact Nat.lt_of_lt_of_le hlt (Nat.pow_le_pow_right (by decide) this)
            · right; simpa using ha)
          clear hN hlead hhd
          go_enter Tryd.func31, Tryd.ntmps31
          go_wp2_with fail
          refine HC.out.mono ?_
          rintro e w1 ⟨rfl, m, rfl⟩
          go_upto_region 4 with fail
          go_cut [19] (fun v19 wx => v19 = .bool false ∧ w.drewN m = wx)
          case first =>
            by_cases h1 : 1 < t.length
            · have hne : ¬ (S t)[0]'hz = 48 := fun e => HLD.out ⟨e, h1⟩
              have hB := byte_beq' ((S t)[0]'hz) 48 48 rfl hne
              have h1I : (1 : Int) < (t.length : Int) := by omega
              clear HC
              go_wp2_with fail
              go_meet
              exact ⟨by first | rfl | (simp; done) | (simp; omega), rfl⟩
            · have h1I : ¬ (1 : Int) < (t.length : Int) := by omega
              clear HC
              go_wp2_with fail
              all_goals
                go_meet
                exact ⟨by first | rfl | (simp; done) | (simp; omega), rfl⟩
          obtain ⟨rfl, rfl⟩ := hcut
          clear HLD HC
          go_wp2_with fail
          go_loop [8, 40] (fun v8 v40 => ∃ i : Nat, v40 = .int .i64 i ∧ v8 = .int .i64 (decN (t.take i) : Nat) ∧ i ≤ t.length ∧ Hid ((t.take i).all dg = true)) (fun _ v40 => t.length - (intOf v40).toNat)
          case atStart => exact ⟨0, rfl, rfl, Nat.zero_le _, Lib.hid rfl⟩
          case round =>
            obtain ⟨i, rfl, rfl, hi, HI⟩ := hrel
            have hbd : decN (t.take i) < 10000000000000 := by rcases HDD.out i with h | h; exact h; rw [HI.out] at h; cases h
            by_cases hlt : i < t.length
            · have his : i < (S t).size := by rw [S_size]; exact hlt
              have hiI : (i : Int) < (t.length : Int) := by omega
              have htk : t.take (i + 1) = t.take i ++ [(S t)[i]'his] := List.take_succ_eq_append_getElem hlt
              have hsn : decN (t.take (i + 1)) = 10 * decN (t.take i) + (((S t)[i]'his).toNat - 48) := by rw [htk, decN_snoc]
              have hal : (t.take (i + 1)).all dg = dg ((S t)[i]'his) := by rw [htk, List.all_append, HI.out]; simp
              by_cases hdg : dg ((S t)[i]'his) = true
              · have hd2 : 48 ≤ ((S t)[i]'his).toNat ∧ ((S t)[i]'his).toNat ≤ 57 := of_decide_eq_true hdg
                obtain ⟨c1, c2⟩ := hd2
                have HS := Lib.hid hsn
                have HA2 := Lib.hid (hal.trans hdg)
                have c1I : (48 : Int) ≤ (((S t)[i]'his).toNat : Int) := by omega
                have c2I : (((S t)[i]'his).toNat : Int) ≤ 57 := by omega
                generalize decN (t.take i) = dv at *
                have dI : (dv : Int) ≤ 10000000000000 := by omega
                clear hsn hal htk hdg hbd
                go_wp2_with fail
                go_round
                case rel => exact ⟨i + 1, by go_num, by rw [HS.out]; push_cast; rw [Int.ofNat_sub c1]; rfl, by omega, HA2⟩
                case measure => simp [intOf]; omega
              · have HNE : Hid (N = (0, [], 2)) := Lib.hid (by
                  have hdf : dg ((S t)[i]'his) = false := by simpa using hdg
                  rw [HN.out, if_neg]; rw [all_take_bad t i hlt hdf]; decide)
                have hd2 : ((S t)[i]'his).toNat < 48 ∨ 57 < ((S t)[i]'his).toNat := by
                  unfold dg at hdg
                  simp only [decide_eq_true_eq] at hdg
                  omega
                clear hsn hal htk hdg hbd
                rcases hd2 with h | h
                · have c1I : (((S t)[i]'his).toNat : Int) < 48 := by omega
                  go_wp2_with fail
                  go_ret3
                  exact ⟨by rw [HNE.out]; rfl, m, rfl⟩
                · have c1I : ¬ (((S t)[i]'his).toNat : Int) < 48 := by omega
                  have c2I : (57 : Int) < (((S t)[i]'his).toNat : Int) := by omega
                  go_wp2_with fail
                  go_ret3
                  exact ⟨by rw [HNE.out]; rfl, m, rfl⟩
            · have hii : i = t.length := by omega
              subst hii
              rw [List.take_length] at HI
              have HNE : Hid (N = (decN t, q, 0)) := Lib.hid (by rw [HN.out, if_pos HI.out])
              have hiI : ¬ (t.length : Int) < (t.length : Int) := by omega
              rw [List.take_length]
              go_wp2_with fail
              go_ret3
              exact ⟨by rw [HNE.out]; rfl, m, rfl⟩
end Go.Proofs.YtnemjfojlgjkfaaDoor
