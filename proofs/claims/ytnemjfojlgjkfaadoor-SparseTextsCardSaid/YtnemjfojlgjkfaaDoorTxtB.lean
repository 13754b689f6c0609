/- The document's number, walked. -/
import Derived.Test.YtnemjfojlgjkfaaDoorTxtA
namespace Go.Proofs.YtnemjfojlgjkfaaDoor
open Go.RowKit
open Go.Lib (decDigits itoa)

def rnumV (s : List UInt8) (x : Nat × List UInt8 × Nat) : Value := .tuple #[.int .i64 x.1, .int .i64 ((if x.2.2 = 0 then s.length - x.2.1.length else 0 : Nat) : Int), .int .i64 x.2.2]
theorem tw_ne (r : List UInt8) : ∀ c ∈ twC 10 r, c ≠ 10 := by
  intro c hc
  unfold twC at hc
  have := List.all_takeWhile (p := (· != (10 : UInt8))) (l := r)
  rw [List.all_eq_true] at this
  simpa using this c hc
theorem dw_head (r : List UInt8) (h : dwC 10 r ≠ []) : (dwC 10 r).head? = some 10 := by
  induction r with
  | nil => exact absurd rfl h
  | cons c r ih =>
    unfold dwC at *
    rw [List.dropWhile_cons] at h ⊢
    by_cases hc : (c != 10) = true
    · rw [if_pos hc] at h ⊢
      exact ih h
    · rw [if_neg hc]
      have : c = 10 := by simpa using hc
      rw [this]; rfl
set_option maxRecDepth 100000 in
set_option maxHeartbeats 4000000 in
theorem rNum_any (s : List UInt8) (k : Nat) (hk : k ≤ s.length) (hs : s.length ≤ 100000) (w : World) :
    Calls Tryd.prog 33 #[.string (S s), .int .i64 k] w fun e w' => e = .returned (rnumV s (numL (s.drop k))) ∧ w = w' := by
  have htd := tw_dw (s.drop k)
  have hne := tw_ne (s.drop k)
  have hdh := dw_head (s.drop k)
  have hN : numL (s.drop k) = if dwC 10 (s.drop k) = [] then (0, [], 3)
    else if (twC 10 (s.drop k)).length = 0 ∨ 13 < (twC 10 (s.drop k)).length ∨ ((twC 10 (s.drop k)).head? = some 48 ∧ 1 < (twC 10 (s.drop k)).length) then (0, [], 2)
    else if (twC 10 (s.drop k)).all dg = true then (decN (twC 10 (s.drop k)), (dwC 10 (s.drop k)).drop 1, 0) else (0, [], 2) := rfl
  have hlen : s.length = k + ((twC 10 (s.drop k)).length + (dwC 10 (s.drop k)).length) := by
    have := congrArg List.length htd
    rw [List.length_append, List.length_drop] at this
    omega
  generalize numL (s.drop k) = N at *
  generalize twC 10 (s.drop k) = t at *
  generalize dwC 10 (s.drop k) = d at *
  have hat : ∀ j (hj : j < t.length) (h : k + j < (S s).size), (S s)[k + j]'h = t[j] := by
    intro j hj h
    have h1 : (s.drop k)[j]? = some t[j] := by rw [← htd, List.getElem?_append_left hj, List.getElem?_eq_getElem hj]
    rw [List.getElem?_drop] at h1
    have h2 : k + j < s.length := by rw [S_size] at h; exact h
    rw [List.getElem?_eq_getElem h2] at h1
    injection h1 with h1
  have hend : ∀ (h : k + t.length < (S s).size), (S s)[k + t.length]'h = 10 := by
    intro h
    have h2 : k + t.length < s.length := by rw [S_size] at h; exact h
    have hd0 : d ≠ [] := by intro e; rw [e] at hlen; simp at hlen; omega
    have h3 := hdh hd0
    have h1 : (s.drop k)[t.length]? = some 10 := by
      rw [← htd, List.getElem?_append_right (Nat.le_refl _), Nat.sub_self]
      cases d with
      | nil => exact absurd rfl hd0
      | cons c d => exact h3
    rw [List.getElem?_drop, List.getElem?_eq_getElem h2] at h1
    injection h1 with h1
  have HAT := Lib.hid hat
  have HEND := Lib.hid hend
  have HNE := Lib.hid hne
  have hkI : (k : Int) ≤ (s.length : Int) := by omega
  have hsI : (s.length : Int) ≤ 100000 := by omega
  have hkt : k + t.length ≤ s.length := by omega
  have HN := Lib.hid hN
  have HLen := Lib.hid hlen
  clear htd hne hdh hat hend hN hlen
  go_enter Tryd.func33, Tryd.ntmps33
  go_wp2_with fail
  go_loop [7] (fun v7 => ∃ j : Nat, v7 = .int .i64 ((k : Int) + (j : Int)) ∧ j ≤ t.length) (fun v7 => s.length + 1 - (intOf v7).toNat)
  case atStart => exact ⟨0, by simp, Nat.zero_le _⟩
  case round =>
    obtain ⟨j, rfl, hj⟩ := hrel
    by_cases hlt : j < t.length
    · have hks : k + j < (S s).size := by rw [S_size]; omega
      have hcI : (k : Int) + (j : Int) < (s.length : Int) := by omega
      have hc : (S s)[k + j]'hks ≠ 10 := by rw [HAT.out j hlt hks]; exact HNE.out _ (List.getElem_mem hlt)
      have hB := byte_bne ((S s)[k + j]'hks) 10 10 rfl hc
      clear hc
      go_wp2_with fail
      go_round
      case rel => exact ⟨j + 1, by push_cast; congr 1 <;> omega, hlt⟩
      case measure => simp [intOf]; omega
    · have hjj : j = t.length := by omega
      subst hjj
      by_cases hd : d = []
      · subst hd
        have hle := HLen.out
        rw [List.length_nil, Nat.add_zero] at hle
        have hcI : ¬ (k : Int) + (t.length : Int) < (s.length : Int) := by omega
        have hcI2 : (s.length : Int) ≤ (k : Int) + (t.length : Int) := by omega
        have hN0 : N = (0, [], 3) := by rw [HN.out, if_pos rfl]
        have HN0 := Lib.hid hN0
        clear hN0 hle
        go_wp2_with fail
        go_ret3
        exact ⟨by rw [HN0.out]; rfl, rfl⟩
      · have hle := HLen.out
        have hdl : 0 < d.length := List.length_pos_iff.2 hd
        have hks : k + t.length < (S s).size := by rw [S_size]; omega
        have hcI : (k : Int) + (t.length : Int) < (s.length : Int) := by omega
        have hcI2 : ¬ (s.length : Int) ≤ (k : Int) + (t.length : Int) := by omega
        have hB : ((((S s)[k + t.length]'hks).toNat : Int) != 10) = false := by rw [HEND.out hks]; rfl
        have hN1 := HN.out
        rw [if_neg hd] at hN1
        have hrl : s.length - (d.drop 1).length = k + t.length + 1 := by rw [List.length_drop]; omega
        have HRL := Lib.hid hrl
        clear hle hrl
        have e9 : (k : Int) + (t.length : Int) - (k : Int) = (t.length : Int) := by omega
        go_upto_region 6 with fail
        by_cases h0 : t.length = 0
        · rw [if_pos (Or.inl h0)] at hN1
          have HN0 := Lib.hid hN1
          have h0I : (t.length : Int) < 1 := by omega
          clear hN1
          go_wp2_with fail
          go_ret3
          exact ⟨by rw [HN0.out]; rfl, rfl⟩
        · have h0I : ¬ (t.length : Int) < 1 := by omega
          by_cases h13 : 13 < t.length
          · rw [if_pos (Or.inr (Or.inl h13))] at hN1
            have HN0 := Lib.hid hN1
            have h13I : (13 : Int) < (t.length : Int) := by omega
            clear hN1
            go_wp2_with fail
            go_ret3
            exact ⟨by rw [HN0.out]; rfl, rfl⟩
          · have h13I : ¬ (13 : Int) < (t.length : Int) := by omega
            have hk0 : k < (S s).size := by rw [S_size]; omega
            have hhd : t.head? = some ((S s)[k]'hk0) := by
              have := HAT.out 0 (by omega) (by rw [S_size]; omega)
              cases t with
              | nil => exact absurd rfl h0
              | cons c t => exact congrArg some this.symm
            have hlI : (t.length : Int) ≤ 13 := by omega
            have hl0 : (0 : Int) < (t.length : Int) := by omega
            have hkl : (k : Int) < (s.length : Int) := by omega
            by_cases hlead : t.head? = some 48 ∧ 1 < t.length
            · rw [if_pos (Or.inr (Or.inr hlead))] at hN1
              have HN0 := Lib.hid hN1
              obtain ⟨hc, h1⟩ := hlead
              rw [hhd] at hc
              have hcI3 : (((S s)[k]'hk0).toNat : Int) = 48 := by injection hc with hc; rw [hc]; rfl
              have h1I : (1 : Int) < (t.length : Int) := by omega
              clear hN1 hc hhd
              go_wp2_with fail
              go_ret3
              exact ⟨by rw [HN0.out]; rfl, rfl⟩
            · rw [if_neg (by rintro (h | h | h); exact h0 h; exact h13 h; exact hlead h)] at hN1
              have HN1 := Lib.hid hN1
              have HLD : Hid (¬ (((S s)[k]'hk0 = 48) ∧ 1 < t.length)) := Lib.hid (by rintro ⟨h, g⟩; exact hlead ⟨by rw [hhd, h], g⟩)
              have HDD : Hid (∀ i, decN (t.take i) < 10 ^ 13 ∨ (t.take i).all dg = false) := Lib.hid (fun i => by
                by_cases ha : (t.take i).all dg = true
                · left
                  have hlt := decN_lt _ (t.take i) (fun c hc => by rw [List.all_eq_true] at ha; exact ha c hc) rfl
                  have : (t.take i).length ≤ 13 := by rw [List.length_take]; omega
                  exact Nat.lt_of_lt_of_le hlt (Nat.pow_le_pow_right (by decide) this)
                · right; simpa using ha)
              have h13B : decide ((13 : Int) < (t.length : Int)) = false := decide_eq_false h13I
              have h0B : decide ((t.length : Int) < 1) = false := decide_eq_false h0I
              clear hN1 hlead hhd hlt hB
              go_upto_region 7 with fail
              obtain ⟨wz, rfl⟩ : ∃ wz : World, wz = w := ⟨_, rfl⟩
              go_cut [46] (fun v46 wx => v46 = .bool false ∧ wz = wx)
              case first =>
                by_cases h1 : 1 < t.length
                · have hne : ¬ (S s)[k]'hk0 = 48 := fun e => HLD.out ⟨e, h1⟩
                  have hB := byte_beq' ((S s)[k]'hk0) 48 48 rfl hne
                  have h1I : (1 : Int) < (t.length : Int) := by omega
                  go_wp2_with fail
                  go_meet
                  exact ⟨by first | rfl | (simp; done) | (simp; omega), rfl⟩
                · have h1I : ¬ (1 : Int) < (t.length : Int) := by omega
                  have h1B : decide ((1 : Int) < (t.length : Int)) = false := decide_eq_false h1I
                  go_wp2_with fail
                  go_meet
                  exact ⟨by first | rfl | (simp; done) | (simp; omega), rfl⟩
              obtain ⟨rfl, rfl⟩ := hcut
              clear HLD
              go_wp2_with fail
              go_loop [9, 10] (fun v9 v10 => ∃ i : Nat, v10 = .int .i64 ((k : Int) + (i : Int)) ∧ v9 = .int .i64 (decN (t.take i) : Nat) ∧ i ≤ t.length ∧ Hid ((t.take i).all dg = true)) (fun _ v10 => s.length + 1 - (intOf v10).toNat)
              case atStart => exact ⟨0, by simp, rfl, Nat.zero_le _, Lib.hid rfl⟩
              case round =>
                obtain ⟨i, rfl, rfl, hi, HI⟩ := hrel
                have hbd : decN (t.take i) < 10000000000000 := by rcases HDD.out i with h | h; exact h; rw [HI.out] at h; cases h
                by_cases hil : i < t.length
                · have his : k + i < (S s).size := by rw [S_size]; omega
                  have hiI : (k : Int) + (i : Int) < (k : Int) + (t.length : Int) := by omega
                  have hiI2 : (k : Int) + (i : Int) < (s.length : Int) := by omega
                  have hti : (S s)[k + i]'his = t[i] := HAT.out i hil his
                  have htk : t.take (i + 1) = t.take i ++ [(S s)[k + i]'his] := by rw [hti]; exact List.take_succ_eq_append_getElem hil
                  have hsn : decN (t.take (i + 1)) = 10 * decN (t.take i) + (((S s)[k + i]'his).toNat - 48) := by rw [htk, decN_snoc]
                  have hal : (t.take (i + 1)).all dg = dg ((S s)[k + i]'his) := by rw [htk, List.all_append, HI.out]; simp
                  have HTI := Lib.hid hti
                  clear hti
                  by_cases hdg : dg ((S s)[k + i]'his) = true
                  · have hd2 : 48 ≤ ((S s)[k + i]'his).toNat ∧ ((S s)[k + i]'his).toNat ≤ 57 := of_decide_eq_true hdg
                    obtain ⟨c1, c2⟩ := hd2
                    have HS := Lib.hid hsn
                    have HA2 := Lib.hid (hal.trans hdg)
                    have c1I : (48 : Int) ≤ (((S s)[k + i]'his).toNat : Int) := by omega
                    have c2I : (((S s)[k + i]'his).toNat : Int) ≤ 57 := by omega
                    generalize decN (t.take i) = dv at *
                    have dI : (dv : Int) ≤ 10000000000000 := by omega
                    clear hsn hal htk hdg hbd
                    go_wp2_with fail
                    go_round
                    case rel => exact ⟨i + 1, by push_cast; congr 1 <;> omega, by rw [HS.out]; push_cast; rw [Int.ofNat_sub c1]; congr 1 <;> omega, by omega, HA2⟩
                    case measure => simp [intOf]; omega
                  · have HNX : Hid (N = (0, [], 2)) := Lib.hid (by
                      have hdf : dg ((S s)[k + i]'his) = false := by simpa using hdg
                      rw [HTI.out] at hdf
                      rw [HN1.out, if_neg]; rw [all_take_bad t i hil hdf]; decide)
                    have hd2 : ((S s)[k + i]'his).toNat < 48 ∨ 57 < ((S s)[k + i]'his).toNat := by
                      unfold dg at hdg
                      simp only [decide_eq_true_eq] at hdg
                      omega
                    clear hsn hal htk hdg hbd
                    rcases hd2 with h | h
                    · have c1I : (((S s)[k + i]'his).toNat : Int) < 48 := by omega
                      go_wp2_with fail
                      go_ret3
                      exact ⟨by rw [HNX.out]; rfl, rfl⟩
                    · have c1I : ¬ (((S s)[k + i]'his).toNat : Int) < 48 := by omega
                      have c2I : (57 : Int) < (((S s)[k + i]'his).toNat : Int) := by omega
                      go_wp2_with fail
                      go_ret3
                      exact ⟨by rw [HNX.out]; rfl, rfl⟩
                · have hii : i = t.length := by omega
                  subst hii
                  rw [List.take_length] at HI
                  have HNX : Hid (N = (decN t, d.drop 1, 0)) := Lib.hid (by rw [HN1.out, if_pos HI.out])
                  rw [List.take_length]
                  go_wp2_with fail
                  go_ret3
                  exact ⟨by rw [HNX.out]; unfold rnumV; dsimp only; rw [if_pos rfl, HRL.out]; push_cast; rfl, rfl⟩
end Go.Proofs.YtnemjfojlgjkfaaDoor
