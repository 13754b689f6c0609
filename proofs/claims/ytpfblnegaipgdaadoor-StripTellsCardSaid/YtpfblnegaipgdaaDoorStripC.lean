/- The document's Strip (boulterref26.Strip) computes the same. -/
import Derived.Test.YtpfblnegaipgdaaDoorStripA
namespace Go.Proofs.YtpfblnegaipgdaaDoor
open Go.RowKit

theorem drop_step (s : ByteArray) (k : Nat) (h : k < s.size) : s.data.toList.drop k = s[k] :: s.data.toList.drop (k + 1) := List.drop_eq_getElem_cons (by simpa using h)
def skipL (l : List UInt8) : List UInt8 := l.dropWhile (· != 47)
theorem lead_same (s : ByteArray) (k : Nat) (h : k < s.size) (hc : s[k] = 47) : leadL (s.data.toList.drop k) = leadL (s.data.toList.drop (k + 1)) := by
  rw [drop_step s k h, leadL, Lib.trimLeftB, List.dropWhile_cons, if_pos (by rw [hc]; rfl)]; rfl
theorem lead_stop (s : ByteArray) (k : Nat) (h : k < s.size) (hc : s[k] ≠ 47) : leadL (s.data.toList.drop k) = s.data.toList.drop k := by
  rw [drop_step s k h, leadL, Lib.trimLeftB, List.dropWhile_cons, if_neg (by simpa using hc)]
theorem skip_same (s : ByteArray) (k : Nat) (h : k < s.size) (hc : s[k] ≠ 47) : skipL (s.data.toList.drop k) = skipL (s.data.toList.drop (k + 1)) := by
  rw [drop_step s k h, skipL, List.dropWhile_cons, if_pos (by simpa using hc)]; rfl
theorem skip_stop (s : ByteArray) (k : Nat) (h : k < s.size) (hc : s[k] = 47) : skipL (s.data.toList.drop k) = s.data.toList.drop k := by
  rw [drop_step s k h, skipL, List.dropWhile_cons, if_neg (by simp [hc])]
theorem rest_def (l : List UInt8) : restL l = leadL (skipL (leadL l)) := rfl

theorem at_ne47 (s : ByteArray) (j : Nat) (h : j < s.size) (hc : s[j] ≠ 47) : ((s[j].toNat : Int) != 47) = true := by
  rw [bne_iff_ne]
  intro h'
  exact hc (UInt8.toNat_inj.1 (by have : s[j].toNat = 47 := by omega
                                  rw [this]; rfl))

set_option maxRecDepth 100000 in
set_option maxHeartbeats 4000000 in
theorem rStrip_any (s : ByteArray) (n : Int) (hs : s.size ≤ 1000000) (hn : n ≤ 400) (w : World) :
    Calls Tryd.prog 28 #[.string s, .int .i64 n] w fun e w' => e = .returned (stripV s.data.toList n) ∧ w' = w := by
  by_cases h0 : n < 0
  · have HV := Lib.hid (show stripV s.data.toList n = .tuple #[.string (S []), .bool false] by unfold stripV; rw [if_pos h0])
    go_enter Tryd.func28, Tryd.ntmps28
    go_wp2_with fail
    go_ret2
    exact ⟨by rw [HV.out]; rfl, rfl⟩
  obtain ⟨m, rfl⟩ : ∃ m : Nat, n = m := ⟨n.toNat, by omega⟩
  have HV := Lib.hid (show stripV s.data.toList m = .tuple #[.string (S (stripL m s.data.toList)), .bool (!(stripL m s.data.toList).isEmpty)] by unfold stripV; rw [if_neg h0, Int.toNat_natCast])
  go_enter Tryd.func28, Tryd.ntmps28
  go_wp2
  go_loopw [6, 7] (fun i' k' wr => wr = w ∧ ∃ (i k : Nat), i' = .int .i64 i ∧ k' = .int .i64 k ∧ i ≤ s.size ∧ k ≤ m ∧ stripL (m - k) (s.data.toList.drop i) = stripL m s.data.toList) (fun _ k' _ => m - (intOf k').toNat)
  case atStart => exact ⟨rfl, 0, 0, rfl, rfl, Nat.zero_le _, Nat.zero_le _, rfl⟩
  case round =>
    obtain ⟨rfl, i, k, rfl, rfl, hi, hk, he⟩ := hrel
    have HE := Lib.hid he
    clear he
    by_cases hkm : k < m
    · go_wp2_with fail
      go_loopw [6] (fun i' wr' => wr' = wr ∧ ∃ j : Nat, i' = .int .i64 j ∧ j ≤ s.size ∧ leadL (s.data.toList.drop j) = leadL (s.data.toList.drop i)) (fun i' _ => s.size - (intOf i').toNat)
      case atStart => exact ⟨rfl, i, rfl, hi, rfl⟩
      case round =>
        obtain ⟨rfl, j, rfl, hj, hl⟩ := hrel
        by_cases hlt : j < s.size
        · have hby := s[j].toNat_lt
          by_cases hc : s[j] = 47
          · have hl2 := Lib.hid ((lead_same s j hlt hc).symm.trans hl)
            have hx : ((s[j].toNat : Int) == 47) = true := by rw [hc]; rfl
            clear hc hl
            go_wp2_with fail
            go_roundw
            case rel => exact ⟨by first | rfl | trivial, j + 1, by go_num, by omega, hl2.out⟩
            case measure => simp [intOf]; omega
          · have hl1 := Lib.hid ((lead_stop s j hlt hc).symm.trans hl)
            have hx : ((s[j].toNat : Int) == 47) = false := by
              rw [beq_eq_false_iff_ne]
              intro h
              exact hc (UInt8.toNat_inj.1 (by have : s[j].toNat = 47 := by omega
                                              rw [this]; rfl))
            have hjne : ((j : Int) == s.size) = false := by rw [beq_eq_false_iff_ne]; omega
            clear hc hl
            go_wp2_with fail
            go_loopw [6] (fun i' wr' => wr' = wr ∧ ∃ q : Nat, i' = .int .i64 q ∧ q ≤ s.size ∧ skipL (s.data.toList.drop q) = skipL (s.data.toList.drop j)) (fun i' _ => s.size - (intOf i').toNat)
            case atStart => exact ⟨rfl, j, rfl, hj, rfl⟩
            case round =>
              clear hx hjne hby
              have hlt0 := hlt
              obtain ⟨rfl, q, rfl, hq, hsk⟩ := hrel
              by_cases hst : ∃ h : q < s.size, s[q] ≠ 47
              · obtain ⟨hlt, hc⟩ := hst
                have hby := s[q].toNat_lt
                have hx := at_ne47 s q hlt hc
                have hs2 := Lib.hid ((skip_same s q hlt hc).symm.trans hsk)
                clear hc hsk
                go_wp2_with fail
                go_roundw
                case rel => exact ⟨by first | rfl | trivial, q + 1, by go_num, by omega, hs2.out⟩
                case measure => simp [intOf]; omega
              · have hq2 : s.data.toList.drop q = skipL (s.data.toList.drop j) := by
                  rw [← hsk]
                  by_cases hlt : q < s.size
                  · exact (skip_stop s q hlt (Classical.byContradiction fun h => hst ⟨hlt, h⟩)).symm
                  · rw [List.drop_of_length_le (by simpa using hlt)]; rfl
                have HQ2 := Lib.hid hq2
                have hor : s.size ≤ q ∨ ∃ h : q < s.size, ((s[q].toNat : Int) != 47) = false := by
                  by_cases hlt : q < s.size
                  · refine .inr ⟨hlt, ?_⟩
                    have : s[q] = 47 := Classical.byContradiction fun h => hst ⟨hlt, h⟩
                    rw [this]; rfl
                  · exact .inl (by omega)
                clear hst hsk hq2
                rcases hor with hge | ⟨hlt2, hx2⟩
                all_goals
                  go_wp2_with fail
                  go_loopw [6] (fun i' wr' => wr' = wr ∧ ∃ p : Nat, i' = .int .i64 p ∧ p ≤ s.size ∧ leadL (s.data.toList.drop p) = leadL (s.data.toList.drop q)) (fun i' _ => s.size - (intOf i').toNat)
                  case atStart => exact ⟨rfl, q, rfl, hq, rfl⟩
                  case round =>
                    obtain ⟨rfl, p, rfl, hp, hld⟩ := hrel
                    by_cases hst : ∃ h : p < s.size, s[p] = 47
                    · obtain ⟨hlt, hc⟩ := hst
                      have hby := s[p].toNat_lt
                      have hx : ((s[p].toNat : Int) == 47) = true := by rw [hc]; rfl
                      have hs3 := Lib.hid ((lead_same s p hlt hc).symm.trans hld)
                      clear hc hld
                      go_wp2_with fail
                      go_roundw
                      case rel => exact ⟨by first | rfl | trivial, p + 1, by go_num, by omega, hs3.out⟩
                      case measure => simp [intOf]; omega
                    · have hp2 : s.data.toList.drop p = leadL (s.data.toList.drop q) := by
                        rw [← hld]
                        by_cases hlt : p < s.size
                        · exact (lead_stop s p hlt (fun h => hst ⟨hlt, h⟩)).symm
                        · rw [List.drop_of_length_le (by simpa using hlt)]; rfl
                      have hnew : stripL (m - (k + 1)) (s.data.toList.drop p) = stripL m s.data.toList := by
                        rw [hp2, HQ2.out, hl1.out, ← rest_def, ← HE.out, show m - k = (m - (k + 1)) + 1 by omega, stripL]
                      have HNEW := Lib.hid hnew
                      have hor : s.size ≤ p ∨ ∃ h : p < s.size, ((s[p].toNat : Int) == 47) = false := by
                        by_cases hlt : p < s.size
                        · refine .inr ⟨hlt, ?_⟩
                          have := at_ne47 s p hlt (fun h => hst ⟨hlt, h⟩)
                          simpa using this
                        · exact .inl (by omega)
                      clear hst hld hp2 hnew
                      rcases hor with hge | ⟨hlt3, hx3⟩
                      all_goals
                        go_wp2_with fail
                        go_roundw
                        case rel => exact ⟨by first | rfl | trivial, p, k + 1, by go_num, by go_num, hp, by omega, HNEW.out⟩
                        case measure => simp [intOf]; omega
        · obtain rfl : j = s.size := by omega
          have hnil : stripL m s.data.toList = [] := by
            rw [← HE.out]
            obtain ⟨d, hd⟩ : ∃ d, m - k = d + 1 := ⟨m - k - 1, by omega⟩
            rw [hd, stripL, rest_def, ← hl, List.drop_of_length_le (by simp)]
            exact strip_nil d
          have HNIL := Lib.hid hnil
          clear hnil hl
          go_wp2_with fail
          go_ret2
          exact ⟨by rw [HV.out, HNIL.out]; rfl, rfl⟩
    · obtain rfl : k = m := by omega
      rw [Nat.sub_self, stripL] at HE
      have hx : s.extract i s.size = S (s.data.toList.drop i) := by
        have := strip_ext s.data.toList i
        rw [← S_eta] at this
        rw [← this]; rfl
      have he : (s.data.toList.drop i).isEmpty = !decide (i < s.size) := by
        by_cases h : i < s.size
        · rw [drop_step s i h]; simp [h]
        · rw [List.drop_of_length_le (by simpa using h)]; simp [h]
      have HX := Lib.hid hx
      have HEE := Lib.hid he
      clear hx he
      go_wp2_with fail
      go_ret2
      exact ⟨by rw [HV.out, ← HE.out, HEE.out, Bool.not_not, ← HX.out]; rfl, rfl⟩
end Go.Proofs.YtpfblnegaipgdaaDoor
