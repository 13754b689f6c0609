/- boulterref06.Parse, walked. -/
import Derived.Test.YtjoalambgckchaaDoorRecJ
import Derived.Deep.CutBlock
namespace Go.Proofs.YtjoalambgckchaaDoor
open Go.RowKit Go.Lib

set_option maxRecDepth 100000 in
set_option maxHeartbeats 4000000 in
theorem rParse06_any (s : List UInt8) (hs : s.length ≤ 65536) (w : World) :
    Calls Tryd.prog 16 #[.string (S s)] w fun e w' => (∃ v, e = .returned (.tuple #[v, .int .i64 ((parseF (s.length + 1) s []).2 : Nat)]) ∧ OwnP w' w.heap.size v (parseF (s.length + 1) s []).1) ∧ Below w.heap.size w w' := by
  go_enter Tryd.func16, Tryd.ntmps16
  go_wp2_with fail
  go_loopw [4, 5] (fun o i wr => ∃ (at_ : Nat) (out : List PR), i = .int .i64 at_ ∧ at_ ≤ s.length ∧ RpInv w s at_ out o wr) (fun _ i _ => s.length + 1 - (RowKit.intOf i).toNat)
  case atStart => exact ⟨0, [], rfl, by omega, ⟨_, Nat.lt_succ_self _, by rw [List.drop_zero]⟩, by simp, OwnP.lit0 w, (Below.refl _ _).alloc (Nat.le_refl _) _⟩
  case round =>
    obtain ⟨at_, out, rfl, hat, hI⟩ := hrel
    obtain ⟨⟨f, hf, hR⟩, houts, hO, hB⟩ := hI
    obtain ⟨f, rfl⟩ : ∃ g, f = g + 1 := ⟨f - 1, by omega⟩
    have hsz := hB.size
    obtain ⟨a4, c4, e4⟩ := hO.shape
    subst e4
    have hql : (s.drop at_).length = s.length - at_ := List.length_drop
    by_cases hlt : at_ < s.length
    · have hqne : s.drop at_ ≠ [] := fun e => by rw [e] at hql; simp at hql; omega
      by_cases h1 : out.length = 256
      · have HR := Lib.hid (show ([], 8) = parseF (s.length + 1) s [] by rw [← hR, parseF, if_neg hqne, if_pos h1])
        have hb : ((out.length : Int) == 256) = true := by rw [h1]; rfl
        clear hR hqne hql h1
        go_wp2_with fail
        go_ret2
        exact ⟨⟨.slice none 0 0, by rw [← HR.out]; rfl, by rw [← HR.out]; exact OwnR.nil _ _ _ _ _⟩, hB⟩
      · have hb : ((out.length : Int) == 256) = false := by rw [beq_eq_false_iff_ne]; omega
        have hlk : out.length < 256 := by omega
        have HR := Lib.hid hR
        have HNE := Lib.hid hqne
        have H1 := Lib.hid h1
        clear hR hqne h1
        go_upto_block 2 with fail
        go_cut [6, 7] (fun n v wx => n = .int .i64 ((at_ : Int) + (preD 7 (s.drop at_) : Nat)) ∧ v = .int .i64 (decN ((s.drop at_).take (preD 7 (s.drop at_)))) ∧ wx = wr)
        case first =>
          go_wp2_with fail
          go_loop [6, 7] (fun i v => ∃ k : Nat, k ≤ 7 ∧ at_ + k ≤ s.length ∧ i = .int .i64 ((at_ : Int) + (k : Int)) ∧ v = .int .i64 (decN ((s.drop at_).take k)) ∧ (∀ j, j < k → ∃ c, (s.drop at_)[j]? = some c ∧ dg c = true)) (fun i _ => at_ + 7 - (RowKit.intOf i).toNat)
          case atStart => exact ⟨0, by omega, by omega, by simp, rfl, fun j hj => absurd hj (Nat.not_lt_zero _)⟩
          case round =>
            obtain ⟨k, hk7, hk, rfl, rfl, hj⟩ := hrel
            by_cases hgo : at_ + k < s.length ∧ k < 7
            · obtain ⟨hlt2, hlt7⟩ := hgo
              have hget := getD_S s at_ k hlt2
              by_cases hd : dg ((S s)[at_ + k]'(by rw [S_size]; exact hlt2)) = true
              · have hdd := (dg_iff _).1 hd
                have hJ : ∀ j, j < k + 1 → ∃ c, (s.drop at_)[j]? = some c ∧ dg c = true := by
                  intro j hjk
                  by_cases e : j = k
                  · subst e; exact ⟨_, hget, hd⟩
                  · exact hj j (by omega)
                have HJ := Lib.hid hJ
                have HS := Lib.hid (show decN ((s.drop at_).take (k + 1)) = 10 * decN ((s.drop at_).take k) + (((S s)[at_ + k]'(by rw [S_size]; exact hlt2)).toNat - 48) by
                  rw [take_drop_snoc s at_ k hlt2, decN_snoc])
                have hbd := decN_lt k ((s.drop at_).take k) (fun c hc => by
                  obtain ⟨i, hi, e⟩ := List.getElem_of_mem hc
                  rw [List.length_take] at hi
                  obtain ⟨c', hc', hd'⟩ := hj i (by omega)
                  rw [List.getElem_take] at e
                  rw [List.getElem?_eq_getElem (by omega)] at hc'
                  rw [← e, Option.some.inj hc']; exact hd') (by rw [List.length_take]; omega)
                have hp : 10 ^ k ≤ 10 ^ 7 := Nat.pow_le_pow_right (by decide) hk7
                have hb2 : decN ((s.drop at_).take k) ≤ 10000000 := by omega
                clear hj hJ hget hbd hp hd hql
                generalize decN ((s.drop at_).take k) = dv at *
                go_wp2
                go_round
                case rel => exact ⟨k + 1, by omega, by omega, by go_num, by rw [HS.out]; go_num, HJ.out⟩
                case measure => simp [RowKit.intOf]; omega
              · have hdn : dg ((S s)[at_ + k]'(by rw [S_size]; exact hlt2)) = false := by simpa using hd
                have HP := Lib.hid (preD_eq 7 k (s.drop at_) hj hk7 (.inr (.inr ⟨_, hget, hdn⟩)))
                have hdd := (dg_not _).1 hdn
                clear hd hdn hj hget hql
                rcases hdd with hdd | hdd
                all_goals
                  go_wp2
                  go_meet
                  case rel => exact ⟨by rw [HP.out], by rw [HP.out], rfl⟩
            · have HP := Lib.hid (preD_eq 7 k (s.drop at_) hj (by omega) (by
                by_cases h7 : k = 7
                · exact .inl h7
                · exact .inr (.inl (List.getElem?_eq_none (by omega)))))
              clear hj hql
              by_cases h7 : k < 7
              · have : ¬ at_ + k < s.length := by omega
                clear hgo
                go_wp2
                go_meet
                case rel => exact ⟨by rw [HP.out], by rw [HP.out], rfl⟩
              · clear hgo
                go_wp2
                all_goals
                  go_meet
                  case rel => exact ⟨by rw [HP.out], by rw [HP.out], rfl⟩
        case rest =>
          obtain ⟨e6, e7, rfl⟩ := hcut
          subst e6 e7
          have hq := preD_spec 7 (s.drop at_)
          have hp7 := hq.1
          have hpl := hq.2.1
          rw [hql] at hpl
          have hav : decN ((s.drop at_).take (preD 7 (s.drop at_))) ≤ 10000000 := by
            have h1 := decN_lt (preD 7 (s.drop at_)) ((s.drop at_).take (preD 7 (s.drop at_))) hq.2.2.1 (by rw [List.length_take]; omega)
            have h2 : 10 ^ preD 7 (s.drop at_) ≤ 10 ^ 7 := Nat.pow_le_pow_right (by decide) hp7
            omega
          have hh := headD_S s at_ hlt
          have HC := Lib.hid (fun h2 => count_ok (s.drop at_) h2)
          clear hq
          generalize hgp : preD 7 (s.drop at_) = n at *
          have HP := Lib.hid hgp
          generalize hgv : decN ((s.drop at_).take n) = v at *
          have HV := Lib.hid hgv
          clear hgp hgv
          by_cases hA1 : n = 0
          · subst hA1
            have hR' := Lib.hid (parse_no f (s.drop at_) out _ HR.out HNE.out H1.out (by rw [cnt_no _ 0 HP.out (.inl rfl)]))
            clear HC
            clear hh hpl hp7
            go_wp2_with fail
            go_ret2
            exact ⟨⟨.slice none 0 0, by rw [← hR'.out]; rfl, by rw [← hR'.out]; exact OwnR.nil _ _ _ _ _⟩, hB⟩
          have b1 : ((at_ : Int) + (n : Int) == (at_ : Int)) = false := by rw [beq_eq_false_iff_ne]; omega
          by_cases hA2 : 6 < n
          · skip
            have hR' := Lib.hid (parse_no f (s.drop at_) out _ HR.out HNE.out H1.out (by rw [cnt_no _ n HP.out (.inr (.inl hA2))]))
            clear HC
            clear hh
            go_wp2_with fail
            go_ret2
            exact ⟨⟨.slice none 0 0, by rw [← hR'.out]; rfl, by rw [← hR'.out]; exact OwnR.nil _ _ _ _ _⟩, hB⟩
          by_cases hA3 : (S s)[at_]'(by rw [S_size]; exact hlt) = 48
          · have b3 := byte_beq _ 48 48 rfl hA3
            have hR' := Lib.hid (parse_no f (s.drop at_) out _ HR.out HNE.out H1.out (by rw [cnt_no _ n HP.out (.inr (.inr (.inl (by rw [hh, hA3]))))]))
            clear HC
            clear hh hA3
            go_wp2_with fail
            go_ret2
            exact ⟨⟨.slice none 0 0, by rw [← hR'.out]; rfl, by rw [← hR'.out]; exact OwnR.nil _ _ _ _ _⟩, hB⟩
          have b3 := byte_beq' _ 48 48 rfl hA3
          have HH := Lib.hid (show (s.drop at_).head? ≠ some 48 from fun e => hA3 (by rw [hh] at e; exact Option.some.inj e))
          clear hh hA3
          by_cases hA4 : at_ + n = s.length
          · have b4 : ((at_ : Int) + (n : Int) == (s.length : Int)) = true := by rw [beq_iff_eq]; omega
            have hge : s.length ≤ at_ + n := by omega
            have hR' := Lib.hid (parse_no f (s.drop at_) out _ HR.out HNE.out H1.out (by rw [cnt_no _ n HP.out (.inr (.inr (.inr (by rw [List.getElem?_eq_none (by rw [hql]; omega)]; simp))))]))
            clear HC
            clear hA4
            go_wp2_with fail
            go_ret2
            exact ⟨⟨.slice none 0 0, by rw [← hR'.out]; rfl, by rw [← hR'.out]; exact OwnR.nil _ _ _ _ _⟩, hB⟩
          have b4 : ((at_ : Int) + (n : Int) == (s.length : Int)) = false := by rw [beq_eq_false_iff_ne]; omega
          have hln : at_ + n < s.length := by omega
          have hgn := getD_S s at_ n hln
          clear hA4
          by_cases hA5 : (S s)[at_ + n]'(by rw [S_size]; exact hln) = 32
          · have b5 := byte_bne' _ 32 32 rfl hA5
            have hcq : countF (s.drop at_) = (v, n) := by
              rw [cnt_yes _ n HP.out hA1 hA2 HH.out (by rw [hgn, hA5]), HV.out]
            obtain ⟨-, -, -, -, -, c6, c7⟩ := HC.out (by rw [hcq]; exact hA1)
            rw [hcq] at c6 c7
            have c6 : 1 ≤ v := c6
            have c7 : v < 1000000 := c7
            have HQ := Lib.hid hcq
            clear hgn hA5 hcq HC HH HP HV
            by_cases hB1 : s.length - at_ < v
            · have hR' := Lib.hid (parse_short f (s.drop at_) out _ HR.out HNE.out H1.out v n HQ.out hA1 (by rw [hql]; exact hB1))
              clear hql
              go_wp2_with fail
              go_ret2
              exact ⟨⟨.slice none 0 0, by rw [← hR'.out]; rfl, by rw [← hR'.out]; exact OwnR.nil _ _ _ _ _⟩, hB⟩
            obtain ⟨m, rfl⟩ : ∃ m, v = m + 1 := ⟨v - 1, by omega⟩
            have hml : at_ + m < s.length := by omega
            have hgm := getD_S s at_ m hml
            have hcast : ((m + 1 : Nat) : Int) = (m : Int) + 1 := by push_cast; rfl
            have hx : (at_ : Int) + ((m : Int) + 1) - 1 = (at_ : Int) + (m : Int) := by omega
            rw [hcast]
            by_cases hB2 : m ≤ n
            · have hR' := Lib.hid (parse_bad f (s.drop at_) out _ HR.out HNE.out H1.out (m + 1) n HQ.out hA1 (by rw [hql]; exact hB1) (oneF_none _ m n (by rw [hql]; omega) (.inl hB2)))
              clear hgm hql hcast
              go_wp2_with fail
              go_ret2
              exact ⟨⟨.slice none 0 0, by rw [← hR'.out]; rfl, by rw [← hR'.out]; exact OwnR.nil _ _ _ _ _⟩, hB⟩
            by_cases hB3 : (S s)[at_ + m]'(by rw [S_size]; exact hml) = 10
            · have b6 := byte_bne' _ 10 10 rfl hB3
              have hos := oneF_split (s.drop at_) m n (by rw [hql]; omega) (by omega) (by rw [hgm, hB3])
              rw [split_cut] at hos
              have hbl := part_len s at_ n m hml
              have hbg := fun i hi => part_get s at_ n m i hml hi
              have E1 := Lib.hid (fun j hj => part_ext1 s at_ n m j hj)
              have E2 := Lib.hid (fun j => part_ext2 s at_ n m j)
              generalize hgb : ((s.drop at_).take m).drop (n + 1) = b at *
              clear hgb hgm hB3 hcast
              have HO := Lib.hid hos
              have HG := Lib.hid hbg
              clear hos hbg
              have HNS := Lib.hid (show ¬ (s.drop at_).length < m + 1 by rw [hql]; exact hB1)
              clear hql
              go_upto_block 4 with fail
              go_cut [9] (fun x wx => x = .int .i64 ((at_ : Int) + (n : Int) + 1 + ((twC 61 b).length : Nat)) ∧ wx = wc)
              case first =>
                go_wp2_with fail
                go_loop [9] (fun x => ∃ j : Nat, j ≤ b.length ∧ x = .int .i64 ((at_ : Int) + (n : Int) + 1 + (j : Int)) ∧ (∀ i (h : i < b.length), i < j → b[i] ≠ 61)) (fun x => at_ + m + 1 - (RowKit.intOf x).toNat)
                case atStart => exact ⟨0, by omega, by simp, fun i _ h => absurd h (Nat.not_lt_zero _)⟩
                case round =>
                  obtain ⟨j, hj, rfl, hno⟩ := hrel
                  by_cases hjb : j < b.length
                  · have hlt9 : at_ + n + 1 + j < s.length := by omega
                    have hgj := HG.out j (by omega)
                    have hbj : b[j] = (S s)[at_ + n + 1 + j]'(by rw [S_size]; exact hlt9) := by
                      rw [List.getElem?_eq_getElem hjb] at hgj; exact Option.some.inj hgj
                    by_cases h61 : (S s)[at_ + n + 1 + j]'(by rw [S_size]; exact hlt9) = 61
                    · have b7 := byte_bne' _ 61 61 rfl h61
                      have HT := Lib.hid (show ((twC 61 b).length : Nat) = j by
                        rw [(tw_at b j hj (fun i h1 h2 => hno i h1 h2) (.inr ⟨hjb, by rw [hbj, h61]⟩)).1, List.length_take]; omega)
                      clear hgj hbj h61 hno
                      go_wp2
                      go_meet
                      case rel => exact ⟨by rw [HT.out], rfl⟩
                    · have b7 := byte_bne _ 61 61 rfl h61
                      have HX := Lib.hid (show ∀ i (h : i < b.length), i < j + 1 → b[i] ≠ 61 from fun i h1 h2 => by
                        rcases Nat.lt_or_ge i j with x | x
                        · exact hno i h1 x
                        · have : i = j := by omega
                          subst this; rw [hbj]; exact h61)
                      clear hgj hbj h61 hno
                      go_wp2
                      go_round
                      case rel => exact ⟨j + 1, by omega, by go_num, HX.out⟩
                      case measure => simp [RowKit.intOf]; omega
                  · have hge : m ≤ n + 1 + j := by omega
                    have HT := Lib.hid (show ((twC 61 b).length : Nat) = j by
                      rw [(tw_at b j hj (fun i h1 h2 => hno i h1 h2) (.inl (by omega))).1, List.length_take]; omega)
                    clear hno hjb
                    go_wp2
                    go_meet
                    case rel => exact ⟨by rw [HT.out], rfl⟩
              case rest =>
                obtain ⟨e9, rfl⟩ := hcut
                subst e9
                obtain ⟨t1, t2, t3⟩ := tw_take 61 b
                have ho := HO.out
                clear HO HG
                generalize (twC 61 b).length = j at *
                rw [t1, t2, List.drop_drop] at ho
                clear t1 t2
                by_cases hC1 : j = b.length
                · have hbe : (b.drop j).isEmpty = true := by rw [hC1, List.drop_length]; rfl
                  have hR' := Lib.hid (parse_bad f (s.drop at_) out _ HR.out HNE.out H1.out (m + 1) n HQ.out hA1 HNS.out (ho.trans (if_neg (by rw [hbe]; rintro ⟨g, _⟩; cases g))))
                  have b8 : ((at_ : Int) + (n : Int) + 1 + (j : Int) == (at_ : Int) + (m : Int)) = true := by rw [beq_iff_eq]; omega
                  clear ho hbe hC1
                  go_wp2_with fail
                  go_ret2
                  exact ⟨⟨.slice none 0 0, by rw [← hR'.out]; rfl, by rw [← hR'.out]; exact OwnR.nil _ _ _ _ _⟩, hB⟩
                have b8 : ((at_ : Int) + (n : Int) + 1 + (j : Int) == (at_ : Int) + (m : Int)) = false := by rw [beq_eq_false_iff_ne]; omega
                by_cases hC2 : j = 0
                · have hbe : (b.take j).isEmpty = true := by rw [hC2]; rfl
                  have hR' := Lib.hid (parse_bad f (s.drop at_) out _ HR.out HNE.out H1.out (m + 1) n HQ.out hA1 HNS.out (ho.trans (if_neg (by rw [hbe]; rintro ⟨_, g⟩; cases g))))
                  have b9 : ((at_ : Int) + (n : Int) + 1 + (j : Int) == (at_ : Int) + (n : Int) + 1) = true := by rw [beq_iff_eq]; omega
                  clear ho hbe hC2
                  go_wp2_with fail
                  go_ret2
                  exact ⟨⟨.slice none 0 0, by rw [← hR'.out]; rfl, by rw [← hR'.out]; exact OwnR.nil _ _ _ _ _⟩, hB⟩
                have b9 : ((at_ : Int) + (n : Int) + 1 + (j : Int) == (at_ : Int) + (n : Int) + 1) = false := by rw [beq_eq_false_iff_ne]; omega
                have hne1 : (b.drop j).isEmpty = false := by
                  cases h : b.drop j with
                  | nil => have := congrArg List.length h; rw [List.length_drop] at this; simp only [List.length_nil] at this; omega
                  | cons => rfl
                have hne2 : (b.take j).isEmpty = false := by
                  cases h : b.take j with
                  | nil => have := congrArg List.length h; rw [List.length_take] at this; simp only [List.length_nil] at this; omega
                  | cons => rfl
                have hR' := Lib.hid (parse_on f (s.drop at_) out _ HR.out HNE.out H1.out (m + 1) n HQ.out hA1 HNS.out _ (ho.trans (if_pos ⟨hne1, hne2⟩)))
                have e1 : (S s).extract ((at_ : Int) + (n : Int) + 1).toNat ((at_ : Int) + (n : Int) + 1 + (j : Int)).toNat = S (b.take j) := by
                  rw [show ((at_ : Int) + (n : Int) + 1).toNat = at_ + n + 1 by omega, show ((at_ : Int) + (n : Int) + 1 + (j : Int)).toNat = at_ + n + 1 + j by omega]
                  exact E1.out j (by omega)
                have e2 : (S s).extract ((at_ : Int) + (n : Int) + 1 + (j : Int) + 1).toNat ((at_ : Int) + (m : Int)).toNat = S (b.drop (j + 1)) := by
                  rw [show ((at_ : Int) + (n : Int) + 1 + (j : Int) + 1).toNat = at_ + n + 1 + j + 1 by omega, show ((at_ : Int) + (m : Int)).toNat = at_ + m by omega]
                  exact E2.out j
                have z1 : (0 : Int) ≤ (at_ : Int) + (n : Int) + 1 := by omega
                have z2 : (at_ : Int) + (n : Int) + 1 ≤ (at_ : Int) + (n : Int) + 1 + (j : Int) := by omega
                have z0 : (0 : Int) ≤ (at_ : Int) + (n : Int) + 1 + (j : Int) := by omega
                have z7 : (0 : Int) ≤ (at_ : Int) + (m : Int) := by omega
                have y1 : IntKind.i64.wrap ((at_ : Int) + (n : Int) + 1) = (at_ : Int) + (n : Int) + 1 := IntWalk.i64_in _ (by omega)
                have y2 : IntKind.i64.wrap ((at_ : Int) + (n : Int) + 1 + (j : Int) + 1) = (at_ : Int) + (n : Int) + 1 + (j : Int) + 1 := IntWalk.i64_in _ (by omega)
                have z3 : (at_ : Int) + (n : Int) + 1 + (j : Int) ≤ (s.length : Int) := by omega
                have z4 : (0 : Int) ≤ (at_ : Int) + (n : Int) + 1 + (j : Int) + 1 := by omega
                have z5 : (at_ : Int) + (n : Int) + 1 + (j : Int) + 1 ≤ (at_ : Int) + (m : Int) := by omega
                have z6 : (at_ : Int) + (m : Int) ≤ (s.length : Int) := by omega
                clear ho hne1 hne2 E1 E2 hC1 hC2
                generalize b.take j = kk at *
                generalize b.drop (j + 1) = vv at *
                go_upto_region 25 with fail
                go_region_law (refine step_app_pair rfl (.tmp 122) (.tmp 134) rfl w.heap.size _ out (kk, vv) rfl (hO.alloc _) wc.heap.size rfl (by simp) (by simp) (by omega) (by simp; omega) ?_; intro v3 w3 hO3 hb3)
                clear z0 z1 z2 z3 z4 z5 z6 z7 y1 y2 e1 e2
                have hB3 : Below w.heap.size w w3 := (Below.drew (hB.alloc hsz _)).trans hb3
                have hfl : (s.drop at_).length = s.length - at_ := List.length_drop
                rw [List.drop_drop] at hR'
                go_wp2_with fail
                go_roundw
                case rel => exact ⟨at_ + (m + 1), out ++ [(kk, vv)], by go_num, by omega, ⟨⟨f, by rw [List.length_drop]; omega, hR'.out⟩, by rw [List.length_append, List.length_singleton]; omega, hO3, hB3⟩⟩
                case measure => simp [RowKit.intOf]; omega
            · have b6 := byte_bne _ 10 10 rfl hB3
              have hR' := Lib.hid (parse_bad f (s.drop at_) out _ HR.out HNE.out H1.out (m + 1) n HQ.out hA1 (by rw [hql]; exact hB1) (oneF_none _ m n (by rw [hql]; omega) (.inr (fun e => hB3 (by rw [hgm] at e; exact Option.some.inj e)))))
              clear hgm hql hcast hB3
              go_wp2_with fail
              go_ret2
              exact ⟨⟨.slice none 0 0, by rw [← hR'.out]; rfl, by rw [← hR'.out]; exact OwnR.nil _ _ _ _ _⟩, hB⟩
          · have b5 := byte_bne _ 32 32 rfl hA5
            have HN := Lib.hid (show (s.drop at_)[n]? ≠ some 32 from fun e => hA5 (by rw [hgn] at e; exact Option.some.inj e))
            have hR' := Lib.hid (parse_no f (s.drop at_) out _ HR.out HNE.out H1.out (by rw [cnt_no _ n HP.out (.inr (.inr (.inr HN.out)))]))
            clear HC
            clear hgn hA5
            go_wp2_with fail
            go_ret2
            exact ⟨⟨.slice none 0 0, by rw [← hR'.out]; rfl, by rw [← hR'.out]; exact OwnR.nil _ _ _ _ _⟩, hB⟩
    · have : at_ = s.length := by omega
      subst this
      have HR := Lib.hid (show (out, 0) = parseF (s.length + 1) s [] by rw [← hR, List.drop_length, parseF, if_pos rfl])
      clear hR hql
      go_wp2_with fail
      go_ret2
      exact ⟨⟨_, by rw [← HR.out]; rfl, by rw [← HR.out]; exact hO⟩, hB⟩
end Go.Proofs.YtjoalambgckchaaDoor
