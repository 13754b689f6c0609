import Derived.Test.YtpfblnegaipgdaaDoorNetE
import Derived.Deep.CutBlock
namespace Go.Proofs.YtpfblnegaipgdaaDoor
open Go.RowKit Go.Lib

theorem OwnS.lit0 (w : World) : OwnS (w.alloc (.cells #[] 9)) w.heap.size (.slice (some ⟨w.heap.size, 0, none⟩) 0 0) [] :=
  World.ownsRow_lit (base := w.heap.size) (e := 9) (size := 1) w #[] 0 (Nat.le_refl _) (by unfold maxLen; omega) rfl
theorem getD_S (s : List UInt8) (k j : Nat) (h : k + j < s.length) : (s.drop k)[j]? = some ((S s)[k + j]'(by rw [S_size]; exact h)) := by
  rw [List.getElem?_drop]; exact getS s (k + j) h
theorem headD_S (s : List UInt8) (k : Nat) (h : k < s.length) : (s.drop k).head? = some ((S s)[k]'(by rw [S_size]; exact h)) := by
  rw [List.head?_eq_getElem?, List.getElem?_drop]; exact getS s k h
theorem lenF_digits (q : List UInt8) : AllDg (q.take (preD 7 q)) := (preD_spec 7 q).2.2.1
def atF (n : Nat) (R : List (List UInt8) × List UInt8 × Nat) : Nat := if R.2.2 = 0 then n - R.2.1.length else 0
def takeR (s : List UInt8) : List (List UInt8) × List UInt8 × Nat := takeF (s.length + 1) s 0 []
structure RtInv (w : World) (s : List UInt8) (fr at_ : Nat) (out : List (List UInt8)) (v : Value) (wr : World) : Prop where
  fuel : ∃ f, (s.drop at_).length < f ∧ takeF f (s.drop at_) (at_ - fr) out = takeR (s.drop fr)
  lo : fr ≤ at_
  all_le : at_ - fr ≤ 8192
  outs : 2 * out.length ≤ at_ - fr
  own : OwnS wr w.heap.size v out
  below : Below w.heap.size w wr

set_option maxRecDepth 100000 in
set_option maxHeartbeats 4000000 in
theorem rTake_any (s : List UInt8) (fr : Nat) (hs : s.length ≤ 100000) (hfr : fr ≤ s.length) (w : World) :
    Calls Tryd.prog 18 #[.string (S s), .int .i64 fr] w fun e w' => (∃ v, e = .returned (.tuple #[v, .int .i64 (atF s.length (takeR (s.drop fr)) : Nat), .int .i64 ((takeR (s.drop fr)).2.2 : Nat)]) ∧ OwnS w' w.heap.size v (takeR (s.drop fr)).1) ∧ Below w.heap.size w w' := by
  go_enter Tryd.func18, Tryd.ntmps18
  go_wp2_with fail
  go_loopw [7, 8] (fun o i wr => ∃ (at_ : Nat) (out : List (List UInt8)), i = .int .i64 at_ ∧ at_ ≤ s.length ∧ RtInv w s fr at_ out o wr) (fun _ i _ => s.length + 1 - (intOf i).toNat)
  case atStart => exact ⟨fr, [], rfl, hfr, ⟨_, Nat.lt_succ_self _, by rw [Nat.sub_self]; rfl⟩, by omega, by omega, by simp, OwnS.lit0 w, (Below.refl _ _).alloc (Nat.le_refl _) _⟩
  case round =>
    obtain ⟨at_, out, rfl, hat, hI⟩ := hrel
    obtain ⟨⟨f, hf, hR⟩, hlo, hall, houts, hO, hB⟩ := hI
    obtain ⟨f, rfl⟩ : ∃ g, f = g + 1 := ⟨f - 1, by omega⟩
    have hsz := hB.size
    by_cases hlt : at_ < s.length
    · have hd17 : decide (s.length ≤ at_) = false := decide_eq_false (by omega)
      have hh := headD_S s at_ hlt
      by_cases hnl : (((S s)[at_]'(by rw [S_size]; exact hlt)).toNat : Int) = 10
      · have hb : ((((S s)[at_]'(by rw [S_size]; exact hlt)).toNat : Int) == 10) = true := beq_iff_eq.2 hnl
        have hR' := Lib.hid ((takeF_nl f (s.drop at_) (at_ - fr) out (by rw [hh, ← byteI_of ((S s)[at_]'(by rw [S_size]; exact hlt)), hnl]; rfl)).symm.trans hR)
        clear hR hnl hh
        go_wp2_with fail
        go_ret3
        refine ⟨⟨u7, ?_, by rw [← hR'.out]; exact hO⟩, hB⟩
        · rw [← hR'.out]
          have : atF s.length (out, (s.drop at_).tail, 0) = at_ + 1 := by unfold atF; rw [if_pos rfl]; simp; omega
          rw [this]; rfl
      · have hb : ((((S s)[at_]'(by rw [S_size]; exact hlt)).toNat : Int) == 10) = false := beq_eq_false_iff_ne.2 hnl
        have hne : (s.drop at_).head? ≠ some 10 := by
          intro h; rw [hh] at h; apply hnl; rw [Option.some.inj h]; rfl
        have HNE := Lib.hid hne
        have HR := Lib.hid hR
        clear hnl hne hR hh
        go_upto_block 2 with fail
        go_cut [9, 10] (fun n v wx => n = .int .i64 (preD 7 (s.drop at_)) ∧ v = .int .i64 (decN ((s.drop at_).take (preD 7 (s.drop at_)))) ∧ wx = wr)
        case first =>
          go_wp2_with fail
          go_loop [9, 10] (fun i v => ∃ k : Nat, k ≤ 7 ∧ at_ + k ≤ s.length ∧ i = .int .i64 k ∧ v = .int .i64 (decN ((s.drop at_).take k)) ∧ (∀ j, j < k → ∃ c, (s.drop at_)[j]? = some c ∧ dg c = true)) (fun i _ => 7 - (intOf i).toNat)
          case atStart => exact ⟨0, by omega, by omega, rfl, rfl, fun j hj => absurd hj (Nat.not_lt_zero _)⟩
          case round =>
            obtain ⟨k, hk7, hk, rfl, rfl, hj⟩ := hrel
            have hql : (s.drop at_).length = s.length - at_ := List.length_drop
            by_cases hgo : at_ + k < s.length ∧ k < 7
            · obtain ⟨hlt2, hlt7⟩ := hgo
              have hget := getD_S s at_ k hlt2
              by_cases hd : dg ((S s)[at_ + k]'(by rw [S_size]; exact hlt2)) = true
              · have hdd := (dg_iff _).1 hd
                have hJ : ∀ j, j < k + 1 → ∃ c, (s.drop at_)[j]? = some c ∧ dg c = true := by
                  intro j hjk
                  by_cases e : j = k
                  · subst e; exact ⟨_, hget, hd⟩
                  · exact hj j (by omega)
                have HJ := Lib.hid hJ
                have HS := Lib.hid (show decN ((s.drop at_).take (k + 1)) = 10 * decN ((s.drop at_).take k) + (((S s)[at_ + k]'(by rw [S_size]; exact hlt2)).toNat - 48) by
                  have e : (s.drop at_).take (k + 1) = (s.drop at_).take k ++ [(S s)[at_ + k]'(by rw [S_size]; exact hlt2)] := by
                    rw [List.take_add_one, hget]; rfl
                  rw [e, decN_snoc])
                have hbd := decN_lt k ((s.drop at_).take k) (fun c hc => by
                  obtain ⟨i, hi, e⟩ := List.getElem_of_mem hc
                  rw [List.length_take] at hi
                  obtain ⟨c', hc', hd'⟩ := hj i (by omega)
                  rw [List.getElem_take] at e
                  rw [List.getElem?_eq_getElem (by omega)] at hc'
                  rw [← e, Option.some.inj hc']; exact hd') (by rw [List.length_take]; omega)
                have hp : 10 ^ k ≤ 10 ^ 7 := Nat.pow_le_pow_right (by decide) hk7
                have hb2 : decN ((s.drop at_).take k) ≤ 10000000 := by omega
                clear hj hJ hget hbd hp hd hql
                generalize decN ((s.drop at_).take k) = dv at *
                go_wp2
                go_round
                case rel => exact ⟨k + 1, by omega, by omega, by go_num, by rw [HS.out]; go_num, HJ.out⟩
                case measure => simp [intOf]; omega
              · have hdn : dg ((S s)[at_ + k]'(by rw [S_size]; exact hlt2)) = false := by simpa using hd
                have HP := Lib.hid (preD_eq 7 k (s.drop at_) hj hk7 (.inr (.inr ⟨_, hget, hdn⟩)))
                have hdd := (dg_not _).1 hdn
                clear hd hdn hj hget hql
                rcases hdd with hdd | hdd
                all_goals
                  go_wp2
                  go_meet
                  case rel => exact ⟨by rw [HP.out], by rw [HP.out], rfl⟩
            · have HP := Lib.hid (preD_eq 7 k (s.drop at_) hj (by omega) (by
                by_cases h7 : k = 7
                · exact .inl h7
                · exact .inr (.inl (List.getElem?_eq_none (by omega)))))
              clear hj hql
              by_cases h7 : k < 7
              · have : ¬ at_ + k < s.length := by omega
                clear hgo
                go_wp2
                go_meet
                case rel => exact ⟨by rw [HP.out], by rw [HP.out], rfl⟩
              · clear hgo
                go_wp2
                go_meet
                case rel => exact ⟨by rw [HP.out], by rw [HP.out], rfl⟩
        case rest =>
          obtain ⟨e9, e10, rfl⟩ := hcut
          subst e9 e10
          have hq := preD_spec 7 (s.drop at_)
          have hql : (s.drop at_).length = s.length - at_ := List.length_drop
          have hp7 := hq.1
          have hpl := hq.2.1
          have hh := headD_S s at_ hlt
          have hav : decN ((s.drop at_).take (preD 7 (s.drop at_))) ≤ 10000000 := by
            have h1 := decN_lt (preD 7 (s.drop at_)) ((s.drop at_).take (preD 7 (s.drop at_))) hq.2.2.1 (by rw [List.length_take]; omega)
            have h2 : 10 ^ preD 7 (s.drop at_) ≤ 10 ^ 7 := Nat.pow_le_pow_right (by decide) hp7
            omega
          have HL : ∀ c, lenF (s.drop at_) = (0, 0, c) → c ≠ 0 → ([], [], c) = takeR (s.drop fr) := fun c h1 h2 => by
            have := takeF_err f (s.drop at_) (at_ - fr) out HNE.out (by rw [h1]; exact h2)
            rw [HR.out, h1] at this
            exact this.symm
          by_cases hA1 : 6 < preD 7 (s.drop at_)
          · have hR' := Lib.hid (HL 2 (by unfold lenF; rw [if_pos (.inl hA1)]) (by decide))
            clear HL hh hq hql
            generalize preD 7 (s.drop at_) = n at *
            generalize decN ((s.drop at_).take n) = a at *
            go_wp2_with fail
            go_ret3
            refine ⟨⟨.slice none 0 0, ?_, ?_⟩, hB⟩
            · rw [← hR'.out]; rfl
            · rw [← hR'.out]; exact OwnS.nil _ _
          by_cases hA2 : 1 < preD 7 (s.drop at_) ∧ (s.drop at_).head? = some 48
          · have hR' := Lib.hid (HL 2 (by unfold lenF; rw [if_pos (.inr hA2)]) (by decide))
            have h48 : ((((S s)[at_]'(by rw [S_size]; exact hlt)).toNat : Int) == 48) = true := by
              rw [beq_iff_eq]; have := hA2.2; rw [hh] at this; rw [Option.some.inj this]; rfl
            have hA3 := hA2.1
            clear HL hh hq hql hA2
            generalize preD 7 (s.drop at_) = n at *
            generalize decN ((s.drop at_).take n) = a at *
            go_wp2_with fail
            go_ret3
            refine ⟨⟨.slice none 0 0, ?_, ?_⟩, hB⟩
            · rw [← hR'.out]; rfl
            · rw [← hR'.out]; exact OwnS.nil _ _
          have h48 : 1 < preD 7 (s.drop at_) → ((((S s)[at_]'(by rw [S_size]; exact hlt)).toNat : Int) == 48) = false := by
            intro h1
            rw [beq_eq_false_iff_ne]
            intro e
            exact hA2 ⟨h1, by rw [hh, ← byteI_of ((S s)[at_]'(by rw [S_size]; exact hlt)), e]; rfl⟩
          have hA : ¬(6 < preD 7 (s.drop at_) ∨ (1 < preD 7 (s.drop at_) ∧ (s.drop at_).head? = some 48)) := fun g => by
            rcases g with g | g
            · exact hA1 g
            · exact hA2 g
          by_cases hBb : preD 7 (s.drop at_) = (s.drop at_).length
          · have hR' := Lib.hid (HL 3 (by unfold lenF; rw [if_neg hA, if_pos hBb]) (by decide))
            have hge : s.length ≤ at_ + preD 7 (s.drop at_) := by omega
            clear HL hh hq hql hA2 hA hBb
            generalize preD 7 (s.drop at_) = n at *
            generalize decN ((s.drop at_).take n) = a at *
            by_cases h1 : 1 < n
            · have h48' := h48 h1
              clear h48
              go_wp2_with fail
              go_ret3
              refine ⟨⟨.slice none 0 0, ?_, ?_⟩, hB⟩
              · rw [← hR'.out]; rfl
              · rw [← hR'.out]; exact OwnS.nil _ _
            · clear h48
              go_wp2_with fail
              go_ret3
              refine ⟨⟨.slice none 0 0, ?_, ?_⟩, hB⟩
              · rw [← hR'.out]; rfl
              · rw [← hR'.out]; exact OwnS.nil _ _
          have hlt2 : at_ + preD 7 (s.drop at_) < s.length := by omega
          by_cases hC1 : preD 7 (s.drop at_) = 0
          · have hR' := Lib.hid (HL 2 (by unfold lenF; rw [if_neg hA, if_neg hBb, if_pos (.inl hC1)]) (by decide))
            clear HL hh hq hql hA2 hA hBb h48
            generalize preD 7 (s.drop at_) = n at *
            generalize decN ((s.drop at_).take n) = a at *
            subst hC1
            go_wp2_with fail
            go_ret3
            refine ⟨⟨.slice none 0 0, ?_, ?_⟩, hB⟩
            · rw [← hR'.out]; rfl
            · rw [← hR'.out]; exact OwnS.nil _ _
          have hgn := getD_S s at_ (preD 7 (s.drop at_)) hlt2
          have hn0 : ((preD 7 (s.drop at_) : Int) == 0) = false := by rw [beq_eq_false_iff_ne]; omega
          by_cases hC2 : (((S s)[at_ + preD 7 (s.drop at_)]'(by rw [S_size]; exact hlt2)).toNat : Int) = 58
          · have hLF : lenF (s.drop at_) = (decN ((s.drop at_).take (preD 7 (s.drop at_))), preD 7 (s.drop at_), 0) := by
              unfold lenF
              rw [if_neg hA, if_neg hBb, if_neg]
              intro g
              rcases g with g | g
              · exact hC1 g
              · apply g; rw [hgn, ← byteI_of ((S s)[at_ + preD 7 (s.drop at_)]'(by rw [S_size]; exact hlt2)), hC2]; rfl
            have h58 : ((((S s)[at_ + preD 7 (s.drop at_)]'(by rw [S_size]; exact hlt2)).toNat : Int) != 58) = false := by rw [hC2]; rfl
            have hst := takeF_step f (s.drop at_) (at_ - fr) out _ _ HNE.out hLF
            rw [HR.out] at hst
            clear HL hh hq hA2 hA hBb hgn hC2 hLF
            generalize preD 7 (s.drop at_) = n at *
            generalize decN ((s.drop at_).take n) = a at *
            rw [List.drop_drop] at hst
            rw [List.length_drop, List.getElem?_drop, List.drop_drop] at hst
            by_cases hbig : 8192 < at_ - fr + (n + 2 + a)
            · rw [if_pos hbig] at hst
              have hR' := Lib.hid hst.symm
              clear hst hql
              by_cases h1 : 1 < n
              · have h48' := h48 h1
                clear h48
                go_wp2_with fail
                go_ret3
                refine ⟨⟨.slice none 0 0, ?_, ?_⟩, hB⟩
                · rw [← hR'.out]; rfl
                · rw [← hR'.out]; exact OwnS.nil _ _
              · clear h48
                go_wp2_with fail
                go_ret3
                refine ⟨⟨.slice none 0 0, ?_, ?_⟩, hB⟩
                · rw [← hR'.out]; rfl
                · rw [← hR'.out]; exact OwnS.nil _ _
            rw [if_neg hbig] at hst
            by_cases hsh : s.length - (at_ + (n + 1)) ≤ a
            · rw [if_pos hsh] at hst
              have hR' := Lib.hid hst.symm
              clear hst hql
              by_cases h1 : 1 < n
              · have h48' := h48 h1
                clear h48
                go_wp2_with fail
                go_ret3
                refine ⟨⟨.slice none 0 0, ?_, ?_⟩, hB⟩
                · rw [← hR'.out]; rfl
                · rw [← hR'.out]; exact OwnS.nil _ _
              · clear h48
                go_wp2_with fail
                go_ret3
                refine ⟨⟨.slice none 0 0, ?_, ?_⟩, hB⟩
                · rw [← hR'.out]; rfl
                · rw [← hR'.out]; exact OwnS.nil _ _
            rw [if_neg hsh] at hst
            have hend : at_ + n + 1 + a < s.length := by omega
            have hge := getS s (at_ + n + 1 + a) hend
            rw [show at_ + (n + 1) + a = at_ + n + 1 + a by omega] at hst
            by_cases hcm : (((S s)[at_ + n + 1 + a]'(by rw [S_size]; exact hend)).toNat : Int) = 44
            · rw [if_neg (fun g => g (by rw [hge, ← byteI_of ((S s)[at_ + n + 1 + a]'(by rw [S_size]; exact hend)), hcm]; rfl))] at hst
              have hcb : ((((S s)[at_ + n + 1 + a]'(by rw [S_size]; exact hend)).toNat : Int) != 44) = false := by rw [hcm]; rfl
              rw [show at_ + (n + 1) + (a + 1) = at_ + n + 1 + a + 1 by omega, show at_ - fr + (n + 2 + a) = at_ + n + 1 + a + 1 - fr by omega] at hst
              have hex : (S s).extract (at_ + n + 1) (at_ + n + 1 + a) = S ((s.drop (at_ + (n + 1))).take a) := by
                rw [S_extract, show at_ + n + 1 + a - (at_ + n + 1) = a by omega, show at_ + n + 1 = at_ + (n + 1) by omega]
              have HST := Lib.hid hst.symm
              clear hst hql hge hcm
              generalize (s.drop (at_ + (n + 1))).take a = piece at *
              by_cases h1 : 1 < n
              · have h48' := h48 h1
                clear h48
                go_wp2_with (refine app_str rfl (.tmp 110) (.tmp 118) rfl w.heap.size u7 out piece rfl hO rfl (by omega) hsz ?_; intro v' w' hO' hb' _)
                go_roundw
                case rel => exact ⟨at_ + n + 1 + a + 1, out ++ [piece], by go_num, by omega, ⟨f, by rw [List.length_drop] at *; omega, HST.out⟩, by omega, by omega, by rw [List.length_append, List.length_singleton]; omega, hO', hB.trans hb'⟩
                case measure => simp [intOf]; omega
              · clear h48
                go_wp2_with (refine app_str rfl (.tmp 110) (.tmp 118) rfl w.heap.size u7 out piece rfl hO rfl (by omega) hsz ?_; intro v' w' hO' hb' _)
                go_roundw
                case rel => exact ⟨at_ + n + 1 + a + 1, out ++ [piece], by go_num, by omega, ⟨f, by rw [List.length_drop] at *; omega, HST.out⟩, by omega, by omega, by rw [List.length_append, List.length_singleton]; omega, hO', hB.trans hb'⟩
                case measure => simp [intOf]; omega
            · rw [if_pos (fun g => by rw [hge] at g; apply hcm; rw [Option.some.inj g]; rfl)] at hst
              have hR' := Lib.hid hst.symm
              have hcb : ((((S s)[at_ + n + 1 + a]'(by rw [S_size]; exact hend)).toNat : Int) != 44) = true := by rw [bne_iff_ne]; exact hcm
              clear hst hql hge hcm
              by_cases h1 : 1 < n
              · have h48' := h48 h1
                clear h48
                go_wp2_with fail
                go_ret3
                refine ⟨⟨.slice none 0 0, ?_, ?_⟩, hB⟩
                · rw [← hR'.out]; rfl
                · rw [← hR'.out]; exact OwnS.nil _ _
              · clear h48
                go_wp2_with fail
                go_ret3
                refine ⟨⟨.slice none 0 0, ?_, ?_⟩, hB⟩
                · rw [← hR'.out]; rfl
                · rw [← hR'.out]; exact OwnS.nil _ _
          · have hR' := Lib.hid (HL 2 (by
              unfold lenF
              rw [if_neg hA, if_neg hBb, if_pos]
              refine .inr fun g => hC2 ?_
              rw [hgn] at g
              rw [Option.some.inj g]; rfl) (by decide))
            have h58 : ((((S s)[at_ + preD 7 (s.drop at_)]'(by rw [S_size]; exact hlt2)).toNat : Int) != 58) = true := by rw [bne_iff_ne]; exact hC2
            clear HL hh hq hql hA2 hA hBb hgn hC2
            generalize preD 7 (s.drop at_) = n at *
            generalize decN ((s.drop at_).take n) = a at *
            by_cases h1 : 1 < n
            · have h48' := h48 h1
              clear h48
              go_wp2_with fail
              go_ret3
              refine ⟨⟨.slice none 0 0, ?_, ?_⟩, hB⟩
              · rw [← hR'.out]; rfl
              · rw [← hR'.out]; exact OwnS.nil _ _
            · clear h48
              go_wp2_with fail
              go_ret3
              refine ⟨⟨.slice none 0 0, ?_, ?_⟩, hB⟩
              · rw [← hR'.out]; rfl
              · rw [← hR'.out]; exact OwnS.nil _ _
    · have hz : at_ = s.length := by omega
      have e : s.drop at_ = [] := List.drop_eq_nil_of_le (by omega)
      rw [e] at hR
      have hR' := Lib.hid ((show takeF (f + 1) [] (at_ - fr) out = ([], [], 3) from rfl).symm.trans hR)
      clear hR e
      go_wp2_with fail
      go_ret3
      refine ⟨⟨.slice none 0 0, ?_, ?_⟩, hB⟩
      · rw [← hR'.out]; rfl
      · rw [← hR'.out]; exact OwnS.nil _ _
end Go.Proofs.YtpfblnegaipgdaaDoor
