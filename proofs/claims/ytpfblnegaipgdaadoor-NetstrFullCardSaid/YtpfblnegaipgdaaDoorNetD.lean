import Derived.Test.YtpfblnegaipgdaaDoorNetC
namespace Go.Proofs.YtpfblnegaipgdaaDoor
open Go.RowKit Go.Lib

theorem getS (s : List UInt8) (k : Nat) (h : k < s.length) : s[k]? = some ((S s)[k]'(by rw [S_size]; exact h)) := by
  rw [List.getElem?_eq_getElem h]; rfl
theorem take_snocL (s : List UInt8) (k : Nat) (h : k < s.length) : s.take (k + 1) = s.take k ++ [(S s)[k]'(by rw [S_size]; exact h)] := by
  rw [List.take_succ_eq_append_getElem h]; rfl
theorem dg_iff (c : UInt8) : dg c = true ↔ 48 ≤ (c.toNat : Int) ∧ (c.toNat : Int) ≤ 57 := by unfold dg; rw [decide_eq_true_iff]; omega
theorem dg_not (c : UInt8) : dg c = false ↔ ((c.toNat : Int) < 48 ∨ 57 < (c.toNat : Int)) := by unfold dg; rw [decide_eq_false_iff_not]; omega
def lenV (p : Nat × Nat × Nat) : Value := .tuple #[.int .i64 p.1, .int .i64 p.2.1, .int .i64 p.2.2]

set_option maxRecDepth 100000 in
set_option maxHeartbeats 1000000 in
theorem length_any (s : List UInt8) (hs : s.length ≤ 1000000) (w : World) :
    Calls Tryd.prog 40 #[.string (S s)] w fun e w' => e = .returned (lenV (lenF s)) ∧ ∃ m, w' = w.drewN m := by
  go_enter Tryd.func40, Tryd.ntmps40
  go_wp2
  go_loopw [2, 3] (fun v i wr => ∃ k : Nat, k ≤ 7 ∧ k ≤ s.length ∧ i = .int .i64 k ∧ v = .int .i64 (decN (s.take k)) ∧ (∀ j, j < k → ∃ c, s[j]? = some c ∧ dg c = true) ∧ ∃ m, wr = w.drewN m) (fun _ i _ => 7 - (intOf i).toNat)
  case atStart => exact ⟨0, by omega, by omega, rfl, rfl, fun j hj => absurd hj (Nat.not_lt_zero _), 0, rfl⟩
  case round =>
    obtain ⟨k, hk7, hk, rfl, rfl, hj, m, rfl⟩ := hrel
    by_cases hgo : k < s.length ∧ k < 7
    · obtain ⟨hlt, hlt7⟩ := hgo
      have hget := getS s k hlt
      by_cases hd : dg ((S s)[k]'(by rw [S_size]; exact hlt)) = true
      · have hdd := (dg_iff _).1 hd
        have hJ : ∀ j, j < k + 1 → ∃ c, s[j]? = some c ∧ dg c = true := by
          intro j hjk
          by_cases e : j = k
          · subst e; exact ⟨_, hget, hd⟩
          · exact hj j (by omega)
        have HJ := Lib.hid hJ
        have HS := Lib.hid (show decN (s.take (k + 1)) = 10 * decN (s.take k) + (((S s)[k]'(by rw [S_size]; exact hlt)).toNat - 48) by rw [take_snocL s k hlt, decN_snoc])
        have hb := decN_lt k (s.take k) (fun c hc => by
          obtain ⟨i, hi, e⟩ := List.getElem_of_mem hc
          rw [List.length_take] at hi
          obtain ⟨c', hc', hd'⟩ := hj i (by omega)
          rw [List.getElem_take] at e
          rw [List.getElem?_eq_getElem (by omega)] at hc'
          rw [← e, Option.some.inj hc']; exact hd') (by rw [List.length_take]; omega)
        have hp : 10 ^ k ≤ 10 ^ 7 := Nat.pow_le_pow_right (by decide) hk7
        have hb2 : decN (s.take k) ≤ 10000000 := by omega
        clear hj hJ hget hb hp hd
        go_wp2
        go_roundw
        case rel => exact ⟨k + 1, by omega, by omega, by go_num, by rw [HS.out]; go_num, HJ.out, m, rfl⟩
        case measure => simp [intOf]; omega
      · have hdn : dg ((S s)[k]'(by rw [S_size]; exact hlt)) = false := by simpa using hd
        have HP := Lib.hid (preD_eq 7 k s hj hk7 (.inr (.inr ⟨_, hget, hdn⟩)))
        have hdd := (dg_not _).1 hdn
        clear hd hdn hj
        rcases hdd with hdd | hdd
        · have h0 : 0 < (S s).size := by rw [S_size]; omega
          have hh : s.head? = some ((S s)[0]'h0) := by rw [List.head?_eq_getElem?]; exact getS s 0 (by omega)
          by_cases hB : 1 < k ∧ s.head? = some 48
          · have hb : (((S s)[0]'h0).toNat : Int) = 48 := by have := hB.2; rw [hh] at this; rw [Option.some.inj this]; rfl
            have ht : ((((S s)[0]'h0).toNat : Int) == 48) = true := beq_iff_eq.2 hb
            have hk1 := hB.1
            have HL := Lib.hid (show lenF s = (0, 0, 2) by unfold lenF; rw [HP.out, if_pos (.inr hB)])
            clear hB hb hh
            go_wp2
            go_ret3
            exact ⟨by rw [HL.out]; rfl, m, rfl⟩
          · have hb : 1 < k → ((((S s)[0]'h0).toNat : Int) == 48) = false := by
              intro h1
              rw [beq_eq_false_iff_ne]
              intro e
              exact hB ⟨h1, by rw [hh, ← byteI_of ((S s)[0]'h0), e]; rfl⟩
            by_cases hk0 : k = 0
            · subst hk0
              have HL := Lib.hid (show lenF s = (0, 0, 2) by unfold lenF; rw [HP.out, if_neg (by intro g; rcases g with g | g; omega; exact hB g), if_neg (by omega), if_pos (.inl rfl)])
              clear hB hb hh
              go_wp2
              go_ret3
              exact ⟨by rw [HL.out]; rfl, m, rfl⟩
            · by_cases h58 : (((S s)[k]'(by rw [S_size]; exact hlt)).toNat : Int) = 58
              · have HL := Lib.hid (show lenF s = (decN (s.take k), k, 0) by
                  unfold lenF
                  rw [HP.out, if_neg (by intro g; rcases g with g | g; omega; exact hB g), if_neg (by omega), if_neg]
                  intro g
                  rcases g with g | g
                  · exact hk0 g
                  · apply g; rw [hget, ← byteI_of ((S s)[k]'(by rw [S_size]; exact hlt)), h58]; rfl)
                have ht58 : ((((S s)[k]'(by rw [S_size]; exact hlt)).toNat : Int) != 58) = false := by rw [h58]; rfl
                have hke : ((k : Int) == (s.length : Int)) = false := by rw [beq_eq_false_iff_ne]; omega
                have hk0e : ((k : Int) == 0) = false := by rw [beq_eq_false_iff_ne]; omega
                clear hB hh h58 hget
                by_cases h1 : 1 < k
                · have hb' := hb h1
                  clear hb
                  go_wp2
                  go_ret3
                  exact ⟨by rw [HL.out]; rfl, m, rfl⟩
                · clear hb
                  go_wp2
                  go_ret3
                  exact ⟨by rw [HL.out]; rfl, m, rfl⟩
              · have HL := Lib.hid (show lenF s = (0, 0, 2) by
                  unfold lenF
                  rw [HP.out, if_neg (by intro g; rcases g with g | g; omega; exact hB g), if_neg (by omega), if_pos]
                  refine .inr fun g => h58 ?_
                  rw [hget] at g
                  rw [Option.some.inj g]; rfl)
                have ht58 : ((((S s)[k]'(by rw [S_size]; exact hlt)).toNat : Int) != 58) = true := by rw [bne_iff_ne]; exact h58
                have hke : ((k : Int) == (s.length : Int)) = false := by rw [beq_eq_false_iff_ne]; omega
                have hk0e : ((k : Int) == 0) = false := by rw [beq_eq_false_iff_ne]; omega
                clear hB hh h58 hget
                by_cases h1 : 1 < k
                · have hb' := hb h1
                  clear hb
                  go_wp2
                  go_ret3
                  exact ⟨by rw [HL.out]; rfl, m, rfl⟩
                · clear hb
                  go_wp2
                  go_ret3
                  exact ⟨by rw [HL.out]; rfl, m, rfl⟩
        · have h0 : 0 < (S s).size := by rw [S_size]; omega
          have hh : s.head? = some ((S s)[0]'h0) := by rw [List.head?_eq_getElem?]; exact getS s 0 (by omega)
          by_cases hB : 1 < k ∧ s.head? = some 48
          · have hb : (((S s)[0]'h0).toNat : Int) = 48 := by have := hB.2; rw [hh] at this; rw [Option.some.inj this]; rfl
            have ht : ((((S s)[0]'h0).toNat : Int) == 48) = true := beq_iff_eq.2 hb
            have hk1 := hB.1
            have HL := Lib.hid (show lenF s = (0, 0, 2) by unfold lenF; rw [HP.out, if_pos (.inr hB)])
            clear hB hb hh
            go_wp2
            go_ret3
            exact ⟨by rw [HL.out]; rfl, m, rfl⟩
          · have hb : 1 < k → ((((S s)[0]'h0).toNat : Int) == 48) = false := by
              intro h1
              rw [beq_eq_false_iff_ne]
              intro e
              exact hB ⟨h1, by rw [hh, ← byteI_of ((S s)[0]'h0), e]; rfl⟩
            by_cases hk0 : k = 0
            · subst hk0
              have HL := Lib.hid (show lenF s = (0, 0, 2) by unfold lenF; rw [HP.out, if_neg (by intro g; rcases g with g | g; omega; exact hB g), if_neg (by omega), if_pos (.inl rfl)])
              clear hB hb hh
              go_wp2
              go_ret3
              exact ⟨by rw [HL.out]; rfl, m, rfl⟩
            · by_cases h58 : (((S s)[k]'(by rw [S_size]; exact hlt)).toNat : Int) = 58
              · have HL := Lib.hid (show lenF s = (decN (s.take k), k, 0) by
                  unfold lenF
                  rw [HP.out, if_neg (by intro g; rcases g with g | g; omega; exact hB g), if_neg (by omega), if_neg]
                  intro g
                  rcases g with g | g
                  · exact hk0 g
                  · apply g; rw [hget, ← byteI_of ((S s)[k]'(by rw [S_size]; exact hlt)), h58]; rfl)
                have ht58 : ((((S s)[k]'(by rw [S_size]; exact hlt)).toNat : Int) != 58) = false := by rw [h58]; rfl
                have hke : ((k : Int) == (s.length : Int)) = false := by rw [beq_eq_false_iff_ne]; omega
                have hk0e : ((k : Int) == 0) = false := by rw [beq_eq_false_iff_ne]; omega
                clear hB hh h58 hget
                by_cases h1 : 1 < k
                · have hb' := hb h1
                  clear hb
                  go_wp2
                  go_ret3
                  exact ⟨by rw [HL.out]; rfl, m, rfl⟩
                · clear hb
                  go_wp2
                  go_ret3
                  exact ⟨by rw [HL.out]; rfl, m, rfl⟩
              · have HL := Lib.hid (show lenF s = (0, 0, 2) by
                  unfold lenF
                  rw [HP.out, if_neg (by intro g; rcases g with g | g; omega; exact hB g), if_neg (by omega), if_pos]
                  refine .inr fun g => h58 ?_
                  rw [hget] at g
                  rw [Option.some.inj g]; rfl)
                have ht58 : ((((S s)[k]'(by rw [S_size]; exact hlt)).toNat : Int) != 58) = true := by rw [bne_iff_ne]; exact h58
                have hke : ((k : Int) == (s.length : Int)) = false := by rw [beq_eq_false_iff_ne]; omega
                have hk0e : ((k : Int) == 0) = false := by rw [beq_eq_false_iff_ne]; omega
                clear hB hh h58 hget
                by_cases h1 : 1 < k
                · have hb' := hb h1
                  clear hb
                  go_wp2
                  go_ret3
                  exact ⟨by rw [HL.out]; rfl, m, rfl⟩
                · clear hb
                  go_wp2
                  go_ret3
                  exact ⟨by rw [HL.out]; rfl, m, rfl⟩
    · by_cases h7 : k = 7
      · subst h7
        have HP := Lib.hid (preD_eq 7 7 s hj (by omega) (.inl rfl))
        have HL := Lib.hid (show lenF s = (0, 0, 2) by unfold lenF; rw [HP.out, if_pos (.inl (by omega))])
        clear hj hgo
        by_cases hlt : 7 < s.length
        · go_wp2
          go_ret3
          exact ⟨by rw [HL.out]; rfl, m, rfl⟩
        · go_wp2
          go_ret3
          exact ⟨by rw [HL.out]; rfl, m, rfl⟩
      · have hkl : k = s.length := by omega
        have HP := Lib.hid (preD_eq 7 k s hj (by omega) (.inr (.inl (List.getElem?_eq_none (by omega)))))
        clear hj hgo
        by_cases hB : 1 < k ∧ s.head? = some 48
        · have h0 : 0 < (S s).size := by rw [S_size]; omega
          have hh : s.head? = some ((S s)[0]'h0) := by rw [List.head?_eq_getElem?]; exact getS s 0 (by omega)
          have hb : (((S s)[0]'h0).toNat : Int) = 48 := by have := hB.2; rw [hh] at this; rw [Option.some.inj this]; rfl
          have ht : ((((S s)[0]'h0).toNat : Int) == 48) = true := beq_iff_eq.2 hb
          have hk1 := hB.1
          have HL := Lib.hid (show lenF s = (0, 0, 2) by unfold lenF; rw [HP.out, if_pos (.inr hB)])
          have hlt : ¬ k < s.length := by omega
          clear hB hb hh hkl
          go_wp2
          go_ret3
          exact ⟨by rw [HL.out]; rfl, m, rfl⟩
        · have HL := Lib.hid (show lenF s = (0, 0, 3) by unfold lenF; rw [HP.out, if_neg (by intro g; rcases g with g | g; omega; exact hB g), if_pos hkl])
          have hlt : ¬ k < s.length := by omega
          have hke : ((k : Int) == (s.length : Int)) = true := by rw [beq_iff_eq]; omega
          by_cases h1 : 1 < k
          · have h0 : 0 < (S s).size := by rw [S_size]; omega
            have hh : s.head? = some ((S s)[0]'h0) := by rw [List.head?_eq_getElem?]; exact getS s 0 (by omega)
            have hb : ((((S s)[0]'h0).toNat : Int) == 48) = false := by
              rw [beq_eq_false_iff_ne]
              intro e
              exact hB ⟨h1, by rw [hh, ← byteI_of ((S s)[0]'h0), e]; rfl⟩
            clear hB hh hkl
            go_wp2
            go_ret3
            exact ⟨by rw [HL.out]; rfl, m, rfl⟩
          · clear hB hkl
            go_wp2
            go_ret3
            exact ⟨by rw [HL.out]; rfl, m, rfl⟩
end Go.Proofs.YtpfblnegaipgdaaDoor
