import Derived.Test.YtpfblnegaipgdaaDoorNetG
namespace Go.Proofs.YtpfblnegaipgdaaDoor
open Go.RowKit Go.Lib

theorem texts_le : ∀ (l : List (List UInt8)) (b : Nat), (∀ s ∈ l, s.length ≤ b) → b ≤ 100000 → (textsL l).length ≤ l.length * (b + 9)
  | [], _, _, _ => by simp [textsL]
  | s :: l, b, h, hb => by
    have ih := texts_le l b (fun x hx => h x (List.mem_cons_of_mem _ hx)) hb
    have h1 := h s List.mem_cons_self
    have h2 := text_len s
    have h3 := digs_len 6 s.length (by omega)
    have e : textsL (s :: l) = textL s ++ textsL l := rfl
    rw [e, List.length_append, List.length_cons, Nat.add_mul]
    omega

set_option maxRecDepth 100000 in
set_option maxHeartbeats 1000000 in
/-- behind the loop: all texts are short -/
theorem lawPuts (l : List (List UInt8)) (v : Value) (bh : ByteArray) (w : World) (hv0 : StrsV w v l) (hT : TB w.heap.size w) :
    Calls Tryd.prog 3 #[v, .string bh] w fun e w' => e = .returned (.bool true) ∧ Below w.heap.size w w' := by
  obtain ⟨bh, rfl⟩ : ∃ x, bh = S x := ⟨_, S_eta bh⟩
  have HV := Lib.hid hv0
  obtain ⟨a, c, rfl, hv⟩ := hv0
  have HV' : Hid (StrsV w (.slice a l.length c) l) := HV
  clear HV
  by_cases hl : l.length ≤ 20 ∧ bh.length ≤ 200
  · obtain ⟨h20, h200⟩ := hl
    have hd1 : decide (20 < l.length) = false := decide_eq_false (by omega)
    go_enter Tryd.func3, Tryd.ntmps3
    go_wp2
    go_loopw [5, 26] (fun n i wr => ∃ k : Nat, k ≤ l.length ∧ i = .int .i64 k ∧ n = .int .i64 (1 + (textsL (l.take k)).length : Nat) ∧ (∀ j (h : j < l.length), j < k → l[j].length ≤ 3000) ∧ Below w.heap.size w wr) (fun _ i _ => l.length - (intOf i).toNat)
    case atStart => exact ⟨0, by omega, rfl, rfl, fun j _ hj => absurd hj (Nat.not_lt_zero _), Below.refl _ _⟩
    case round =>
      obtain ⟨k, hk, rfl, rfl, hall, hb⟩ := hrel
      have hsz := hb.size
      by_cases hlt : k < l.length
      · obtain ⟨b, off, rfl, h1, h2⟩ := hv (by omega)
        have hc : wr.cell? ⟨b, off + k, none⟩ = some (.string (S l[k])) := by rw [hb.cell (by exact h1)]; exact h2 k hlt
        have HA := Lib.hid hall
        clear h2 hall
        by_cases h3 : l[k].length ≤ 3000
        · have htk : (textsL (l.take k)).length ≤ 100000 := by
            have := texts_le (l.take k) 3000 (fun s hs => by
              obtain ⟨j, hj, e⟩ := List.getElem_of_mem hs
              rw [List.length_take] at hj
              rw [List.getElem_take] at e
              rw [← e]; exact HA.out j (by omega) (by omega)) (by omega)
            rw [List.length_take] at this
            have hmin : min k l.length * (3000 + 9) ≤ 20 * 3009 := Nat.mul_le_mul (by omega) (by omega)
            omega
          have hlk : (textL l[k]).length ≤ 10000 := by
            have := text_len l[k]
            have := digs_len 6 l[k].length (by omega)
            omega
          have HS := Lib.hid (show (textsL (l.take (k + 1))).length = (textsL (l.take k)).length + (textL l[k]).length by rw [texts_take_succ l k hlt, List.length_append])
          have HN := Lib.hid (show ∀ j (h : j < l.length), j < k + 1 → l[j].length ≤ 3000 from fun j h hj => by
            by_cases e : j = k
            · subst e; exact h3
            · exact HA.out j h (by omega))
          go_wp2_with fail
          refine (rText_any l[k] (by omega) _).mono ?_
          rintro e w1 ⟨rfl, m, rfl⟩
          go_wp2_with fail
          go_roundw
          case rel => exact ⟨k + 1, by omega, by go_num, by rw [HS.out]; go_num, HN.out, belowDrewN hb⟩
          case measure => simp [intOf]; omega
        · go_wp2_with fail
          refine (awake41 _ (hT.up hb hsz)).mono ?_
          rintro e w1 ⟨rfl, hb1⟩
          go_wp2_with fail
          go_ret
          exact ⟨rfl, chain hb hb1⟩
      · have : k = l.length := by omega
        subst this
        rw [List.take_length]
        have hm : ∀ s ∈ l, s.length ≤ 3000 := fun s hs => by
          obtain ⟨j, hj, e⟩ := List.getElem_of_mem hs
          rw [← e]; exact hall j hj hj
        have htl : (textsL l).length ≤ 100000 := by
          have := texts_le l 3000 hm (by omega)
          have hmin : l.length * (3000 + 9) ≤ 20 * 3009 := Nat.mul_le_mul (by omega) (by omega)
          omega
        have HM := Lib.hid (show ∀ s ∈ l, s.length ≤ 100000 from fun s hs => by have := hm s hs; omega)
        have HM2 := Lib.hid (show ∀ s ∈ l, s.length ≤ 1000000 from fun s hs => by have := hm s hs; omega)
        clear hall hm
        have VW : ∀ w' : World, Below w.heap.size w w' → StrsV w' (.slice a l.length c) l := fun _ hb => HV'.out.below hb (Nat.le_refl _)
        have VW' := Lib.hid VW
        clear VW hv
        by_cases hp : (textsL l).length ≤ 8192
        · have hpv : putV l = .tuple #[.string (S (textsL l ++ [10])), .int .i64 0] := by unfold putV putB; rw [if_pos (by simp; omega)]
          have htk : takeF ((textsL l ++ 10 :: bh).length + 1) (textsL l ++ 10 :: bh) 0 [] = (l, bh, 0) := by
            have := takeF_texts bh l ((textsL l ++ 10 :: bh).length + 1) 0 [] (by omega) (Nat.lt_succ_self _)
            rw [this, List.nil_append]
          have hcat : S (textsL l ++ [10]) ++ S bh = S (textsL l ++ 10 :: bh) := by rw [S_append]; simp [List.append_assoc]
          have hlq : (textsL l ++ 10 :: bh).length ≤ 10000 := by simp; omega
          have hlen1 : (((textsL l ++ [10]).length : Int) == ((1 + (textsL l).length : Nat) : Int)) = true := by rw [beq_iff_eq, List.length_append, List.length_singleton]; omega
          have hl1 : (textsL l ++ [10]).length ≤ 10000 := by rw [List.length_append, List.length_singleton]; omega
          have HP := Lib.hid hpv
          have T1 := fun w => Take_any (textsL l ++ 10 :: bh) (by omega) w
          rw [htk] at T1
          have HT1 := Lib.hid T1
          generalize textsL l ++ 10 :: bh = q at *
          have HLL := Lib.hid hlen1
          generalize hs : textsL l ++ [10] = pl at *
          generalize hn : 1 + (textsL l).length = nn at *
          have hlen2 : ((pl.length : Int) == (nn : Int)) = true := HLL.out
          have hne0 : ((nn : Int) != (nn : Int)) = false := by simp
          have HNN := Lib.hid hn
          clear hpv htk T1 hlen1 hs hn HLL
          go_wp2_with fail
          refine (Put_any l _ (by omega) HM.out _ (hT.up hb hsz) (VW'.out _ hb)).mono ?_
          rintro e w1 ⟨rfl, hb1⟩
          rw [HP.out]
          have hB1 := chain hb hb1
          go_wp2_with fail
          refine (rPut_any l _ (by omega) HM.out _ (VW'.out _ hB1)).mono ?_
          rintro e w2 ⟨rfl, m2, rfl⟩
          rw [HP.out]
          go_wp2_with fail
          refine (Size_any l _ (by omega) (by omega) HM2.out _ (hT.on (belowDrewN hB1)) (hB1.size) (VW'.out _ (belowDrewN hB1))).mono ?_
          rintro e w3 ⟨rfl, hb3⟩
          rw [HNN.out]
          have hB3 := chain (belowDrewN (n := m2) hB1) hb3
          go_wp2_with fail
          refine (HT1.out _).mono ?_
          rintro e w4 ⟨⟨v4, rfl, hO4⟩, hb4⟩
          have hB4 := chain hB3 hb4
          go_wp2_with fail
          refine (Same_any l l v4 _ (by omega) _ hO4.strs (VW'.out _ hB4)).mono ?_
          rintro e w5 ⟨rfl, m5, rfl⟩
          rw [show decide (l = l) = true from decide_eq_true rfl]
          go_wp2_with fail
          refine (awake41 _ (hT.up (belowDrewN hB4) hB4.size)).mono ?_
          rintro e w6 ⟨rfl, hb6⟩
          go_wp2_with fail
          go_ret
          exact ⟨rfl, chain (belowDrewN (n := m5) hB4) hb6⟩
        · have hpv : putV l = .tuple #[.string (S []), .int .i64 12] := by unfold putV putB; rw [if_neg (by simp; omega)]
          have HP := Lib.hid hpv
          generalize hn : 1 + (textsL l).length = nn at *
          have hne0 : ((nn : Int) != (nn : Int)) = false := by simp
          have HNN := Lib.hid hn
          clear hpv hn
          go_wp2_with fail
          refine (Put_any l _ (by omega) HM.out _ (hT.up hb hsz) (VW'.out _ hb)).mono ?_
          rintro e w1 ⟨rfl, hb1⟩
          rw [HP.out]
          have hB1 := chain hb hb1
          go_wp2_with fail
          refine (rPut_any l _ (by omega) HM.out _ (VW'.out _ hB1)).mono ?_
          rintro e w2 ⟨rfl, m2, rfl⟩
          rw [HP.out]
          go_wp2_with fail
          refine (Size_any l _ (by omega) (by omega) HM2.out _ (hT.on (belowDrewN hB1)) (hB1.size) (VW'.out _ (belowDrewN hB1))).mono ?_
          rintro e w3 ⟨rfl, hb3⟩
          rw [HNN.out]
          have hB3 := chain (belowDrewN (n := m2) hB1) hb3
          go_wp2_with fail
          refine (awake41 _ (hT.up hB3 hB3.size)).mono ?_
          rintro e w6 ⟨rfl, hb6⟩
          go_wp2_with fail
          go_ret
          exact ⟨rfl, chain hB3 hb6⟩
  · have hl2 : 20 < l.length ∨ 200 < bh.length := by omega
    clear hl hv
    rcases hl2 with hl2 | hl2 <;> by_cases hl3 : 20 < l.length
    all_goals
      go_enter Tryd.func3, Tryd.ntmps3
      go_wp2_with (go_at_call 11; refine (awake41 _ hT).mono ?_; rintro e w1 ⟨rfl, hb1⟩)
    all_goals (first | (exfalso; omega) | (go_ret; exact ⟨rfl, hb1⟩))
end Go.Proofs.YtpfblnegaipgdaaDoor
