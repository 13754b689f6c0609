import Derived.Test.YtjldphpdfckjnaaDoorQuote
namespace Go.Proofs.YtjldphpdfckjnaaDoor
open Go.RowKit

def octV (x y z : UInt8) : Int := 8 * (8 * ((x.toNat : Int) - 48) + ((y.toNat : Int) - 48)) + ((z.toNat : Int) - 48)
def okOct (x y z : UInt8) : Bool := decide (48 ≤ x.toNat ∧ x.toNat ≤ 55 ∧ 48 ≤ y.toNat ∧ y.toNat ≤ 55 ∧ 48 ≤ z.toNat ∧ z.toNat ≤ 55 ∧ octV x y z ≤ 255)
def dec : List UInt8 → Option (List UInt8)
  | [] => some []
  | b :: r => if b ≠ 92 then (dec r).map (b :: ·) else match r with
    | x :: y :: z :: r' => if okOct x y z then (dec r').map (byteI (octV x y z) :: ·) else none
    | _ => none
def plainR (name : Bool) (t : List UInt8) : List UInt8 × Bool :=
  if t = [92] then ([], true) else match dec t with
    | some o => if quoteF name o = t then (o, true) else ([], false)
    | none => ([], false)

theorem dec_one (s : ByteArray) (k : Nat) (h : k < s.size) (h92 : s[k] ≠ 92) : dec (s.data.toList.drop k) = (dec (s.data.toList.drop (k + 1))).map (s[k] :: ·) := by
  rw [List.drop_eq_getElem_cons (by rw [size_len]; exact h)]
  show dec (s[k] :: _) = _
  rw [dec.eq_def]
  simp [h92]
theorem dec_short (s : ByteArray) (k : Nat) (h : k < s.size) (h92 : s[k] = 92) (h3 : s.size ≤ k + 3) : dec (s.data.toList.drop k) = none := by
  rw [List.drop_eq_getElem_cons (by rw [size_len]; exact h)]
  show dec (s[k] :: _) = _
  rw [dec.eq_def]
  simp only [h92, ne_eq, not_true_eq_false, if_false]
  have hl : (s.data.toList.drop (k + 1)).length ≤ 2 := by rw [List.length_drop, size_len]; omega
  match hd : s.data.toList.drop (k + 1), hl with
  | [], _ => rfl
  | [_], _ => rfl
  | [_, _], _ => rfl
theorem dec_oct (s : ByteArray) (k : Nat) (h3 : k + 3 < s.size) (h92 : s[k] = 92) : dec (s.data.toList.drop k) =
    if okOct s[k+1] s[k+2] s[k+3] then (dec (s.data.toList.drop (k + 4))).map (byteI (octV s[k+1] s[k+2] s[k+3]) :: ·) else none := by
  rw [List.drop_eq_getElem_cons (by rw [size_len]; omega), List.drop_eq_getElem_cons (i := k + 1) (by rw [size_len]; omega), List.drop_eq_getElem_cons (i := k + 1 + 1) (by rw [size_len]; omega), List.drop_eq_getElem_cons (i := k + 1 + 1 + 1) (by rw [size_len]; omega)]
  show dec (s[k] :: s[k+1] :: s[k+2] :: s[k+3] :: _) = _
  rw [dec.eq_def]
  simp [h92]

theorem dec_none (o : List UInt8) (t d : List UInt8) (h : dec t = (dec d).map (o ++ ·)) (hd : dec d = none) (name : Bool) (h92 : t ≠ [92]) : plainR name t = ([], false) := by
  rw [hd] at h
  simp [plainR, h92, h]

theorem okOct_yes (x y z : UInt8) (h : okOct x y z = true) : 48 ≤ (x.toNat : Int) ∧ (x.toNat : Int) ≤ 55 ∧ 48 ≤ (y.toNat : Int) ∧ (y.toNat : Int) ≤ 55 ∧ 48 ≤ (z.toNat : Int) ∧ (z.toNat : Int) ≤ 55 ∧
    8 * (8 * ((x.toNat : Int) - 48) + ((y.toNat : Int) - 48)) + ((z.toNat : Int) - 48) ≤ 255 := by
  have h := of_decide_eq_true h
  unfold octV at h
  omega
theorem okOct_no (x y z : UInt8) (h : okOct x y z = false) : ¬ (48 ≤ (x.toNat : Int) ∧ (x.toNat : Int) ≤ 55 ∧ 48 ≤ (y.toNat : Int) ∧ (y.toNat : Int) ≤ 55 ∧ 48 ≤ (z.toNat : Int) ∧ (z.toNat : Int) ≤ 55 ∧
    8 * (8 * ((x.toNat : Int) - 48) + ((y.toNat : Int) - 48)) + ((z.toNat : Int) - 48) ≤ 255) := by
  have h := of_decide_eq_false h
  unfold octV at h
  omega

theorem oct_cell (x y z : UInt8) (h : okOct x y z = true) : [Value.int .u8 (8 * (8 * ((x.toNat : Int) - 48) + ((y.toNat : Int) - 48)) + ((z.toNat : Int) - 48))] = [byteI (octV x y z)].map bv := by
  obtain ⟨q1, q2, q3, q4, q5, q6, q7⟩ := okOct_yes _ _ _ h
  rw [List.map_cons, bv_byteI _ (by unfold octV; omega) (by unfold octV; omega)]
  rfl

set_option maxHeartbeats 1000000 in
theorem plainq_any (s : ByteArray) (name : Bool) (w : World) (hs : s.size ≤ 1000000) :
    Calls Tryd.prog 89 #[.string s, .bool name] w fun e w' => e = .returned (.tuple #[.string (S (plainR name s.data.toList).1), .bool (plainR name s.data.toList).2]) ∧ Below w.heap.size w w' := by
  by_cases hnil : s.data.toList = [92]
  · have h0 : (s.toList == [92]) = true := by rw [ByteArray.toList_eq, hnil]; rfl
    have H := Lib.hid hnil
    clear hnil
    go_enter Tryd.func89, Tryd.ntmps89
    go_wp2
    go_ret2
    exact ⟨by rw [plainR, if_pos H.out]; rfl, Below.refl _ _⟩
  have h0 : (s.toList == [92]) = false := by rw [ByteArray.toList_eq]; simpa using hnil
  have H := Lib.hid hnil
  clear hnil
  go_enter Tryd.func89, Tryd.ntmps89
  go_wp2
  go_loopw [6, 7] (fun v i wr => ∃ (k : Nat) (o : List UInt8), k ≤ s.size ∧ i = .int .i64 k ∧ OwnB wr w.heap.size v o ∧ o.length ≤ k ∧ Hid (dec s.data.toList = (dec (s.data.toList.drop k)).map (o ++ ·)) ∧ Below w.heap.size w wr) (fun _ i _ => s.size - (intOf i).toNat)
  case atStart => exact ⟨0, [], Nat.zero_le _, rfl, OwnB.nil _ _, Nat.le_refl _, by simp [Hid], Below.refl _ _⟩
  case round =>
    obtain ⟨k, o, hk, rfl, hown, hol, HD, hb⟩ := hrel
    have hsz := hb.size
    by_cases hlt : k < s.size
    · have hby := s[k].toNat_lt
      by_cases h92 : s[k] = 92
      · have hc : ((s[k].toNat : Int) != 92) = false := by rw [h92]; rfl
        have H92 := Lib.hid h92
        clear h92
        by_cases h3 : k + 3 < s.size
        · have hx := s[k+1].toNat_lt
          have hy := s[k+2].toNat_lt
          have hz := s[k+3].toNat_lt
          have hes : (s.extract (k + 1) (k + 4)).size = 3 := by simp; omega
          go_wp2_with (with_reducible refine conv_bytes rfl _ rfl _ rfl ?_; intro w1 c hb1 hz1 hcell)
          have hg (j : Nat) (hj : j < 3) (h : k + 1 + j < s.size) : w1.cell? ⟨wr.heap.size, j, none⟩ = some (.int .u8 s[k + 1 + j].toNat) := by
            rw [hcell j (by omega), ext_getD s (k + 1) (k + 4) j h (by omega)]
          have g0 : w1.cell? ⟨wr.heap.size, 0, none⟩ = some (.int .u8 s[k + 1].toNat) := hg 0 (by omega) (by omega)
          have g1 : w1.cell? ⟨wr.heap.size, 1, none⟩ = some (.int .u8 s[k + 2].toNat) := hg 1 (by omega) (by omega)
          have g2 : w1.cell? ⟨wr.heap.size, 2, none⟩ = some (.int .u8 s[k + 3].toNat) := hg 2 (by omega) (by omega)
          clear hg hcell
          cases hoct : okOct s[k+1] s[k+2] s[k+3]
          · have hno := okOct_no _ _ _ hoct
            have Hoct := Lib.hid hoct
            clear hoct
            refine wp_loop_rounds 4 ?_
            repeat any_goals (rw [rounds_succ]; go_wp2_with fail)
            all_goals (go_ret2; exact ⟨by rw [dec_none o _ _ HD.out (by rw [dec_oct s k h3 H92.out, Hoct.out]; rfl) name H.out]; rfl, hb.trans (hb1.mono hsz)⟩)
          · obtain ⟨q1, q2, q3, q4, q5, q6, q7⟩ := okOct_yes _ _ _ hoct
            have Hoct := Lib.hid hoct
            clear hoct
            have hown1 := hown.below hb1 (Nat.le_refl _)
            refine wp_loop_rounds 4 ?_
            repeat any_goals (rw [rounds_succ]; go_wp2_with (at_builtin; go_must (refine app_lit rfl _ _ rfl w.heap.size _ _ [byteI (octV s[k+1] s[k+2] s[k+3])] rfl hown1 1 _ rfl (oct_cell _ _ _ Hoct.out) rfl (by omega) (by omega) ?_); intro v2 w2 hown2 hb2 _))
            go_roundw
            case rel => exact ⟨k + 4, o ++ [byteI (octV s[k+1] s[k+2] s[k+3])], by omega, by go_num, hown2, by simp; omega, by unfold Hid; rw [HD.out, dec_oct s k h3 H92.out, if_pos Hoct.out]; simp [Option.map_map, Function.comp_def], (hb.trans (hb1.mono hsz)).trans hb2⟩
            case measure => simp [intOf]; omega
        · go_wp2
          go_ret2
          exact ⟨by rw [dec_none o _ _ HD.out (dec_short s k hlt H92.out (by omega)) name H.out]; rfl, hb⟩
      · have hc : ((s[k].toNat : Int) != 92) = true := byte_bne _ 92 _ rfl h92
        have H92 := Lib.hid h92
        clear h92
        go_wp2_with (at_builtin; go_must (refine app_lit rfl _ _ rfl w.heap.size _ _ [s[k]] rfl hown 1 _ rfl rfl rfl (by omega) hsz ?_); intro v1 w1 hown1 hb1 _)
        go_roundw
        case rel => exact ⟨k + 1, o ++ [s[k]], by omega, by go_num, hown1, by simp; omega, by unfold Hid; rw [HD.out, dec_one s k hlt H92.out]; simp [Option.map_map, Function.comp_def], hb.trans hb1⟩
        case measure => simp [intOf]; omega
    · have hstr := run_string_own wr _ _ _ hown
      have Hd : dec s.data.toList = some o := by rw [HD.out, List.drop_eq_nil_of_le (by rw [size_len]; omega)]; simp [dec]
      by_cases hq : quoteF name o = s.toList
      · have hq1 : (quoteF name o == s.toList) = true := by simpa using hq
        have Hq := Lib.hid hq
        have Hd' := Lib.hid Hd
        clear hq Hd
        go_wp2_with (go_at_call 36; refine (quote_any _ _ _ (by simp; omega)).mono ?_; rintro e w1 ⟨rfl, hb1⟩)
        go_ret2
        exact ⟨by rw [plainR, if_neg H.out, Hd'.out]; simp only; rw [if_pos (by rw [Hq.out, ByteArray.toList_eq])]; rfl, hb.trans (hb1.mono hsz)⟩
      · have hq1 : (quoteF name o == s.toList) = false := by simpa using hq
        have Hq := Lib.hid hq
        have Hd' := Lib.hid Hd
        clear hq Hd
        go_wp2_with (go_at_call 36; refine (quote_any _ _ _ (by simp; omega)).mono ?_; rintro e w1 ⟨rfl, hb1⟩)
        go_ret2
        exact ⟨by rw [plainR, if_neg H.out, Hd'.out]; simp only; rw [if_neg (by have h := Hq.out; rw [ByteArray.toList_eq] at h; exact h)]; rfl, hb.trans (hb1.mono hsz)⟩
end Go.Proofs.YtjldphpdfckjnaaDoor
