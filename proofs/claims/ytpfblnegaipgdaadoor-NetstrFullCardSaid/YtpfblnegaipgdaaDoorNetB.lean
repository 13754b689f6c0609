import Derived.Test.YtpfblnegaipgdaaDoorNetA
namespace Go.Proofs.YtpfblnegaipgdaaDoor
open Go.RowKit Go.Lib

def putB (l : List (List UInt8)) : Bool := decide ((textsL l).length ≤ 8192)
def putV (l : List (List UInt8)) : Value := if putB l = true then .tuple #[.string (S (textsL l ++ [10])), .int .i64 0] else .tuple #[.string (S []), .int .i64 12]

set_option maxRecDepth 100000 in
set_option maxHeartbeats 1000000 in
theorem Put_any (l : List (List UInt8)) (v : Value) (hl : l.length ≤ 1000000) (hm : ∀ s ∈ l, s.length ≤ 100000) (w : World) (hT : TB w.heap.size w) (hv : StrsV w v l) :
    Calls Tryd.prog 13 #[v] w fun e w' => e = .returned (putV l) ∧ Below w.heap.size w w' := by
  obtain ⟨a, c, rfl, hv⟩ := hv
  go_enter Tryd.func13, Tryd.ntmps13
  go_wp2
  go_loopw [4, 12] (fun n i wr => ∃ k : Nat, k ≤ l.length ∧ i = .int .i64 k ∧ n = .int .i64 (textsL (l.take k)).length ∧ (textsL (l.take k)).length ≤ 8192 ∧ Below w.heap.size w wr) (fun _ i _ => l.length - (intOf i).toNat)
  case atStart => exact ⟨0, by omega, rfl, rfl, by simp [textsL], Below.refl _ _⟩
  case round =>
    obtain ⟨k, hk, rfl, rfl, hle, hb⟩ := hrel
    by_cases hlt : k < l.length
    · obtain ⟨b, off, rfl, h1, h2⟩ := hv (by omega)
      have hc : wr.cell? ⟨b, off + k, none⟩ = some (.string (S l[k])) := by rw [hb.cell (by exact h1)]; exact h2 k hlt
      have hnx := texts_take_succ l k hlt
      have hnl : (textsL (l.take (k + 1))).length = (textsL (l.take k)).length + (textL l[k]).length := by rw [hnx, List.length_append]
      have HS := Lib.hid hnl
      have hsz := hm l[k] (List.getElem_mem hlt)
      have hlen2 : (textL l[k]).length ≤ 2000000 := by
        have := text_len l[k]
        have := digs_len 6 l[k].length (by omega)
        omega
      clear h2 hnx hnl
      by_cases ht : (textsL (l.take k)).length + (textL l[k]).length ≤ 8192
      · have hmin : min ((textL l[k]).length : Int) 8193 = (textL l[k]).length := by omega
        have hmin2 : min (((textsL (l.take k)).length : Int) + (textL l[k]).length) 8193 = (textsL (l.take k)).length + (textL l[k]).length := by omega
        go_wp2_with fail
        refine (size_any l[k] (by omega) _ (hT.on hb)).mono ?_
        rintro e w1 ⟨rfl, hb1⟩
        go_wp2_with fail
        go_roundw
        case rel => exact ⟨k + 1, by omega, by go_num, by rw [HS.out]; go_num, by rw [HS.out]; exact ht, chain hb hb1⟩
        case measure => simp [intOf]; omega
      · have hno : putV l = .tuple #[.string (S []), .int .i64 12] := by
          unfold putV putB
          have := texts_take_le l (k + 1)
          rw [HS.out] at this
          rw [if_neg (by simp; omega)]
        have HN := Lib.hid hno
        have hmin2 : min (((textsL (l.take k)).length : Int) + min ((textL l[k]).length : Int) 8193) 8193 = 8193 := by omega
        clear hno
        go_wp2_with fail
        refine (size_any l[k] (by omega) _ (hT.on hb)).mono ?_
        rintro e w1 ⟨rfl, hb1⟩
        go_wp2_with fail
        go_ret2
        exact ⟨by rw [HN.out]; rfl, chain hb hb1⟩
    · have : k = l.length := by omega
      subst this
      rw [List.take_length] at *
      have hyes : putV l = .tuple #[.string (S (textsL l ++ [10])), .int .i64 0] := by
        unfold putV putB
        rw [if_pos (by simp; omega)]
      have HY := Lib.hid hyes
      clear hyes
      obtain ⟨wo, rfl⟩ : ∃ wo : World, wo = wr := ⟨_, rfl⟩
      go_wp2
      go_loopw [7, 32] (fun v i wr => ∃ k : Nat, k ≤ l.length ∧ i = .int .i64 k ∧ OwnB wr w.heap.size v (textsL (l.take k)) ∧ Below w.heap.size w wr) (fun _ i _ => l.length - (intOf i).toNat)
      case atStart => exact ⟨0, by omega, rfl, OwnB.nil _ _, hb⟩
      case round =>
        clear hb hk
        obtain ⟨k, hk, rfl, hO, hb⟩ := hrel
        have htl := texts_take_le l k
        by_cases hlt : k < l.length
        · obtain ⟨b, off, rfl, h1, h2⟩ := hv (by omega)
          have hc : wr.cell? ⟨b, off + k, none⟩ = some (.string (S l[k])) := by rw [hb.cell (by exact h1)]; exact h2 k hlt
          have hsz := hm l[k] (List.getElem_mem hlt)
          have hdl := digs_len 6 l[k].length (by omega)
          have HS := Lib.hid (show textsL (l.take (k + 1)) = textsL (l.take k) ++ decDigits l[k].length ++ ([58] ++ l[k] ++ [44]) by rw [texts_take_succ l k hlt]; unfold textL; simp [List.append_assoc])
          have hcat : (⟨#[58]⟩ : ByteArray) ++ S l[k] ++ ⟨#[44]⟩ = S (58 :: (l[k] ++ [44])) := by
            show _ = S ([58] ++ (l[k] ++ [44]))
            rw [← List.append_assoc, ← S_append, ← S_append]; rfl
          have hcl : (58 :: (l[k] ++ [44])).length ≤ 100002 := by simp; omega
          have hsize := hb.size
          clear h2
          go_wp2_with fail
          refine (Go.Proofs.Tryd.strconv_AppendInt_10 w.heap.size (textsL (l.take k)).length l[k].length (by omega) (by omega) _ ((textsL (l.take k)).map bv) _ hO hsize (by omega) (hT.on hb)).mono ?_
          rintro e w1 ⟨v1, rfl, hO1, hb1, _⟩
          replace hO1 : OwnB w1 w.heap.size v1 (textsL (l.take k) ++ decDigits l[k].length) := by
            unfold OwnB
            have hi : itoa (l[k].length : Int) = decDigits l[k].length := by unfold itoa; rw [if_neg (by omega), Int.toNat_natCast]
            rw [hi] at hO1
            rw [List.map_append, List.length_append]
            exact hO1
          have hB1 := hb.trans hb1
          clear hO hb1
          have hs1 := hB1.size
          have hgl : (textsL (l.take k) ++ decDigits l[k].length).length ≤ 10000 := by rw [List.length_append]; omega
          have HG := Lib.hid hgl
          have HC := Lib.hid hcl
          clear hgl hcl
          go_wp2_with (refine app_text rfl (.tmp 40) (.tmp 43) rfl w.heap.size v1 _ (58 :: (l[k] ++ [44])) rfl hO1 rfl (by have := HG.out; have := HC.out; omega) hs1 ?_; intro v2 w2 hO2 hb2)
          go_roundw
          case rel => exact ⟨k + 1, by omega, by go_num, by rw [HS.out]; exact hO2, hB1.trans hb2⟩
          case measure => simp [intOf]; omega
        · have : k = l.length := by omega
          subst this
          rw [List.take_length] at hO
          have hs1 := hb.size
          go_wp2_with (refine app_lit rfl (.tmp 46) (.tmp 47) rfl w.heap.size _ (textsL l) [10] rfl hO 1 _ rfl rfl rfl (by omega) hs1 ?_; intro v1 w1 hown1 hb1 _; have hcv := run_string_own _ _ _ _ hown1)
          go_ret2
          exact ⟨by rw [HY.out]; rfl, hb.trans hb1⟩

theorem drewN_of {w w' : World} (h : ∃ m, w' = w.drewN m) : Below w.heap.size w w' := by
  obtain ⟨m, rfl⟩ := h
  exact ⟨rfl, rfl, rfl, Nat.le_refl _, fun _ _ => rfl⟩
def digC (n : Nat) : UInt8 := UInt8.ofNat (48 + n)
theorem digit_const (n : Nat) (hn : n < 10) : (⟨#[48, 49, 50, 51, 52, 53, 54, 55, 56, 57]⟩ : ByteArray).extract n (n + 1) = S [digC n] := by
  have h : n = 0 ∨ n = 1 ∨ n = 2 ∨ n = 3 ∨ n = 4 ∨ n = 5 ∨ n = 6 ∨ n = 7 ∨ n = 8 ∨ n = 9 := by omega
  rcases h with rfl | rfl | rfl | rfl | rfl | rfl | rfl | rfl | rfl | rfl <;> rfl
theorem rdig_any : ∀ (k n : Nat), n < 10 ^ (k + 1) → k ≤ 8 → ∀ w : World, Calls Tryd.prog 36 #[.int .i64 n] w fun e w' => e = .returned (.string (S (decDigits n))) ∧ ∃ m, w' = w.drewN m := by
  intro k
  induction k with
  | zero =>
    intro n hn _ w
    have hn : n < 10 := by simpa using hn
    have e1 : decDigits n = [digC n] := by rw [decDigits, dif_pos hn]; rfl
    have E1 := Lib.hid e1
    have hc := digit_const n hn
    clear e1
    go_enter Tryd.func36, Tryd.ntmps36
    go_wp2_with fail
    go_ret
    exact ⟨by rw [E1.out]; rfl, 0, rfl⟩
  | succ k ih =>
    intro n hn hk w
    by_cases h10 : n < 10
    · have e1 : decDigits n = [digC n] := by rw [decDigits, dif_pos h10]; rfl
      have E1 := Lib.hid e1
      have hc := digit_const n h10
      clear e1
      go_enter Tryd.func36, Tryd.ntmps36
      go_wp2_with fail
      go_ret
      exact ⟨by rw [E1.out]; rfl, 0, rfl⟩
    · have e1 : S (decDigits (n / 10)) ++ S [digC (n % 10)] = S (decDigits n) := by rw [S_append]; rw [decDigits.eq_1 n, dif_neg h10]; rfl
      have hb : n ≤ 1000000000 := by
        have : 10 ^ (k + 1 + 1) ≤ 10 ^ 9 := Nat.pow_le_pow_right (by decide) (by omega)
        omega
      have hlen := digs_len k (n / 10) (by rw [Nat.pow_succ] at hn; omega)
      have hlen2 : (decDigits (n / 10)).length ≤ 10 := by omega
      have IH := Lib.hid (fun w => ih (n / 10) (by rw [Nat.pow_succ] at hn; omega) (by omega) w)
      have E1 := Lib.hid e1
      have hc := digit_const (n % 10) (Nat.mod_lt _ (by decide))
      clear e1 ih hn hlen
      go_enter Tryd.func36, Tryd.ntmps36
      go_wp2_with fail
      go_quiet ((go_at_call 36; exact Calls.quiet_of (IH.out _)))
      go_wp2
      go_ret
      exact ⟨by rw [← E1.out]; rfl, nq, rfl⟩
end Go.Proofs.YtpfblnegaipgdaaDoor
