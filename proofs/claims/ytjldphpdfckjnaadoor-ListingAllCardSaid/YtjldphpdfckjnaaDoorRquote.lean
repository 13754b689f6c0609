import Derived.Test.YtjldphpdfckjnaaDoorQuote
namespace Go.Proofs.YtjldphpdfckjnaaDoor
open Go.RowKit

theorem dig8 (n : Nat) (h : n < 8) : (ByteArray.mk #[48, 49, 50, 51, 52, 53, 54, 55]).extract n (n + 1) = S [byteI (48 + (n : Int))] := by
  obtain rfl | rfl | rfl | rfl | rfl | rfl | rfl | rfl : n = 0 ∨ n = 1 ∨ n = 2 ∨ n = 3 ∨ n = 4 ∨ n = 5 ∨ n = 6 ∨ n = 7 := by omega
  all_goals rfl
theorem quote_str (b : UInt8) (name : Bool) (l : List UInt8) (h : plainB b name = false) :
    S l ++ ({ data := #[92] } ++ (ByteArray.mk #[48, 49, 50, 51, 52, 53, 54, 55]).extract (b.toNat / 64) (b.toNat / 64 + 1) ++ (ByteArray.mk #[48, 49, 50, 51, 52, 53, 54, 55]).extract (b.toNat / 8 % 8) (b.toNat / 8 % 8 + 1) ++
      (ByteArray.mk #[48, 49, 50, 51, 52, 53, 54, 55]).extract (b.toNat % 8) (b.toNat % 8 + 1)) = S (l ++ quote1 name b) := by
  have hb := b.toNat_lt
  rw [dig8 _ (by omega), dig8 _ (by omega), dig8 _ (by omega)]
  show S l ++ (S [92] ++ _ ++ _ ++ _) = _
  simp only [S_append, quote1, h]
  rfl
set_option maxHeartbeats 400000 in
theorem rquote_any (s : ByteArray) (name : Bool) (w : World) (hs : s.size ≤ 1000000) :
    Calls Tryd.prog 42 #[.string s, .bool name] w fun e w' => e = .returned (.string (S (quoteF name s.data.toList))) ∧ Below w.heap.size w w' := by
  by_cases hnil : s.data.toList = []
  · have h0 : s.toList.isEmpty = true := by rw [ByteArray.toList_eq, hnil]; rfl
    have H := Lib.hid hnil
    clear hnil
    go_enter Tryd.func42, Tryd.ntmps42
    go_wp2
    go_ret
    exact ⟨by rw [quoteF, if_pos H.out]; rfl, Below.refl _ _⟩
  have h0 : s.toList.isEmpty = false := by rw [ByteArray.toList_eq]; simpa using hnil
  have H := Lib.hid hnil
  clear hnil
  go_enter Tryd.func42, Tryd.ntmps42
  go_wp2
  go_loopw [6, 7] (fun v i wr => ∃ k : Nat, k ≤ s.size ∧ i = .int .i64 k ∧ v = .string (S (quoteL name (s.data.toList.take k))) ∧ Below w.heap.size w wr) (fun _ i _ => s.size - (intOf i).toNat)
  case atStart => exact ⟨0, Nat.zero_le _, rfl, rfl, Below.refl _ _⟩
  case round =>
    obtain ⟨k, hk, rfl, rfl, hb⟩ := hrel
    have hl := quoteL_len name (s.data.toList.take k)
    have hl2 : (s.data.toList.take k).length ≤ k := List.length_take_le _ _
    have hsz := hb.size
    by_cases hlt : k < s.size
    · have hby := s[k].toNat_lt
      go_upto_region 9 with fail
      go_cut [8, 38] (fun c v wx => c = .int .i64 (s[k].toNat : Int) ∧ v = .bool (!plainB s[k] name) ∧ wx = wr)
      case first =>
        go_wp2
        all_goals (go_meet; refine ⟨by simp_all, ?_, rfl⟩; congr 1; rw [Bool.eq_iff_iff]; cases name <;> simp_all [plainB] <;> omega)
      case rest =>
        obtain ⟨rfl, rfl, rfl⟩ := hcut
        cases hp : plainB s[k] name
        · have Hp := Lib.hid hp
          go_wp2
          go_quiet (fail)
          go_wp2
          go_roundw
          case rel => exact ⟨k + 1, by omega, by go_num, by rw [take_snoc s k hlt, quoteL_snoc]; exact congrArg _ (quote_str _ _ _ Hp.out), belowDrewN hb⟩
          case measure => simp [intOf]; omega
        · have c1 := Lib.hid (quote1_yes s[k] name hp)
          go_wp2
          go_roundw
          case rel => exact ⟨k + 1, by omega, by go_num, by rw [take_snoc s k hlt, quoteL_snoc, c1.out, ext1 s k hlt], hb⟩
          case measure => simp [intOf]; omega
    · go_wp2
      go_ret
      exact ⟨by rw [quoteF, if_neg H.out, take_all s k (by omega)]; rfl, hb⟩
end Go.Proofs.YtjldphpdfckjnaaDoor
