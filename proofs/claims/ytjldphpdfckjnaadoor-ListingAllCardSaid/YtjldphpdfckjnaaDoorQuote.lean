import Derived.Test.YtjldphpdfckjnaaDoorKit
namespace Go.Proofs.YtjldphpdfckjnaaDoor
open Go.RowKit

def plainB (b : UInt8) (name : Bool) : Bool := decide (32 < (b.toNat : Int)) && decide ((b.toNat : Int) ≤ 126) && ((b.toNat : Int) != 92) && (name || (b.toNat : Int) != 47)

theorem plain_any (b : UInt8) (name : Bool) (w : World) :
    Calls Tryd.prog 76 #[.int .u8 b.toNat, .bool name] w fun e w' => e = .returned (.bool (plainB b name)) ∧ w = w' := by
  go_enter Tryd.func76, Tryd.ntmps76
  go_wp2
  all_goals (go_ret; refine ⟨?_, rfl⟩; simp only [plainB]; congr 2; first | (simp_all; done) | (simp_all; omega))

def quote1 (name : Bool) (b : UInt8) : List UInt8 :=
  if plainB b name then [b] else [92, byteI (48 + (b.toNat : Int) / 64), byteI (48 + (b.toNat : Int) / 8 % 8), byteI (48 + (b.toNat : Int) % 8)]
def quoteL (name : Bool) (l : List UInt8) : List UInt8 := l.flatMap (quote1 name)
def quoteF (name : Bool) (l : List UInt8) : List UInt8 := if l = [] then [92] else quoteL name l
theorem quoteL_len (name : Bool) (l : List UInt8) : (quoteL name l).length ≤ 4 * l.length := by
  unfold quoteL
  induction l with
  | nil => simp
  | cons b l ih =>
    have h1 : (quote1 name b).length ≤ 4 := by unfold quote1; split <;> simp
    simp only [List.flatMap_cons, List.length_append, List.length_cons]
    omega
theorem quoteL_snoc (name : Bool) (l : List UInt8) (b : UInt8) : quoteL name (l ++ [b]) = quoteL name l ++ quote1 name b := by
  simp [quoteL]
theorem quote_cells (b : UInt8) (name : Bool) (h : plainB b name = false) : [Value.int .u8 92, Value.int .u8 ((48 + (b.toNat : Int) / 64) % 256), Value.int .u8 ((48 + bits .and .u8 ((b.toNat : Int) / 8) 7) % 256),
    Value.int .u8 ((48 + bits .and .u8 (b.toNat : Int) 7) % 256)] = (quote1 name b).map bv := by
  have hb := b.toNat_lt
  rw [u8_and _ _ (by omega) (by omega) (by omega) (by omega), u8_and _ _ (by omega) (by omega) (by omega) (by omega)]
  simp only [quote1, h, Int.reduceToNat, nat_mask3, List.map_cons, List.map_nil, Bool.false_eq_true, if_false]
  rw [bv_byteI _ (by omega) (by omega), bv_byteI _ (by omega) (by omega), bv_byteI _ (by omega) (by omega)]
  refine List.cons_eq_cons.2 ⟨rfl, List.cons_eq_cons.2 ⟨?_, List.cons_eq_cons.2 ⟨?_, List.cons_eq_cons.2 ⟨?_, rfl⟩⟩⟩⟩ <;> (congr 1; omega)

theorem quote1_yes (b : UInt8) (name : Bool) (h : plainB b name = true) : quote1 name b = [b] := by simp [quote1, h]
theorem quote1_len (b : UInt8) (name : Bool) (h : plainB b name = false) : (quote1 name b).length = 4 := by simp [quote1, h]

set_option maxHeartbeats 400000 in
theorem quote_any (s : ByteArray) (name : Bool) (w : World) (hs : s.size ≤ 1000000) :
    Calls Tryd.prog 36 #[.string s, .bool name] w fun e w' => e = .returned (.string (S (quoteF name s.data.toList))) ∧ Below w.heap.size w w' := by
  by_cases hnil : s.data.toList = []
  · have h0 : s.toList.isEmpty = true := by rw [ByteArray.toList_eq, hnil]; rfl
    have H := Lib.hid hnil
    clear hnil
    go_enter Tryd.func36, Tryd.ntmps36
    go_wp2
    go_ret
    exact ⟨by rw [quoteF, if_pos H.out]; rfl, Below.refl _ _⟩
  have h0 : s.toList.isEmpty = false := by rw [ByteArray.toList_eq]; simpa using hnil
  have H := Lib.hid hnil
  clear hnil
  go_enter Tryd.func36, Tryd.ntmps36
  go_wp2
  go_loopw [5, 12] (fun v i wr => ∃ k : Nat, k ≤ s.size ∧ i = .int .i64 k ∧ OwnB wr w.heap.size v (quoteL name (s.data.toList.take k)) ∧ Below w.heap.size w wr) (fun _ i _ => s.size - (intOf i).toNat)
  case atStart => exact ⟨0, Nat.zero_le _, rfl, OwnB.nil _ _, Below.refl _ _⟩
  case round =>
    obtain ⟨k, hk, rfl, hown, hb⟩ := hrel
    have hl := quoteL_len name (s.data.toList.take k)
    have hl2 : (s.data.toList.take k).length ≤ k := List.length_take_le _ _
    have hsz := hb.size
    by_cases hlt : k < s.size
    · cases hp : plainB s[k] name
      · have c1 := Lib.hid (quote_cells s[k] name hp)
        have c2 := Lib.hid (quote1_len s[k] name hp)
        go_wp2_with (first | (go_at_call 76; refine (plain_any _ _ _).mono ?_; rintro e w' ⟨rfl, rfl⟩) | (at_builtin; go_must (refine app_lit rfl _ _ rfl w.heap.size _ _ _ rfl hown 4 _ rfl c1.out c2.out (by omega) hsz ?_); intro v1 w1 hown1 hb1 _))
        go_roundw
        case rel => exact ⟨k + 1, by omega, by go_num, by rw [take_snoc s k hlt, quoteL_snoc]; exact hown1, hb.trans hb1⟩
        case measure => simp [intOf]; omega
      · have c1 := Lib.hid (quote1_yes s[k] name hp)
        go_wp2_with (first | (go_at_call 76; refine (plain_any _ _ _).mono ?_; rintro e w' ⟨rfl, rfl⟩) | (at_builtin; go_must (refine app_lit rfl _ _ rfl w.heap.size _ _ [s[k]] rfl hown 1 _ rfl rfl rfl (by omega) hsz ?_); intro v1 w1 hown1 hb1 _))
        go_roundw
        case rel => exact ⟨k + 1, by omega, by go_num, by rw [take_snoc s k hlt, quoteL_snoc, c1.out]; exact hown1, hb.trans hb1⟩
        case measure => simp [intOf]; omega
    · have hstr := run_string_own wr _ _ _ hown
      go_wp2
      go_ret
      exact ⟨by rw [quoteF, if_neg H.out, take_all s k (by omega)]; rfl, hb⟩
end Go.Proofs.YtjldphpdfckjnaaDoor
