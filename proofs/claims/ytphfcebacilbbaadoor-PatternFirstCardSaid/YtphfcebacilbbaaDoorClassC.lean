import Derived.Test.YtphfcebacilbbaaDoorClassB
namespace Go.Proofs.YtphfcebacilbbaaDoor
open Go.RowKit

def bytesTo (p : Nat → Bool) (k : Nat) : List UInt8 := ((List.range k).filter p).map UInt8.ofNat
def bytesP (p : Nat → Bool) : List UInt8 := bytesTo p 256
theorem bytesTo_yes (p : Nat → Bool) (k : Nat) (h : p k = true) : bytesTo p (k + 1) = bytesTo p k ++ [UInt8.ofNat k] := by simp [bytesTo, List.range_succ, h]
theorem bytesTo_no (p : Nat → Bool) (k : Nat) (h : p k = false) : bytesTo p (k + 1) = bytesTo p k := by simp [bytesTo, List.range_succ, h]
theorem bytesTo_len (p : Nat → Bool) (k : Nat) : (bytesTo p k).length ≤ k := by
  unfold bytesTo
  rw [List.length_map]
  exact Nat.le_trans (List.length_filter_le _ _) (by simp)
theorem has_args (p : Nat → Bool) (x : Int) (n : Nat) (w : World) (hx : x = n) (hn : n < 256) :
    Calls Tryd.prog 43 #[SetV p, .int .u8 x] w fun e w' => e = .returned (.bool (p n)) ∧ Below w.heap.size w w' := by
  have e : (UInt8.ofNat n).toNat = n := by rw [UInt8.toNat_ofNat', Nat.mod_eq_of_lt hn]
  have := has_any p (UInt8.ofNat n) w
  rw [e] at this
  subst hx
  exact this
theorem bv_nat (k : Nat) (h : k < 256) : bv (UInt8.ofNat k) = .int .u8 k := by
  unfold bv
  rw [UInt8.toNat_ofNat', Nat.mod_eq_of_lt h]

def inL (b : UInt8) (l : List UInt8) : Bool := l.any fun c => c == b
theorem inL_snoc (b : UInt8) (l : List UInt8) (c : UInt8) : inL b (l ++ [c]) = (inL b l || c == b) := by simp [inL]
theorem in_yes (b : UInt8) (s : ByteArray) (k : Nat) (h : k < s.size) (he : s[k] = b) : inL b s.data.toList = true := by
  unfold inL
  rw [List.any_eq_true]
  refine ⟨s[k], ?_, by rw [he]; simp⟩
  have : s[k] = s.data.toList[k]'(by rw [size_len]; exact h) := rfl
  rw [this]
  exact List.getElem_mem _
theorem in_any (b : UInt8) (s : ByteArray) (w : World) (hs : s.size ≤ 1000000) :
    Calls Tryd.prog 67 #[.int .u8 b.toNat, .string s] w fun e w' => e = .returned (.bool (inL b s.data.toList)) ∧ w = w' := by
  go_enter Tryd.func67, Tryd.ntmps67
  go_wp2
  go_loop [5] (fun i => ∃ k : Nat, k ≤ s.size ∧ i = .int .i64 k ∧ Hid (inL b (s.data.toList.take k) = false)) (fun i => s.size - (intOf i).toNat)
  case atStart => exact ⟨0, by omega, rfl, rfl⟩
  case round =>
    obtain ⟨k, hk, rfl, hn⟩ := hrel
    by_cases hlt : k < s.size
    · by_cases he : s[k] = b
      · have h1 : ((s[k].toNat : Int) == (b.toNat : Int)) = true := by rw [he]; simp
        have Hr := Lib.hid (in_yes b s k hlt he)
        clear he
        go_wp2
        go_ret
        exact ⟨by rw [Hr.out]; rfl, rfl⟩
      · have h1 : ((s[k].toNat : Int) == (b.toNat : Int)) = false := byte_beq' _ _ _ rfl he
        have Hr := Lib.hid (show inL b (s.data.toList.take (k + 1)) = false by rw [take_snoc s k hlt, inL_snoc, hn.out]; simpa using he)
        clear he
        go_wp2
        go_round
        case rel => exact ⟨k + 1, by omega, by go_num, Hr⟩
        case measure => simp [intOf]; omega
    · have hn2 := hn.out
      rw [take_all s k (by omega)] at hn2
      have Hn := Lib.hid hn2
      clear hn2
      go_wp2
      go_ret
      exact ⟨by rw [Hn.out]; rfl, rfl⟩
theorem in_args (x : Int) (n : Nat) (s : ByteArray) (w : World) (hs : s.size ≤ 1000000) (hx : x = n) (hn : n < 256) :
    Calls Tryd.prog 67 #[.int .u8 x, .string s] w fun e w' => e = .returned (.bool (inL (UInt8.ofNat n) s.data.toList)) ∧ w = w' := by
  have e : (UInt8.ofNat n).toNat = n := by rw [UInt8.toNat_ofNat', Nat.mod_eq_of_lt hn]
  have := in_any (UInt8.ofNat n) s w hs
  rw [e] at this
  subst hx
  exact this

theorem ofP_in (l : List UInt8) (n : Nat) (hn : n < 256) : inL (UInt8.ofNat n) l = ofP l n := by
  unfold inL ofP
  congr 1
  funext c
  rw [Bool.eq_iff_iff]
  simp only [beq_iff_eq]
  constructor
  · intro h; rw [h, UInt8.toNat_ofNat', Nat.mod_eq_of_lt hn]
  · intro h; subst h; simp
theorem bytesP_len (p : Nat → Bool) (k : Nat) : (bytesTo p k).length ≤ k := bytesTo_len p k

set_option maxRecDepth 100000 in
set_option maxHeartbeats 1000000 in
theorem sorted_any (s : ByteArray) (w : World) (hs : s.size ≤ 1000000) :
    Calls Tryd.prog 52 #[.string s] w fun e w' => e = .returned (.string (S (bytesP (ofP s.data.toList)))) ∧ Below w.heap.size w w' := by
  go_enter Tryd.func52, Tryd.ntmps52
  go_wp2
  go_loopw [3, 4] (fun v i wr => ∃ k : Nat, k ≤ 256 ∧ i = .int .i64 k ∧ v = .string (S (bytesTo (ofP s.data.toList) k)) ∧ Below w.heap.size w wr) (fun _ i _ => 256 - (intOf i).toNat)
  case atStart => exact ⟨0, by omega, rfl, rfl, Below.refl _ _⟩
  case round =>
    obtain ⟨k, hk, rfl, rfl, hb⟩ := hrel
    have hl := bytesTo_len (ofP s.data.toList) k
    by_cases hlt : k < 256
    · cases hp : ofP s.data.toList k
      · have Hp := Lib.hid (bytesTo_no _ k hp)
        have hin : inL (UInt8.ofNat k) s.data.toList = false := by rw [ofP_in _ _ hlt, hp]
        clear hp
        go_wp2_with (go_at_call 67; refine (in_args _ k _ _ hs (by omega) hlt).mono ?_; rintro e w1 ⟨rfl, rfl⟩)
        go_roundw
        case rel => exact ⟨k + 1, by omega, by go_num, by rw [Hp.out], hb⟩
        case measure => simp [intOf]; omega
      · have Hp := Lib.hid (bytesTo_yes _ k hp)
        have hin : inL (UInt8.ofNat k) s.data.toList = true := by rw [ofP_in _ _ hlt, hp]
        have hstr := str_lit wr #[.int .u8 (k : Int)] 1 [UInt8.ofNat k] (by rw [List.map_cons, bv_nat k hlt]; rfl) rfl (by decide)
        clear hp
        go_wp2_with (go_at_call 67; refine (in_args _ k _ _ hs (by omega) hlt).mono ?_; rintro e w1 ⟨rfl, rfl⟩)
        go_roundw
        case rel => exact ⟨k + 1, by omega, by go_num, by rw [Hp.out, S_append], hb.alloc hb.size _⟩
        case measure => simp [intOf]; omega
    · obtain rfl : k = 256 := by omega
      go_wp2
      go_ret
      exact ⟨rfl, hb⟩
end Go.Proofs.YtphfcebacilbbaaDoor
