import Derived.Test.YthcmoigdihdabaaClassB
namespace Go.Proofs.Ythcmoigdihdabaa
open Go.RowKit

def bytesTo (p : Nat → Bool) (k : Nat) : List UInt8 := ((List.range k).filter p).map UInt8.ofNat
def bytesP (p : Nat → Bool) : List UInt8 := bytesTo p 256
theorem bytesTo_yes (p : Nat → Bool) (k : Nat) (h : p k = true) : bytesTo p (k + 1) = bytesTo p k ++ [UInt8.ofNat k] := by simp [bytesTo, List.range_succ, h]
theorem bytesTo_no (p : Nat → Bool) (k : Nat) (h : p k = false) : bytesTo p (k + 1) = bytesTo p k := by simp [bytesTo, List.range_succ, h]
theorem bytesTo_len (p : Nat → Bool) (k : Nat) : (bytesTo p k).length ≤ k := by
  unfold bytesTo
  rw [List.length_map]
  exact Nat.le_trans (List.length_filter_le _ _) (by simp)
theorem has_args (p : Nat → Bool) (x : Int) (n : Nat) (w : World) (hx : x = n) (hn : n < 256) :
    Calls Try.prog 73 #[SetV p, .int .u8 x] w fun e w' => e = .returned (.bool (p n)) ∧ Below w.heap.size w w' := by
  have e : (UInt8.ofNat n).toNat = n := by rw [UInt8.toNat_ofNat', Nat.mod_eq_of_lt hn]
  have := has_any p (UInt8.ofNat n) w
  rw [e] at this
  subst hx
  exact this
theorem bv_nat (k : Nat) (h : k < 256) : bv (UInt8.ofNat k) = .int .u8 k := by
  unfold bv
  rw [UInt8.toNat_ofNat', Nat.mod_eq_of_lt h]

set_option maxRecDepth 100000 in
set_option maxHeartbeats 1000000 in
theorem bytes_any (p : Nat → Bool) (w : World) :
    Calls Try.prog 53 #[SetV p] w fun e w' => e = .returned (.string (S (bytesP p))) ∧ Below w.heap.size w w' := by
  rw [SetV_def p]
  go_enter Try.func53, Try.ntmps53
  go_wp2
  go_loopw [3, 5] (fun v i wr => ∃ k : Nat, k ≤ 256 ∧ i = .int .i64 k ∧ OwnB wr (w.heap.size + 1) v (bytesTo p k) ∧ SetAt wr w.heap.size p ∧ Below w.heap.size w wr ∧ w.heap.size + 1 ≤ wr.heap.size) (fun _ i _ => 256 - (intOf i).toNat)
  case atStart =>
    refine ⟨0, by omega, rfl, OwnB.nil _ _, ?_, (Below.refl _ _).alloc (Nat.le_refl _) _, by simp⟩
    intro j hj
    obtain rfl | rfl | rfl | rfl : j = 0 ∨ j = 1 ∨ j = 2 ∨ j = 3 := by omega
    all_goals exact ⟨by simp, by simp⟩
  case round =>
    obtain ⟨k, hk, rfl, hown, hset, hb, hz⟩ := hrel
    have hl := bytesTo_len p k
    by_cases hlt : k < 256
    · obtain ⟨c0, g0⟩ := hset 0 (by omega)
      obtain ⟨c1, g1⟩ := hset 1 (by omega)
      obtain ⟨c2, g2⟩ := hset 2 (by omega)
      obtain ⟨c3, g3⟩ := hset 3 (by omega)
      have hset' : ∀ w1, Below wr.heap.size wr w1 → SetAt w1 w.heap.size p := fun w1 h j hj => by
        obtain ⟨a, b⟩ := hset j hj
        exact ⟨(h.cell (p := ⟨w.heap.size, j, none⟩) hz).trans a, (h.frozen (p := ⟨w.heap.size, j, none⟩) hz).trans b⟩
      have Hset := Lib.hid hset'
      clear hset'
      cases hp : p k
      · have Hp := Lib.hid (bytesTo_no p k hp)
        go_wp2_with (go_at_call 73; rw [← SetV_def p]; refine (has_args p _ k _ (by omega) hlt).mono ?_; rintro e w1 ⟨rfl, hb1⟩)
        go_roundw
        case rel => exact ⟨k + 1, by omega, by go_num, by rw [Hp.out]; exact hown.below hb1 (Nat.le_refl _), Hset.out _ hb1, hb.trans (hb1.mono (by omega)), by have := hb1.size; omega⟩
        case measure => simp [intOf]; omega
      · have Hp := Lib.hid (bytesTo_yes p k hp)
        have c5 := Lib.hid (bv_nat k hlt)
        go_wp2_with (first | (go_at_call 73; rw [← SetV_def p]; refine (has_args p _ k _ (by omega) hlt).mono ?_; rintro e w1 ⟨rfl, hb1⟩; have hown1 := hown.below hb1 (Nat.le_refl _); have hz1 := hb1.size) | (at_builtin; go_must (refine app_lit rfl _ _ rfl (w.heap.size + 1) _ _ [UInt8.ofNat k] rfl hown1 1 _ rfl (by rw [List.map_cons, c5.out]; rfl) rfl (by omega) (by omega) ?_); intro v2 w2 hown2 hb2 hg2))
        go_roundw
        case rel => exact ⟨k + 1, by omega, by go_num, by rw [Hp.out]; exact hown2, by
          intro j hj
          obtain ⟨a, b⟩ := Hset.out _ hb1 j hj
          exact ⟨(hb2.cell (p := ⟨w.heap.size, j, none⟩) (Nat.lt_succ_self _)).trans a, (hb2.frozen (p := ⟨w.heap.size, j, none⟩) (Nat.lt_succ_self _)).trans b⟩, (hb.trans (hb1.mono (by omega))).trans (hb2.mono (by omega)), by have := hb1.size; have := hb2.size; omega⟩
        case measure => simp [intOf]; omega
    · obtain rfl : k = 256 := by omega
      have hstr := run_string_own wr _ _ _ hown
      go_wp2
      go_ret
      exact ⟨rfl, hb⟩

def inL (b : UInt8) (l : List UInt8) : Bool := l.any fun c => c == b
theorem inL_snoc (b : UInt8) (l : List UInt8) (c : UInt8) : inL b (l ++ [c]) = (inL b l || c == b) := by simp [inL]
theorem in_yes (b : UInt8) (s : ByteArray) (k : Nat) (h : k < s.size) (he : s[k] = b) : inL b s.data.toList = true := by
  unfold inL
  rw [List.any_eq_true]
  refine ⟨s[k], ?_, by rw [he]; simp⟩
  have : s[k] = s.data.toList[k]'(by rw [size_len]; exact h) := rfl
  rw [this]
  exact List.getElem_mem _
theorem in_any (b : UInt8) (s : ByteArray) (w : World) (hs : s.size ≤ 1000000) :
    Calls Try.prog 89 #[.int .u8 b.toNat, .string s] w fun e w' => e = .returned (.bool (inL b s.data.toList)) ∧ w = w' := by
  go_enter Try.func89, Try.ntmps89
  go_wp2
  go_loop [5] (fun i => ∃ k : Nat, k ≤ s.size ∧ i = .int .i64 k ∧ Hid (inL b (s.data.toList.take k) = false)) (fun i => s.size - (intOf i).toNat)
  case atStart => exact ⟨0, by omega, rfl, rfl⟩
  case round =>
    obtain ⟨k, hk, rfl, hn⟩ := hrel
    by_cases hlt : k < s.size
    · by_cases he : s[k] = b
      · have h1 : ((s[k].toNat : Int) == (b.toNat : Int)) = true := by rw [he]; simp
        have Hr := Lib.hid (in_yes b s k hlt he)
        clear he
        go_wp2
        go_ret
        exact ⟨by rw [Hr.out]; rfl, rfl⟩
      · have h1 : ((s[k].toNat : Int) == (b.toNat : Int)) = false := byte_beq' _ _ _ rfl he
        have Hr := Lib.hid (show inL b (s.data.toList.take (k + 1)) = false by rw [take_snoc s k hlt, inL_snoc, hn.out]; simpa using he)
        clear he
        go_wp2
        go_round
        case rel => exact ⟨k + 1, by omega, by go_num, Hr⟩
        case measure => simp [intOf]; omega
    · have hn2 := hn.out
      rw [take_all s k (by omega)] at hn2
      have Hn := Lib.hid hn2
      clear hn2
      go_wp2
      go_ret
      exact ⟨by rw [Hn.out]; rfl, rfl⟩
theorem in_args (x : Int) (n : Nat) (s : ByteArray) (w : World) (hs : s.size ≤ 1000000) (hx : x = n) (hn : n < 256) :
    Calls Try.prog 89 #[.int .u8 x, .string s] w fun e w' => e = .returned (.bool (inL (UInt8.ofNat n) s.data.toList)) ∧ w = w' := by
  have e : (UInt8.ofNat n).toNat = n := by rw [UInt8.toNat_ofNat', Nat.mod_eq_of_lt hn]
  have := in_any (UInt8.ofNat n) s w hs
  rw [e] at this
  subst hx
  exact this

theorem ofP_in (l : List UInt8) (n : Nat) (hn : n < 256) : inL (UInt8.ofNat n) l = ofP l n := by
  unfold inL ofP
  congr 1
  funext c
  rw [Bool.eq_iff_iff]
  simp only [beq_iff_eq]
  constructor
  · intro h; rw [h, UInt8.toNat_ofNat', Nat.mod_eq_of_lt hn]
  · intro h; subst h; simp
theorem bytesP_len (p : Nat → Bool) (k : Nat) : (bytesTo p k).length ≤ k := bytesTo_len p k

set_option maxRecDepth 100000 in
set_option maxHeartbeats 1000000 in
theorem sorted_any (s : ByteArray) (w : World) (hs : s.size ≤ 1000000) :
    Calls Try.prog 71 #[.string s] w fun e w' => e = .returned (.string (S (bytesP (ofP s.data.toList)))) ∧ Below w.heap.size w w' := by
  go_enter Try.func71, Try.ntmps71
  go_wp2
  go_loopw [3, 4] (fun v i wr => ∃ k : Nat, k ≤ 256 ∧ i = .int .i64 k ∧ v = .string (S (bytesTo (ofP s.data.toList) k)) ∧ Below w.heap.size w wr) (fun _ i _ => 256 - (intOf i).toNat)
  case atStart => exact ⟨0, by omega, rfl, rfl, Below.refl _ _⟩
  case round =>
    obtain ⟨k, hk, rfl, rfl, hb⟩ := hrel
    have hl := bytesTo_len (ofP s.data.toList) k
    by_cases hlt : k < 256
    · cases hp : ofP s.data.toList k
      · have Hp := Lib.hid (bytesTo_no _ k hp)
        have hin : inL (UInt8.ofNat k) s.data.toList = false := by rw [ofP_in _ _ hlt, hp]
        clear hp
        go_wp2_with (go_at_call 89; refine (in_args _ k _ _ hs (by omega) hlt).mono ?_; rintro e w1 ⟨rfl, rfl⟩)
        go_roundw
        case rel => exact ⟨k + 1, by omega, by go_num, by rw [Hp.out], hb⟩
        case measure => simp [intOf]; omega
      · have Hp := Lib.hid (bytesTo_yes _ k hp)
        have hin : inL (UInt8.ofNat k) s.data.toList = true := by rw [ofP_in _ _ hlt, hp]
        have hstr := str_lit wr #[.int .u8 (k : Int)] 1 [UInt8.ofNat k] (by rw [List.map_cons, bv_nat k hlt]; rfl) rfl (by decide)
        clear hp
        go_wp2_with (go_at_call 89; refine (in_args _ k _ _ hs (by omega) hlt).mono ?_; rintro e w1 ⟨rfl, rfl⟩)
        go_roundw
        case rel => exact ⟨k + 1, by omega, by go_num, by rw [Hp.out, S_append], hb.alloc hb.size _⟩
        case measure => simp [intOf]; omega
    · obtain rfl : k = 256 := by omega
      go_wp2
      go_ret
      exact ⟨rfl, hb⟩
end Go.Proofs.Ythcmoigdihdabaa
