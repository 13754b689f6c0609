import Derived.Test.YtphfcebacilbbaaDoorClassA
namespace Go.Proofs.YtphfcebacilbbaaDoor
open Go.RowKit
def ofP (l : List UInt8) : Nat → Bool := fun n => l.any fun b => b.toNat == n
theorem ofP_snoc (l : List UInt8) (b : UInt8) : ofP (l ++ [b]) = insP (ofP l) b.toNat := by
  funext n
  simp [ofP, insP, Bool.beq_comm (a := n)]
theorem word_none (j : Nat) : wordP (fun _ => false) j = 0 := by
  symm
  refine word_ext _ _ _ (by decide) fun n _ => by simp
/-- four cells that are nothing -/
def ZeroAt (w : World) (g : Nat) : Prop := ∀ j, j < 4 → w.cell? ⟨g, j, none⟩ = some (.int .u64 0) ∧ w.frozen? ⟨g, j, none⟩ = false
theorem ZeroAt.only {w w' : World} {g g' : Nat} (h : ZeroAt w g) (ho : Only g' w w') (hne : g ≠ g') : ZeroAt w' g := fun j hj => ⟨(ho.cell hne).trans (h j hj).1, (World.frozen?_of_block (w := w) (ho.block g hne)).trans (h j hj).2⟩

set_option maxHeartbeats 1000000 in
theorem of_any (s : ByteArray) (w : World) (hs : s.size ≤ 1000000) :
    Calls Tryd.prog 79 #[.string s] w fun e w' => e = .returned (SetV (ofP s.data.toList)) ∧ Below w.heap.size w w' := by
  go_enter Tryd.func79, Tryd.ntmps79
  go_wp2
  go_loopw [7] (fun i wr => ∃ k : Nat, k ≤ s.size ∧ i = .int .i64 k ∧ SetAt wr (w.heap.size + 1) (ofP (s.data.toList.take k)) ∧ ZeroAt wr w.heap.size ∧ Below w.heap.size w wr) (fun i _ => s.size - (intOf i).toNat)
  case atStart =>
    refine ⟨0, by omega, rfl, ?_, ?_, ?_⟩
    · intro j hj
      obtain rfl | rfl | rfl | rfl : j = 0 ∨ j = 1 ∨ j = 2 ∨ j = 3 := by omega
      all_goals exact ⟨(World.cell?_alloc_at _ _ _ _ (by simp)).trans (by rw [show (ofP (List.take 0 s.data.toList)) = fun _ => false from rfl, word_none]; rfl), World.frozen?_alloc_at _ _ _ _ (by simp)⟩
    · intro j hj
      obtain rfl | rfl | rfl | rfl : j = 0 ∨ j = 1 ∨ j = 2 ∨ j = 3 := by omega
      all_goals exact ⟨by simp, by simp⟩
    · exact ((Below.refl _ _).alloc (Nat.le_refl _) _).alloc (by simp) _
  case round =>
    obtain ⟨k, hk, rfl, hset, hzero, hb⟩ := hrel
    by_cases hlt : k < s.size
    · go_wp2_with (go_at_call 72; refine (add_any _ _ _ _ hset).mono ?_; rintro e w1 ⟨rfl, hset1, ho1⟩)
      go_roundw
      case rel => exact ⟨k + 1, by omega, by go_num, by rw [take_snoc s k hlt, ofP_snoc]; exact hset1, hzero.only ho1 (by omega), hb.trans (ho1.below (by omega))⟩
      case measure => simp [intOf]; omega
    · obtain ⟨c0, g0⟩ := hset 0 (by omega)
      obtain ⟨c1, g1⟩ := hset 1 (by omega)
      obtain ⟨c2, g2⟩ := hset 2 (by omega)
      obtain ⟨c3, g3⟩ := hset 3 (by omega)
      obtain ⟨d0, f0⟩ := hzero 0 (by omega)
      obtain ⟨d1, f1⟩ := hzero 1 (by omega)
      obtain ⟨d2, f2⟩ := hzero 2 (by omega)
      obtain ⟨d3, f3⟩ := hzero 3 (by omega)
      go_wp2
      refine bodyPost_ret (v := SetV (ofP (List.take k s.data.toList))) (by simp [results, Tryd.results79, go_sem, SetV, d0, d1, d2, d3]) rfl ⟨by rw [take_all s k (by omega)], ?_⟩
      repeat (refine Below.setCell ?_ (by simp) _)
      exact hb

def rangeP (a b : Int) : Nat → Bool := fun n => decide (a ≤ n) && decide ((n : Int) ≤ b)
theorem rangeP_snoc (a k : Nat) (h : a ≤ k) : rangeP a ((k + 1 : Nat) - 1 : Int) = insP (rangeP a ((k : Int) - 1)) k := by
  funext n
  rw [Bool.eq_iff_iff]
  simp [rangeP, insP]
  omega
theorem rangeP_none (a : Nat) : rangeP a ((a : Int) - 1) = fun _ => false := by
  funext n
  rw [Bool.eq_iff_iff]
  simp [rangeP]
  omega

set_option maxHeartbeats 1000000 in
theorem range_any (a b : Int) (w : World) (ha0 : 0 ≤ a) (ha : a ≤ 255) (hb0 : 0 ≤ b) (hb1 : b ≤ 255) :
    Calls Tryd.prog 58 #[.int .u8 a, .int .u8 b] w fun e w' => e = .returned (SetV (rangeP a b)) ∧ Below w.heap.size w w' := by
  obtain ⟨a, rfl⟩ := Int.eq_ofNat_of_zero_le ha0
  obtain ⟨b, rfl⟩ := Int.eq_ofNat_of_zero_le hb0
  go_enter Tryd.func58, Tryd.ntmps58
  go_wp2
  go_loopw [6] (fun i wr => ∃ k : Nat, a ≤ k ∧ (k ≤ b + 1 ∨ k ≤ a) ∧ i = .int .i64 k ∧ SetAt wr (w.heap.size + 1) (rangeP a ((k : Int) - 1)) ∧ ZeroAt wr w.heap.size ∧ Below w.heap.size w wr) (fun i _ => b + 1 - (intOf i).toNat)
  case atStart =>
    refine ⟨a, by omega, by omega, rfl, ?_, ?_, ?_⟩
    · intro j hj
      obtain rfl | rfl | rfl | rfl : j = 0 ∨ j = 1 ∨ j = 2 ∨ j = 3 := by omega
      all_goals exact ⟨(World.cell?_alloc_at _ _ _ _ (by simp)).trans (by rw [rangeP_none, word_none]; rfl), World.frozen?_alloc_at _ _ _ _ (by simp)⟩
    · intro j hj
      obtain rfl | rfl | rfl | rfl : j = 0 ∨ j = 1 ∨ j = 2 ∨ j = 3 := by omega
      all_goals exact ⟨by simp, by simp⟩
    · exact ((Below.refl _ _).alloc (Nat.le_refl _) _).alloc (by simp) _
  case round =>
    obtain ⟨k, hk1, hk2, rfl, hset, hzero, hb⟩ := hrel
    by_cases hlt : k ≤ b
    · have hby := byteI_toNat (k : Int) (by omega) (by omega)
      have had := add_args (w.heap.size + 1) (rangeP a ((k : Int) - 1)) (k : Int) k wr rfl (by omega) hset
      have Had := Lib.hid had
      clear had
      go_wp2_with (go_at_call 72; refine (Had.out).mono ?_; rintro e w1 ⟨rfl, hset1, ho1⟩)
      go_roundw
      case rel => exact ⟨k + 1, by omega, by omega, by go_num, by rw [rangeP_snoc a k hk1]; exact hset1, hzero.only ho1 (by omega), hb.trans (ho1.below (by omega))⟩
      case measure => simp [intOf]; omega
    · have hsame : rangeP a ((k : Int) - 1) = rangeP a b := by
        funext n
        rw [Bool.eq_iff_iff]
        simp [rangeP]
        omega
      have Hs := Lib.hid hsame
      clear hsame
      obtain ⟨c0, g0⟩ := hset 0 (by omega)
      obtain ⟨c1, g1⟩ := hset 1 (by omega)
      obtain ⟨c2, g2⟩ := hset 2 (by omega)
      obtain ⟨c3, g3⟩ := hset 3 (by omega)
      obtain ⟨d0, f0⟩ := hzero 0 (by omega)
      obtain ⟨d1, f1⟩ := hzero 1 (by omega)
      obtain ⟨d2, f2⟩ := hzero 2 (by omega)
      obtain ⟨d3, f3⟩ := hzero 3 (by omega)
      go_wp2
      refine bodyPost_ret (v := SetV (rangeP a ((k : Int) - 1))) (by simp [results, Tryd.results58, go_sem, SetV, d0, d1, d2, d3]) rfl ⟨by rw [Hs.out], ?_⟩
      repeat (refine Below.setCell ?_ (by simp) _)
      exact hb

theorem shr_bit (x k : Nat) (h : x < 18446744073709551616) : (bits .and .u64 ((x : Int) / 2 ^ k) 1 == 1) = x.testBit k := by
  have e : ((x : Int) / 2 ^ k) = ((x / 2 ^ k : Nat) : Int) := by rw [Int.natCast_ediv, Int.natCast_pow]; rfl
  have h2 : x / 2 ^ k < 18446744073709551616 := Nat.lt_of_le_of_lt (Nat.div_le_self _ _) h
  rw [e, show (1 : Int) = ((1 : Nat) : Int) from rfl, u64_and_nat _ _ h2 (by decide), nat_mask1, Nat.testBit_eq_decide_div_mod_eq, Bool.eq_iff_iff]
  simp only [beq_iff_eq, decide_eq_true_eq]
  omega
theorem has_any (p : Nat → Bool) (b : UInt8) (w : World) :
    Calls Tryd.prog 43 #[SetV p, .int .u8 b.toNat] w fun e w' => e = .returned (.bool (p b.toNat)) ∧ Below w.heap.size w w' := by
  have hb := b.toNat_lt
  unfold SetV
  have hl : ([Value.int .u64 (wordP p 0), .int .u64 (wordP p 1), .int .u64 (wordP p 2), .int .u64 (wordP p 3)] : List Value)[b.toNat / 64]? = some (.int .u64 (wordP p (b.toNat / 64))) := by
    obtain h | h | h | h : b.toNat / 64 = 0 ∨ b.toNat / 64 = 1 ∨ b.toNat / 64 = 2 ∨ b.toNat / 64 = 3 := by omega
    all_goals (rw [h]; rfl)
  go_enter Tryd.func43, Tryd.ntmps43
  go_wp2
  go_ret
  refine ⟨?_, (Below.refl _ _).alloc (Nat.le_refl _) _⟩
  have e := shr_bit (wordP p (b.toNat / 64)) (b.toNat % 64) (word_lt _ _)
  rw [word_bit] at e
  have e2 : 64 * (b.toNat / 64) + b.toNat % 64 = b.toNat := by omega
  rw [e2] at e
  have e3 : decide (b.toNat % 64 < 64) = true := decide_eq_true (by omega)
  rw [e3, Bool.true_and] at e
  rw [← e]
  rfl

def orP (p q : Nat → Bool) : Nat → Bool := fun n => p n || q n
def andP (p q : Nat → Bool) : Nat → Bool := fun n => p n && q n
def notP (p : Nat → Bool) : Nat → Bool := fun n => !p n
theorem or_word (p q : Nat → Bool) (j : Nat) : bits .or .u64 (wordP p j : Int) (wordP q j : Int) = (wordP (orP p q) j : Int) := by
  rw [u64_or_nat _ _ (word_lt _ _) (word_lt _ _)]
  congr 1
  refine word_ext _ _ _ (Nat.or_lt_two_pow (n := 64) (word_lt p _) (word_lt q _)) fun n hn => ?_
  rw [Nat.testBit_or, word_bit, word_bit]
  simp only [hn, decide_true, Bool.true_and, orP]
theorem and_word (p q : Nat → Bool) (j : Nat) : bits .and .u64 (wordP p j : Int) (wordP q j : Int) = (wordP (andP p q) j : Int) := by
  rw [u64_and_nat _ _ (word_lt _ _) (word_lt _ _)]
  congr 1
  refine word_ext _ _ _ (Nat.and_lt_two_pow (n := 64) _ (word_lt q _)) fun n hn => ?_
  rw [Nat.testBit_and, word_bit, word_bit]
  simp only [hn, decide_true, Bool.true_and, andP]

set_option maxHeartbeats 1000000 in
theorem or_any (p q : Nat → Bool) (w : World) :
    Calls Tryd.prog 57 #[SetV p, SetV q] w fun e w' => e = .returned (SetV (orP p q)) ∧ Below w.heap.size w w' := by
  have o0 := or_word p q 0
  have o1 := or_word p q 1
  have o2 := or_word p q 2
  have o3 := or_word p q 3
  rw [SetV_def p, SetV_def q]
  go_enter Tryd.func57, Tryd.ntmps57
  go_wp2
  refine wp_loop_rounds 5 ?_
  rw [rounds_succ]; go_wp2; go_region; go_wp2
  rw [rounds_succ]; go_wp2; go_region; go_wp2
  rw [rounds_succ]; go_wp2; go_region; go_wp2
  rw [rounds_succ]; go_wp2; go_region; go_wp2
  rw [rounds_succ]; go_wp2
  refine bodyPost_ret (v := SetV (orP p q)) (by simp [results, Tryd.results57, go_sem]) rfl ⟨rfl, ?_⟩
  go_grown

set_option maxHeartbeats 1000000 in
theorem and_any (p q : Nat → Bool) (w : World) :
    Calls Tryd.prog 80 #[SetV p, SetV q] w fun e w' => e = .returned (SetV (andP p q)) ∧ Below w.heap.size w w' := by
  have o0 := and_word p q 0
  have o1 := and_word p q 1
  have o2 := and_word p q 2
  have o3 := and_word p q 3
  rw [SetV_def p, SetV_def q]
  go_enter Tryd.func80, Tryd.ntmps80
  go_wp2
  refine wp_loop_rounds 5 ?_
  rw [rounds_succ]; go_wp2; go_region; go_wp2
  rw [rounds_succ]; go_wp2; go_region; go_wp2
  rw [rounds_succ]; go_wp2; go_region; go_wp2
  rw [rounds_succ]; go_wp2; go_region; go_wp2
  rw [rounds_succ]; go_wp2
  refine bodyPost_ret (v := SetV (andP p q)) (by simp [results, Tryd.results80, go_sem]) rfl ⟨rfl, ?_⟩
  go_grown

theorem not_word (p : Nat → Bool) (j : Nat) : bits .xor .u64 IntKind.u64.max (wordP p j : Int) = (wordP (notP p) j : Int) := by
  have e : IntKind.u64.max = ((18446744073709551615 : Nat) : Int) := rfl
  rw [e, bits_xor_u64_nat _ _ (by decide) (word_lt _ _)]
  congr 1
  refine word_ext _ _ _ (Nat.xor_lt_two_pow (n := 64) (by decide) (word_lt p _)) fun n hn => ?_
  have h1 : Nat.testBit 18446744073709551615 n = decide (n < 64) := Nat.testBit_two_pow_sub_one 64 n
  rw [Nat.testBit_xor, word_bit, h1]
  simp only [hn, decide_true, Bool.true_and, notP, Bool.true_xor]
theorem not_any (p : Nat → Bool) (w : World) :
    Calls Tryd.prog 38 #[SetV p] w fun e w' => e = .returned (SetV (notP p)) ∧ Below w.heap.size w w' := by
  have o0 := not_word p 0
  have o1 := not_word p 1
  have o2 := not_word p 2
  have o3 := not_word p 3
  rw [SetV_def p]
  go_enter Tryd.func38, Tryd.ntmps38
  go_wp2
  refine wp_loop_rounds 5 ?_
  rw [rounds_succ]; go_wp2
  rw [rounds_succ]; go_wp2
  rw [rounds_succ]; go_wp2
  rw [rounds_succ]; go_wp2
  rw [rounds_succ]; go_wp2
  refine bodyPost_ret (v := SetV (notP p)) (by simp [results, Tryd.results38, go_sem]) rfl ⟨rfl, ?_⟩
  exact ((Below.refl _ _).alloc (Nat.le_refl _) _).alloc (by simp) _

def noneP : Nat → Bool := fun _ => false
def allP : Nat → Bool := notP noneP
theorem zero_set : Value.agg #[.int .u64 0, .int .u64 0, .int .u64 0, .int .u64 0] = SetV noneP := by
  have h (j : Nat) : wordP noneP j = 0 := word_none j
  rw [SetV_def, h, h, h, h]; rfl
end Go.Proofs.YtphfcebacilbbaaDoor
