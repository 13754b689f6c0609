import Derived.Test.YtebgchjffopicaaClassA
namespace Go.Proofs.Ytebgchjffopicaa
open Go.RowKit

def ofP (l : List UInt8) : Nat → Bool := fun n => l.any fun b => b.toNat == n
theorem ofP_snoc (l : List UInt8) (b : UInt8) : ofP (l ++ [b]) = insP (ofP l) b.toNat := by
  funext n
  simp [ofP, insP, Bool.beq_comm (a := n)]
theorem word_none (j : Nat) : wordP (fun _ => false) j = 0 := by
  symm
  refine word_ext _ _ _ (by decide) fun n _ => by simp
/-- four cells that are nothing -/
def ZeroAt (w : World) (g : Nat) : Prop := ∀ j, j < 4 → w.cell? ⟨g, j, none⟩ = some (.int .u64 0) ∧ w.frozen? ⟨g, j, none⟩ = false
theorem ZeroAt.only {w w' : World} {g g' : Nat} (h : ZeroAt w g) (ho : Only g' w w') (hne : g ≠ g') : ZeroAt w' g := fun j hj => ⟨(ho.cell hne).trans (h j hj).1, (World.frozen?_of_block (w := w) (ho.block g hne)).trans (h j hj).2⟩

set_option maxHeartbeats 1000000 in
theorem of_any (s : ByteArray) (w : World) (hs : s.size ≤ 1000000) :
    Calls Try.prog 19 #[.string s] w fun e w' => e = .returned (SetV (ofP s.data.toList)) ∧ Below w.heap.size w w' := by
  go_enter Try.func19, Try.ntmps19
  go_wp2
  go_loopw [7] (fun i wr => ∃ k : Nat, k ≤ s.size ∧ i = .int .i64 k ∧ SetAt wr (w.heap.size + 1) (ofP (s.data.toList.take k)) ∧ ZeroAt wr w.heap.size ∧ Below w.heap.size w wr) (fun i _ => s.size - (intOf i).toNat)
  case atStart =>
    refine ⟨0, by omega, rfl, ?_, ?_, ?_⟩
    · intro j hj
      obtain rfl | rfl | rfl | rfl : j = 0 ∨ j = 1 ∨ j = 2 ∨ j = 3 := by omega
      all_goals exact ⟨(World.cell?_alloc_at _ _ _ _ (by simp)).trans (by rw [show (ofP (List.take 0 s.data.toList)) = fun _ => false from rfl, word_none]; rfl), World.frozen?_alloc_at _ _ _ _ (by simp)⟩
    · intro j hj
      obtain rfl | rfl | rfl | rfl : j = 0 ∨ j = 1 ∨ j = 2 ∨ j = 3 := by omega
      all_goals exact ⟨by simp, by simp⟩
    · exact ((Below.refl _ _).alloc (Nat.le_refl _) _).alloc (by simp) _
  case round =>
    obtain ⟨k, hk, rfl, hset, hzero, hb⟩ := hrel
    by_cases hlt : k < s.size
    · go_wp2_with (go_at_call 49; refine (add_any _ _ _ _ hset).mono ?_; rintro e w1 ⟨rfl, hset1, ho1⟩)
      go_roundw
      case rel => exact ⟨k + 1, by omega, by go_num, by rw [take_snoc s k hlt, ofP_snoc]; exact hset1, hzero.only ho1 (by omega), hb.trans (ho1.below (by omega))⟩
      case measure => simp [intOf]; omega
    · obtain ⟨c0, g0⟩ := hset 0 (by omega)
      obtain ⟨c1, g1⟩ := hset 1 (by omega)
      obtain ⟨c2, g2⟩ := hset 2 (by omega)
      obtain ⟨c3, g3⟩ := hset 3 (by omega)
      obtain ⟨d0, f0⟩ := hzero 0 (by omega)
      obtain ⟨d1, f1⟩ := hzero 1 (by omega)
      obtain ⟨d2, f2⟩ := hzero 2 (by omega)
      obtain ⟨d3, f3⟩ := hzero 3 (by omega)
      go_wp2
      refine bodyPost_ret (v := SetV (ofP (List.take k s.data.toList))) (by simp [results, Try.results19, go_sem, SetV, d0, d1, d2, d3]) rfl ⟨by rw [take_all s k (by omega)], ?_⟩
      repeat (refine Below.setCell ?_ (by simp) _)
      exact hb

def rangeP (a b : Int) : Nat → Bool := fun n => decide (a ≤ n) && decide ((n : Int) ≤ b)
theorem rangeP_snoc (a k : Nat) (h : a ≤ k) : rangeP a ((k + 1 : Nat) - 1 : Int) = insP (rangeP a ((k : Int) - 1)) k := by
  funext n
  rw [Bool.eq_iff_iff]
  simp [rangeP, insP]
  omega
theorem rangeP_none (a : Nat) : rangeP a ((a : Int) - 1) = fun _ => false := by
  funext n
  rw [Bool.eq_iff_iff]
  simp [rangeP]
  omega

set_option maxHeartbeats 1000000 in
theorem range_any (a b : Int) (w : World) (ha0 : 0 ≤ a) (ha : a ≤ 255) (hb0 : 0 ≤ b) (hb1 : b ≤ 255) :
    Calls Try.prog 32 #[.int .u8 a, .int .u8 b] w fun e w' => e = .returned (SetV (rangeP a b)) ∧ Below w.heap.size w w' := by
  obtain ⟨a, rfl⟩ := Int.eq_ofNat_of_zero_le ha0
  obtain ⟨b, rfl⟩ := Int.eq_ofNat_of_zero_le hb0
  go_enter Try.func32, Try.ntmps32
  go_wp2
  go_loopw [6] (fun i wr => ∃ k : Nat, a ≤ k ∧ (k ≤ b + 1 ∨ k ≤ a) ∧ i = .int .i64 k ∧ SetAt wr (w.heap.size + 1) (rangeP a ((k : Int) - 1)) ∧ ZeroAt wr w.heap.size ∧ Below w.heap.size w wr) (fun i _ => b + 1 - (intOf i).toNat)
  case atStart =>
    refine ⟨a, by omega, by omega, rfl, ?_, ?_, ?_⟩
    · intro j hj
      obtain rfl | rfl | rfl | rfl : j = 0 ∨ j = 1 ∨ j = 2 ∨ j = 3 := by omega
      all_goals exact ⟨(World.cell?_alloc_at _ _ _ _ (by simp)).trans (by rw [rangeP_none, word_none]; rfl), World.frozen?_alloc_at _ _ _ _ (by simp)⟩
    · intro j hj
      obtain rfl | rfl | rfl | rfl : j = 0 ∨ j = 1 ∨ j = 2 ∨ j = 3 := by omega
      all_goals exact ⟨by simp, by simp⟩
    · exact ((Below.refl _ _).alloc (Nat.le_refl _) _).alloc (by simp) _
  case round =>
    obtain ⟨k, hk1, hk2, rfl, hset, hzero, hb⟩ := hrel
    by_cases hlt : k ≤ b
    · have hby := byteI_toNat (k : Int) (by omega) (by omega)
      have had := add_args (w.heap.size + 1) (rangeP a ((k : Int) - 1)) (k : Int) k wr rfl (by omega) hset
      have Had := Lib.hid had
      clear had
      go_wp2_with (go_at_call 49; refine (Had.out).mono ?_; rintro e w1 ⟨rfl, hset1, ho1⟩)
      go_roundw
      case rel => exact ⟨k + 1, by omega, by omega, by go_num, by rw [rangeP_snoc a k hk1]; exact hset1, hzero.only ho1 (by omega), hb.trans (ho1.below (by omega))⟩
      case measure => simp [intOf]; omega
    · have hsame : rangeP a ((k : Int) - 1) = rangeP a b := by
        funext n
        rw [Bool.eq_iff_iff]
        simp [rangeP]
        omega
      have Hs := Lib.hid hsame
      clear hsame
      obtain ⟨c0, g0⟩ := hset 0 (by omega)
      obtain ⟨c1, g1⟩ := hset 1 (by omega)
      obtain ⟨c2, g2⟩ := hset 2 (by omega)
      obtain ⟨c3, g3⟩ := hset 3 (by omega)
      obtain ⟨d0, f0⟩ := hzero 0 (by omega)
      obtain ⟨d1, f1⟩ := hzero 1 (by omega)
      obtain ⟨d2, f2⟩ := hzero 2 (by omega)
      obtain ⟨d3, f3⟩ := hzero 3 (by omega)
      go_wp2
      refine bodyPost_ret (v := SetV (rangeP a ((k : Int) - 1))) (by simp [results, Try.results32, go_sem, SetV, d0, d1, d2, d3]) rfl ⟨by rw [Hs.out], ?_⟩
      repeat (refine Below.setCell ?_ (by simp) _)
      exact hb

theorem shr_bit (x k : Nat) (h : x < 18446744073709551616) : (bits .and .u64 ((x : Int) / 2 ^ k) 1 == 1) = x.testBit k := by
  have e : ((x : Int) / 2 ^ k) = ((x / 2 ^ k : Nat) : Int) := by rw [Int.natCast_ediv, Int.natCast_pow]; rfl
  have h2 : x / 2 ^ k < 18446744073709551616 := Nat.lt_of_le_of_lt (Nat.div_le_self _ _) h
  rw [e, show (1 : Int) = ((1 : Nat) : Int) from rfl, u64_and_nat _ _ h2 (by decide), nat_mask1, Nat.testBit_eq_decide_div_mod_eq, Bool.eq_iff_iff]
  simp only [beq_iff_eq, decide_eq_true_eq]
  omega
theorem has_any (p : Nat → Bool) (b : UInt8) (w : World) :
    Calls Try.prog 27 #[SetV p, .int .u8 b.toNat] w fun e w' => e = .returned (.bool (p b.toNat)) ∧ Below w.heap.size w w' := by
  have hb := b.toNat_lt
  unfold SetV
  have hl : ([Value.int .u64 (wordP p 0), .int .u64 (wordP p 1), .int .u64 (wordP p 2), .int .u64 (wordP p 3)] : List Value)[b.toNat / 64]? = some (.int .u64 (wordP p (b.toNat / 64))) := by
    obtain h | h | h | h : b.toNat / 64 = 0 ∨ b.toNat / 64 = 1 ∨ b.toNat / 64 = 2 ∨ b.toNat / 64 = 3 := by omega
    all_goals (rw [h]; rfl)
  go_enter Try.func27, Try.ntmps27
  go_wp2
  go_ret
  refine ⟨?_, (Below.refl _ _).alloc (Nat.le_refl _) _⟩
  have e := shr_bit (wordP p (b.toNat / 64)) (b.toNat % 64) (word_lt _ _)
  rw [word_bit] at e
  have e2 : 64 * (b.toNat / 64) + b.toNat % 64 = b.toNat := by omega
  rw [e2] at e
  have e3 : decide (b.toNat % 64 < 64) = true := decide_eq_true (by omega)
  rw [e3, Bool.true_and] at e
  rw [← e]
  rfl

def orP (p q : Nat → Bool) : Nat → Bool := fun n => p n || q n
def andP (p q : Nat → Bool) : Nat → Bool := fun n => p n && q n
def notP (p : Nat → Bool) : Nat → Bool := fun n => !p n
theorem or_word (p q : Nat → Bool) (j : Nat) : bits .or .u64 (wordP p j : Int) (wordP q j : Int) = (wordP (orP p q) j : Int) := by
  rw [u64_or_nat _ _ (word_lt _ _) (word_lt _ _)]
  congr 1
  refine word_ext _ _ _ (Nat.or_lt_two_pow (n := 64) (word_lt p _) (word_lt q _)) fun n hn => ?_
  rw [Nat.testBit_or, word_bit, word_bit]
  simp only [hn, decide_true, Bool.true_and, orP]
theorem and_word (p q : Nat → Bool) (j : Nat) : bits .and .u64 (wordP p j : Int) (wordP q j : Int) = (wordP (andP p q) j : Int) := by
  rw [u64_and_nat _ _ (word_lt _ _) (word_lt _ _)]
  congr 1
  refine word_ext _ _ _ (Nat.and_lt_two_pow (n := 64) _ (word_lt q _)) fun n hn => ?_
  rw [Nat.testBit_and, word_bit, word_bit]
  simp only [hn, decide_true, Bool.true_and, andP]

set_option maxHeartbeats 1000000 in
theorem or_any (p q : Nat → Bool) (w : World) :
    Calls Try.prog 23 #[SetV p, SetV q] w fun e w' => e = .returned (SetV (orP p q)) ∧ Below w.heap.size w w' := by
  have o0 := or_word p q 0
  have o1 := or_word p q 1
  have o2 := or_word p q 2
  have o3 := or_word p q 3
  rw [SetV_def p, SetV_def q]
  go_enter Try.func23, Try.ntmps23
  go_wp2
  refine wp_loop_rounds 5 ?_
  rw [rounds_succ]; go_wp2; go_region; go_wp2
  rw [rounds_succ]; go_wp2; go_region; go_wp2
  rw [rounds_succ]; go_wp2; go_region; go_wp2
  rw [rounds_succ]; go_wp2; go_region; go_wp2
  rw [rounds_succ]; go_wp2
  refine bodyPost_ret (v := SetV (orP p q)) (by simp [results, Try.results23, go_sem]) rfl ⟨rfl, ?_⟩
  go_grown

set_option maxHeartbeats 1000000 in
theorem and_any (p q : Nat → Bool) (w : World) :
    Calls Try.prog 24 #[SetV p, SetV q] w fun e w' => e = .returned (SetV (andP p q)) ∧ Below w.heap.size w w' := by
  have o0 := and_word p q 0
  have o1 := and_word p q 1
  have o2 := and_word p q 2
  have o3 := and_word p q 3
  rw [SetV_def p, SetV_def q]
  go_enter Try.func24, Try.ntmps24
  go_wp2
  refine wp_loop_rounds 5 ?_
  rw [rounds_succ]; go_wp2; go_region; go_wp2
  rw [rounds_succ]; go_wp2; go_region; go_wp2
  rw [rounds_succ]; go_wp2; go_region; go_wp2
  rw [rounds_succ]; go_wp2; go_region; go_wp2
  rw [rounds_succ]; go_wp2
  refine bodyPost_ret (v := SetV (andP p q)) (by simp [results, Try.results24, go_sem]) rfl ⟨rfl, ?_⟩
  go_grown

theorem not_word (p : Nat → Bool) (j : Nat) : bits .xor .u64 IntKind.u64.max (wordP p j : Int) = (wordP (notP p) j : Int) := by
  have e : IntKind.u64.max = ((18446744073709551615 : Nat) : Int) := rfl
  rw [e, bits_xor_u64_nat _ _ (by decide) (word_lt _ _)]
  congr 1
  refine word_ext _ _ _ (Nat.xor_lt_two_pow (n := 64) (by decide) (word_lt p _)) fun n hn => ?_
  have h1 : Nat.testBit 18446744073709551615 n = decide (n < 64) := Nat.testBit_two_pow_sub_one 64 n
  rw [Nat.testBit_xor, word_bit, h1]
  simp only [hn, decide_true, Bool.true_and, notP, Bool.true_xor]
theorem not_any (p : Nat → Bool) (w : World) :
    Calls Try.prog 25 #[SetV p] w fun e w' => e = .returned (SetV (notP p)) ∧ Below w.heap.size w w' := by
  have o0 := not_word p 0
  have o1 := not_word p 1
  have o2 := not_word p 2
  have o3 := not_word p 3
  rw [SetV_def p]
  go_enter Try.func25, Try.ntmps25
  go_wp2
  refine wp_loop_rounds 5 ?_
  rw [rounds_succ]; go_wp2
  rw [rounds_succ]; go_wp2
  rw [rounds_succ]; go_wp2
  rw [rounds_succ]; go_wp2
  rw [rounds_succ]; go_wp2
  refine bodyPost_ret (v := SetV (notP p)) (by simp [results, Try.results25, go_sem]) rfl ⟨rfl, ?_⟩
  exact ((Below.refl _ _).alloc (Nat.le_refl _) _).alloc (by simp) _

def noneP : Nat → Bool := fun _ => false
def allP : Nat → Bool := notP noneP
theorem zero_set : Value.agg #[.int .u64 0, .int .u64 0, .int .u64 0, .int .u64 0] = SetV noneP := by
  have h (j : Nat) : wordP noneP j = 0 := word_none j
  rw [SetV_def, h, h, h, h]; rfl
theorem all_any (w : World) :
    Calls Try.prog 33 #[] w fun e w' => e = .returned (SetV allP) ∧ Below w.heap.size w w' := by
  go_enter Try.func33, Try.ntmps33
  go_wp2_with fail
  rw [zero_set]
  refine (not_any noneP _).mono ?_
  rintro e w1 ⟨rfl, hb⟩
  obtain ⟨hc, hf⟩ := bcell hb
  have x0 : w1.cell? ⟨w.heap.size, 0, none⟩ = some (.int .u64 0) := by rw [hc _ _ (by simp)]; simp
  have x1 : w1.cell? ⟨w.heap.size, 1, none⟩ = some (.int .u64 0) := by rw [hc _ _ (by simp)]; simp
  have x2 : w1.cell? ⟨w.heap.size, 2, none⟩ = some (.int .u64 0) := by rw [hc _ _ (by simp)]; simp
  have x3 : w1.cell? ⟨w.heap.size, 3, none⟩ = some (.int .u64 0) := by rw [hc _ _ (by simp)]; simp
  clear hc
  go_wp2_with fail
  refine bodyPost_ret (v := SetV (notP noneP)) (by simp [results, Try.results33, go_sem, x0, x1, x2, x3]) rfl ⟨rfl, ?_⟩
  refine ((Below.refl _ _).alloc (Nat.le_refl _) _).trans ((hb.mono (by simp)).trans ?_)
  go_grown

def foldP (p : Nat → Bool) : Nat → Bool := fun n => p n || ((decide (65 ≤ n) && decide (n ≤ 90) && p (n + 32)) || (decide (97 ≤ n) && decide (n ≤ 122) && p (n - 32)))
theorem up_bit (n : Nat) : Nat.testBit 134217726 n = (decide (1 ≤ n) && decide (n ≤ 26)) := by
  have e : 134217726 = 2 ^ 1 * 67108863 := by decide
  rw [e, Nat.testBit_two_pow_mul, show 67108863 = 2 ^ 26 - 1 from by decide, Nat.testBit_two_pow_sub_one, Bool.eq_iff_iff]
  simp only [Bool.and_eq_true, decide_eq_true_eq]
  omega
theorem low_bit (n : Nat) : Nat.testBit 576460743713488896 n = (decide (33 ≤ n) && decide (n ≤ 58)) := by
  have e : 576460743713488896 = 2 ^ 33 * 67108863 := by decide
  rw [e, Nat.testBit_two_pow_mul, show 67108863 = 2 ^ 26 - 1 from by decide, Nat.testBit_two_pow_sub_one, Bool.eq_iff_iff]
  simp only [Bool.and_eq_true, decide_eq_true_eq]
  omega
theorem fold_word (p : Nat → Bool) : bits .or .u64 (wordP p 1 : Int) (bits .or .u64 (IntKind.u64.wrap (bits .and .u64 (wordP p 1 : Int) 134217726 * 4294967296)) (bits .and .u64 (wordP p 1 : Int) 576460743713488896 / 4294967296)) = (wordP (foldP p) 1 : Int) := by
  have hx := word_lt p 1
  have a1 := u64_and_nat (wordP p 1) 134217726 hx (by decide)
  have a2 := u64_and_nat (wordP p 1) 576460743713488896 hx (by decide)
  have l1 : wordP p 1 &&& 134217726 < 2 ^ 27 := Nat.and_lt_two_pow (n := 27) _ (by decide)
  have l2 : wordP p 1 &&& 576460743713488896 < 2 ^ 64 := Nat.and_lt_two_pow (n := 64) _ (by decide)
  have e1 : IntKind.u64.wrap (((wordP p 1 &&& 134217726 : Nat) : Int) * 4294967296) = ((2 ^ 32 * (wordP p 1 &&& 134217726) : Nat) : Int) := by
    generalize wordP p 1 &&& 134217726 = y at l1 ⊢
    rw [IntWalk.u64_in _ ⟨by omega, by omega⟩]
    omega
  have e2 : (((wordP p 1 &&& 576460743713488896 : Nat) : Int) / 4294967296) = (((wordP p 1 &&& 576460743713488896) / 2 ^ 32 : Nat) : Int) := by omega
  have b1 : 2 ^ 32 * (wordP p 1 &&& 134217726) < 18446744073709551616 := by omega
  have b2 : (wordP p 1 &&& 576460743713488896) / 2 ^ 32 < 18446744073709551616 := by omega
  show bits .or .u64 (wordP p 1 : Int) (bits .or .u64 (IntKind.u64.wrap (bits .and .u64 (wordP p 1 : Int) ((134217726 : Nat) : Int) * 4294967296)) (bits .and .u64 (wordP p 1 : Int) ((576460743713488896 : Nat) : Int) / 4294967296)) = _
  rw [a1, a2, e1, e2, u64_or_nat _ _ b1 b2, u64_or_nat _ _ hx (Nat.or_lt_two_pow (n := 64) b1 b2)]
  congr 1
  refine word_ext _ _ _ (Nat.or_lt_two_pow (n := 64) hx (Nat.or_lt_two_pow (n := 64) b1 b2)) fun n hn => ?_
  rw [Nat.testBit_or, Nat.testBit_or, Nat.testBit_two_pow_mul, Nat.testBit_and, up_bit, Nat.testBit_div_two_pow, Nat.testBit_and, low_bit, word_bit, word_bit, word_bit]
  simp only [foldP, Nat.mul_one]
  have x1 : 64 + n + 32 = 64 + (n + 32) := by omega
  rw [x1]
  by_cases h1 : 33 ≤ n ∧ n ≤ 58
  · have x2 : 64 + n - 32 = 64 + (n - 32) := by omega
    rw [x2]
    have d1 : decide (n ≥ 32) = true := decide_eq_true (by omega)
    have d2 : decide (n - 32 < 64) = true := decide_eq_true (by omega)
    have d3 : decide (1 ≤ n - 32) = true := decide_eq_true (by omega)
    have d6 : decide (64 + n ≤ 90) = false := decide_eq_false (by omega)
    have d7 : decide (97 ≤ 64 + n) = true := decide_eq_true (by omega)
    have d8 : decide (64 + n ≤ 122) = true := decide_eq_true (by omega)
    have d9 : decide (n ≤ 58) = true := decide_eq_true (by omega)
    have d10 : decide (n ≤ 26) = false := decide_eq_false (by omega)
    simp [hn, d1, d2, d3, d6, d7, d8, d9, d10]
  · have d0 : (decide (97 ≤ 64 + n) && decide (64 + n ≤ 122)) = false := by rw [Bool.and_eq_false_iff]; simp only [decide_eq_false_iff_not]; omega
    have d1 : (decide (n ≥ 32) && (decide (1 ≤ n - 32) && decide (n - 32 ≤ 26))) = false := by
      by_cases hh : n ≥ 32
      · simp only [hh, decide_true, Bool.true_and, Bool.and_eq_false_iff, decide_eq_false_iff_not]; omega
      · simp [hh]
    have d2 : (decide (n ≥ 32) && (decide (n - 32 < 64) && p (64 + (n - 32)) && (decide (1 ≤ n - 32) && decide (n - 32 ≤ 26)))) = false := by
      cases ha : decide (n ≥ 32)
      · rfl
      · rw [ha, Bool.true_and] at d1
        rw [d1]; simp
    rw [d0, d2]
    by_cases h2 : 1 ≤ n ∧ n ≤ 26
    · have c1 : decide (n + 32 < 64) = true := decide_eq_true (by omega)
      have c4 : decide (65 ≤ 64 + n) = true := decide_eq_true (by omega)
      have c5 : decide (64 + n ≤ 90) = true := decide_eq_true (by omega)
      have c6 : decide (1 ≤ n) = true := decide_eq_true (by omega)
      have c7 : decide (n ≤ 26) = true := decide_eq_true (by omega)
      simp [hn, c1, c4, c5, c6, c7]
    · have c1 : (decide (33 ≤ n + 32) && decide (n + 32 ≤ 58)) = false := by rw [Bool.and_eq_false_iff]; simp only [decide_eq_false_iff_not]; omega
      have c2 : (decide (65 ≤ 64 + n) && decide (64 + n ≤ 90)) = false := by rw [Bool.and_eq_false_iff]; simp only [decide_eq_false_iff_not]; omega
      rw [c1, c2]
      simp [hn]
theorem fold_other (p : Nat → Bool) (j : Nat) (h : j ≠ 1) : wordP (foldP p) j = wordP p j := by
  symm
  refine word_ext _ _ _ (word_lt p j) fun n hn => ?_
  rw [word_bit]
  have c1 : (decide (65 ≤ 64 * j + n) && decide (64 * j + n ≤ 90)) = false := by rw [Bool.and_eq_false_iff]; simp only [decide_eq_false_iff_not]; omega
  have c2 : (decide (97 ≤ 64 * j + n) && decide (64 * j + n ≤ 122)) = false := by rw [Bool.and_eq_false_iff]; simp only [decide_eq_false_iff_not]; omega
  simp only [foldP, c1, c2, hn, decide_true, Bool.true_and, Bool.false_and, Bool.or_false]
theorem fold_any (p : Nat → Bool) (w : World) :
    Calls Try.prog 34 #[SetV p] w fun e w' => e = .returned (SetV (foldP p)) ∧ Below w.heap.size w w' := by
  have hw := fold_word p
  rw [SetV_def p]
  go_enter Try.func34, Try.ntmps34
  go_wp2
  refine bodyPost_ret (v := SetV (foldP p)) (by simp [results, Try.results34, go_sem, fold_other p 0 (by decide), fold_other p 2 (by decide), fold_other p 3 (by decide)]) rfl ⟨rfl, ?_⟩
  go_grown
end Go.Proofs.Ytebgchjffopicaa
