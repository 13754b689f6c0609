import Derived.Test.YtjoalambgckchaaClassE
namespace Go.Proofs.Ytjoalambgckchaa
open Go.RowKit

def cnt (p : Nat → Bool) (a : Nat) : Nat → Nat
  | 0 => 0
  | n + 1 => cnt p a n + (if p (a + n) then 1 else 0)
theorem cnt_add (p : Nat → Bool) (a m n : Nat) : cnt p a (m + n) = cnt p a m + cnt p (a + m) n := by
  induction n with
  | zero => rfl
  | succ n ih => rw [Nat.add_succ, cnt, cnt, ih, show a + (m + n) = a + m + n from by omega]; omega
theorem cnt_bytes (p : Nat → Bool) (k : Nat) : (bytesTo p k).length = cnt p 0 k := by
  induction k with
  | zero => rfl
  | succ k ih =>
    cases h : p k
    · rw [bytesTo_no p k h, cnt, ih, Nat.zero_add, h]; simp
    · rw [bytesTo_yes p k h, cnt, List.length_append, ih, Nat.zero_add, h]; simp
def b2 (b : Bool) (x : Nat) : Nat := if b then x else 0
def byteP (p : Nat → Bool) (a : Nat) : Nat := b2 (p a) 1 + b2 (p (a + 1)) 2 + b2 (p (a + 2)) 4 + b2 (p (a + 3)) 8 + b2 (p (a + 4)) 16 + b2 (p (a + 5)) 32 + b2 (p (a + 6)) 64 + b2 (p (a + 7)) 128
theorem pop_bool : ∀ x0 x1 x2 x3 x4 x5 x6 x7 : Bool, (let c := b2 x0 1 + b2 x1 2 + b2 x2 4 + b2 x3 8 + b2 x4 16 + b2 x5 32 + b2 x6 64 + b2 x7 128; c < 256 ∧ pop8 c = b2 x0 1 + b2 x1 1 + b2 x2 1 + b2 x3 1 + b2 x4 1 + b2 x5 1 + b2 x6 1 + b2 x7 1) := by
  decide +kernel
theorem pop_byte (p : Nat → Bool) (a : Nat) : byteP p a < 256 ∧ pop8 (byteP p a) = cnt p a 8 ∧ cnt p a 8 ≤ 8 := by
  have h := pop_bool (p a) (p (a + 1)) (p (a + 2)) (p (a + 3)) (p (a + 4)) (p (a + 5)) (p (a + 6)) (p (a + 7))
  have h1 (b : Bool) : b2 b 1 ≤ 1 := by cases b <;> simp [b2]
  have e : cnt p a 8 = b2 (p a) 1 + b2 (p (a + 1)) 1 + b2 (p (a + 2)) 1 + b2 (p (a + 3)) 1 + b2 (p (a + 4)) 1 + b2 (p (a + 5)) 1 + b2 (p (a + 6)) 1 + b2 (p (a + 7)) 1 := by simp [cnt, b2]
  refine ⟨h.1, ?_, ?_⟩
  · rw [e]; exact h.2
  · rw [e]
    have := h1 (p a); have := h1 (p (a + 1)); have := h1 (p (a + 2)); have := h1 (p (a + 3)); have := h1 (p (a + 4)); have := h1 (p (a + 5)); have := h1 (p (a + 6)); have := h1 (p (a + 7))
    omega
theorem enc_byte (p : Nat → Bool) (j i : Nat) : encW p j (i + 8) = encW p j i + 2 ^ i * byteP p (64 * j + i) := by
  simp only [encW, byteP, b2, Nat.add_assoc, Nat.mul_add, Nat.pow_add, Nat.reducePow]
  have hm (b : Bool) (x y : Nat) : (if b = true then x * y else 0) = x * (if b = true then y else 0) := by cases b <;> simp
  simp only [hm]
  have h1 (b : Bool) (x : Nat) : (if b = true then x else 0) = x * (if b = true then 1 else 0) := by cases b <;> simp
  rw [h1 _ (2 ^ i)]
def bytes8 (p : Nat → Bool) (a : Nat) : List Nat := [byteP p a, byteP p (a + 8), byteP p (a + 16), byteP p (a + 24), byteP p (a + 32), byteP p (a + 40), byteP p (a + 48), byteP p (a + 56)]
theorem word_val (p : Nat → Bool) (j : Nat) : wordP p j = val (bytes8 p (64 * j)) := by
  unfold wordP
  rw [show 64 = 0 + 8 + 8 + 8 + 8 + 8 + 8 + 8 + 8 from rfl, enc_byte, enc_byte, enc_byte, enc_byte, enc_byte, enc_byte, enc_byte, enc_byte]
  simp only [encW, bytes8, val, Nat.reduceAdd, Nat.reducePow, Nat.add_zero, Nat.zero_add, Nat.mul_zero, Nat.one_mul]
  omega

theorem and127 (n : Int) : bits .and .i64 n 127 = n % 128 := i64_and127 n

theorem val_lt (l : List Nat) (h : ∀ a ∈ l, a < 256) : val l < 256 ^ l.length := by
  induction l with
  | nil => simp [val]
  | cons a l ih =>
    have h1 := h a (by simp)
    have h2 := ih fun b hb => h b (by simp [hb])
    rw [val, List.length_cons, Nat.pow_succ]
    omega
theorem m1 : msk 85 8 = 6148914691236517205 := by simp only [msk]
theorem m2 : msk 51 8 = 3689348814741910323 := by simp only [msk]
theorem m3 : msk 15 8 = 1085102592571150095 := by simp only [msk]
theorem pop_steps (l : List Nat) (hl : l.length = 8) (hf : ∀ a ∈ l, a < 256) : ∃ y1 y2 y3, (val l / 2 &&& 6148914691236517205) + (val l &&& 6148914691236517205) = y1 ∧ (y1 / 4 &&& 3689348814741910323) + (y1 &&& 3689348814741910323) = y2 ∧
    (y2 / 16 + y2) &&& 1085102592571150095 = y3 ∧ y1 < 256 ^ 8 ∧ y2 < 256 ^ 8 ∧ y2 / 16 + y2 < 256 ^ 8 ∧ y3 = val (l.map pop8) := by
  have f1 := stepF 1 85 (.inl ⟨rfl, rfl⟩) l hf
  have hf1 : ∀ a ∈ l.map (stepG 1 85), a < 256 := by
    intro a ha
    obtain ⟨c, hc, rfl⟩ := List.mem_map.1 ha
    exact (pop_facts c (hf c hc)).1
  have l1 : (l.map (stepG 1 85)).length = 8 := by rw [List.length_map, hl]
  have f2 := stepF 2 51 (.inr ⟨rfl, rfl⟩) (l.map (stepG 1 85)) hf1
  have hf2 : ∀ a ∈ (l.map (stepG 1 85)).map (stepG 2 51), a % 16 ≤ 4 ∧ a / 16 ≤ 4 := by
    intro a ha
    obtain ⟨c, hc, rfl⟩ := List.mem_map.1 ha
    obtain ⟨d, hd, rfl⟩ := List.mem_map.1 hc
    exact (pop_facts d (hf d hd)).2
  have l2 : ((l.map (stepG 1 85)).map (stepG 2 51)).length = 8 := by rw [List.length_map, l1]
  have f3 := step4 ((l.map (stepG 1 85)).map (stepG 2 51)) hf2
  rw [hl, m1] at f1
  rw [l1, m2] at f2
  rw [l2, m3] at f3
  have b1 := val_lt _ hf1
  have b2 := val_lt ((l.map (stepG 1 85)).map (stepG 2 51)) (fun a ha => by have := hf2 a ha; omega)
  rw [l1] at b1
  rw [l2] at b2
  refine ⟨val (l.map (stepG 1 85)), val ((l.map (stepG 1 85)).map (stepG 2 51)), _, f1, f2, f3, b1, b2, ?_, ?_⟩
  · have b3 : val ((l.map (stepG 1 85)).map (stepG 2 51)) * 3 ≤ 256 ^ 8 := by
      have : ∀ (l : List Nat), (∀ a ∈ l, a % 16 ≤ 4 ∧ a / 16 ≤ 4) → val l * 3 ≤ 256 ^ l.length := by
        intro l
        induction l with
        | nil => intro _; simp [val]
        | cons a l ih =>
          intro h
          have h1 := h a (by simp)
          have h2 := ih fun b hb => h b (by simp [hb])
          rw [val, List.length_cons, Nat.pow_succ]
          have h4 : a ≤ 68 := by omega
          have h5 : val l < 256 ^ l.length := val_lt l fun b hb => by have := h b (by simp [hb]); omega
          have h6 : val l * 3 + 1 ≤ 256 ^ l.length := by
            rcases Nat.lt_or_eq_of_le h2 with h | h
            · exact h
            · exfalso
              have : (val l * 3) % 3 = 0 := Nat.mul_mod_left _ _
              rw [h, Nat.pow_mod] at this
              have e : ∀ n, 1 ^ n % 3 = 1 := fun n => by rw [Nat.one_pow]
              rw [show 256 % 3 = 1 from rfl, e] at this
              omega
          omega
      have := this _ hf2
      rwa [l2] at this
    omega
  · rw [List.map_map, List.map_map]
    rfl
theorem andN (x m : Nat) (hx : x < 18446744073709551616) (hm : m < 18446744073709551616) : bits .and .u64 (x : Int) (m : Int) = ((x &&& m : Nat) : Int) := u64_and_nat _ _ hx hm
theorem wrapN (n : Nat) (h : n < 18446744073709551616) : IntKind.u64.wrap (n : Int) = n := IntWalk.u64_in _ ⟨by omega, by omega⟩
theorem e1l (x k m y : Nat) (hx : x < 18446744073709551616) (hm : m < 18446744073709551616) (h : (x / k &&& m) + (x &&& m) = y) (hy : y < 18446744073709551616) : IntKind.u64.wrap (bits .and .u64 ((x : Int) / (k : Int)) (m : Int) + bits .and .u64 (x : Int) (m : Int)) = (y : Int) := by
  have hk : x / k < 18446744073709551616 := Nat.lt_of_le_of_lt (Nat.div_le_self _ _) hx
  rw [show ((x : Int) / (k : Int)) = ((x / k : Nat) : Int) from (Int.natCast_ediv _ _).symm, andN _ _ hk hm, andN _ _ hx hm, ← Int.natCast_add, h, wrapN _ hy]
theorem e3l (x m y : Nat) (hx : x / 16 + x < 18446744073709551616) (hm : m < 18446744073709551616) (h : (x / 16 + x) &&& m = y) : bits .and .u64 (IntKind.u64.wrap ((x : Int) / 16 + (x : Int))) (m : Int) = (y : Int) := by
  rw [show ((x : Int) / 16 + (x : Int)) = ((x / 16 + x : Nat) : Int) from by omega, wrapN _ hx, andN _ _ hx hm, h]
theorem e4l (x k y : Nat) (h : y = x + x / k) (hy : y < 9223372036854775808) : IntKind.u64.wrap ((x : Int) + (x : Int) / (k : Int)) = (y : Int) := by
  rw [show ((x : Int) / (k : Int)) = ((x / k : Nat) : Int) from (Int.natCast_ediv _ _).symm, ← Int.natCast_add, ← h, wrapN _ (by omega)]

set_option maxRecDepth 100000 in
set_option maxHeartbeats 1000000 in
theorem ones_val (x n : Nat) (w : World) (y1 y2 y3 z1 z2 z3 : Nat)
    (E1 : IntKind.u64.wrap (bits .and .u64 ((x : Int) / 2) 6148914691236517205 + bits .and .u64 (x : Int) 6148914691236517205) = (y1 : Int))
    (E2 : IntKind.u64.wrap (bits .and .u64 ((y1 : Int) / 4) 3689348814741910323 + bits .and .u64 (y1 : Int) 3689348814741910323) = (y2 : Int))
    (E3 : bits .and .u64 (IntKind.u64.wrap ((y2 : Int) / 16 + (y2 : Int))) 1085102592571150095 = (y3 : Int))
    (E4 : IntKind.u64.wrap ((y3 : Int) + (y3 : Int) / 256) = (z1 : Int)) (E5 : IntKind.u64.wrap ((z1 : Int) + (z1 : Int) / 65536) = (z2 : Int)) (E6 : IntKind.u64.wrap ((z2 : Int) + (z2 : Int) / 4294967296) = (z3 : Int))
    (hz : (z3 : Int) ≤ 9223372036854775807) (E7 : bits .and .i64 (z3 : Int) 127 = (n : Int)) :
    Calls Try.prog 27 #[.int .u64 (x : Int)] w fun e w' => e = .returned (.int .i64 (n : Int)) ∧ w = w' := by
  go_enter Try.func27, Try.ntmps27
  go_wp2
  go_ret
  exact ⟨rfl, rfl⟩

theorem cnt_bytes8 (p : Nat → Bool) (a : Nat) : ∃ e0 e1 e2 e3 e4 e5 e6 e7, (bytes8 p a).map pop8 = [e0, e1, e2, e3, e4, e5, e6, e7] ∧ (∀ x ∈ [e0, e1, e2, e3, e4, e5, e6, e7], x ≤ 8) ∧ cnt p a 64 = e0 + e1 + e2 + e3 + e4 + e5 + e6 + e7 := by
  refine ⟨cnt p a 8, cnt p (a + 8) 8, cnt p (a + 16) 8, cnt p (a + 24) 8, cnt p (a + 32) 8, cnt p (a + 40) 8, cnt p (a + 48) 8, cnt p (a + 56) 8, ?_, ?_, ?_⟩
  · simp only [bytes8, List.map_cons, List.map_nil, (pop_byte p _).2.1]
  · intro x hx
    simp only [List.mem_cons, List.not_mem_nil, or_false] at hx
    rcases hx with rfl | rfl | rfl | rfl | rfl | rfl | rfl | rfl <;> exact (pop_byte p _).2.2
  · rw [show 64 = 8 + 8 + 8 + 8 + 8 + 8 + 8 + 8 from rfl, cnt_add, cnt_add, cnt_add, cnt_add, cnt_add, cnt_add, cnt_add]
theorem ones_any (p : Nat → Bool) (j : Nat) (w : World) :
    Calls Try.prog 27 #[.int .u64 (wordP p j : Int)] w fun e w' => e = .returned (.int .i64 (cnt p (64 * j) 64 : Nat)) ∧ w = w' := by
  have hx := word_lt p j
  have hf : ∀ a ∈ bytes8 p (64 * j), a < 256 := by
    intro a ha
    simp only [bytes8, List.mem_cons, List.not_mem_nil, or_false] at ha
    rcases ha with rfl | rfl | rfl | rfl | rfl | rfl | rfl | rfl <;> exact (pop_byte _ _).1
  obtain ⟨y1, y2, y3, h1, h2, h3, b1, b2, b3, h4⟩ := pop_steps (bytes8 p (64 * j)) rfl hf
  obtain ⟨e0, e1, e2, e3, e4, e5, e6, e7, g1, g2, g3⟩ := cnt_bytes8 p (64 * j)
  rw [g1] at h4
  obtain ⟨s1, s2, s3, s4, s5⟩ := sum8 e0 e1 e2 e3 e4 e5 e6 e7 g2 y3 _ _ _ h4 rfl rfl rfl
  rw [← word_val] at h1
  have hb : 256 ^ 8 = 18446744073709551616 := by decide
  rw [hb] at b1 b2 b3
  rw [g3, ← s1]
  exact ones_val _ _ w y1 y2 y3 _ _ _ (e1l _ 2 _ _ hx (by decide) h1 b1) (e1l _ 4 _ _ b1 (by decide) h2 b2) (e3l _ _ _ b3 (by decide) h3) (e4l _ 256 _ rfl s4) (e4l _ 65536 _ rfl s3) (e4l _ 4294967296 _ rfl s2) (by omega)
    (by rw [i64_and127]; omega)

set_option maxRecDepth 100000 in
set_option maxHeartbeats 1000000 in
theorem len_any (p : Nat → Bool) (w : World) :
    Calls Try.prog 14 #[SetV p] w fun e w' => e = .returned (.int .i64 (bytesP p).length) ∧ Below w.heap.size w w' := by
  have i0 : ∀ (a b c d : Value) (w : World), (Instr.index 25 (.agg #[a, b, c, d]) (.int .i64 0)).run Try.prog w = .ok a w := fun _ _ _ _ _ => by kernel_rfl
  have i1 : ∀ (a b c d : Value) (w : World), (Instr.index 25 (.agg #[a, b, c, d]) (.int .i64 1)).run Try.prog w = .ok b w := fun _ _ _ _ _ => by kernel_rfl
  have i2 : ∀ (a b c d : Value) (w : World), (Instr.index 25 (.agg #[a, b, c, d]) (.int .i64 2)).run Try.prog w = .ok c w := fun _ _ _ _ _ => by kernel_rfl
  have i3 : ∀ (a b c d : Value) (w : World), (Instr.index 25 (.agg #[a, b, c, d]) (.int .i64 3)).run Try.prog w = .ok d w := fun _ _ _ _ _ => by kernel_rfl
  have n0 := (cnt_bytes8 p (64 * 0))
  have hle (a : Nat) : cnt p a 64 ≤ 64 := by
    obtain ⟨e0, e1, e2, e3, e4, e5, e6, e7, _, g2, g3⟩ := cnt_bytes8 p a
    have := g2 e0 (by simp); have := g2 e1 (by simp); have := g2 e2 (by simp); have := g2 e3 (by simp); have := g2 e4 (by simp); have := g2 e5 (by simp); have := g2 e6 (by simp); have := g2 e7 (by simp)
    omega
  have l0 := hle (64 * 0)
  have l1 := hle (64 * 1)
  have l2 := hle (64 * 2)
  have l3 := hle (64 * 3)
  have hlen : (bytesP p).length = cnt p (64 * 0) 64 + cnt p (64 * 1) 64 + cnt p (64 * 2) 64 + cnt p (64 * 3) 64 := by
    unfold bytesP
    rw [cnt_bytes, show 256 = 64 + 64 + 64 + 64 from rfl, cnt_add, cnt_add, cnt_add]
  rw [hlen, SetV_def p]
  clear hlen n0 hle
  generalize hc0 : cnt p (64 * 0) 64 = c0 at *
  generalize hc1 : cnt p (64 * 1) 64 = c1 at *
  generalize hc2 : cnt p (64 * 2) 64 = c2 at *
  generalize hc3 : cnt p (64 * 3) 64 = c3 at *
  have o0 := ones_any p 0
  have o1 := ones_any p 1
  have o2 := ones_any p 2
  have o3 := ones_any p 3
  rw [hc0] at o0
  rw [hc1] at o1
  rw [hc2] at o2
  rw [hc3] at o3
  have O0 := Lib.hid o0
  have O1 := Lib.hid o1
  have O2 := Lib.hid o2
  have O3 := Lib.hid o3
  clear o0 o1 o2 o3 hc0 hc1 hc2 hc3
  go_enter Try.func14, Try.ntmps14
  go_wp2
  refine wp_loop_rounds 5 ?_
  rw [rounds_succ]
  go_wp2_with fail
  refine (O0.out _).mono ?_
  rintro e w' ⟨rfl, rfl⟩
  go_wp2_with fail
  rw [rounds_succ]
  go_wp2_with fail
  refine (O1.out _).mono ?_
  rintro e w' ⟨rfl, rfl⟩
  go_wp2_with fail
  rw [rounds_succ]
  go_wp2_with fail
  refine (O2.out _).mono ?_
  rintro e w' ⟨rfl, rfl⟩
  go_wp2_with fail
  rw [rounds_succ]
  go_wp2_with fail
  refine (O3.out _).mono ?_
  rintro e w' ⟨rfl, rfl⟩
  go_wp2_with fail
  rw [rounds_succ]
  go_wp2_with fail
  go_ret
  exact ⟨by rfl, by go_grown⟩
end Go.Proofs.Ytjoalambgckchaa
