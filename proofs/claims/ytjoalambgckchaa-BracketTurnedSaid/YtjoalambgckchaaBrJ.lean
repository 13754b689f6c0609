/- The law BracketTurned, walked. -/
import Derived.Test.YtjoalambgckchaaBrH
import Derived.Test.YtjoalambgckchaaBrI
import Derived.Test.YtjoalambgckchaaArrEq
import Derived.Deep.RegionHeld3
namespace Go.Proofs.Ytjoalambgckchaa
open Go.RowKit
attribute [local irreducible] wordP

set_option maxRecDepth 100000 in
set_option maxHeartbeats 1000000 in
theorem turned_awake (s : ByteArray) (gl : Bool) (m : Int) (w : World) (hm : w.cell? ⟨0, 0, none⟩ = some (.int .i64 m))
    (h : 200 < s.size ∨ (s.size ≤ 200 ∧ ∃ (h0 : 0 < s.size), (s[0]'h0).toNat = 94 ∨ (s[0]'h0).toNat = 33)) :
    Calls Try.prog 4 #[.string s, .bool gl] w fun e w' => e = .returned (.bool true) ∧ Below w.heap.size w w' := by
  have HW := Lib.hid (awake14 m w hm)
  rcases h with h | ⟨h1, h0, h2⟩
  · go_enter Try.func4, Try.ntmps4
    go_wp2_with fail
    refine (HW.out).mono ?_
    rintro e w1 ⟨rfl, hb1⟩
    go_wp2_with fail
    go_ret
    exact ⟨rfl, hb1⟩
  · rcases h2 with h2 | h2
    all_goals
      go_enter Try.func4, Try.ntmps4
      go_wp2_with fail
      refine (HW.out).mono ?_
      rintro e w1 ⟨rfl, hb1⟩
      go_wp2_with fail
      go_ret
      exact ⟨rfl, hb1⟩
theorem turn_keep (w : World) (A B : Nat) (p : Nat → Bool) {v : World} (hA : A < v.heap.size) (h1 : SetAt v A p) (h2 : SetAt v B (notP p)) (hx : Below w.heap.size w v) (hB : B < v.heap.size) :
    ∀ W, Below v.heap.size v W → W.cell? ⟨A, 0, none⟩ = some (.int .u64 (wordP p 0)) ∧ W.cell? ⟨A, 1, none⟩ = some (.int .u64 (wordP p 1)) ∧ W.cell? ⟨A, 2, none⟩ = some (.int .u64 (wordP p 2)) ∧ W.cell? ⟨A, 3, none⟩ = some (.int .u64 (wordP p 3)) ∧ W.cell? ⟨B, 0, none⟩ = some (.int .u64 (wordP (notP p) 0)) ∧ W.cell? ⟨B, 1, none⟩ = some (.int .u64 (wordP (notP p) 1)) ∧ W.cell? ⟨B, 2, none⟩ = some (.int .u64 (wordP (notP p) 2)) ∧ W.cell? ⟨B, 3, none⟩ = some (.int .u64 (wordP (notP p) 3)) ∧ Below w.heap.size w W ∧ B < W.heap.size := by
  intro W hb
  obtain ⟨a0, a1, a2, a3⟩ := (h1.below hb hA).four
  obtain ⟨b0, b1, b2, b3⟩ := (h2.below hb hB).four
  exact ⟨a0, a1, a2, a3, b0, b1, b2, b3, hx.trans (hb.mono hx.size), Nat.lt_of_lt_of_le hB hb.size⟩
theorem pre_one (l : List UInt8) (c : UInt8) (h : l.head? ≠ some c) : preB l [c] = false := by
  unfold preB Lib.hasPrefix
  cases l with
  | nil => rfl
  | cons a t =>
    have : (c == a) = false := by
      rw [beq_eq_false_iff_ne]
      intro e
      exact h (by rw [e]; rfl)
    simp [List.isPrefixOf, this]
set_option maxRecDepth 100000 in
set_option maxHeartbeats 4000000 in
theorem turned_main (l : List UInt8) (gl : Bool) (m : Int) (w : World) (hm : w.cell? ⟨0, 0, none⟩ = some (.int .i64 m)) (hl : l.length ≤ 200)
    (h : l = [] ∨ ∃ (h0 : 0 < (S l).size), ((S l)[0]'h0).toNat ≠ 94 ∧ ((S l)[0]'h0).toNat ≠ 33) :
    Calls Try.prog 4 #[.string (S l), .bool gl] w fun e w' => e = .returned (.bool true) ∧ Below w.heap.size w w' := by
  have hp : preB l [94] = false ∧ preB l [33] = false := by
    rcases h with rfl | ⟨h0, h1, h2⟩
    · exact ⟨rfl, rfl⟩
    · cases l with
      | nil => simp at h0
      | cons a t =>
        exact ⟨pre_one _ _ (by intro e; injection e with e; exact h1 (by subst e; rfl)), pre_one _ _ (by intro e; injection e with e; exact h2 (by subst e; rfl))⟩
  obtain ⟨e1, e2⟩ := turn_two gl l hp.1 hp.2
  generalize itemsA gl l (l.length + 1) true 0 noneP = R at *
  have HA := Lib.hid (fun m w hm => awake14 m w hm)
  have hgW : 0 < w.heap.size := World.block_lt_of_cell? w ⟨0, 0, none⟩ hm
  have s1 : (⟨#[91]⟩ : ByteArray) ++ S l = S (91 :: l) := S_append [91] l
  have s2 : (⟨#[91, 94]⟩ : ByteArray) ++ S l = S (91 :: 94 :: l) := S_append [91, 94] l
  cases R with
  | none =>
    have P1 := Lib.hid (fun W hW => Parse_none (91 :: l) 0 gl (by simp; omega) rfl e1 m W hW)
    have P2 := Lib.hid (fun W hW => Parse_none (91 :: 94 :: l) 0 gl (by simp; omega) rfl e2 m W hW)
    clear e1 e2 hp
    have h : l = [] ∨ ∃ (h0 : 0 < (S l).size), ((((S l)[0]'h0).toNat : Int) == 94) = false ∧ ((((S l)[0]'h0).toNat : Int) == 33) = false ∧ ¬ ((S l)[0]'h0).toNat = 94 ∧ ¬ ((S l)[0]'h0).toNat = 33 := by
      rcases h with h | ⟨h0, h1, h2⟩
      · exact Or.inl h
      · exact Or.inr ⟨h0, by rw [beq_eq_false_iff_ne]; omega, by rw [beq_eq_false_iff_ne]; omega, h1, h2⟩
    rcases h with rfl | ⟨h0, h1, h2, h3, h4⟩
    all_goals
      go_enter Try.func4, Try.ntmps4
      go_wp2_with fail
      refine (P1.out _ hm).mono ?_
      rintro e w1 ⟨rfl, hb1⟩
      go_wp2_with fail
      have hx1 : Below w.heap.size w (w1.alloc (setObj noneP)) := hb1.alloc hb1.size _
      change Calls _ _ _ (w1.alloc (setObj noneP)) _
      generalize w1.alloc (setObj noneP) = v1 at *
      refine (P2.out _ ((hx1.cell (p := ⟨0, 0, none⟩) hgW).trans hm)).mono ?_
      rintro e w2 ⟨rfl, hb2⟩
      have hx2 := hx1.trans (hb2.mono hx1.size)
      have hx3 : Below w.heap.size w (w2.alloc (setObj noneP)) := hx2.alloc hx2.size _
      have hT2 := set_alloc w2 noneP 25
      obtain ⟨b0, b1, b2, b3⟩ := hT2.four
      rw [show (wordP noneP 0 : Nat) = 0 from word_none 0] at b0
      rw [show (wordP noneP 1 : Nat) = 0 from word_none 1] at b1
      rw [show (wordP noneP 2 : Nat) = 0 from word_none 2] at b2
      rw [show (wordP noneP 3 : Nat) = 0 from word_none 3] at b3
      clear hT2
      rw [none_v]
      go_wp2_with fail
      refine (HA.out m _ (((hx2.alloc hx2.size _).cell (p := ⟨0, 0, none⟩) hgW).trans hm)).mono ?_
      rintro e w3 ⟨rfl, hb3⟩
      go_wp2_with fail
      go_ret
      exact ⟨rfl, (hx2.alloc hx2.size _).trans (hb3.mono (by have := hx2.size; simp; omega))⟩
  | some pk =>
    obtain ⟨p, k⟩ := pk
    have e2 : parseP (91 :: 94 :: l) 0 gl = some (notP p, k + 2 + 1) := e2
    have e1 : parseP (91 :: l) 0 gl = some (p, k + 2) := e1
    have hkk := parseP_le e1
    generalize k + 2 = n at *
    have hnI : (n : Int) ≤ 201 := by have hk2 : n ≤ l.length + 1 := hkk; omega
    have hwr : IntKind.i64.wrap ((n : Int) + 1) = (n : Int) + 1 := IntWalk.i64_in _ ⟨by omega, by omega⟩
    have P1 := Lib.hid (fun W hW => Parse_some (91 :: l) 0 gl p n (by simp; omega) rfl e1 m W hW)
    have P2 := Lib.hid (fun W hW => Parse_some (91 :: 94 :: l) 0 gl (notP p) (n + 1) (by simp; omega) rfl e2 m W hW)
    have HN := Lib.hid (fun W => not_any p W)
    clear e1 e2 hp hkk
    have h : l = [] ∨ ∃ (h0 : 0 < (S l).size), ((((S l)[0]'h0).toNat : Int) == 94) = false ∧ ((((S l)[0]'h0).toNat : Int) == 33) = false ∧ ¬ ((S l)[0]'h0).toNat = 94 ∧ ¬ ((S l)[0]'h0).toNat = 33 := by
      rcases h with h | ⟨h0, h1, h2⟩
      · exact Or.inl h
      · exact Or.inr ⟨h0, by rw [beq_eq_false_iff_ne]; omega, by rw [beq_eq_false_iff_ne]; omega, h1, h2⟩
    rcases h with rfl | ⟨h0, h1, h2, h3, h4⟩
    all_goals
      go_enter Try.func4, Try.ntmps4
      go_wp2_with fail
      refine (P1.out _ hm).mono ?_
      rintro e w1 ⟨rfl, hb1⟩
      have hS1 := set_alloc w1 p 25
      go_wp2_with fail
      have hx1 : Below w.heap.size w (w1.alloc (setObj p)) := hb1.alloc hb1.size _
      have hl1 : w1.heap.size < (w1.alloc (setObj p)).heap.size := by simp
      change Calls _ _ _ (w1.alloc (setObj p)) _
      generalize w1.alloc (setObj p) = v1 at *
      refine (P2.out _ ((hx1.cell (p := ⟨0, 0, none⟩) hgW).trans hm)).mono ?_
      rintro e w2 ⟨rfl, hb2⟩
      have hx2 := hx1.trans (hb2.mono hx1.size)
      have hx3 : Below w.heap.size w (w2.alloc (setObj (notP p))) := hx2.alloc hx2.size _
      have hS2 := (hS1.below hb2 hl1).alloc (by have := hb2.size; omega) (setObj (notP p))
      have hT2 := set_alloc w2 (notP p) 25
      have hl2 : w2.heap.size < (w2.alloc (setObj (notP p))).heap.size := by simp
      have hl3 : w1.heap.size < w2.heap.size := by have := hb2.size; omega
      push_cast
      go_upto_region 9 with fail
      generalize w2.alloc (setObj (notP p)) = v2 at *
      have hAll := turn_keep w w1.heap.size w2.heap.size p (Nat.lt_trans hl3 hl2) hS2 hT2 hx3 hl2
      clear hS1 hS2 hT2 hx1 hx2 hb1 hb2 hl1
      have HK := Lib.hid hAll
      obtain ⟨x0, x1, x2, x3, x4, x5, x6, x7, x8, x9⟩ := hAll v2.drew ((Below.refl _ _).drew)
      go_region_held3 (fun W => W.cell? ⟨w1.heap.size, 0, none⟩ = some (.int .u64 (wordP p 0)) ∧ W.cell? ⟨w1.heap.size, 1, none⟩ = some (.int .u64 (wordP p 1)) ∧ W.cell? ⟨w1.heap.size, 2, none⟩ = some (.int .u64 (wordP p 2)) ∧ W.cell? ⟨w1.heap.size, 3, none⟩ = some (.int .u64 (wordP p 3)) ∧ W.cell? ⟨w2.heap.size, 0, none⟩ = some (.int .u64 (wordP (notP p) 0)) ∧ W.cell? ⟨w2.heap.size, 1, none⟩ = some (.int .u64 (wordP (notP p) 1)) ∧ W.cell? ⟨w2.heap.size, 2, none⟩ = some (.int .u64 (wordP (notP p) 2)) ∧ W.cell? ⟨w2.heap.size, 3, none⟩ = some (.int .u64 (wordP (notP p) 3)) ∧ Below w.heap.size w W ∧ w2.heap.size < W.heap.size) (first | exact ⟨x0, x1, x2, x3, x4, x5, x6, x7, x8, x9⟩ | exact ⟨y0, y1, y2, y3, y4, y5, y6, y7, y8, y9⟩ | exact ⟨z0, z1, z2, z3, z4, z5, z6, z7, z8, z9⟩) (first
        | (go_at_call 10; rw [← SetV_def]; refine (HN.out _).mono ?_; rintro e w3 ⟨rfl, hb3⟩; have hb3 := ((Below.refl v2.heap.size v2).drew).trans hb3; obtain ⟨y0, y1, y2, y3, y4, y5, y6, y7, y8, y9⟩ := HK.out w3 hb3)
        | (go_at_call 6; refine (HA.out m _ ((y8.cell (p := ⟨0, 0, none⟩) hgW).trans hm)).mono ?_; rintro e w4 ⟨rfl, hb4⟩; have hb4 : Below w3.heap.size w3 w4 := hb4; obtain ⟨z0, z1, z2, z3, z4, z5, z6, z7, z8, z9⟩ := HK.out w4 (hb3.trans (hb4.mono hb3.size))))
      go_wp2_with fail
      go_ret
      exact ⟨rfl, z8⟩
end Go.Proofs.Ytjoalambgckchaa
