/- A bracket's scan: one byte by the lines that may begin, or end, a run. -/
import Derived.Test.YtphfcebacilbbaaDoorBrA
namespace Go.Proofs.YtphfcebacilbbaaDoor
open Go.RowKit

/-- next, where the sign stands, and where it does not -/
theorem next_yes (g : Nat) (s sign : List UInt8) (k : Nat) (gl : Bool) (p : Nat → Bool) (hk : k ≤ s.length) (hs : s.length ≤ 1000000) (h : preB (s.drop k) sign = true) (w : World) (hw : ScB w g s k gl p) :
    Calls Tryd.prog 36 #[.pointer (some ⟨g, 0, none⟩), .string (S sign)] w fun e w' => e = .returned (.bool true) ∧ ScB w' g s (k + sign.length) gl p ∧ Own1 g w w' := by
  have := next_any g s sign k gl p hk hs w hw
  rw [h] at this
  exact this
theorem next_no (g : Nat) (s sign : List UInt8) (k : Nat) (gl : Bool) (p : Nat → Bool) (hk : k ≤ s.length) (hs : s.length ≤ 1000000) (h : preB (s.drop k) sign = false) (w : World) (hw : ScB w g s k gl p) :
    Calls Tryd.prog 36 #[.pointer (some ⟨g, 0, none⟩), .string (S sign)] w fun e w' => e = .returned (.bool false) ∧ ScB w' g s k gl p ∧ Own1 g w w' := by
  have := next_any g s sign k gl p hk hs w hw
  rw [h] at this
  exact this
theorem pre_len (s sign : List UInt8) (k : Nat) (hk : k ≤ s.length) (h : preB (s.drop k) sign = true) : k + sign.length ≤ s.length := by
  have := preB_len _ _ h
  rw [List.length_drop] at this
  omega
def byteF (gl : Bool) (q : List UInt8) : Option (UInt8 × Nat) :=
  if preB q [91, 46] = true then (closedF (q.drop 2) [46, 93]).map fun b => (b, 5)
  else if (gl && preB q [92]) = true then q[1]?.map fun b => (b, 2)
  else q[0]?.map fun b => (b, 1)
/-- what the byte tells -/
def ByteQ (g : Nat) (s : List UInt8) (k : Nat) (gl : Bool) (p : Nat → Bool) (r : Option (UInt8 × Nat)) (w : World) (e : Ending) (w' : World) : Prop :=
  Own1 g w w' ∧ match r with
  | some (b, n) => e = .returned (.tuple #[.int .u8 b.toNat, .bool true]) ∧ ScB w' g s (k + n) gl p ∧ k + n ≤ s.length ∧ 1 ≤ n
  | none => e = .returned (.tuple #[.int .u8 0, .bool false]) ∧ ∃ k', k' ≤ s.length ∧ ScB w' g s k' gl p
set_option maxRecDepth 100000 in
set_option maxHeartbeats 1000000 in
theorem byte_any (g : Nat) (s : List UInt8) (k : Nat) (gl : Bool) (p : Nat → Bool) (hk : k ≤ s.length) (hs : s.length ≤ 1000000) (w : World) (hw : ScB w g s k gl p) :
    Calls Tryd.prog 59 #[.pointer (some ⟨g, 0, none⟩)] w fun e w' => ByteQ g s k gl p (byteF gl (s.drop k)) w e w' := by
  have hdd : ∀ i, (s.drop k)[i]? = s[k + i]? := fun i => List.getElem?_drop
  by_cases h1 : preB (s.drop k) [91, 46] = true
  · have h2 := pre_len s [91, 46] k hk h1
    have N1 := Lib.hid (fun W hW => next_yes g s [91, 46] k gl p hk hs h1 W hW)
    have hF : byteF gl (s.drop k) = (closedF (s.drop (k + 2)) [46, 93]).map fun b => (b, 5) := by unfold byteF; rw [if_pos h1, List.drop_drop]
    rw [hF]
    cases hc : closedF (s.drop (k + 2)) [46, 93] with
    | none =>
      have C := Lib.hid (fun W hW => closed_no g s [46, 93] (k + 2) gl p h2 hs hc W hW)
      clear h1 hF hc hdd
      go_enter Tryd.func59, Tryd.ntmps59
      go_wp2_with fail
      refine (N1.out _ hw).mono ?_
      rintro e w1 ⟨rfl, hw1, ho1⟩
      go_wp2_with fail
      refine (C.out _ hw1).mono ?_
      rintro e w2 ⟨rfl, hw2, ho2⟩
      go_wp2_with fail
      go_ret2
      exact ⟨ho1.trans ho2, rfl, k + 2, h2, hw2⟩
    | some b =>
      have C := Lib.hid (fun W hW => closed_yes g s [46, 93] (k + 2) gl p h2 hs b hc W hW)
      clear h1 hF hc hdd
      go_enter Tryd.func59, Tryd.ntmps59
      go_wp2_with fail
      refine (N1.out _ hw).mono ?_
      rintro e w1 ⟨rfl, hw1, ho1⟩
      go_wp2_with fail
      refine (C.out _ hw1).mono ?_
      rintro e w2 ⟨rfl, hw2, ho2, hle⟩
      go_wp2_with fail
      go_ret2
      exact ⟨ho1.trans ho2, rfl, hw2, hle, by omega⟩
  · have h1f : preB (s.drop k) [91, 46] = false := by simpa using h1
    have N1 := Lib.hid (fun W hW => next_no g s [91, 46] k gl p hk hs h1f W hW)
    by_cases h2 : (gl && preB (s.drop k) [92]) = true
    · obtain ⟨rfl, h3⟩ := Bool.and_eq_true_iff.1 h2
      have h4 := pre_len s [92] k hk h3
      have N2 := Lib.hid (fun W hW => next_yes g s [92] k true p hk hs h3 W hW)
      have hF : byteF true (s.drop k) = s[k + 1]?.map fun b => (b, 2) := by unfold byteF; rw [if_neg h1, if_pos h2, hdd]
      rw [hF]
      clear h1 h1f h2 h3 hF hdd
      have h4 : k + 1 ≤ s.length := h4
      have hj2 : ∀ n, k + (n + 1) = (k + 1) + n := fun n => by omega
      have N2 := Lib.hid (show ∀ W, ScB W g s k true p → Calls Tryd.prog 36 #[.pointer (some ⟨g, 0, none⟩), .string (S [92])] W fun e w' => e = .returned (.bool true) ∧ ScB w' g s (k + 1) true p ∧ Own1 g W w' from N2.out)
      generalize k + 1 = j at *
      by_cases hlt : j < s.length
      · have hd : decide ((s.length : Int) ≤ (j : Int)) = false := decide_eq_false (by omega)
        have hx : (j : Int) + 1 - 1 = (j : Int) := by omega
        have hz : (j : Int) < (s.length : Int) := by omega
        rw [List.getElem?_eq_getElem hlt]
        go_enter Tryd.func59, Tryd.ntmps59
        go_wp2_with fail
        refine (N1.out _ hw).mono ?_
        rintro e w1 ⟨rfl, hw1, ho1⟩
        obtain ⟨c0, c1, c2, -, -, -, -⟩ := hw1.cells
        go_wp2_with fail
        refine (N2.out _ hw1).mono ?_
        rintro e w2 ⟨rfl, hw2, ho2⟩
        clear c0 c1 c2 hw1 N1 N2
        have hoo := ho1.trans ho2
        obtain ⟨d0, d1, d2, -, -, -, -⟩ := hw2.cells
        have f1 := hw2.f 1
        go_wp2_with fail
        go_quiet (fail)
        go_wp2_with fail
        have hw3 := (hw2.drewN (n := nq)).at' (j + 1)
        have hcs : ((j + 1 : Nat) : Int) = (j : Int) + 1 := by push_cast; rfl
        rw [hcs] at hw3
        have ho3 : Own1 g w ((w2.drewN nq).setCell ⟨g, 1, none⟩ (.int .i64 ((j : Int) + 1))) := hoo.drewN.set _
        generalize (w2.drewN nq).setCell ⟨g, 1, none⟩ (.int .i64 ((j : Int) + 1)) = w3 at *
        obtain ⟨e0, e1, e2, -, -, -, -⟩ := hw3.cells
        rw [hcs] at e1
        go_quiet (fail)
        go_wp2
        go_ret2
        exact ⟨ho3.drewN, rfl, by rw [hj2 1]; exact hw3, by have := hj2 1; omega, by omega⟩
      · have hd : decide ((s.length : Int) ≤ (j : Int)) = true := decide_eq_true (by omega)
        rw [List.getElem?_eq_none (by omega)]
        go_enter Tryd.func59, Tryd.ntmps59
        go_wp2_with fail
        refine (N1.out _ hw).mono ?_
        rintro e w1 ⟨rfl, hw1, ho1⟩
        obtain ⟨c0, c1, c2, -, -, -, -⟩ := hw1.cells
        go_wp2_with fail
        refine (N2.out _ hw1).mono ?_
        rintro e w2 ⟨rfl, hw2, ho2⟩
        clear c0 c1 c2 hw1 N1 N2
        have hoo := ho1.trans ho2
        obtain ⟨d0, d1, d2, -, -, -, -⟩ := hw2.cells
        go_wp2_with fail
        go_quiet (fail)
        go_wp2
        go_ret2
        exact ⟨hoo.drewN, rfl, j, by omega, hw2⟩
    · have h2f : (gl && preB (s.drop k) [92]) = false := by simpa using h2
      have hF : byteF gl (s.drop k) = s[k]?.map fun b => (b, 1) := by unfold byteF; rw [if_neg h1, if_neg h2, hdd, Nat.add_zero]
      rw [hF]
      clear h1 h1f h2 hF hdd
      obtain ⟨j, hjk⟩ : ∃ j, j = k := ⟨_, rfl⟩
      subst hjk
      cases gl with
      | true =>
        have h3 : preB (s.drop j) [92] = false := by simpa using h2f
        have N2 := Lib.hid (fun W hW => next_no g s [92] j true p hk hs h3 W hW)
        clear h3 h2f
        by_cases hlt : j < s.length
        · have hd : decide ((s.length : Int) ≤ (j : Int)) = false := decide_eq_false (by omega)
          have hx : (j : Int) + 1 - 1 = (j : Int) := by omega
          have hz : (j : Int) < (s.length : Int) := by omega
          rw [List.getElem?_eq_getElem hlt]
          go_enter Tryd.func59, Tryd.ntmps59
          go_wp2_with fail
          refine (N1.out _ hw).mono ?_
          rintro e w1 ⟨rfl, hw1, ho1⟩
          obtain ⟨c0, c1, c2, -, -, -, -⟩ := hw1.cells
          go_wp2_with fail
          refine (N2.out _ hw1).mono ?_
          rintro e w2 ⟨rfl, hw2, ho2⟩
          clear c0 c1 c2 hw1 N1 N2
          have hoo := ho1.trans ho2
          obtain ⟨d0, d1, d2, -, -, -, -⟩ := hw2.cells
          have f1 := hw2.f 1
          go_wp2_with fail
          go_quiet (fail)
          go_wp2_with fail
          have hw3 := (hw2.drewN (n := nq)).at' (j + 1)
          have hcs : ((j + 1 : Nat) : Int) = (j : Int) + 1 := by push_cast; rfl
          rw [hcs] at hw3
          have ho3 : Own1 g w ((w2.drewN nq).setCell ⟨g, 1, none⟩ (.int .i64 ((j : Int) + 1))) := hoo.drewN.set _
          generalize (w2.drewN nq).setCell ⟨g, 1, none⟩ (.int .i64 ((j : Int) + 1)) = w3 at *
          obtain ⟨e0, e1, e2, -, -, -, -⟩ := hw3.cells
          rw [hcs] at e1
          go_quiet (fail)
          go_wp2
          go_ret2
          exact ⟨ho3.drewN, rfl, hw3, by omega, by omega⟩
        · have hd : decide ((s.length : Int) ≤ (j : Int)) = true := decide_eq_true (by omega)
          rw [List.getElem?_eq_none (by omega)]
          go_enter Tryd.func59, Tryd.ntmps59
          go_wp2_with fail
          refine (N1.out _ hw).mono ?_
          rintro e w1 ⟨rfl, hw1, ho1⟩
          obtain ⟨c0, c1, c2, -, -, -, -⟩ := hw1.cells
          go_wp2_with fail
          refine (N2.out _ hw1).mono ?_
          rintro e w2 ⟨rfl, hw2, ho2⟩
          clear c0 c1 c2 hw1 N1 N2
          have hoo := ho1.trans ho2
          obtain ⟨d0, d1, d2, -, -, -, -⟩ := hw2.cells
          go_wp2_with fail
          go_quiet (fail)
          go_wp2
          go_ret2
          exact ⟨hoo.drewN, rfl, j, by omega, hw2⟩
      | false =>
        clear h2f
        by_cases hlt : j < s.length
        · have hd : decide ((s.length : Int) ≤ (j : Int)) = false := decide_eq_false (by omega)
          have hx : (j : Int) + 1 - 1 = (j : Int) := by omega
          have hz : (j : Int) < (s.length : Int) := by omega
          rw [List.getElem?_eq_getElem hlt]
          go_enter Tryd.func59, Tryd.ntmps59
          go_wp2_with fail
          refine (N1.out _ hw).mono ?_
          rintro e w2 ⟨rfl, hw2, hoo⟩
          clear N1
          obtain ⟨d0, d1, d2, -, -, -, -⟩ := hw2.cells
          have f1 := hw2.f 1
          go_wp2_with fail
          go_quiet (fail)
          go_wp2_with fail
          have hw3 := (hw2.drewN (n := nq)).at' (j + 1)
          have hcs : ((j + 1 : Nat) : Int) = (j : Int) + 1 := by push_cast; rfl
          rw [hcs] at hw3
          have ho3 : Own1 g w ((w2.drewN nq).setCell ⟨g, 1, none⟩ (.int .i64 ((j : Int) + 1))) := hoo.drewN.set _
          generalize (w2.drewN nq).setCell ⟨g, 1, none⟩ (.int .i64 ((j : Int) + 1)) = w3 at *
          obtain ⟨e0, e1, e2, -, -, -, -⟩ := hw3.cells
          rw [hcs] at e1
          go_quiet (fail)
          go_wp2
          go_ret2
          exact ⟨ho3.drewN, rfl, hw3, by omega, by omega⟩
        · have hd : decide ((s.length : Int) ≤ (j : Int)) = true := decide_eq_true (by omega)
          rw [List.getElem?_eq_none (by omega)]
          go_enter Tryd.func59, Tryd.ntmps59
          go_wp2_with fail
          refine (N1.out _ hw).mono ?_
          rintro e w2 ⟨rfl, hw2, hoo⟩
          clear N1
          obtain ⟨d0, d1, d2, -, -, -, -⟩ := hw2.cells
          go_wp2_with fail
          go_quiet (fail)
          go_wp2
          go_ret2
          exact ⟨hoo.drewN, rfl, j, by omega, hw2⟩
end Go.Proofs.YtphfcebacilbbaaDoor
