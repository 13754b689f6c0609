/- A bracket's scan: an item that begins with a byte. -/
import Derived.Test.YtphfcebacilbbaaDoorBrD
namespace Go.Proofs.YtphfcebacilbbaaDoor
open Go.RowKit
attribute [local irreducible] wordP

set_option maxRecDepth 100000 in
set_option maxHeartbeats 1000000 in
theorem item_none (g : Nat) (s : List UInt8) (k : Nat) (gl : Bool) (p : Nat → Bool) (hk : k ≤ s.length) (hs : s.length ≤ 1000000) (w : World) (hw : ScB w g s k gl p) (h1 : preB (s.drop k) [91, 58] = false) (h2 : preB (s.drop k) [91, 61] = false) (hb : byteF gl (s.drop k) = none) :
    Calls Tryd.prog 37 #[.pointer (some ⟨g, 0, none⟩)] w fun e w' => NmQ g s k gl p none w e w' := by
  have N1 := Lib.hid (fun W hW => next_no g s [91, 58] k gl p hk hs h1 W hW)
  have N2 := Lib.hid (fun W hW => next_no g s [91, 61] k gl p hk hs h2 W hW)
  have B1 := Lib.hid (fun W hW => byte_any g s k gl p hk hs W hW)
  rw [hb] at B1
  clear h1 h2 hb
  go_enter Tryd.func37, Tryd.ntmps37
  go_wp2_with fail
  refine (N1.out _ hw).mono ?_
  rintro e w1 ⟨rfl, hw1, ho1⟩
  go_wp2_with fail
  refine (N2.out _ hw1).mono ?_
  rintro e w2 ⟨rfl, hw2, ho2⟩
  go_wp2_with fail
  refine (B1.out _ hw2).mono ?_
  rintro e w3 ⟨ho3, rfl, k', hk', hw3⟩
  go_wp2_with fail
  go_ret
  exact ⟨(ho1.trans ho2).trans ho3, rfl⟩
set_option maxRecDepth 100000 in
set_option maxHeartbeats 1000000 in
theorem item_byte (g : Nat) (s : List UInt8) (k : Nat) (gl : Bool) (p : Nat → Bool) (hk : k ≤ s.length) (hs : s.length ≤ 1000000) (w : World) (hw : ScB w g s k gl p) (h1 : preB (s.drop k) [91, 58] = false) (h2 : preB (s.drop k) [91, 61] = false) (a : UInt8) (n : Nat) (hb : byteF gl (s.drop k) = some (a, n)) (b1 b2 : Bool) (HP1e : preB (s.drop (k + n)) [45] = b1) (HP2e : preB (s.drop (k + n)) [45, 93] = b2) (hbb : (b1 && !b2) = false) :
    Calls Tryd.prog 37 #[.pointer (some ⟨g, 0, none⟩)] w fun e w' => NmQ g s k gl p (some (rangeP a.toNat a.toNat, n)) w e w' := by
  have N1 := Lib.hid (fun W hW => next_no g s [91, 58] k gl p hk hs h1 W hW)
  have N2 := Lib.hid (fun W hW => next_no g s [91, 61] k gl p hk hs h2 W hW)
  have B1 := Lib.hid (fun W hW => byte_any g s k gl p hk hs W hW)
  rw [hb] at B1
  clear h1 h2 hb
  have HP1 := Lib.hid (show ∀ W : World, Calls Tryd.prog 54 #[.string (S (s.drop (k + n))), .string ⟨#[45]⟩] W fun e w' => e = .returned (.bool b1) ∧ W = w' from fun W => by
    refine (Go.Proofs.Tryd.strings_HasPrefix _ _ W).mono ?_
    rintro e w' ⟨rfl, rfl⟩
    exact ⟨by rw [show (b1 : Bool) = preB (s.drop (k + n)) [45] from HP1e.symm]; rfl, rfl⟩)
  have HP2 := Lib.hid (show ∀ W : World, Calls Tryd.prog 54 #[.string (S (s.drop (k + n))), .string ⟨#[45, 93]⟩] W fun e w' => e = .returned (.bool b2) ∧ W = w' from fun W => by
    refine (Go.Proofs.Tryd.strings_HasPrefix _ _ W).mono ?_
    rintro e w' ⟨rfl, rfl⟩
    exact ⟨by rw [show (b2 : Bool) = preB (s.drop (k + n)) [45, 93] from HP2e.symm]; rfl, rfl⟩)
  have HRg := Lib.hid (fun W => range8_any a a W)
  have HO := Lib.hid (fun W => or_any p (rangeP a.toNat a.toNat) W)
  clear HP1e HP2e
  generalize hP : rangeP a.toNat a.toNat = P at *
  clear hP
  go_enter Tryd.func37, Tryd.ntmps37
  go_wp2_with fail
  refine (N1.out _ hw).mono ?_
  rintro e w1 ⟨rfl, hw1, ho1⟩
  go_wp2_with fail
  refine (N2.out _ hw1).mono ?_
  rintro e w2 ⟨rfl, hw2, ho2⟩
  go_wp2_with fail
  refine (B1.out _ hw2).mono ?_
  rintro e w3 ⟨ho3x, rfl, hwc, hle, hn⟩
  have ho3 := (ho1.trans ho2).trans ho3x
  clear hw hw1 hw2 ho1 ho2 ho3x N1 N2 B1
  obtain ⟨d0, d1, d2, d3, d4, d5, d6⟩ := hwc.cells
  have hlt := hwc.lt
  have hd : (S s).extract (k + n) s.length = S (s.drop (k + n)) := by rw [S_extract, List.take_of_length_le (by rw [List.length_drop]; exact Nat.le_refl _)]
  have hkI : (((k + n : Nat) : Int)) ≤ (s.length : Int) := by omega
  generalize s.drop (k + n) = q at *
  go_wp2_with fail
  go_quiet (fail)
  have hwc := hwc.drewN (n := nq)
  have ho3 := ho3.drewN (n := nq)
  clear d0 d1 d2 d3 d4 d5 d6
  generalize w3.drewN nq = wc at *
  obtain ⟨d0, d1, d2, d3, d4, d5, d6⟩ := hwc.cells
  have hlt := hwc.lt
  obtain rfl | ⟨rfl, rfl⟩ : b1 = false ∨ (b1 = true ∧ b2 = true) := by cases b1 <;> cases b2 <;> simp at hbb ⊢
  · go_wp2_with (first | (go_at_call 54; refine (HP1.out _).mono ?_; rintro e wz1 ⟨rfl, rfl⟩) | (go_at_call 54; refine (HP2.out _).mono ?_; rintro e wz2 ⟨rfl, rfl⟩))
    go_region_law (first | (go_simp; go_at_call 58; refine (HRg.out _).mono ?_; rintro e wr ⟨rfl, hbrx⟩; have hbr := ((Below.refl wc.heap.size wc).drew).trans hbrx; have hwr := hwc.below hbr hlt; obtain ⟨r0, r1, r2, r3, r4, r5, r6⟩ := hwr.cells; have hlr := hwr.lt) | (go_simp; go_at_call 57; rw [← SetV_def, ← SetV_def]; refine (HO.out _).mono ?_; rintro e w3 ⟨rfl, hb3x⟩; have hw3 := hwr.below hb3x hlr; obtain ⟨e0, e1, e2, e3, e4, e5, e6⟩ := hw3.cells; have f3 := hw3.f 3; have f4 := hw3.f 4; have f5 := hw3.f 5; have f6 := hw3.f 6))
    all_goals (
      have hw4 := hw3.setP (orP p P)
      have ho4 := (((((ho3.trans (Own1.of_below hbr)).trans (Own1.of_below hb3x)).set (o := 3) (.int .u64 (wordP (orP p P) 0))).set (o := 4) (.int .u64 (wordP (orP p P) 1))).set (o := 5) (.int .u64 (wordP (orP p P) 2))).set (o := 6) (.int .u64 (wordP (orP p P) 3))
      generalize (((w3.setCell ⟨g, 3, none⟩ (.int .u64 (wordP (orP p P) 0))).setCell ⟨g, 4, none⟩ (.int .u64 (wordP (orP p P) 1))).setCell ⟨g, 5, none⟩ (.int .u64 (wordP (orP p P) 2))).setCell ⟨g, 6, none⟩ (.int .u64 (wordP (orP p P) 3)) = w4 at *
      clear d0 d1 d2 d3 d4 d5 d6 e0 e1 e2 e3 e4 e5 e6 r0 r1 r2 r3 r4 r5 r6 f3 f4 f5 f6 hwc hwr hw3 hbr hb3x hbrx HO HRg
      go_wp2_with fail
      go_ret
      exact ⟨ho4, rfl, hw4, hle, hn⟩)
  · go_wp2_with (first | (go_at_call 54; refine (HP1.out _).mono ?_; rintro e wz1 ⟨rfl, rfl⟩) | (go_at_call 54; refine (HP2.out _).mono ?_; rintro e wz2 ⟨rfl, rfl⟩))
    go_region_law (first | (go_simp; go_at_call 58; refine (HRg.out _).mono ?_; rintro e wr ⟨rfl, hbrx⟩; have hbr := ((Below.refl wc.heap.size wc).drew).trans hbrx; have hwr := hwc.below hbr hlt; obtain ⟨r0, r1, r2, r3, r4, r5, r6⟩ := hwr.cells; have hlr := hwr.lt) | (go_simp; go_at_call 57; rw [← SetV_def, ← SetV_def]; refine (HO.out _).mono ?_; rintro e w3 ⟨rfl, hb3x⟩; have hw3 := hwr.below hb3x hlr; obtain ⟨e0, e1, e2, e3, e4, e5, e6⟩ := hw3.cells; have f3 := hw3.f 3; have f4 := hw3.f 4; have f5 := hw3.f 5; have f6 := hw3.f 6))
    all_goals (
      have hw4 := hw3.setP (orP p P)
      have ho4 := (((((ho3.trans (Own1.of_below hbr)).trans (Own1.of_below hb3x)).set (o := 3) (.int .u64 (wordP (orP p P) 0))).set (o := 4) (.int .u64 (wordP (orP p P) 1))).set (o := 5) (.int .u64 (wordP (orP p P) 2))).set (o := 6) (.int .u64 (wordP (orP p P) 3))
      generalize (((w3.setCell ⟨g, 3, none⟩ (.int .u64 (wordP (orP p P) 0))).setCell ⟨g, 4, none⟩ (.int .u64 (wordP (orP p P) 1))).setCell ⟨g, 5, none⟩ (.int .u64 (wordP (orP p P) 2))).setCell ⟨g, 6, none⟩ (.int .u64 (wordP (orP p P) 3)) = w4 at *
      clear d0 d1 d2 d3 d4 d5 d6 e0 e1 e2 e3 e4 e5 e6 r0 r1 r2 r3 r4 r5 r6 f3 f4 f5 f6 hwc hwr hw3 hbr hb3x hbrx HO HRg
      go_wp2_with fail
      go_ret
      exact ⟨ho4, rfl, hw4, hle, hn⟩)
set_option maxRecDepth 100000 in
set_option maxHeartbeats 1000000 in
theorem item_bad (g : Nat) (s : List UInt8) (k : Nat) (gl : Bool) (p : Nat → Bool) (hk : k ≤ s.length) (hs : s.length ≤ 1000000) (w : World) (hw : ScB w g s k gl p) (h1 : preB (s.drop k) [91, 58] = false) (h2 : preB (s.drop k) [91, 61] = false) (a : UInt8) (n : Nat) (hb : byteF gl (s.drop k) = some (a, n)) (HP1e : preB (s.drop (k + n)) [45] = true) (HP2e : preB (s.drop (k + n)) [45, 93] = false) (c1 c2 : Bool) (HP3e : preB ((s.drop (k + n)).drop 1) [91, 58] = c1) (HP4e : preB ((s.drop (k + n)).drop 1) [91, 61] = c2) (hcc : (c1 || c2) = true) :
    Calls Tryd.prog 37 #[.pointer (some ⟨g, 0, none⟩)] w fun e w' => NmQ g s k gl p none w e w' := by
  have N1 := Lib.hid (fun W hW => next_no g s [91, 58] k gl p hk hs h1 W hW)
  have N2 := Lib.hid (fun W hW => next_no g s [91, 61] k gl p hk hs h2 W hW)
  have B1 := Lib.hid (fun W hW => byte_any g s k gl p hk hs W hW)
  rw [hb] at B1
  clear h1 h2 hb
  rw [List.drop_drop] at HP3e HP4e
  have HP1 := Lib.hid (show ∀ W : World, Calls Tryd.prog 54 #[.string (S (s.drop (k + n))), .string ⟨#[45]⟩] W fun e w' => e = .returned (.bool true) ∧ W = w' from fun W => by
    refine (Go.Proofs.Tryd.strings_HasPrefix _ _ W).mono ?_
    rintro e w' ⟨rfl, rfl⟩
    exact ⟨by rw [show (true : Bool) = preB (s.drop (k + n)) [45] from HP1e.symm]; rfl, rfl⟩)
  have HP2 := Lib.hid (show ∀ W : World, Calls Tryd.prog 54 #[.string (S (s.drop (k + n))), .string ⟨#[45, 93]⟩] W fun e w' => e = .returned (.bool false) ∧ W = w' from fun W => by
    refine (Go.Proofs.Tryd.strings_HasPrefix _ _ W).mono ?_
    rintro e w' ⟨rfl, rfl⟩
    exact ⟨by rw [show (false : Bool) = preB (s.drop (k + n)) [45, 93] from HP2e.symm]; rfl, rfl⟩)
  have HP3 := Lib.hid (show ∀ W : World, Calls Tryd.prog 54 #[.string (S (s.drop (k + n + 1))), .string ⟨#[91, 58]⟩] W fun e w' => e = .returned (.bool c1) ∧ W = w' from fun W => by
    refine (Go.Proofs.Tryd.strings_HasPrefix _ _ W).mono ?_
    rintro e w' ⟨rfl, rfl⟩
    exact ⟨by rw [show (c1 : Bool) = preB (s.drop (k + n + 1)) [91, 58] from HP3e.symm]; rfl, rfl⟩)
  have HP4 := Lib.hid (show ∀ W : World, Calls Tryd.prog 54 #[.string (S (s.drop (k + n + 1))), .string ⟨#[91, 61]⟩] W fun e w' => e = .returned (.bool c2) ∧ W = w' from fun W => by
    refine (Go.Proofs.Tryd.strings_HasPrefix _ _ W).mono ?_
    rintro e w' ⟨rfl, rfl⟩
    exact ⟨by rw [show (c2 : Bool) = preB (s.drop (k + n + 1)) [91, 61] from HP4e.symm]; rfl, rfl⟩)
  have HL := Lib.hid (preB_len _ _ HP1e)
  clear HP1e HP2e HP3e HP4e
  go_enter Tryd.func37, Tryd.ntmps37
  go_wp2_with fail
  refine (N1.out _ hw).mono ?_
  rintro e w1 ⟨rfl, hw1, ho1⟩
  go_wp2_with fail
  refine (N2.out _ hw1).mono ?_
  rintro e w2 ⟨rfl, hw2, ho2⟩
  go_wp2_with fail
  refine (B1.out _ hw2).mono ?_
  rintro e w3 ⟨ho3x, rfl, hwc, hle, hn⟩
  have ho3 := (ho1.trans ho2).trans ho3x
  clear hw hw1 hw2 ho1 ho2 ho3x N1 N2 B1
  obtain ⟨d0, d1, d2, d3, d4, d5, d6⟩ := hwc.cells
  have hd : (S s).extract (k + n) s.length = S (s.drop (k + n)) := by rw [S_extract, List.take_of_length_le (by rw [List.length_drop]; exact Nat.le_refl _)]
  have hd2 : (S (s.drop (k + n))).extract 1 (s.drop (k + n)).length = S (s.drop (k + n + 1)) := by rw [S_extract, List.take_of_length_le (by rw [List.length_drop]; exact Nat.le_refl _), List.drop_drop]
  have hkI : (((k + n : Nat) : Int)) ≤ (s.length : Int) := by omega
  have hql : 1 ≤ (s.drop (k + n)).length := HL.out
  have hqI : (1 : Int) ≤ ((s.drop (k + n)).length : Int) := by omega
  have hj1 : k + n + 1 ≤ s.length := by rw [List.length_drop] at hql; omega
  generalize s.drop (k + n) = q at *
  generalize s.drop (k + n + 1) = q2 at *
  generalize hj : k + n = j at *
  have HJ := Lib.hid hj
  clear hj
  all_goals go_wp2_with fail
  go_quiet (fail)
  have hwc := hwc.drewN (n := nq)
  have ho3 := ho3.drewN (n := nq)
  clear d0 d1 d2 d3 d4 d5 d6
  generalize w3.drewN nq = wc at *
  obtain ⟨d0, d1, d2, d3, d4, d5, d6⟩ := hwc.cells
  have hlt := hwc.lt
  have f1 := hwc.f 1
  obtain rfl | ⟨rfl, rfl⟩ : c1 = true ∨ (c1 = false ∧ c2 = true) := by cases c1 <;> cases c2 <;> simp at hcc ⊢
  all_goals clear hcc
  all_goals go_wp2_with (first | (go_at_call 54; refine (HP1.out _).mono ?_; rintro e wz1 ⟨rfl, rfl⟩) | (go_at_call 54; refine (HP2.out _).mono ?_; rintro e wz2 ⟨rfl, rfl⟩) | (go_at_call 54; refine (HP3.out _).mono ?_; rintro e wz3 ⟨rfl, rfl⟩) | (go_at_call 54; refine (HP4.out _).mono ?_; rintro e wz4 ⟨rfl, rfl⟩))
  all_goals go_ret
  all_goals exact ⟨ho3.set _, rfl⟩
set_option maxRecDepth 100000 in
set_option maxHeartbeats 1000000 in
theorem item_none2 (g : Nat) (s : List UInt8) (k : Nat) (gl : Bool) (p : Nat → Bool) (hk : k ≤ s.length) (hs : s.length ≤ 1000000) (w : World) (hw : ScB w g s k gl p) (h1 : preB (s.drop k) [91, 58] = false) (h2 : preB (s.drop k) [91, 61] = false) (a : UInt8) (n : Nat) (hb : byteF gl (s.drop k) = some (a, n)) (HP1e : preB (s.drop (k + n)) [45] = true) (HP2e : preB (s.drop (k + n)) [45, 93] = false) (HP3e : preB ((s.drop (k + n)).drop 1) [91, 58] = false) (HP4e : preB ((s.drop (k + n)).drop 1) [91, 61] = false) (hb2 : byteF gl (s.drop (k + n + 1)) = none) :
    Calls Tryd.prog 37 #[.pointer (some ⟨g, 0, none⟩)] w fun e w' => NmQ g s k gl p none w e w' := by
  have N1 := Lib.hid (fun W hW => next_no g s [91, 58] k gl p hk hs h1 W hW)
  have N2 := Lib.hid (fun W hW => next_no g s [91, 61] k gl p hk hs h2 W hW)
  have B1 := Lib.hid (fun W hW => byte_any g s k gl p hk hs W hW)
  rw [hb] at B1
  have B2 := Lib.hid (fun W hW => byte_any g s (k + n + 1) gl p (by have := preB_len _ _ HP1e; rw [List.length_drop] at this; simp only [List.length_cons, List.length_nil] at this; omega) hs W hW)
  rw [hb2] at B2
  clear hb2
  clear h1 h2 hb
  rw [List.drop_drop] at HP3e HP4e
  have HP1 := Lib.hid (show ∀ W : World, Calls Tryd.prog 54 #[.string (S (s.drop (k + n))), .string ⟨#[45]⟩] W fun e w' => e = .returned (.bool true) ∧ W = w' from fun W => by
    refine (Go.Proofs.Tryd.strings_HasPrefix _ _ W).mono ?_
    rintro e w' ⟨rfl, rfl⟩
    exact ⟨by rw [show (true : Bool) = preB (s.drop (k + n)) [45] from HP1e.symm]; rfl, rfl⟩)
  have HP2 := Lib.hid (show ∀ W : World, Calls Tryd.prog 54 #[.string (S (s.drop (k + n))), .string ⟨#[45, 93]⟩] W fun e w' => e = .returned (.bool false) ∧ W = w' from fun W => by
    refine (Go.Proofs.Tryd.strings_HasPrefix _ _ W).mono ?_
    rintro e w' ⟨rfl, rfl⟩
    exact ⟨by rw [show (false : Bool) = preB (s.drop (k + n)) [45, 93] from HP2e.symm]; rfl, rfl⟩)
  have HP3 := Lib.hid (show ∀ W : World, Calls Tryd.prog 54 #[.string (S (s.drop (k + n + 1))), .string ⟨#[91, 58]⟩] W fun e w' => e = .returned (.bool false) ∧ W = w' from fun W => by
    refine (Go.Proofs.Tryd.strings_HasPrefix _ _ W).mono ?_
    rintro e w' ⟨rfl, rfl⟩
    exact ⟨by rw [show (false : Bool) = preB (s.drop (k + n + 1)) [91, 58] from HP3e.symm]; rfl, rfl⟩)
  have HP4 := Lib.hid (show ∀ W : World, Calls Tryd.prog 54 #[.string (S (s.drop (k + n + 1))), .string ⟨#[91, 61]⟩] W fun e w' => e = .returned (.bool false) ∧ W = w' from fun W => by
    refine (Go.Proofs.Tryd.strings_HasPrefix _ _ W).mono ?_
    rintro e w' ⟨rfl, rfl⟩
    exact ⟨by rw [show (false : Bool) = preB (s.drop (k + n + 1)) [91, 61] from HP4e.symm]; rfl, rfl⟩)
  have HL := Lib.hid (preB_len _ _ HP1e)
  clear HP1e HP2e HP3e HP4e
  go_enter Tryd.func37, Tryd.ntmps37
  go_wp2_with fail
  refine (N1.out _ hw).mono ?_
  rintro e w1 ⟨rfl, hw1, ho1⟩
  go_wp2_with fail
  refine (N2.out _ hw1).mono ?_
  rintro e w2 ⟨rfl, hw2, ho2⟩
  go_wp2_with fail
  refine (B1.out _ hw2).mono ?_
  rintro e w3 ⟨ho3x, rfl, hwc, hle, hn⟩
  have ho3 := (ho1.trans ho2).trans ho3x
  clear hw hw1 hw2 ho1 ho2 ho3x N1 N2 B1
  obtain ⟨d0, d1, d2, d3, d4, d5, d6⟩ := hwc.cells
  have hd : (S s).extract (k + n) s.length = S (s.drop (k + n)) := by rw [S_extract, List.take_of_length_le (by rw [List.length_drop]; exact Nat.le_refl _)]
  have hd2 : (S (s.drop (k + n))).extract 1 (s.drop (k + n)).length = S (s.drop (k + n + 1)) := by rw [S_extract, List.take_of_length_le (by rw [List.length_drop]; exact Nat.le_refl _), List.drop_drop]
  have hkI : (((k + n : Nat) : Int)) ≤ (s.length : Int) := by omega
  have hql : 1 ≤ (s.drop (k + n)).length := HL.out
  have hqI : (1 : Int) ≤ ((s.drop (k + n)).length : Int) := by omega
  have hj1 : k + n + 1 ≤ s.length := by rw [List.length_drop] at hql; omega
  generalize s.drop (k + n) = q at *
  generalize s.drop (k + n + 1) = q2 at *
  generalize hj : k + n = j at *
  have HJ := Lib.hid hj
  clear hj
  go_wp2_with fail
  go_quiet (fail)
  have hwc := hwc.drewN (n := nq)
  have ho3 := ho3.drewN (n := nq)
  clear d0 d1 d2 d3 d4 d5 d6
  generalize w3.drewN nq = wc at *
  obtain ⟨d0, d1, d2, d3, d4, d5, d6⟩ := hwc.cells
  have hlt := hwc.lt
  have f1 := hwc.f 1
  go_wp2_with (first | (go_at_call 54; refine (HP1.out _).mono ?_; rintro e wz1 ⟨rfl, rfl⟩) | (go_at_call 54; refine (HP2.out _).mono ?_; rintro e wz2 ⟨rfl, rfl⟩) | (go_at_call 54; refine (HP3.out _).mono ?_; rintro e wz3 ⟨rfl, rfl⟩) | (go_at_call 54; refine (HP4.out _).mono ?_; rintro e wz4 ⟨rfl, rfl⟩))
  have hwx := hwc.at' (j + 1)
  have hox := ho3.set (o := 1) (.int .i64 ((j + 1 : Nat) : Int))
  push_cast at hwx hox
  generalize wc.setCell ⟨g, 1, none⟩ (.int .i64 ((j : Int) + 1)) = wx at *
  clear hwc ho3 d0 d1 d2 d3 d4 d5 d6 hlt f1
  refine (B2.out _ hwx).mono ?_
  rintro e w4 ⟨ho4, rfl, k', hk', hw4⟩
  go_wp2_with fail
  go_ret
  exact ⟨hox.trans ho4, rfl⟩
set_option maxRecDepth 100000 in
set_option maxHeartbeats 1000000 in
theorem item_less (g : Nat) (s : List UInt8) (k : Nat) (gl : Bool) (p : Nat → Bool) (hk : k ≤ s.length) (hs : s.length ≤ 1000000) (w : World) (hw : ScB w g s k gl p) (h1 : preB (s.drop k) [91, 58] = false) (h2 : preB (s.drop k) [91, 61] = false) (a : UInt8) (n : Nat) (hb : byteF gl (s.drop k) = some (a, n)) (HP1e : preB (s.drop (k + n)) [45] = true) (HP2e : preB (s.drop (k + n)) [45, 93] = false) (HP3e : preB ((s.drop (k + n)).drop 1) [91, 58] = false) (HP4e : preB ((s.drop (k + n)).drop 1) [91, 61] = false) (b : UInt8) (m : Nat) (hb2 : byteF gl (s.drop (k + n + 1)) = some (b, m)) (hba : b < a) :
    Calls Tryd.prog 37 #[.pointer (some ⟨g, 0, none⟩)] w fun e w' => NmQ g s k gl p none w e w' := by
  have N1 := Lib.hid (fun W hW => next_no g s [91, 58] k gl p hk hs h1 W hW)
  have N2 := Lib.hid (fun W hW => next_no g s [91, 61] k gl p hk hs h2 W hW)
  have B1 := Lib.hid (fun W hW => byte_any g s k gl p hk hs W hW)
  rw [hb] at B1
  have B2 := Lib.hid (fun W hW => byte_any g s (k + n + 1) gl p (by have := preB_len _ _ HP1e; rw [List.length_drop] at this; simp only [List.length_cons, List.length_nil] at this; omega) hs W hW)
  rw [hb2] at B2
  clear hb2
  clear h1 h2 hb
  rw [List.drop_drop] at HP3e HP4e
  have HP1 := Lib.hid (show ∀ W : World, Calls Tryd.prog 54 #[.string (S (s.drop (k + n))), .string ⟨#[45]⟩] W fun e w' => e = .returned (.bool true) ∧ W = w' from fun W => by
    refine (Go.Proofs.Tryd.strings_HasPrefix _ _ W).mono ?_
    rintro e w' ⟨rfl, rfl⟩
    exact ⟨by rw [show (true : Bool) = preB (s.drop (k + n)) [45] from HP1e.symm]; rfl, rfl⟩)
  have HP2 := Lib.hid (show ∀ W : World, Calls Tryd.prog 54 #[.string (S (s.drop (k + n))), .string ⟨#[45, 93]⟩] W fun e w' => e = .returned (.bool false) ∧ W = w' from fun W => by
    refine (Go.Proofs.Tryd.strings_HasPrefix _ _ W).mono ?_
    rintro e w' ⟨rfl, rfl⟩
    exact ⟨by rw [show (false : Bool) = preB (s.drop (k + n)) [45, 93] from HP2e.symm]; rfl, rfl⟩)
  have HP3 := Lib.hid (show ∀ W : World, Calls Tryd.prog 54 #[.string (S (s.drop (k + n + 1))), .string ⟨#[91, 58]⟩] W fun e w' => e = .returned (.bool false) ∧ W = w' from fun W => by
    refine (Go.Proofs.Tryd.strings_HasPrefix _ _ W).mono ?_
    rintro e w' ⟨rfl, rfl⟩
    exact ⟨by rw [show (false : Bool) = preB (s.drop (k + n + 1)) [91, 58] from HP3e.symm]; rfl, rfl⟩)
  have HP4 := Lib.hid (show ∀ W : World, Calls Tryd.prog 54 #[.string (S (s.drop (k + n + 1))), .string ⟨#[91, 61]⟩] W fun e w' => e = .returned (.bool false) ∧ W = w' from fun W => by
    refine (Go.Proofs.Tryd.strings_HasPrefix _ _ W).mono ?_
    rintro e w' ⟨rfl, rfl⟩
    exact ⟨by rw [show (false : Bool) = preB (s.drop (k + n + 1)) [91, 61] from HP4e.symm]; rfl, rfl⟩)
  have HL := Lib.hid (preB_len _ _ HP1e)
  clear HP1e HP2e HP3e HP4e
  have hdb : b.toNat < a.toNat := UInt8.lt_iff_toNat_lt.1 hba
  clear hba
  go_enter Tryd.func37, Tryd.ntmps37
  go_wp2_with fail
  refine (N1.out _ hw).mono ?_
  rintro e w1 ⟨rfl, hw1, ho1⟩
  go_wp2_with fail
  refine (N2.out _ hw1).mono ?_
  rintro e w2 ⟨rfl, hw2, ho2⟩
  go_wp2_with fail
  refine (B1.out _ hw2).mono ?_
  rintro e w3 ⟨ho3x, rfl, hwc, hle, hn⟩
  have ho3 := (ho1.trans ho2).trans ho3x
  clear hw hw1 hw2 ho1 ho2 ho3x N1 N2 B1
  obtain ⟨d0, d1, d2, d3, d4, d5, d6⟩ := hwc.cells
  have hd : (S s).extract (k + n) s.length = S (s.drop (k + n)) := by rw [S_extract, List.take_of_length_le (by rw [List.length_drop]; exact Nat.le_refl _)]
  have hd2 : (S (s.drop (k + n))).extract 1 (s.drop (k + n)).length = S (s.drop (k + n + 1)) := by rw [S_extract, List.take_of_length_le (by rw [List.length_drop]; exact Nat.le_refl _), List.drop_drop]
  have hkI : (((k + n : Nat) : Int)) ≤ (s.length : Int) := by omega
  have hql : 1 ≤ (s.drop (k + n)).length := HL.out
  have hqI : (1 : Int) ≤ ((s.drop (k + n)).length : Int) := by omega
  have hj1 : k + n + 1 ≤ s.length := by rw [List.length_drop] at hql; omega
  generalize s.drop (k + n) = q at *
  generalize s.drop (k + n + 1) = q2 at *
  generalize hj : k + n = j at *
  have HJ := Lib.hid hj
  clear hj
  go_wp2_with fail
  go_quiet (fail)
  have hwc := hwc.drewN (n := nq)
  have ho3 := ho3.drewN (n := nq)
  clear d0 d1 d2 d3 d4 d5 d6
  generalize w3.drewN nq = wc at *
  obtain ⟨d0, d1, d2, d3, d4, d5, d6⟩ := hwc.cells
  have hlt := hwc.lt
  have f1 := hwc.f 1
  go_wp2_with (first | (go_at_call 54; refine (HP1.out _).mono ?_; rintro e wz1 ⟨rfl, rfl⟩) | (go_at_call 54; refine (HP2.out _).mono ?_; rintro e wz2 ⟨rfl, rfl⟩) | (go_at_call 54; refine (HP3.out _).mono ?_; rintro e wz3 ⟨rfl, rfl⟩) | (go_at_call 54; refine (HP4.out _).mono ?_; rintro e wz4 ⟨rfl, rfl⟩))
  have hwx := hwc.at' (j + 1)
  have hox := ho3.set (o := 1) (.int .i64 ((j + 1 : Nat) : Int))
  push_cast at hwx hox
  generalize wc.setCell ⟨g, 1, none⟩ (.int .i64 ((j : Int) + 1)) = wx at *
  clear hwc ho3 d0 d1 d2 d3 d4 d5 d6 hlt f1
  refine (B2.out _ hwx).mono ?_
  rintro e w4 ⟨ho4, rfl, hw4, hle4, hm4⟩
  go_wp2_with fail
  go_ret
  exact ⟨hox.trans ho4, rfl⟩
set_option maxRecDepth 100000 in
set_option maxHeartbeats 1000000 in
theorem item_run (g : Nat) (s : List UInt8) (k : Nat) (gl : Bool) (p : Nat → Bool) (hk : k ≤ s.length) (hs : s.length ≤ 1000000) (w : World) (hw : ScB w g s k gl p) (h1 : preB (s.drop k) [91, 58] = false) (h2 : preB (s.drop k) [91, 61] = false) (a : UInt8) (n : Nat) (hb : byteF gl (s.drop k) = some (a, n)) (HP1e : preB (s.drop (k + n)) [45] = true) (HP2e : preB (s.drop (k + n)) [45, 93] = false) (HP3e : preB ((s.drop (k + n)).drop 1) [91, 58] = false) (HP4e : preB ((s.drop (k + n)).drop 1) [91, 61] = false) (b : UInt8) (m : Nat) (hb2 : byteF gl (s.drop (k + n + 1)) = some (b, m)) (hba : ¬ b < a) :
    Calls Tryd.prog 37 #[.pointer (some ⟨g, 0, none⟩)] w fun e w' => NmQ g s k gl p (some (rangeP a.toNat b.toNat, n + 1 + m)) w e w' := by
  have N1 := Lib.hid (fun W hW => next_no g s [91, 58] k gl p hk hs h1 W hW)
  have N2 := Lib.hid (fun W hW => next_no g s [91, 61] k gl p hk hs h2 W hW)
  have B1 := Lib.hid (fun W hW => byte_any g s k gl p hk hs W hW)
  rw [hb] at B1
  have B2 := Lib.hid (fun W hW => byte_any g s (k + n + 1) gl p (by have := preB_len _ _ HP1e; rw [List.length_drop] at this; simp only [List.length_cons, List.length_nil] at this; omega) hs W hW)
  rw [hb2] at B2
  clear hb2
  clear h1 h2 hb
  rw [List.drop_drop] at HP3e HP4e
  have HP1 := Lib.hid (show ∀ W : World, Calls Tryd.prog 54 #[.string (S (s.drop (k + n))), .string ⟨#[45]⟩] W fun e w' => e = .returned (.bool true) ∧ W = w' from fun W => by
    refine (Go.Proofs.Tryd.strings_HasPrefix _ _ W).mono ?_
    rintro e w' ⟨rfl, rfl⟩
    exact ⟨by rw [show (true : Bool) = preB (s.drop (k + n)) [45] from HP1e.symm]; rfl, rfl⟩)
  have HP2 := Lib.hid (show ∀ W : World, Calls Tryd.prog 54 #[.string (S (s.drop (k + n))), .string ⟨#[45, 93]⟩] W fun e w' => e = .returned (.bool false) ∧ W = w' from fun W => by
    refine (Go.Proofs.Tryd.strings_HasPrefix _ _ W).mono ?_
    rintro e w' ⟨rfl, rfl⟩
    exact ⟨by rw [show (false : Bool) = preB (s.drop (k + n)) [45, 93] from HP2e.symm]; rfl, rfl⟩)
  have HP3 := Lib.hid (show ∀ W : World, Calls Tryd.prog 54 #[.string (S (s.drop (k + n + 1))), .string ⟨#[91, 58]⟩] W fun e w' => e = .returned (.bool false) ∧ W = w' from fun W => by
    refine (Go.Proofs.Tryd.strings_HasPrefix _ _ W).mono ?_
    rintro e w' ⟨rfl, rfl⟩
    exact ⟨by rw [show (false : Bool) = preB (s.drop (k + n + 1)) [91, 58] from HP3e.symm]; rfl, rfl⟩)
  have HP4 := Lib.hid (show ∀ W : World, Calls Tryd.prog 54 #[.string (S (s.drop (k + n + 1))), .string ⟨#[91, 61]⟩] W fun e w' => e = .returned (.bool false) ∧ W = w' from fun W => by
    refine (Go.Proofs.Tryd.strings_HasPrefix _ _ W).mono ?_
    rintro e w' ⟨rfl, rfl⟩
    exact ⟨by rw [show (false : Bool) = preB (s.drop (k + n + 1)) [91, 61] from HP4e.symm]; rfl, rfl⟩)
  have HL := Lib.hid (preB_len _ _ HP1e)
  clear HP1e HP2e HP3e HP4e
  have hdb : ¬ b.toNat < a.toNat := fun h => hba (UInt8.lt_iff_toNat_lt.2 h)
  clear hba
  have HRg := Lib.hid (fun W => range8_any a b W)
  have HO := Lib.hid (fun W => or_any p (rangeP a.toNat b.toNat) W)
  generalize hP : rangeP a.toNat b.toNat = P at *
  clear hP
  go_enter Tryd.func37, Tryd.ntmps37
  go_wp2_with fail
  refine (N1.out _ hw).mono ?_
  rintro e w1 ⟨rfl, hw1, ho1⟩
  go_wp2_with fail
  refine (N2.out _ hw1).mono ?_
  rintro e w2 ⟨rfl, hw2, ho2⟩
  go_wp2_with fail
  refine (B1.out _ hw2).mono ?_
  rintro e w3 ⟨ho3x, rfl, hwc, hle, hn⟩
  have ho3 := (ho1.trans ho2).trans ho3x
  clear hw hw1 hw2 ho1 ho2 ho3x N1 N2 B1
  obtain ⟨d0, d1, d2, d3, d4, d5, d6⟩ := hwc.cells
  have hd : (S s).extract (k + n) s.length = S (s.drop (k + n)) := by rw [S_extract, List.take_of_length_le (by rw [List.length_drop]; exact Nat.le_refl _)]
  have hd2 : (S (s.drop (k + n))).extract 1 (s.drop (k + n)).length = S (s.drop (k + n + 1)) := by rw [S_extract, List.take_of_length_le (by rw [List.length_drop]; exact Nat.le_refl _), List.drop_drop]
  have hkI : (((k + n : Nat) : Int)) ≤ (s.length : Int) := by omega
  have hql : 1 ≤ (s.drop (k + n)).length := HL.out
  have hqI : (1 : Int) ≤ ((s.drop (k + n)).length : Int) := by omega
  have hj1 : k + n + 1 ≤ s.length := by rw [List.length_drop] at hql; omega
  generalize s.drop (k + n) = q at *
  generalize s.drop (k + n + 1) = q2 at *
  generalize hj : k + n = j at *
  have HJ := Lib.hid hj
  clear hj
  go_wp2_with fail
  go_quiet (fail)
  have hwc := hwc.drewN (n := nq)
  have ho3 := ho3.drewN (n := nq)
  clear d0 d1 d2 d3 d4 d5 d6
  generalize w3.drewN nq = wc at *
  obtain ⟨d0, d1, d2, d3, d4, d5, d6⟩ := hwc.cells
  have hlt := hwc.lt
  have f1 := hwc.f 1
  go_wp2_with (first | (go_at_call 54; refine (HP1.out _).mono ?_; rintro e wz1 ⟨rfl, rfl⟩) | (go_at_call 54; refine (HP2.out _).mono ?_; rintro e wz2 ⟨rfl, rfl⟩) | (go_at_call 54; refine (HP3.out _).mono ?_; rintro e wz3 ⟨rfl, rfl⟩) | (go_at_call 54; refine (HP4.out _).mono ?_; rintro e wz4 ⟨rfl, rfl⟩))
  have hwx := hwc.at' (j + 1)
  have hox := ho3.set (o := 1) (.int .i64 ((j + 1 : Nat) : Int))
  push_cast at hwx hox
  generalize wc.setCell ⟨g, 1, none⟩ (.int .i64 ((j : Int) + 1)) = wx at *
  clear hwc ho3 d0 d1 d2 d3 d4 d5 d6 hlt f1
  refine (B2.out _ hwx).mono ?_
  rintro e wc ⟨ho4, rfl, hwc, hle4, hm4⟩
  have ho3 := hox.trans ho4
  clear hox ho4 hwx B2
  obtain ⟨d0, d1, d2, d3, d4, d5, d6⟩ := hwc.cells
  have hlt := hwc.lt
  go_wp2_with fail
  go_region_law (first | (go_simp; go_at_call 58; refine (HRg.out _).mono ?_; rintro e wr ⟨rfl, hbrx⟩; have hbr := ((Below.refl wc.heap.size wc).drew).trans hbrx; have hwr := hwc.below hbr hlt; obtain ⟨r0, r1, r2, r3, r4, r5, r6⟩ := hwr.cells; have hlr := hwr.lt) | (go_simp; go_at_call 57; rw [← SetV_def, ← SetV_def]; refine (HO.out _).mono ?_; rintro e w3 ⟨rfl, hb3x⟩; have hw3 := hwr.below hb3x hlr; obtain ⟨e0, e1, e2, e3, e4, e5, e6⟩ := hw3.cells; have f3 := hw3.f 3; have f4 := hw3.f 4; have f5 := hw3.f 5; have f6 := hw3.f 6))
  all_goals (
    have hw4 := hw3.setP (orP p P)
    have ho4 := (((((ho3.trans (Own1.of_below hbr)).trans (Own1.of_below hb3x)).set (o := 3) (.int .u64 (wordP (orP p P) 0))).set (o := 4) (.int .u64 (wordP (orP p P) 1))).set (o := 5) (.int .u64 (wordP (orP p P) 2))).set (o := 6) (.int .u64 (wordP (orP p P) 3))
    generalize (((w3.setCell ⟨g, 3, none⟩ (.int .u64 (wordP (orP p P) 0))).setCell ⟨g, 4, none⟩ (.int .u64 (wordP (orP p P) 1))).setCell ⟨g, 5, none⟩ (.int .u64 (wordP (orP p P) 2))).setCell ⟨g, 6, none⟩ (.int .u64 (wordP (orP p P) 3)) = w4 at *
    clear d0 d1 d2 d3 d4 d5 d6 e0 e1 e2 e3 e4 e5 e6 r0 r1 r2 r3 r4 r5 r6 f3 f4 f5 f6 hwc hwr hw3 hbr hb3x hbrx HO HRg
    go_wp2_with fail
    go_ret
    exact ⟨ho4, rfl, by rw [show k + (n + 1 + m) = j + 1 + m by have := HJ.out; omega]; exact hw4, by have := HJ.out; show k + (n + 1 + m) ≤ _; omega, by show 1 ≤ n + 1 + m; omega⟩)

end Go.Proofs.YtphfcebacilbbaaDoor
