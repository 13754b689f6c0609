/- stamp.Parse. -/
import Derived.Test.YtpdknjpicaokkaaDoorStampC
namespace Go.Proofs.YtpdknjpicaokkaaDoor
open Go.RowKit

def StV (s n : Int) (e : Int) : Value := .tuple #[Stp s n, .int .i64 e]
theorem set_two {w : World} {g : Nat} {u0 u1 : Value} (h0 : w.cell? ⟨g, 0, none⟩ = some u0) (h1 : w.cell? ⟨g, 1, none⟩ = some u1) (p q : Value) : (w.setCell ⟨g, 0, none⟩ p).cell? ⟨g, 0, none⟩ = some p ∧ ((w.setCell ⟨g, 0, none⟩ p).setCell ⟨g, 1, none⟩ q).cell? ⟨g, 1, none⟩ = some q := by
  have k : ∀ (W : World) (o : Nat) (u v : Value), W.cell? ⟨g, o, none⟩ = some u → (W.setCell ⟨g, o, none⟩ v).cell? ⟨g, o, none⟩ = some v := fun W o u v h => World.cell?_setCell_same' W _ v (by rw [h]; rfl)
  refine ⟨k w 0 u0 p h0, k _ 1 u1 q ?_⟩
  rw [World.cell?_setCell_other (w := w) (a := ⟨g, 0, none⟩) (b := ⟨g, 1, none⟩) (v := p) (by simp)]
  exact h1
theorem zeros_ext (p : List UInt8) : (S p ++ (⟨#[48, 48, 48, 48, 48, 48, 48, 48]⟩ : ByteArray)).extract 0 9 = S ((p ++ List.replicate 8 48).take 9) := by
  rw [show (⟨#[48, 48, 48, 48, 48, 48, 48, 48]⟩ : ByteArray) = S (List.replicate 8 48) from rfl, S_append, takeS0]
theorem digV_yes (l : List UInt8) (most : Nat) (h : digB l most = true) : digV l most = .tuple #[.int .i64 (valD l most), .bool true] := by unfold digV; rw [h]
theorem digV_no (l : List UInt8) (most : Nat) (h : digB l most = false) : digV l most = .tuple #[.int .i64 0, .bool false] := by unfold digV valD; rw [h]; rfl

set_option maxRecDepth 100000 in
set_option maxHeartbeats 2000000 in
theorem parse_m_a (pb : Bool)
    (l : List UInt8) (r wh pt : List UInt8) (hr : r.length ≤ 9223372036854775807) (hwl : wh.length ≤ r.length) 
    (HP1 : Hid (Lib.hasPrefix l [45] = true)) (HP2 : Hid (Lib.trimPrefix l [45] = r)) (HCV : Hid (cutV r = .tuple #[.string (S wh), .string (S pt), .bool pb])) (HW : Hid (digV wh 16 = .tuple #[.int .i64 0, .bool false])) (w : World) :
    Calls Tryd.prog 46 #[.string (S l)] w fun e w' => e = .returned (StV 0 0 2) ∧ Below w.heap.size w w' := by
  go_enter Tryd.func46, Tryd.ntmps46
  go_wp2_with fail
  refine (Go.Proofs.Tryd.strings_CutPrefix _ _ _).mono ?_
  rintro e w1 ⟨rfl, hw1⟩
  subst hw1
  rw [S_data, show (⟨#[45]⟩ : ByteArray).data.toList = [45] from rfl, HP1.out, HP2.out, show (⟨r.toArray⟩ : ByteArray) = S r from rfl]
  go_wp2_with fail
  refine (cut_any r hr _).mono ?_
  rintro e w2 ⟨rfl, n, rfl⟩
  rw [HCV.out]
  go_wp2_with fail
  refine (digits_any (S wh) 16 (by decide) (by rw [S_size]; omega) _).mono ?_
  rintro e w3 ⟨rfl, hw3⟩
  subst hw3
  rw [S_data, HW.out]
  go_wp2_with fail
  refine bodyPost_ret (v := StV 0 0 2) (by simp [results, Tryd.results46, go_sem, Stp, StV]) rfl ⟨rfl, ?_⟩
  go_grown
  exact belowDrewN ((Below.refl _ _).alloc (Nat.le_refl _) _)

set_option maxRecDepth 100000 in
set_option maxHeartbeats 2000000 in
theorem parse_m_b (x : Int)
    (l : List UInt8) (r wh pt : List UInt8) (hr : r.length ≤ 9223372036854775807) (hwl : wh.length ≤ r.length) (hpl : pt.length ≤ r.length)
    (HP1 : Hid (Lib.hasPrefix l [45] = true)) (HP2 : Hid (Lib.trimPrefix l [45] = r)) (HCV : Hid (cutV r = .tuple #[.string (S wh), .string (S pt), .bool true])) (HW : Hid (digV wh 16 = .tuple #[.int .i64 x, .bool true])) (HD : Hid (digV pt 40 = .tuple #[.int .i64 0, .bool false])) (w : World) :
    Calls Tryd.prog 46 #[.string (S l)] w fun e w' => e = .returned (StV 0 0 2) ∧ Below w.heap.size w w' := by
  go_enter Tryd.func46, Tryd.ntmps46
  go_wp2_with fail
  refine (Go.Proofs.Tryd.strings_CutPrefix _ _ _).mono ?_
  rintro e w1 ⟨rfl, hw1⟩
  subst hw1
  rw [S_data, show (⟨#[45]⟩ : ByteArray).data.toList = [45] from rfl, HP1.out, HP2.out, show (⟨r.toArray⟩ : ByteArray) = S r from rfl]
  go_wp2_with fail
  refine (cut_any r hr _).mono ?_
  rintro e w2 ⟨rfl, n, rfl⟩
  rw [HCV.out]
  go_wp2_with fail
  refine (digits_any (S wh) 16 (by decide) (by rw [S_size]; omega) _).mono ?_
  rintro e w3 ⟨rfl, hw3⟩
  subst hw3
  rw [S_data, HW.out]
  go_wp2_with fail
  refine (digits_any (S pt) 40 (by decide) (by rw [S_size]; omega) _).mono ?_
  rintro e w4 ⟨rfl, hw4⟩
  subst hw4
  rw [S_data, HD.out]
  go_wp2_with fail
  refine bodyPost_ret (v := StV 0 0 2) (by simp [results, Tryd.results46, go_sem, Stp, StV]) rfl ⟨rfl, ?_⟩
  go_grown
  exact belowDrewN ((Below.refl _ _).alloc (Nat.le_refl _) _)

set_option maxRecDepth 100000 in
set_option maxHeartbeats 2000000 in
theorem parse_p_a (pb : Bool)
    (l : List UInt8) (r wh pt : List UInt8) (hr : r.length ≤ 9223372036854775807) (hwl : wh.length ≤ r.length) 
    (HP1 : Hid (Lib.hasPrefix l [45] = false)) (HP2 : Hid (Lib.trimPrefix l [45] = r)) (HCV : Hid (cutV r = .tuple #[.string (S wh), .string (S pt), .bool pb])) (HW : Hid (digV wh 16 = .tuple #[.int .i64 0, .bool false])) (w : World) :
    Calls Tryd.prog 46 #[.string (S l)] w fun e w' => e = .returned (StV 0 0 2) ∧ Below w.heap.size w w' := by
  go_enter Tryd.func46, Tryd.ntmps46
  go_wp2_with fail
  refine (Go.Proofs.Tryd.strings_CutPrefix _ _ _).mono ?_
  rintro e w1 ⟨rfl, hw1⟩
  subst hw1
  rw [S_data, show (⟨#[45]⟩ : ByteArray).data.toList = [45] from rfl, HP1.out, HP2.out, show (⟨r.toArray⟩ : ByteArray) = S r from rfl]
  go_wp2_with fail
  refine (cut_any r hr _).mono ?_
  rintro e w2 ⟨rfl, n, rfl⟩
  rw [HCV.out]
  go_wp2_with fail
  refine (digits_any (S wh) 16 (by decide) (by rw [S_size]; omega) _).mono ?_
  rintro e w3 ⟨rfl, hw3⟩
  subst hw3
  rw [S_data, HW.out]
  go_wp2_with fail
  refine bodyPost_ret (v := StV 0 0 2) (by simp [results, Tryd.results46, go_sem, Stp, StV]) rfl ⟨rfl, ?_⟩
  go_grown
  exact belowDrewN ((Below.refl _ _).alloc (Nat.le_refl _) _)

set_option maxRecDepth 100000 in
set_option maxHeartbeats 2000000 in
theorem parse_p_b (x : Int)
    (l : List UInt8) (r wh pt : List UInt8) (hr : r.length ≤ 9223372036854775807) (hwl : wh.length ≤ r.length) (hpl : pt.length ≤ r.length)
    (HP1 : Hid (Lib.hasPrefix l [45] = false)) (HP2 : Hid (Lib.trimPrefix l [45] = r)) (HCV : Hid (cutV r = .tuple #[.string (S wh), .string (S pt), .bool true])) (HW : Hid (digV wh 16 = .tuple #[.int .i64 x, .bool true])) (HD : Hid (digV pt 40 = .tuple #[.int .i64 0, .bool false])) (w : World) :
    Calls Tryd.prog 46 #[.string (S l)] w fun e w' => e = .returned (StV 0 0 2) ∧ Below w.heap.size w w' := by
  go_enter Tryd.func46, Tryd.ntmps46
  go_wp2_with fail
  refine (Go.Proofs.Tryd.strings_CutPrefix _ _ _).mono ?_
  rintro e w1 ⟨rfl, hw1⟩
  subst hw1
  rw [S_data, show (⟨#[45]⟩ : ByteArray).data.toList = [45] from rfl, HP1.out, HP2.out, show (⟨r.toArray⟩ : ByteArray) = S r from rfl]
  go_wp2_with fail
  refine (cut_any r hr _).mono ?_
  rintro e w2 ⟨rfl, n, rfl⟩
  rw [HCV.out]
  go_wp2_with fail
  refine (digits_any (S wh) 16 (by decide) (by rw [S_size]; omega) _).mono ?_
  rintro e w3 ⟨rfl, hw3⟩
  subst hw3
  rw [S_data, HW.out]
  go_wp2_with fail
  refine (digits_any (S pt) 40 (by decide) (by rw [S_size]; omega) _).mono ?_
  rintro e w4 ⟨rfl, hw4⟩
  subst hw4
  rw [S_data, HD.out]
  go_wp2_with fail
  refine bodyPost_ret (v := StV 0 0 2) (by simp [results, Tryd.results46, go_sem, Stp, StV]) rfl ⟨rfl, ?_⟩
  go_grown
  exact belowDrewN ((Below.refl _ _).alloc (Nat.le_refl _) _)

set_option maxRecDepth 100000 in
set_option maxHeartbeats 4000000 in
theorem parse_mer (x : Int)
    (l : List UInt8) (r wh pt : List UInt8) (hr : r.length ≤ 9223372036854775807) (hwl : wh.length ≤ r.length) 
    (HP1 : Hid (Lib.hasPrefix l [45] = true)) (HP2 : Hid (Lib.trimPrefix l [45] = r)) (HCV : Hid (cutV r = .tuple #[.string (S wh), .string (S pt), .bool false])) (HW : Hid (digV wh 16 = .tuple #[.int .i64 x, .bool true])) (hx0 : 0 ≤ x) (hx1 : x < 10000000000000000) (p q : Int) (HT : Hid (turnF x 0 = (p, q))) (HR : Hid (rightB p q = true)) (w : World) :
    Calls Tryd.prog 46 #[.string (S l)] w fun e w' => e = .returned (StV p q 0) ∧ Below w.heap.size w w' := by
  go_enter Tryd.func46, Tryd.ntmps46
  go_wp2_with fail
  refine (Go.Proofs.Tryd.strings_CutPrefix _ _ _).mono ?_
  rintro e w1 ⟨rfl, hw1⟩
  subst hw1
  rw [S_data, show (⟨#[45]⟩ : ByteArray).data.toList = [45] from rfl, HP1.out, HP2.out, show (⟨r.toArray⟩ : ByteArray) = S r from rfl]
  go_wp2_with fail
  refine (cut_any r hr _).mono ?_
  rintro e w2 ⟨rfl, n, rfl⟩
  rw [HCV.out]
  go_wp2_with fail
  refine (digits_any (S wh) 16 (by decide) (by rw [S_size]; omega) _).mono ?_
  rintro e w3 ⟨rfl, hw3⟩
  subst hw3
  rw [S_data, HW.out]
  go_wp2_with fail
  refine (turn_any x 0 (by omega) (by omega) (by omega) (by omega) _).mono ?_
  rintro e w6 ⟨rfl, hb6⟩
  rw [HT.out]
  have h6 : Below w.heap.size w w6 := ((belowDrewN ((Below.refl _ _).alloc (Nat.le_refl _) _)).alloc (by simp) _).trans (hb6.mono (by simp; omega))
  obtain ⟨hc6, hf6⟩ := bcell hb6
  have hz6 : w.heap.size + 1 < w6.heap.size := by have := hb6.size; simp at this; omega
  have hz60 : w.heap.size < w6.heap.size := by omega
  have H6 := Lib.hid h6
  clear h6 hb6
  unfold Stp
  go_wp2_with fail
  refine (sRight_any p q _).mono ?_
  rintro e w7 ⟨rfl, hb7⟩
  rw [HR.out]
  have h7 : Below w.heap.size w w7 := ((H6.out.setCell (by simp) _).setCell (by simp) _).trans (hb7.mono (by simp; omega))
  obtain ⟨hc7, hf7⟩ := bcell hb7
  have hz7 : w.heap.size + 1 < w7.heap.size := by have := hb7.size; simp at this; omega
  have hz70 : w.heap.size < w7.heap.size := by omega
  have H7 := Lib.hid h7
  have d0 : w7.cell? ⟨w.heap.size, 0, none⟩ = some (.int .i64 0) := by go_simp
  have d1 : w7.cell? ⟨w.heap.size, 1, none⟩ = some (.int .i64 0) := by go_simp
  obtain ⟨f0, f1⟩ := set_two d0 d1 (.int .i64 p) (.int .i64 q)
  have F0 := Lib.hid f0
  have F1 := Lib.hid f1
  clear h7 hb7 f0 f1
  go_wp2_with fail
  refine bodyPost_ret (v := StV p q 0) (by simp [results, Tryd.results46, go_sem, Stp, StV, F0.out, F1.out]) rfl ⟨rfl, ?_⟩
  exact (H7.out.setCell (Nat.le_refl _) _).setCell (Nat.le_refl _) _


set_option maxRecDepth 100000 in
set_option maxHeartbeats 4000000 in
theorem parse_men (x : Int)
    (l : List UInt8) (r wh pt : List UInt8) (hr : r.length ≤ 9223372036854775807) (hwl : wh.length ≤ r.length) 
    (HP1 : Hid (Lib.hasPrefix l [45] = true)) (HP2 : Hid (Lib.trimPrefix l [45] = r)) (HCV : Hid (cutV r = .tuple #[.string (S wh), .string (S pt), .bool false])) (HW : Hid (digV wh 16 = .tuple #[.int .i64 x, .bool true])) (hx0 : 0 ≤ x) (hx1 : x < 10000000000000000) (p q : Int) (HT : Hid (turnF x 0 = (p, q))) (HR : Hid (rightB p q = false)) (w : World) :
    Calls Tryd.prog 46 #[.string (S l)] w fun e w' => e = .returned (StV 0 0 6) ∧ Below w.heap.size w w' := by
  go_enter Tryd.func46, Tryd.ntmps46
  go_wp2_with fail
  refine (Go.Proofs.Tryd.strings_CutPrefix _ _ _).mono ?_
  rintro e w1 ⟨rfl, hw1⟩
  subst hw1
  rw [S_data, show (⟨#[45]⟩ : ByteArray).data.toList = [45] from rfl, HP1.out, HP2.out, show (⟨r.toArray⟩ : ByteArray) = S r from rfl]
  go_wp2_with fail
  refine (cut_any r hr _).mono ?_
  rintro e w2 ⟨rfl, n, rfl⟩
  rw [HCV.out]
  go_wp2_with fail
  refine (digits_any (S wh) 16 (by decide) (by rw [S_size]; omega) _).mono ?_
  rintro e w3 ⟨rfl, hw3⟩
  subst hw3
  rw [S_data, HW.out]
  go_wp2_with fail
  refine (turn_any x 0 (by omega) (by omega) (by omega) (by omega) _).mono ?_
  rintro e w6 ⟨rfl, hb6⟩
  rw [HT.out]
  have h6 : Below w.heap.size w w6 := ((belowDrewN ((Below.refl _ _).alloc (Nat.le_refl _) _)).alloc (by simp) _).trans (hb6.mono (by simp; omega))
  obtain ⟨hc6, hf6⟩ := bcell hb6
  have hz6 : w.heap.size + 1 < w6.heap.size := by have := hb6.size; simp at this; omega
  have hz60 : w.heap.size < w6.heap.size := by omega
  have H6 := Lib.hid h6
  clear h6 hb6
  unfold Stp
  go_wp2_with fail
  refine (sRight_any p q _).mono ?_
  rintro e w7 ⟨rfl, hb7⟩
  rw [HR.out]
  have h7 : Below w.heap.size w w7 := ((H6.out.setCell (by simp) _).setCell (by simp) _).trans (hb7.mono (by simp; omega))
  obtain ⟨hc7, hf7⟩ := bcell hb7
  have hz7 : w.heap.size + 1 < w7.heap.size := by have := hb7.size; simp at this; omega
  have hz70 : w.heap.size < w7.heap.size := by omega
  have H7 := Lib.hid h7
  have d0 : w7.cell? ⟨w.heap.size, 0, none⟩ = some (.int .i64 0) := by go_simp
  have d1 : w7.cell? ⟨w.heap.size, 1, none⟩ = some (.int .i64 0) := by go_simp
  obtain ⟨f0, f1⟩ := set_two d0 d1 (.int .i64 0) (.int .i64 0)
  have F0 := Lib.hid f0
  have F1 := Lib.hid f1
  clear h7 hb7 f0 f1
  go_wp2_with fail
  refine bodyPost_ret (v := StV 0 0 6) (by simp [results, Tryd.results46, go_sem, Stp, StV, F0.out, F1.out]) rfl ⟨rfl, ?_⟩
  exact (H7.out.setCell (Nat.le_refl _) _).setCell (Nat.le_refl _) _


set_option maxRecDepth 100000 in
set_option maxHeartbeats 4000000 in
theorem parse_mfr (x : Int)
    (l : List UInt8) (r wh pt : List UInt8) (hr : r.length ≤ 9223372036854775807) (hwl : wh.length ≤ r.length) 
    (HP1 : Hid (Lib.hasPrefix l [45] = true)) (HP2 : Hid (Lib.trimPrefix l [45] = r)) (HCV : Hid (cutV r = .tuple #[.string (S wh), .string (S pt), .bool true])) (HW : Hid (digV wh 16 = .tuple #[.int .i64 x, .bool true])) (hx0 : 0 ≤ x) (hx1 : x < 10000000000000000) (nine : List UInt8) (hpt : pt.length ≤ 40) (h9 : nine.length ≤ 9) (z y : Int) (HD : Hid (digV pt 40 = .tuple #[.int .i64 z, .bool true])) (hx : (S pt ++ (⟨#[48, 48, 48, 48, 48, 48, 48, 48]⟩ : ByteArray)).extract 0 9 = S nine) (hp1 : 1 ≤ pt.length) (HN : Hid (digV nine 9 = .tuple #[.int .i64 y, .bool true])) (hy0 : 0 ≤ y) (hy1 : y < 1000000000) (p q : Int) (HT : Hid (turnF x (y : Int) = (p, q))) (HR : Hid (rightB p q = true)) (w : World) :
    Calls Tryd.prog 46 #[.string (S l)] w fun e w' => e = .returned (StV p q 0) ∧ Below w.heap.size w w' := by
  go_enter Tryd.func46, Tryd.ntmps46
  go_wp2_with fail
  refine (Go.Proofs.Tryd.strings_CutPrefix _ _ _).mono ?_
  rintro e w1 ⟨rfl, hw1⟩
  subst hw1
  rw [S_data, show (⟨#[45]⟩ : ByteArray).data.toList = [45] from rfl, HP1.out, HP2.out, show (⟨r.toArray⟩ : ByteArray) = S r from rfl]
  go_wp2_with fail
  refine (cut_any r hr _).mono ?_
  rintro e w2 ⟨rfl, n, rfl⟩
  rw [HCV.out]
  go_wp2_with fail
  refine (digits_any (S wh) 16 (by decide) (by rw [S_size]; omega) _).mono ?_
  rintro e w3 ⟨rfl, hw3⟩
  subst hw3
  rw [S_data, HW.out]
  go_wp2_with fail
  refine (digits_any (S pt) 40 (by decide) (by rw [S_size]; omega) _).mono ?_
  rintro e w4 ⟨rfl, hw4⟩
  subst hw4
  rw [S_data, HD.out]
  have hcl : (9 : Int) ≤ (pt.length : Int) + 8 := by omega
  go_wp2_with fail
  refine (digits_any (S nine) 9 (by decide) (by rw [S_size]; omega) _).mono ?_
  rintro e w5 ⟨rfl, hw5⟩
  subst hw5
  rw [S_data, HN.out]
  go_wp2_with fail
  refine (turn_any x (y : Int) (by omega) (by omega) (by omega) (by omega) _).mono ?_
  rintro e w6 ⟨rfl, hb6⟩
  rw [HT.out]
  have h6 : Below w.heap.size w w6 := ((belowDrewN ((Below.refl _ _).alloc (Nat.le_refl _) _)).alloc (by simp) _).trans (hb6.mono (by simp; omega))
  obtain ⟨hc6, hf6⟩ := bcell hb6
  have hz6 : w.heap.size + 1 < w6.heap.size := by have := hb6.size; simp at this; omega
  have hz60 : w.heap.size < w6.heap.size := by omega
  have H6 := Lib.hid h6
  clear h6 hb6
  unfold Stp
  go_wp2_with fail
  refine (sRight_any p q _).mono ?_
  rintro e w7 ⟨rfl, hb7⟩
  rw [HR.out]
  have h7 : Below w.heap.size w w7 := ((H6.out.setCell (by simp) _).setCell (by simp) _).trans (hb7.mono (by simp; omega))
  obtain ⟨hc7, hf7⟩ := bcell hb7
  have hz7 : w.heap.size + 1 < w7.heap.size := by have := hb7.size; simp at this; omega
  have hz70 : w.heap.size < w7.heap.size := by omega
  have H7 := Lib.hid h7
  have d0 : w7.cell? ⟨w.heap.size, 0, none⟩ = some (.int .i64 0) := by go_simp
  have d1 : w7.cell? ⟨w.heap.size, 1, none⟩ = some (.int .i64 0) := by go_simp
  obtain ⟨f0, f1⟩ := set_two d0 d1 (.int .i64 p) (.int .i64 q)
  have F0 := Lib.hid f0
  have F1 := Lib.hid f1
  clear h7 hb7 f0 f1
  go_wp2_with fail
  refine bodyPost_ret (v := StV p q 0) (by simp [results, Tryd.results46, go_sem, Stp, StV, F0.out, F1.out]) rfl ⟨rfl, ?_⟩
  exact (H7.out.setCell (Nat.le_refl _) _).setCell (Nat.le_refl _) _


set_option maxRecDepth 100000 in
set_option maxHeartbeats 4000000 in
theorem parse_mfn (x : Int)
    (l : List UInt8) (r wh pt : List UInt8) (hr : r.length ≤ 9223372036854775807) (hwl : wh.length ≤ r.length) 
    (HP1 : Hid (Lib.hasPrefix l [45] = true)) (HP2 : Hid (Lib.trimPrefix l [45] = r)) (HCV : Hid (cutV r = .tuple #[.string (S wh), .string (S pt), .bool true])) (HW : Hid (digV wh 16 = .tuple #[.int .i64 x, .bool true])) (hx0 : 0 ≤ x) (hx1 : x < 10000000000000000) (nine : List UInt8) (hpt : pt.length ≤ 40) (h9 : nine.length ≤ 9) (z y : Int) (HD : Hid (digV pt 40 = .tuple #[.int .i64 z, .bool true])) (hx : (S pt ++ (⟨#[48, 48, 48, 48, 48, 48, 48, 48]⟩ : ByteArray)).extract 0 9 = S nine) (hp1 : 1 ≤ pt.length) (HN : Hid (digV nine 9 = .tuple #[.int .i64 y, .bool true])) (hy0 : 0 ≤ y) (hy1 : y < 1000000000) (p q : Int) (HT : Hid (turnF x (y : Int) = (p, q))) (HR : Hid (rightB p q = false)) (w : World) :
    Calls Tryd.prog 46 #[.string (S l)] w fun e w' => e = .returned (StV 0 0 6) ∧ Below w.heap.size w w' := by
  go_enter Tryd.func46, Tryd.ntmps46
  go_wp2_with fail
  refine (Go.Proofs.Tryd.strings_CutPrefix _ _ _).mono ?_
  rintro e w1 ⟨rfl, hw1⟩
  subst hw1
  rw [S_data, show (⟨#[45]⟩ : ByteArray).data.toList = [45] from rfl, HP1.out, HP2.out, show (⟨r.toArray⟩ : ByteArray) = S r from rfl]
  go_wp2_with fail
  refine (cut_any r hr _).mono ?_
  rintro e w2 ⟨rfl, n, rfl⟩
  rw [HCV.out]
  go_wp2_with fail
  refine (digits_any (S wh) 16 (by decide) (by rw [S_size]; omega) _).mono ?_
  rintro e w3 ⟨rfl, hw3⟩
  subst hw3
  rw [S_data, HW.out]
  go_wp2_with fail
  refine (digits_any (S pt) 40 (by decide) (by rw [S_size]; omega) _).mono ?_
  rintro e w4 ⟨rfl, hw4⟩
  subst hw4
  rw [S_data, HD.out]
  have hcl : (9 : Int) ≤ (pt.length : Int) + 8 := by omega
  go_wp2_with fail
  refine (digits_any (S nine) 9 (by decide) (by rw [S_size]; omega) _).mono ?_
  rintro e w5 ⟨rfl, hw5⟩
  subst hw5
  rw [S_data, HN.out]
  go_wp2_with fail
  refine (turn_any x (y : Int) (by omega) (by omega) (by omega) (by omega) _).mono ?_
  rintro e w6 ⟨rfl, hb6⟩
  rw [HT.out]
  have h6 : Below w.heap.size w w6 := ((belowDrewN ((Below.refl _ _).alloc (Nat.le_refl _) _)).alloc (by simp) _).trans (hb6.mono (by simp; omega))
  obtain ⟨hc6, hf6⟩ := bcell hb6
  have hz6 : w.heap.size + 1 < w6.heap.size := by have := hb6.size; simp at this; omega
  have hz60 : w.heap.size < w6.heap.size := by omega
  have H6 := Lib.hid h6
  clear h6 hb6
  unfold Stp
  go_wp2_with fail
  refine (sRight_any p q _).mono ?_
  rintro e w7 ⟨rfl, hb7⟩
  rw [HR.out]
  have h7 : Below w.heap.size w w7 := ((H6.out.setCell (by simp) _).setCell (by simp) _).trans (hb7.mono (by simp; omega))
  obtain ⟨hc7, hf7⟩ := bcell hb7
  have hz7 : w.heap.size + 1 < w7.heap.size := by have := hb7.size; simp at this; omega
  have hz70 : w.heap.size < w7.heap.size := by omega
  have H7 := Lib.hid h7
  have d0 : w7.cell? ⟨w.heap.size, 0, none⟩ = some (.int .i64 0) := by go_simp
  have d1 : w7.cell? ⟨w.heap.size, 1, none⟩ = some (.int .i64 0) := by go_simp
  obtain ⟨f0, f1⟩ := set_two d0 d1 (.int .i64 0) (.int .i64 0)
  have F0 := Lib.hid f0
  have F1 := Lib.hid f1
  clear h7 hb7 f0 f1
  go_wp2_with fail
  refine bodyPost_ret (v := StV 0 0 6) (by simp [results, Tryd.results46, go_sem, Stp, StV, F0.out, F1.out]) rfl ⟨rfl, ?_⟩
  exact (H7.out.setCell (Nat.le_refl _) _).setCell (Nat.le_refl _) _


set_option maxRecDepth 100000 in
set_option maxHeartbeats 4000000 in
theorem parse_per (x : Int)
    (l : List UInt8) (r wh pt : List UInt8) (hr : r.length ≤ 9223372036854775807) (hwl : wh.length ≤ r.length) 
    (HP1 : Hid (Lib.hasPrefix l [45] = false)) (HP2 : Hid (Lib.trimPrefix l [45] = r)) (HCV : Hid (cutV r = .tuple #[.string (S wh), .string (S pt), .bool false])) (HW : Hid (digV wh 16 = .tuple #[.int .i64 x, .bool true])) (HR : Hid (rightB x 0 = true)) (w : World) :
    Calls Tryd.prog 46 #[.string (S l)] w fun e w' => e = .returned (StV x 0 0) ∧ Below w.heap.size w w' := by
  go_enter Tryd.func46, Tryd.ntmps46
  go_wp2_with fail
  refine (Go.Proofs.Tryd.strings_CutPrefix _ _ _).mono ?_
  rintro e w1 ⟨rfl, hw1⟩
  subst hw1
  rw [S_data, show (⟨#[45]⟩ : ByteArray).data.toList = [45] from rfl, HP1.out, HP2.out, show (⟨r.toArray⟩ : ByteArray) = S r from rfl]
  go_wp2_with fail
  refine (cut_any r hr _).mono ?_
  rintro e w2 ⟨rfl, n, rfl⟩
  rw [HCV.out]
  go_wp2_with fail
  refine (digits_any (S wh) 16 (by decide) (by rw [S_size]; omega) _).mono ?_
  rintro e w3 ⟨rfl, hw3⟩
  subst hw3
  rw [S_data, HW.out]
  go_wp2_with fail
  refine (sRight_any x 0 _).mono ?_
  rintro e w7 ⟨rfl, hb7⟩
  rw [HR.out]
  have h7 : Below w.heap.size w w7 := ((belowDrewN ((Below.refl _ _).alloc (Nat.le_refl _) _)).alloc (by simp) _).trans (hb7.mono (by simp; omega))
  obtain ⟨hc7, hf7⟩ := bcell hb7
  have hz7 : w.heap.size + 1 < w7.heap.size := by have := hb7.size; simp at this; omega
  have hz70 : w.heap.size < w7.heap.size := by omega
  have H7 := Lib.hid h7
  have d0 : w7.cell? ⟨w.heap.size, 0, none⟩ = some (.int .i64 0) := by go_simp
  have d1 : w7.cell? ⟨w.heap.size, 1, none⟩ = some (.int .i64 0) := by go_simp
  obtain ⟨f0, f1⟩ := set_two d0 d1 (.int .i64 x) (.int .i64 0)
  have F0 := Lib.hid f0
  have F1 := Lib.hid f1
  clear h7 hb7 f0 f1
  go_wp2_with fail
  refine bodyPost_ret (v := StV x 0 0) (by simp [results, Tryd.results46, go_sem, Stp, StV, F0.out, F1.out]) rfl ⟨rfl, ?_⟩
  exact (H7.out.setCell (Nat.le_refl _) _).setCell (Nat.le_refl _) _


set_option maxRecDepth 100000 in
set_option maxHeartbeats 4000000 in
theorem parse_pen (x : Int)
    (l : List UInt8) (r wh pt : List UInt8) (hr : r.length ≤ 9223372036854775807) (hwl : wh.length ≤ r.length) 
    (HP1 : Hid (Lib.hasPrefix l [45] = false)) (HP2 : Hid (Lib.trimPrefix l [45] = r)) (HCV : Hid (cutV r = .tuple #[.string (S wh), .string (S pt), .bool false])) (HW : Hid (digV wh 16 = .tuple #[.int .i64 x, .bool true])) (HR : Hid (rightB x 0 = false)) (w : World) :
    Calls Tryd.prog 46 #[.string (S l)] w fun e w' => e = .returned (StV 0 0 6) ∧ Below w.heap.size w w' := by
  go_enter Tryd.func46, Tryd.ntmps46
  go_wp2_with fail
  refine (Go.Proofs.Tryd.strings_CutPrefix _ _ _).mono ?_
  rintro e w1 ⟨rfl, hw1⟩
  subst hw1
  rw [S_data, show (⟨#[45]⟩ : ByteArray).data.toList = [45] from rfl, HP1.out, HP2.out, show (⟨r.toArray⟩ : ByteArray) = S r from rfl]
  go_wp2_with fail
  refine (cut_any r hr _).mono ?_
  rintro e w2 ⟨rfl, n, rfl⟩
  rw [HCV.out]
  go_wp2_with fail
  refine (digits_any (S wh) 16 (by decide) (by rw [S_size]; omega) _).mono ?_
  rintro e w3 ⟨rfl, hw3⟩
  subst hw3
  rw [S_data, HW.out]
  go_wp2_with fail
  refine (sRight_any x 0 _).mono ?_
  rintro e w7 ⟨rfl, hb7⟩
  rw [HR.out]
  have h7 : Below w.heap.size w w7 := ((belowDrewN ((Below.refl _ _).alloc (Nat.le_refl _) _)).alloc (by simp) _).trans (hb7.mono (by simp; omega))
  obtain ⟨hc7, hf7⟩ := bcell hb7
  have hz7 : w.heap.size + 1 < w7.heap.size := by have := hb7.size; simp at this; omega
  have hz70 : w.heap.size < w7.heap.size := by omega
  have H7 := Lib.hid h7
  have d0 : w7.cell? ⟨w.heap.size, 0, none⟩ = some (.int .i64 0) := by go_simp
  have d1 : w7.cell? ⟨w.heap.size, 1, none⟩ = some (.int .i64 0) := by go_simp
  obtain ⟨f0, f1⟩ := set_two d0 d1 (.int .i64 0) (.int .i64 0)
  have F0 := Lib.hid f0
  have F1 := Lib.hid f1
  clear h7 hb7 f0 f1
  go_wp2_with fail
  refine bodyPost_ret (v := StV 0 0 6) (by simp [results, Tryd.results46, go_sem, Stp, StV, F0.out, F1.out]) rfl ⟨rfl, ?_⟩
  exact (H7.out.setCell (Nat.le_refl _) _).setCell (Nat.le_refl _) _


set_option maxRecDepth 100000 in
set_option maxHeartbeats 4000000 in
theorem parse_pfr (x : Int)
    (l : List UInt8) (r wh pt : List UInt8) (hr : r.length ≤ 9223372036854775807) (hwl : wh.length ≤ r.length) 
    (HP1 : Hid (Lib.hasPrefix l [45] = false)) (HP2 : Hid (Lib.trimPrefix l [45] = r)) (HCV : Hid (cutV r = .tuple #[.string (S wh), .string (S pt), .bool true])) (HW : Hid (digV wh 16 = .tuple #[.int .i64 x, .bool true])) (nine : List UInt8) (hpt : pt.length ≤ 40) (h9 : nine.length ≤ 9) (z y : Int) (HD : Hid (digV pt 40 = .tuple #[.int .i64 z, .bool true])) (hx : (S pt ++ (⟨#[48, 48, 48, 48, 48, 48, 48, 48]⟩ : ByteArray)).extract 0 9 = S nine) (hp1 : 1 ≤ pt.length) (HN : Hid (digV nine 9 = .tuple #[.int .i64 y, .bool true])) (HR : Hid (rightB x (y : Int) = true)) (w : World) :
    Calls Tryd.prog 46 #[.string (S l)] w fun e w' => e = .returned (StV x (y : Int) 0) ∧ Below w.heap.size w w' := by
  go_enter Tryd.func46, Tryd.ntmps46
  go_wp2_with fail
  refine (Go.Proofs.Tryd.strings_CutPrefix _ _ _).mono ?_
  rintro e w1 ⟨rfl, hw1⟩
  subst hw1
  rw [S_data, show (⟨#[45]⟩ : ByteArray).data.toList = [45] from rfl, HP1.out, HP2.out, show (⟨r.toArray⟩ : ByteArray) = S r from rfl]
  go_wp2_with fail
  refine (cut_any r hr _).mono ?_
  rintro e w2 ⟨rfl, n, rfl⟩
  rw [HCV.out]
  go_wp2_with fail
  refine (digits_any (S wh) 16 (by decide) (by rw [S_size]; omega) _).mono ?_
  rintro e w3 ⟨rfl, hw3⟩
  subst hw3
  rw [S_data, HW.out]
  go_wp2_with fail
  refine (digits_any (S pt) 40 (by decide) (by rw [S_size]; omega) _).mono ?_
  rintro e w4 ⟨rfl, hw4⟩
  subst hw4
  rw [S_data, HD.out]
  have hcl : (9 : Int) ≤ (pt.length : Int) + 8 := by omega
  go_wp2_with fail
  refine (digits_any (S nine) 9 (by decide) (by rw [S_size]; omega) _).mono ?_
  rintro e w5 ⟨rfl, hw5⟩
  subst hw5
  rw [S_data, HN.out]
  go_wp2_with fail
  refine (sRight_any x (y : Int) _).mono ?_
  rintro e w7 ⟨rfl, hb7⟩
  rw [HR.out]
  have h7 : Below w.heap.size w w7 := ((belowDrewN ((Below.refl _ _).alloc (Nat.le_refl _) _)).alloc (by simp) _).trans (hb7.mono (by simp; omega))
  obtain ⟨hc7, hf7⟩ := bcell hb7
  have hz7 : w.heap.size + 1 < w7.heap.size := by have := hb7.size; simp at this; omega
  have hz70 : w.heap.size < w7.heap.size := by omega
  have H7 := Lib.hid h7
  have d0 : w7.cell? ⟨w.heap.size, 0, none⟩ = some (.int .i64 0) := by go_simp
  have d1 : w7.cell? ⟨w.heap.size, 1, none⟩ = some (.int .i64 0) := by go_simp
  obtain ⟨f0, f1⟩ := set_two d0 d1 (.int .i64 x) (.int .i64 (y : Int))
  have F0 := Lib.hid f0
  have F1 := Lib.hid f1
  clear h7 hb7 f0 f1
  go_wp2_with fail
  refine bodyPost_ret (v := StV x (y : Int) 0) (by simp [results, Tryd.results46, go_sem, Stp, StV, F0.out, F1.out]) rfl ⟨rfl, ?_⟩
  exact (H7.out.setCell (Nat.le_refl _) _).setCell (Nat.le_refl _) _


set_option maxRecDepth 100000 in
set_option maxHeartbeats 4000000 in
theorem parse_pfn (x : Int)
    (l : List UInt8) (r wh pt : List UInt8) (hr : r.length ≤ 9223372036854775807) (hwl : wh.length ≤ r.length) 
    (HP1 : Hid (Lib.hasPrefix l [45] = false)) (HP2 : Hid (Lib.trimPrefix l [45] = r)) (HCV : Hid (cutV r = .tuple #[.string (S wh), .string (S pt), .bool true])) (HW : Hid (digV wh 16 = .tuple #[.int .i64 x, .bool true])) (nine : List UInt8) (hpt : pt.length ≤ 40) (h9 : nine.length ≤ 9) (z y : Int) (HD : Hid (digV pt 40 = .tuple #[.int .i64 z, .bool true])) (hx : (S pt ++ (⟨#[48, 48, 48, 48, 48, 48, 48, 48]⟩ : ByteArray)).extract 0 9 = S nine) (hp1 : 1 ≤ pt.length) (HN : Hid (digV nine 9 = .tuple #[.int .i64 y, .bool true])) (HR : Hid (rightB x (y : Int) = false)) (w : World) :
    Calls Tryd.prog 46 #[.string (S l)] w fun e w' => e = .returned (StV 0 0 6) ∧ Below w.heap.size w w' := by
  go_enter Tryd.func46, Tryd.ntmps46
  go_wp2_with fail
  refine (Go.Proofs.Tryd.strings_CutPrefix _ _ _).mono ?_
  rintro e w1 ⟨rfl, hw1⟩
  subst hw1
  rw [S_data, show (⟨#[45]⟩ : ByteArray).data.toList = [45] from rfl, HP1.out, HP2.out, show (⟨r.toArray⟩ : ByteArray) = S r from rfl]
  go_wp2_with fail
  refine (cut_any r hr _).mono ?_
  rintro e w2 ⟨rfl, n, rfl⟩
  rw [HCV.out]
  go_wp2_with fail
  refine (digits_any (S wh) 16 (by decide) (by rw [S_size]; omega) _).mono ?_
  rintro e w3 ⟨rfl, hw3⟩
  subst hw3
  rw [S_data, HW.out]
  go_wp2_with fail
  refine (digits_any (S pt) 40 (by decide) (by rw [S_size]; omega) _).mono ?_
  rintro e w4 ⟨rfl, hw4⟩
  subst hw4
  rw [S_data, HD.out]
  have hcl : (9 : Int) ≤ (pt.length : Int) + 8 := by omega
  go_wp2_with fail
  refine (digits_any (S nine) 9 (by decide) (by rw [S_size]; omega) _).mono ?_
  rintro e w5 ⟨rfl, hw5⟩
  subst hw5
  rw [S_data, HN.out]
  go_wp2_with fail
  refine (sRight_any x (y : Int) _).mono ?_
  rintro e w7 ⟨rfl, hb7⟩
  rw [HR.out]
  have h7 : Below w.heap.size w w7 := ((belowDrewN ((Below.refl _ _).alloc (Nat.le_refl _) _)).alloc (by simp) _).trans (hb7.mono (by simp; omega))
  obtain ⟨hc7, hf7⟩ := bcell hb7
  have hz7 : w.heap.size + 1 < w7.heap.size := by have := hb7.size; simp at this; omega
  have hz70 : w.heap.size < w7.heap.size := by omega
  have H7 := Lib.hid h7
  have d0 : w7.cell? ⟨w.heap.size, 0, none⟩ = some (.int .i64 0) := by go_simp
  have d1 : w7.cell? ⟨w.heap.size, 1, none⟩ = some (.int .i64 0) := by go_simp
  obtain ⟨f0, f1⟩ := set_two d0 d1 (.int .i64 0) (.int .i64 0)
  have F0 := Lib.hid f0
  have F1 := Lib.hid f1
  clear h7 hb7 f0 f1
  go_wp2_with fail
  refine bodyPost_ret (v := StV 0 0 6) (by simp [results, Tryd.results46, go_sem, Stp, StV, F0.out, F1.out]) rfl ⟨rfl, ?_⟩
  exact (H7.out.setCell (Nat.le_refl _) _).setCell (Nat.le_refl _) _


end Go.Proofs.YtpdknjpicaokkaaDoor
