import Derived.Test.YtphfcebacilbbaaDoorClassG
namespace Go.Proofs.YtphfcebacilbbaaDoor
open Go.RowKit

theorem bt_any (a b : Int) (w : World) (h : (0 ≤ a ∧ a ≤ 255) ∧ (0 ≤ b ∧ b ≤ 255)) :
    Calls Tryd.prog 50 #[.int .i64 a, .int .i64 b] w fun e w' => e = .returned (.string (S (bytesP (rangeP a b)))) ∧ Below w.heap.size w w' := between_any a b w h.1.1 h.1.2 h.2.1 h.2.2
theorem bl (p : Nat → Bool) : (bytesP p).length ≤ 256 := bytesTo_len p 256
theorem rn_alpha : bytesP upperP ++ bytesP lowerP = bytesP (orP upperP lowerP) := by decide +kernel
theorem rn_digit : bytesP digitP = bytesP (digitP) := by decide +kernel
theorem rn_alnum : bytesP digitP ++ bytesP upperP ++ bytesP lowerP = bytesP (alnumP) := by decide +kernel
theorem rn_upper : bytesP upperP = bytesP (upperP) := by decide +kernel
theorem rn_lower : bytesP lowerP = bytesP (lowerP) := by decide +kernel
theorem rn_xdigit : [48, 49, 50, 51, 52, 53, 54, 55, 56, 57, 65, 66, 67, 68, 69, 70, 97, 98, 99, 100, 101, 102] = bytesP (orP (orP digitP (rangeP 65 70)) (rangeP 97 102)) := by decide +kernel
theorem rn_blank : [9, 32] = bytesP (ofP [32, 9]) := by decide +kernel
theorem rn_space : [9, 10, 11, 12, 13, 32] = bytesP (orP (rangeP 9 13) (ofP [32])) := by decide +kernel
theorem rn_cntrl : bytesP (rangeP 0 31) ++ [127] = bytesP (orP (rangeP 0 31) (ofP [127])) := by decide +kernel
theorem rn_graph : bytesP (rangeP 33 126) = bytesP (rangeP 33 126) := by decide +kernel
theorem rn_print : bytesP (rangeP 32 126) = bytesP (rangeP 32 126) := by decide +kernel
theorem rn_punct : withoutL (bytesP (rangeP 33 126)) (bytesP digitP ++ bytesP upperP ++ bytesP lowerP) = bytesP (andP (rangeP 33 126) (notP alnumP)) := by decide +kernel

set_option maxRecDepth 100000 in
set_option maxHeartbeats 4000000 in
theorem rnamed_any (s : ByteArray) (w : World) :
    Calls Tryd.prog 48 #[.string s] w fun e w' => e = .returned (.tuple #[.string (S (bytesP (namedP s.toList).1)), .bool (namedP s.toList).2]) ∧ Below w.heap.size w w' := by
  have k1 := bl (rangeP 65 90)
  have k2 := bl (rangeP 97 122)
  have k3 := bl (rangeP 48 57)
  by_cases n1 : s.toList = [97, 108, 112, 104, 97]
  · have Hp := Lib.hid (named_alpha _ n1)
    go_enter Tryd.func48, Tryd.ntmps48
    have hx0 : Below w.heap.size w w := Below.refl _ _
    go_wp2_with fail
    refine (bt_any 65 90 _ (by decide)).mono ?_
    rintro e w1 ⟨rfl, hb1⟩
    have hx1 := hx0.trans (hb1.mono hx0.size)
    go_wp2_with fail
    refine (bt_any 97 122 _ (by decide)).mono ?_
    rintro e w2 ⟨rfl, hb2⟩
    have hx2 := hx1.trans (hb2.mono hx1.size)
    go_wp2_with fail
    refine (bt_any 48 57 _ (by decide)).mono ?_
    rintro e w3 ⟨rfl, hb3⟩
    have hx3 := hx2.trans (hb3.mono hx2.size)
    go_wp2_with fail
    go_ret2
    refine ⟨?_, hx3⟩
    rw [Hp.out, ← rn_alpha]
    exact congrArg (fun x => Ending.returned (.tuple #[.string x, .bool true])) (by simp only [S_append])
  by_cases n2 : s.toList = [100, 105, 103, 105, 116]
  · have Hp := Lib.hid (named_digit _ n1 n2)
    go_enter Tryd.func48, Tryd.ntmps48
    have hx0 : Below w.heap.size w w := Below.refl _ _
    go_wp2_with fail
    refine (bt_any 65 90 _ (by decide)).mono ?_
    rintro e w1 ⟨rfl, hb1⟩
    have hx1 := hx0.trans (hb1.mono hx0.size)
    go_wp2_with fail
    refine (bt_any 97 122 _ (by decide)).mono ?_
    rintro e w2 ⟨rfl, hb2⟩
    have hx2 := hx1.trans (hb2.mono hx1.size)
    go_wp2_with fail
    refine (bt_any 48 57 _ (by decide)).mono ?_
    rintro e w3 ⟨rfl, hb3⟩
    have hx3 := hx2.trans (hb3.mono hx2.size)
    go_wp2_with fail
    go_ret2
    refine ⟨?_, hx3⟩
    rw [Hp.out, ← rn_digit]
    rfl
  by_cases n3 : s.toList = [97, 108, 110, 117, 109]
  · have Hp := Lib.hid (named_alnum _ n1 n2 n3)
    go_enter Tryd.func48, Tryd.ntmps48
    have hx0 : Below w.heap.size w w := Below.refl _ _
    go_wp2_with fail
    refine (bt_any 65 90 _ (by decide)).mono ?_
    rintro e w1 ⟨rfl, hb1⟩
    have hx1 := hx0.trans (hb1.mono hx0.size)
    go_wp2_with fail
    refine (bt_any 97 122 _ (by decide)).mono ?_
    rintro e w2 ⟨rfl, hb2⟩
    have hx2 := hx1.trans (hb2.mono hx1.size)
    go_wp2_with fail
    refine (bt_any 48 57 _ (by decide)).mono ?_
    rintro e w3 ⟨rfl, hb3⟩
    have hx3 := hx2.trans (hb3.mono hx2.size)
    go_wp2_with fail
    go_ret2
    refine ⟨?_, hx3⟩
    rw [Hp.out, ← rn_alnum]
    exact congrArg (fun x => Ending.returned (.tuple #[.string x, .bool true])) (by simp only [S_append])
  by_cases n4 : s.toList = [117, 112, 112, 101, 114]
  · have Hp := Lib.hid (named_upper _ n1 n2 n3 n4)
    go_enter Tryd.func48, Tryd.ntmps48
    have hx0 : Below w.heap.size w w := Below.refl _ _
    go_wp2_with fail
    refine (bt_any 65 90 _ (by decide)).mono ?_
    rintro e w1 ⟨rfl, hb1⟩
    have hx1 := hx0.trans (hb1.mono hx0.size)
    go_wp2_with fail
    refine (bt_any 97 122 _ (by decide)).mono ?_
    rintro e w2 ⟨rfl, hb2⟩
    have hx2 := hx1.trans (hb2.mono hx1.size)
    go_wp2_with fail
    refine (bt_any 48 57 _ (by decide)).mono ?_
    rintro e w3 ⟨rfl, hb3⟩
    have hx3 := hx2.trans (hb3.mono hx2.size)
    go_wp2_with fail
    go_ret2
    refine ⟨?_, hx3⟩
    rw [Hp.out, ← rn_upper]
    rfl
  by_cases n5 : s.toList = [108, 111, 119, 101, 114]
  · have Hp := Lib.hid (named_lower _ n1 n2 n3 n4 n5)
    go_enter Tryd.func48, Tryd.ntmps48
    have hx0 : Below w.heap.size w w := Below.refl _ _
    go_wp2_with fail
    refine (bt_any 65 90 _ (by decide)).mono ?_
    rintro e w1 ⟨rfl, hb1⟩
    have hx1 := hx0.trans (hb1.mono hx0.size)
    go_wp2_with fail
    refine (bt_any 97 122 _ (by decide)).mono ?_
    rintro e w2 ⟨rfl, hb2⟩
    have hx2 := hx1.trans (hb2.mono hx1.size)
    go_wp2_with fail
    refine (bt_any 48 57 _ (by decide)).mono ?_
    rintro e w3 ⟨rfl, hb3⟩
    have hx3 := hx2.trans (hb3.mono hx2.size)
    go_wp2_with fail
    go_ret2
    refine ⟨?_, hx3⟩
    rw [Hp.out, ← rn_lower]
    rfl
  by_cases n6 : s.toList = [120, 100, 105, 103, 105, 116]
  · have Hp := Lib.hid (named_xdigit _ n1 n2 n3 n4 n5 n6)
    go_enter Tryd.func48, Tryd.ntmps48
    have hx0 : Below w.heap.size w w := Below.refl _ _
    go_wp2_with fail
    refine (bt_any 65 90 _ (by decide)).mono ?_
    rintro e w1 ⟨rfl, hb1⟩
    have hx1 := hx0.trans (hb1.mono hx0.size)
    go_wp2_with fail
    refine (bt_any 97 122 _ (by decide)).mono ?_
    rintro e w2 ⟨rfl, hb2⟩
    have hx2 := hx1.trans (hb2.mono hx1.size)
    go_wp2_with fail
    refine (bt_any 48 57 _ (by decide)).mono ?_
    rintro e w3 ⟨rfl, hb3⟩
    have hx3 := hx2.trans (hb3.mono hx2.size)
    go_wp2_with fail
    go_ret2
    refine ⟨?_, hx3⟩
    rw [Hp.out, ← rn_xdigit]
    rfl
  by_cases n7 : s.toList = [98, 108, 97, 110, 107]
  · have Hp := Lib.hid (named_blank _ n1 n2 n3 n4 n5 n6 n7)
    go_enter Tryd.func48, Tryd.ntmps48
    have hx0 : Below w.heap.size w w := Below.refl _ _
    go_wp2_with fail
    refine (bt_any 65 90 _ (by decide)).mono ?_
    rintro e w1 ⟨rfl, hb1⟩
    have hx1 := hx0.trans (hb1.mono hx0.size)
    go_wp2_with fail
    refine (bt_any 97 122 _ (by decide)).mono ?_
    rintro e w2 ⟨rfl, hb2⟩
    have hx2 := hx1.trans (hb2.mono hx1.size)
    go_wp2_with fail
    refine (bt_any 48 57 _ (by decide)).mono ?_
    rintro e w3 ⟨rfl, hb3⟩
    have hx3 := hx2.trans (hb3.mono hx2.size)
    go_wp2_with fail
    go_ret2
    refine ⟨?_, hx3⟩
    rw [Hp.out, ← rn_blank]
    rfl
  by_cases n8 : s.toList = [115, 112, 97, 99, 101]
  · have Hp := Lib.hid (named_space _ n1 n2 n3 n4 n5 n6 n7 n8)
    go_enter Tryd.func48, Tryd.ntmps48
    have hx0 : Below w.heap.size w w := Below.refl _ _
    go_wp2_with fail
    refine (bt_any 65 90 _ (by decide)).mono ?_
    rintro e w1 ⟨rfl, hb1⟩
    have hx1 := hx0.trans (hb1.mono hx0.size)
    go_wp2_with fail
    refine (bt_any 97 122 _ (by decide)).mono ?_
    rintro e w2 ⟨rfl, hb2⟩
    have hx2 := hx1.trans (hb2.mono hx1.size)
    go_wp2_with fail
    refine (bt_any 48 57 _ (by decide)).mono ?_
    rintro e w3 ⟨rfl, hb3⟩
    have hx3 := hx2.trans (hb3.mono hx2.size)
    go_wp2_with fail
    go_ret2
    refine ⟨?_, hx3⟩
    rw [Hp.out, ← rn_space]
    rfl
  by_cases n9 : s.toList = [99, 110, 116, 114, 108]
  · have Hp := Lib.hid (named_cntrl _ n1 n2 n3 n4 n5 n6 n7 n8 n9)
    go_enter Tryd.func48, Tryd.ntmps48
    have hx0 : Below w.heap.size w w := Below.refl _ _
    go_wp2_with fail
    refine (bt_any 65 90 _ (by decide)).mono ?_
    rintro e w1 ⟨rfl, hb1⟩
    have hx1 := hx0.trans (hb1.mono hx0.size)
    go_wp2_with fail
    refine (bt_any 97 122 _ (by decide)).mono ?_
    rintro e w2 ⟨rfl, hb2⟩
    have hx2 := hx1.trans (hb2.mono hx1.size)
    go_wp2_with fail
    refine (bt_any 48 57 _ (by decide)).mono ?_
    rintro e w3 ⟨rfl, hb3⟩
    have hx3 := hx2.trans (hb3.mono hx2.size)
    go_wp2_with fail
    refine (bt_any 0 31 _ (by decide)).mono ?_
    rintro e w4 ⟨rfl, hb4⟩
    have hx4 := hx3.trans (hb4.mono hx3.size)
    have k4 := bl (rangeP 0 31)
    go_wp2_with fail
    go_ret2
    refine ⟨?_, hx4⟩
    rw [Hp.out, ← rn_cntrl]
    exact congrArg (fun x => Ending.returned (.tuple #[.string x, .bool true])) (by exact S_append _ [127])
  by_cases n10 : s.toList = [103, 114, 97, 112, 104]
  · have Hp := Lib.hid (named_graph _ n1 n2 n3 n4 n5 n6 n7 n8 n9 n10)
    go_enter Tryd.func48, Tryd.ntmps48
    have hx0 : Below w.heap.size w w := Below.refl _ _
    go_wp2_with fail
    refine (bt_any 65 90 _ (by decide)).mono ?_
    rintro e w1 ⟨rfl, hb1⟩
    have hx1 := hx0.trans (hb1.mono hx0.size)
    go_wp2_with fail
    refine (bt_any 97 122 _ (by decide)).mono ?_
    rintro e w2 ⟨rfl, hb2⟩
    have hx2 := hx1.trans (hb2.mono hx1.size)
    go_wp2_with fail
    refine (bt_any 48 57 _ (by decide)).mono ?_
    rintro e w3 ⟨rfl, hb3⟩
    have hx3 := hx2.trans (hb3.mono hx2.size)
    go_wp2_with fail
    refine (bt_any 33 126 _ (by decide)).mono ?_
    rintro e w4 ⟨rfl, hb4⟩
    have hx4 := hx3.trans (hb4.mono hx3.size)
    go_wp2_with fail
    go_ret2
    refine ⟨?_, hx4⟩
    rw [Hp.out, ← rn_graph]
    rfl
  by_cases n11 : s.toList = [112, 114, 105, 110, 116]
  · have Hp := Lib.hid (named_print _ n1 n2 n3 n4 n5 n6 n7 n8 n9 n10 n11)
    go_enter Tryd.func48, Tryd.ntmps48
    have hx0 : Below w.heap.size w w := Below.refl _ _
    go_wp2_with fail
    refine (bt_any 65 90 _ (by decide)).mono ?_
    rintro e w1 ⟨rfl, hb1⟩
    have hx1 := hx0.trans (hb1.mono hx0.size)
    go_wp2_with fail
    refine (bt_any 97 122 _ (by decide)).mono ?_
    rintro e w2 ⟨rfl, hb2⟩
    have hx2 := hx1.trans (hb2.mono hx1.size)
    go_wp2_with fail
    refine (bt_any 48 57 _ (by decide)).mono ?_
    rintro e w3 ⟨rfl, hb3⟩
    have hx3 := hx2.trans (hb3.mono hx2.size)
    go_wp2_with fail
    refine (bt_any 32 126 _ (by decide)).mono ?_
    rintro e w4 ⟨rfl, hb4⟩
    have hx4 := hx3.trans (hb4.mono hx3.size)
    go_wp2_with fail
    go_ret2
    refine ⟨?_, hx4⟩
    rw [Hp.out, ← rn_print]
    rfl
  by_cases n12 : s.toList = [112, 117, 110, 99, 116]
  · have Hp := Lib.hid (named_punct _ n1 n2 n3 n4 n5 n6 n7 n8 n9 n10 n11 n12)
    go_enter Tryd.func48, Tryd.ntmps48
    have hx0 : Below w.heap.size w w := Below.refl _ _
    go_wp2_with fail
    refine (bt_any 65 90 _ (by decide)).mono ?_
    rintro e w1 ⟨rfl, hb1⟩
    have hx1 := hx0.trans (hb1.mono hx0.size)
    go_wp2_with fail
    refine (bt_any 97 122 _ (by decide)).mono ?_
    rintro e w2 ⟨rfl, hb2⟩
    have hx2 := hx1.trans (hb2.mono hx1.size)
    go_wp2_with fail
    refine (bt_any 48 57 _ (by decide)).mono ?_
    rintro e w3 ⟨rfl, hb3⟩
    have hx3 := hx2.trans (hb3.mono hx2.size)
    go_wp2_with fail
    refine (bt_any 33 126 _ (by decide)).mono ?_
    rintro e w4 ⟨rfl, hb4⟩
    have hx4 := hx3.trans (hb4.mono hx3.size)
    have k4 := bl (rangeP 33 126)
    go_wp2_with fail
    refine (without_any _ _ _ (by simp; omega) (by simp; omega)).mono ?_
    rintro e w5 ⟨rfl, hb5⟩
    have hx5 := hx4.trans (hb5.mono hx4.size)
    go_wp2_with fail
    go_ret2
    refine ⟨?_, hx5⟩
    rw [Hp.out, ← rn_punct]
    exact congrArg (fun x => Ending.returned (.tuple #[.string x, .bool true])) (by simp only [List.append_assoc])
  have Hp := Lib.hid (named_none _ n1 n2 n3 n4 n5 n6 n7 n8 n9 n10 n11 n12)
  have b1 : (s.toList == [97, 108, 112, 104, 97]) = false := by simpa using n1
  have b2 : (s.toList == [100, 105, 103, 105, 116]) = false := by simpa using n2
  have b3 : (s.toList == [97, 108, 110, 117, 109]) = false := by simpa using n3
  have b4 : (s.toList == [117, 112, 112, 101, 114]) = false := by simpa using n4
  have b5 : (s.toList == [108, 111, 119, 101, 114]) = false := by simpa using n5
  have b6 : (s.toList == [120, 100, 105, 103, 105, 116]) = false := by simpa using n6
  have b7 : (s.toList == [98, 108, 97, 110, 107]) = false := by simpa using n7
  have b8 : (s.toList == [115, 112, 97, 99, 101]) = false := by simpa using n8
  have b9 : (s.toList == [99, 110, 116, 114, 108]) = false := by simpa using n9
  have b10 : (s.toList == [103, 114, 97, 112, 104]) = false := by simpa using n10
  have b11 : (s.toList == [112, 114, 105, 110, 116]) = false := by simpa using n11
  have b12 : (s.toList == [112, 117, 110, 99, 116]) = false := by simpa using n12
  clear n1 n2 n3 n4 n5 n6 n7 n8 n9 n10 n11 n12
  go_enter Tryd.func48, Tryd.ntmps48
  have hx0 : Below w.heap.size w w := Below.refl _ _
  go_wp2_with fail
  refine (bt_any 65 90 _ (by decide)).mono ?_
  rintro e w1 ⟨rfl, hb1⟩
  have hx1 := hx0.trans (hb1.mono hx0.size)
  go_wp2_with fail
  refine (bt_any 97 122 _ (by decide)).mono ?_
  rintro e w2 ⟨rfl, hb2⟩
  have hx2 := hx1.trans (hb2.mono hx1.size)
  go_wp2_with fail
  refine (bt_any 48 57 _ (by decide)).mono ?_
  rintro e w3 ⟨rfl, hb3⟩
  have hx3 := hx2.trans (hb3.mono hx2.size)
  go_wp2_with fail
  go_ret2
  exact ⟨by rw [Hp.out]; rfl, hx3⟩
end Go.Proofs.YtphfcebacilbbaaDoor
