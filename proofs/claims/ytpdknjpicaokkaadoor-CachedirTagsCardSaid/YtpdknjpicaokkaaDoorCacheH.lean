/- The law CachedirTags: for every input the call returns true. -/
import Derived.Test.YtpdknjpicaokkaaDoorCacheF
namespace Go.Proofs.YtpdknjpicaokkaaDoor
open Go.RowKit

def signL : List UInt8 := [83, 105, 103, 110, 97, 116, 117, 114, 101, 58, 32, 56, 97, 52, 55, 55, 102, 53, 57, 55, 100, 50, 56, 100, 49, 55, 50, 55, 56, 57, 102, 48, 54, 56, 56, 54, 56, 48, 54, 98, 99, 53, 53]
def tagB (l : List (List UInt8)) (kind : UInt8) (p : List UInt8) : Bool := decide (kind = 48) && decide (lastL l = tagL) && Lib.hasPrefix p signL
def tagD (l : List (List UInt8)) (kind : UInt8) (p : List UInt8) : List (List UInt8) := if tagB l kind p = true then l.dropLast else []
theorem pre_take (p s : List UInt8) : Lib.hasPrefix s p = decide (s.take p.length = p) := by
  rw [Bool.eq_iff_iff, decide_eq_true_iff]
  unfold Lib.hasPrefix
  rw [List.isPrefixOf_iff_prefix]
  exact List.prefix_iff_eq_take.trans ⟨fun h => h.symm, fun h => h.symm⟩
theorem parent_eq (l : List (List UInt8)) : parentV l = .tuple #[.string (S (joinL l.dropLast)), .bool (decide (1 < l.length))] := by
  unfold parentV
  by_cases h : l.length < 2
  · rw [if_pos h, decide_eq_false (by omega)]
    cases l with
    | nil => rfl
    | cons a l =>
      have : l = [] := List.eq_nil_of_length_eq_zero (by simp at h; omega)
      subst this
      rfl
  · rw [if_neg h, decide_eq_true (by omega)]
set_option maxRecDepth 100000 in
set_option maxHeartbeats 1000000 in
theorem Tag_any (s p : List UInt8) (kind : UInt8) (hs : s.length ≤ 100000) (w : World) :
    Calls Tryd.prog 27 #[.string (S s), .int .u8 kind.toNat, .string (S p)] w fun e w' => e = .returned (.tuple #[.string (S (joinL (tagD (partsL s) kind p))), .bool (tagB (partsL s) kind p)]) ∧ Below w.heap.size w w' := by
  have HB := Lib.hid (fun w => Base_any s (by omega) w)
  rw [show baseL s = lastL (partsL s) from rfl] at HB
  have hp := fun w => Parent_any s (by omega) w
  rw [parent_eq] at hp
  have HP := Lib.hid hp
  clear hp
  generalize partsL s = l at *
  by_cases hk : kind = 48
  · have hk1 : ((kind.toNat : Int) != 48) = false := by rw [hk]; rfl
    by_cases ht : lastL l = tagL
    · have ht1 : (lastL l == [67, 65, 67, 72, 69, 68, 73, 82, 46, 84, 65, 71]) = true := beq_iff_eq.2 ht
      have ht2 : (lastL l != [67, 65, 67, 72, 69, 68, 73, 82, 46, 84, 65, 71]) = false := by rw [bne, ht1]; rfl
      by_cases hq : Lib.hasPrefix p signL = true
      · have HT := Lib.hid (show tagB l kind p = true by unfold tagB; rw [decide_eq_true hk, decide_eq_true ht, hq]; rfl)
        have HD := Lib.hid (show tagD l kind p = l.dropLast by unfold tagD; rw [if_pos HT.out])
        have HQ := Lib.hid hq
        clear hk ht hq
        go_enter Tryd.func27, Tryd.ntmps27
        go_wp2_with fail
        refine (HB.out _).mono ?_
        rintro e w1 ⟨rfl, rfl⟩
        go_wp2_with fail
        refine (Go.Proofs.Tryd.strings_HasPrefix _ _ _).mono ?_
        rintro e w2 ⟨rfl, hw2⟩
        subst hw2
        rw [S_data, show (⟨#[83, 105, 103, 110, 97, 116, 117, 114, 101, 58, 32, 56, 97, 52, 55, 55, 102, 53, 57, 55, 100, 50, 56, 100, 49, 55, 50, 55, 56, 57, 102, 48, 54, 56, 56, 54, 56, 48, 54, 98, 99, 53, 53]⟩ : ByteArray).data.toList = signL from rfl, HQ.out]
        go_wp2_with fail
        refine (HP.out _).mono ?_
        rintro e w3 ⟨rfl, hb3⟩
        go_wp2_with fail
        go_ret2
        exact ⟨by rw [HD.out, HT.out]; rfl, hb3⟩
      · have hqf : Lib.hasPrefix p signL = false := by simpa using hq
        have HT := Lib.hid (show tagB l kind p = false by unfold tagB; rw [hqf, Bool.and_false])
        have HD := Lib.hid (show tagD l kind p = [] by unfold tagD; rw [HT.out]; rfl)
        have HQ := Lib.hid hqf
        clear hk ht hq hqf
        go_enter Tryd.func27, Tryd.ntmps27
        go_wp2_with fail
        refine (HB.out _).mono ?_
        rintro e w1 ⟨rfl, rfl⟩
        go_wp2_with fail
        refine (Go.Proofs.Tryd.strings_HasPrefix _ _ _).mono ?_
        rintro e w2 ⟨rfl, hw2⟩
        subst hw2
        rw [S_data, show (⟨#[83, 105, 103, 110, 97, 116, 117, 114, 101, 58, 32, 56, 97, 52, 55, 55, 102, 53, 57, 55, 100, 50, 56, 100, 49, 55, 50, 55, 56, 57, 102, 48, 54, 56, 56, 54, 56, 48, 54, 98, 99, 53, 53]⟩ : ByteArray).data.toList = signL from rfl, HQ.out]
        go_wp2_with fail
        go_ret2
        exact ⟨by rw [HD.out, HT.out]; rfl, Below.refl _ _⟩
    · have ht1 : (lastL l == [67, 65, 67, 72, 69, 68, 73, 82, 46, 84, 65, 71]) = false := beq_eq_false_iff_ne.2 ht
      have ht2 : (lastL l != [67, 65, 67, 72, 69, 68, 73, 82, 46, 84, 65, 71]) = true := by rw [bne, ht1]; rfl
      have HT := Lib.hid (show tagB l kind p = false by unfold tagB; rw [decide_eq_false ht, Bool.and_false, Bool.false_and])
      have HD := Lib.hid (show tagD l kind p = [] by unfold tagD; rw [HT.out]; rfl)
      clear hk ht
      go_enter Tryd.func27, Tryd.ntmps27
      go_wp2_with fail
      refine (HB.out _).mono ?_
      rintro e w1 ⟨rfl, rfl⟩
      go_wp2_with fail
      go_ret2
      exact ⟨by rw [HD.out, HT.out]; rfl, Below.refl _ _⟩
  · have hk1 : ((kind.toNat : Int) != 48) = true := by
      rw [bne_iff_ne]
      intro e
      exact hk (UInt8.toNat_inj.1 (by show kind.toNat = 48; omega))
    have HT := Lib.hid (show tagB l kind p = false by unfold tagB; rw [decide_eq_false hk, Bool.false_and, Bool.false_and])
    have HD := Lib.hid (show tagD l kind p = [] by unfold tagD; rw [HT.out]; rfl)
    clear hk
    go_enter Tryd.func27, Tryd.ntmps27
    go_wp2_with fail
    go_ret2
    exact ⟨by rw [HD.out, HT.out]; rfl, Below.refl _ _⟩
theorem kind_ne (kind : UInt8) (hk : kind ≠ 48) : ((kind.toNat : Int) != 48) = true := by
  rw [bne_iff_ne]
  intro e
  exact hk (UInt8.toNat_inj.1 (by show kind.toNat = 48; omega))
set_option maxRecDepth 100000 in
set_option maxHeartbeats 4000000 in
theorem rTag_any (s p : List UInt8) (kind : UInt8) (hs : s.length ≤ 100000) (w : World) :
    Calls Tryd.prog 28 #[.string (S s), .int .u8 kind.toNat, .string (S p)] w fun e w' => (∃ v, e = .returned (.tuple #[v, .bool (tagB (partsL s) kind p)]) ∧ StrsV w' v (tagD (partsL s) kind p)) ∧ Below w.heap.size w w' := by
  have hp := fun w => rParts_any (S s) (by rw [S_size]; omega) w
  rw [S_data] at hp
  have HP := Lib.hid hp
  have hlen := parts_len s
  clear hp
  generalize partsL s = l at *
  by_cases hk : kind = 48
  · have hk1 : ((kind.toNat : Int) != 48) = false := by rw [hk]; rfl
    by_cases h0 : l.length = 0
    · have h00 : ((l.length : Int) == 0) = true := by rw [beq_iff_eq]; omega
      have HT := Lib.hid (show tagB l kind p = false by unfold tagB; rw [List.eq_nil_of_length_eq_zero h0, show decide (lastL [] = tagL) = false from by decide, Bool.and_false, Bool.false_and])
      have HD := Lib.hid (show tagD l kind p = [] by unfold tagD; rw [HT.out]; rfl)
      clear hk
      go_enter Tryd.func28, Tryd.ntmps28
      go_wp2_with fail
      refine (HP.out _).mono ?_
      rintro e w1 ⟨⟨v, rfl, hO⟩, hb1⟩
      obtain ⟨a, c, rfl, _⟩ := hO.strs
      go_wp2_with fail
      go_ret2
      exact ⟨⟨.slice none 0 0, by rw [HT.out]; rfl, by rw [HD.out]; exact (OwnS.nil w1 w1.heap.size).strs⟩, hb1⟩
    have h01 : ((l.length : Int) == 0) = false := by rw [beq_eq_false_iff_ne]; omega
    have HG := Lib.hid (lastL_get l (by omega))
    by_cases ht : lastL l = tagL
    · have ht1 : (lastL l == [67, 65, 67, 72, 69, 68, 73, 82, 46, 84, 65, 71]) = true := beq_iff_eq.2 ht
      have ht2 : (lastL l != [67, 65, 67, 72, 69, 68, 73, 82, 46, 84, 65, 71]) = false := by rw [bne, ht1]; rfl
      by_cases h43 : p.length < 43
      · have HT := Lib.hid (show tagB l kind p = false by unfold tagB; rw [pre_take, decide_eq_false (p := List.take signL.length p = signL) (fun e => by have := congrArg List.length e; rw [List.length_take, show signL.length = 43 from rfl] at this; omega), Bool.and_false])
        have HD := Lib.hid (show tagD l kind p = [] by unfold tagD; rw [HT.out]; rfl)
        clear hk ht
        go_enter Tryd.func28, Tryd.ntmps28
        go_wp2_with fail
        refine (HP.out _).mono ?_
        rintro e w1 ⟨⟨v, rfl, hO⟩, hb1⟩
        have hS := hO.strs
        obtain ⟨_, o2⟩ := id hO
        rcases o2 with ⟨e1, h1⟩ | ⟨g, cap, cur, rfl, _, _, hn, _⟩
        · exfalso; omega
        have hc := (hS.cellOf (l.length - 1) (by omega)).1
        rw [← HG.out, Nat.zero_add] at hc
        have hq2 : ((l.length : Int) - 1).toNat = l.length - 1 := by omega
        generalize lastL l = t at *
        go_wp2_with fail
        go_ret2
        exact ⟨⟨.slice none 0 0, by rw [HT.out]; rfl, by rw [HD.out]; exact (OwnS.nil w1 w1.heap.size).strs⟩, hb1⟩
      have hx : (S p).extract 0 43 = S (p.take 43) := by rw [S_extract, List.drop_zero]
      have h432 : (43 : Int) ≤ (p.length : Int) := by omega
      by_cases hq : p.take 43 = signL
      · have HT := Lib.hid (show tagB l kind p = true by unfold tagB; rw [decide_eq_true hk, decide_eq_true ht, pre_take, decide_eq_true (p := List.take signL.length p = signL) hq]; rfl)
        have HD := Lib.hid (show tagD l kind p = l.take (l.length - 1) by unfold tagD; rw [if_pos HT.out, List.dropLast_eq_take])
        have hq1 : (p.take 43 == [83, 105, 103, 110, 97, 116, 117, 114, 101, 58, 32, 56, 97, 52, 55, 55, 102, 53, 57, 55, 100, 50, 56, 100, 49, 55, 50, 55, 56, 57, 102, 48, 54, 56, 56, 54, 56, 48, 54, 98, 99, 53, 53]) = true := beq_iff_eq.2 hq
        have hq3 : (p.take 43 != [83, 105, 103, 110, 97, 116, 117, 114, 101, 58, 32, 56, 97, 52, 55, 55, 102, 53, 57, 55, 100, 50, 56, 100, 49, 55, 50, 55, 56, 57, 102, 48, 54, 56, 56, 54, 56, 48, 54, 98, 99, 53, 53]) = false := by rw [bne, hq1]; rfl
        clear hk ht hq
        generalize p.take 43 = u at *
        go_enter Tryd.func28, Tryd.ntmps28
        go_wp2_with fail
        refine (HP.out _).mono ?_
        rintro e w1 ⟨⟨v, rfl, hO⟩, hb1⟩
        have hS := hO.strs
        obtain ⟨_, o2⟩ := id hO
        rcases o2 with ⟨e1, h1⟩ | ⟨g, cap, cur, rfl, _, _, hn, _⟩
        · exfalso; omega
        have hc := (hS.cellOf (l.length - 1) (by omega)).1
        rw [← HG.out, Nat.zero_add] at hc
        have hq2 : ((l.length : Int) - 1).toNat = l.length - 1 := by omega
        generalize lastL l = t at *
        have hq5 : (l.length : Int) - 1 ≤ cap := by omega
        go_wp2_with fail
        go_ret2
        exact ⟨⟨.slice (some ⟨g, 0, none⟩) (l.length - 1) cap, by rw [HT.out]; rfl, by rw [HD.out]; exact hS.cut (l.length - 1) (by omega) _⟩, hb1⟩
      · have HT := Lib.hid (show tagB l kind p = false by unfold tagB; rw [pre_take, decide_eq_false (p := List.take signL.length p = signL) hq, Bool.and_false])
        have HD := Lib.hid (show tagD l kind p = [] by unfold tagD; rw [HT.out]; rfl)
        have hq1 : (p.take 43 == [83, 105, 103, 110, 97, 116, 117, 114, 101, 58, 32, 56, 97, 52, 55, 55, 102, 53, 57, 55, 100, 50, 56, 100, 49, 55, 50, 55, 56, 57, 102, 48, 54, 56, 56, 54, 56, 48, 54, 98, 99, 53, 53]) = false := beq_eq_false_iff_ne.2 hq
        have hq3 : (p.take 43 != [83, 105, 103, 110, 97, 116, 117, 114, 101, 58, 32, 56, 97, 52, 55, 55, 102, 53, 57, 55, 100, 50, 56, 100, 49, 55, 50, 55, 56, 57, 102, 48, 54, 56, 56, 54, 56, 48, 54, 98, 99, 53, 53]) = true := by rw [bne, hq1]; rfl
        clear hk ht hq
        generalize p.take 43 = u at *
        go_enter Tryd.func28, Tryd.ntmps28
        go_wp2_with fail
        refine (HP.out _).mono ?_
        rintro e w1 ⟨⟨v, rfl, hO⟩, hb1⟩
        have hS := hO.strs
        obtain ⟨_, o2⟩ := id hO
        rcases o2 with ⟨e1, h1⟩ | ⟨g, cap, cur, rfl, _, _, hn, _⟩
        · exfalso; omega
        have hc := (hS.cellOf (l.length - 1) (by omega)).1
        rw [← HG.out, Nat.zero_add] at hc
        have hq2 : ((l.length : Int) - 1).toNat = l.length - 1 := by omega
        generalize lastL l = t at *
        go_wp2_with fail
        go_ret2
        exact ⟨⟨.slice none 0 0, by rw [HT.out]; rfl, by rw [HD.out]; exact (OwnS.nil w1 w1.heap.size).strs⟩, hb1⟩
    · have ht1 : (lastL l == [67, 65, 67, 72, 69, 68, 73, 82, 46, 84, 65, 71]) = false := beq_eq_false_iff_ne.2 ht
      have ht2 : (lastL l != [67, 65, 67, 72, 69, 68, 73, 82, 46, 84, 65, 71]) = true := by rw [bne, ht1]; rfl
      have HT := Lib.hid (show tagB l kind p = false by unfold tagB; rw [decide_eq_false ht, Bool.and_false, Bool.false_and])
      have HD := Lib.hid (show tagD l kind p = [] by unfold tagD; rw [HT.out]; rfl)
      clear hk ht
      go_enter Tryd.func28, Tryd.ntmps28
      go_wp2_with fail
      refine (HP.out _).mono ?_
      rintro e w1 ⟨⟨v, rfl, hO⟩, hb1⟩
      have hS := hO.strs
      obtain ⟨_, o2⟩ := id hO
      rcases o2 with ⟨e1, h1⟩ | ⟨g, cap, cur, rfl, _, _, hn, _⟩
      · exfalso; omega
      have hc := (hS.cellOf (l.length - 1) (by omega)).1
      rw [← HG.out, Nat.zero_add] at hc
      have hq2 : ((l.length : Int) - 1).toNat = l.length - 1 := by omega
      generalize lastL l = t at *
      go_wp2_with fail
      go_ret2
      exact ⟨⟨.slice none 0 0, by rw [HT.out]; rfl, by rw [HD.out]; exact (OwnS.nil w1 w1.heap.size).strs⟩, hb1⟩
  · have hk1 := kind_ne kind hk
    have HT := Lib.hid (show tagB l kind p = false by unfold tagB; rw [decide_eq_false hk, Bool.false_and, Bool.false_and])
    have HD := Lib.hid (show tagD l kind p = [] by unfold tagD; rw [HT.out]; rfl)
    clear hk
    go_enter Tryd.func28, Tryd.ntmps28
    go_wp2_with fail
    refine (HP.out _).mono ?_
    rintro e w1 ⟨⟨v, rfl, hO⟩, hb1⟩
    obtain ⟨a, c, rfl, _⟩ := hO.strs
    go_wp2_with fail
    go_ret2
    exact ⟨⟨.slice none 0 0, by rw [HT.out]; rfl, by rw [HD.out]; exact (OwnS.nil w1 w1.heap.size).strs⟩, hb1⟩
set_option maxRecDepth 100000 in
set_option maxHeartbeats 4000000 in
theorem lawTags (s : ByteArray) (kind : UInt8) (p : ByteArray) (w : World) :
    Calls Tryd.prog 5 #[.string s, .int .u8 kind.toNat, .string p] w fun e w' => e = .returned (.bool true) ∧ Below w.heap.size w w' := by
  have hby := kind.toNat_lt
  by_cases hno : 300 < s.size ∨ 300 < p.size
  · have hcase : decide (300 < s.size) = true ∨ (decide (300 < s.size) = false ∧ 300 < p.size) := by
      by_cases h1 : 300 < s.size
      · exact .inl (decide_eq_true h1)
      · exact .inr ⟨decide_eq_false h1, by omega⟩
    clear hno
    rcases hcase with h1 | ⟨h1, h2⟩
    all_goals
      simp only [decide_eq_true_eq, decide_eq_false_iff_not] at h1
      go_enter Tryd.func5, Tryd.ntmps5
      go_wp2_with fail
      refine (awake_any28 _).mono ?_
      rintro e w2 ⟨rfl, hb⟩
      go_wp2_with fail
      go_ret
      exact ⟨rfl, hb⟩
  obtain ⟨x, rfl⟩ : ∃ x : List UInt8, s = S x := ⟨s.data.toList, S_eta s⟩
  obtain ⟨y, rfl⟩ : ∃ x : List UInt8, p = S x := ⟨p.data.toList, S_eta p⟩
  rw [S_size, S_size] at hno
  have hx : ¬ 300 < x.length := by omega
  have hy : ¬ 300 < y.length := by omega
  have H1 := Lib.hid (fun w => Tag_any x y kind (by omega) w)
  have H2 := Lib.hid (fun w => rTag_any x y kind (by omega) w)
  have hd : (tagD (partsL x) kind y).length ≤ 301 := by
    have := parts_len x
    unfold tagD
    split
    · rw [List.length_dropLast]; omega
    · simp
  have hm : ∀ q ∈ tagD (partsL x) kind y, q.length ≤ 1000000 := by
    intro q hq
    unfold tagD at hq
    split at hq
    · exact Nat.le_trans (parts_each x q ((List.dropLast_sublist _).subset hq)) (by omega)
    · cases hq
  have H3 := Lib.hid (fun w v hv => rJoin_any (tagD (partsL x) kind y) v (by omega) hm w hv)
  clear hno hm
  generalize tagD (partsL x) kind y = d at *
  generalize tagB (partsL x) kind y = b at *
  generalize joinL d = j at *
  go_enter Tryd.func5, Tryd.ntmps5
  go_wp2_with fail
  refine (H1.out _).mono ?_
  rintro e w1 ⟨rfl, hb1⟩
  go_wp2_with fail
  refine (H2.out _).mono ?_
  rintro e w2 ⟨⟨v, rfl, hS⟩, hb2⟩
  have hB2 := chainB hb1 hb2
  go_wp2_with fail
  refine (H3.out _ _ hS).mono ?_
  rintro e w3 ⟨rfl, hw3⟩
  subst hw3
  go_wp2_with fail
  refine (awake_any28 _).mono ?_
  rintro e w4 ⟨rfl, hb4⟩
  have hB4 := chainB hB2 hb4
  go_wp2_with fail
  go_ret
  exact ⟨rfl, hB4⟩
end Go.Proofs.YtpdknjpicaokkaaDoor
