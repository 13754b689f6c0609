/- vcs.Backup, the chapter's examples; the law VcsBelow. -/
import Derived.Test.YtjaiadfpdkjkpaaDoorVcsA
namespace Go.Proofs.YtjaiadfpdkjkpaaDoor
open Go.RowKit

def backB (b : List UInt8) : Bool := Lib.hasPrefix b [46, 35] || Lib.hasSuffix b [126] || (decide (1 < b.length) && Lib.hasPrefix b [35] && Lib.hasSuffix b [35])
theorem base_len (s : List UInt8) : (lastL (partsL s)).length ≤ s.length := by
  obtain ⟨k, _, _, h⟩ := lastIdx_of (trimR s) _ rfl (trimR_last s)
  rw [← parts_trim] at h
  rw [h, List.length_drop]
  have := trimR_len s
  omega
set_option maxRecDepth 100000 in
set_option maxHeartbeats 4000000 in
theorem Backup_any (s : List UInt8) (hs : s.length ≤ 100000) (w : World) : Calls Tryd.prog 22 #[.string (S s)] w fun e w' => e = .returned (.bool (backB (lastL (partsL s)))) ∧ w' = w := by
  have HB := Lib.hid (fun w => Base_any s (by omega) w)
  rw [show baseL s = lastL (partsL s) from rfl] at HB
  have hbl := base_len s
  generalize lastL (partsL s) = b at *
  have hb9 : (S b).size ≤ 9223372036854775807 := by rw [S_size]; omega
  have hbk : backB b = (Lib.hasPrefix b [46, 35] || Lib.hasSuffix b [126] || (decide (1 < b.length) && Lib.hasPrefix b [35] && Lib.hasSuffix b [35])) := rfl
  have q1 := fun w => Go.Proofs.Tryd.strings_HasPrefix (S b) ⟨#[46, 35]⟩ w
  have q2 := fun w => Go.Proofs.Tryd.strings_HasSuffix (S b) ⟨#[126]⟩ w hb9
  have q3 := fun w => Go.Proofs.Tryd.strings_HasPrefix (S b) ⟨#[35]⟩ w
  have q4 := fun w => Go.Proofs.Tryd.strings_HasSuffix (S b) ⟨#[35]⟩ w hb9
  rw [S_data] at q1 q2 q3 q4
  rw [show (⟨#[46, 35]⟩ : ByteArray).data.toList = [46, 35] from rfl] at q1
  rw [show (⟨#[126]⟩ : ByteArray).data.toList = [126] from rfl] at q2
  rw [show (⟨#[35]⟩ : ByteArray).data.toList = [35] from rfl] at q3 q4
  generalize Lib.hasPrefix b [46, 35] = p1 at *
  generalize Lib.hasSuffix b [126] = p2 at *
  generalize Lib.hasPrefix b [35] = p3 at *
  generalize Lib.hasSuffix b [35] = p4 at *
  have Q1 := Lib.hid q1
  have Q2 := Lib.hid q2
  have Q3 := Lib.hid q3
  have Q4 := Lib.hid q4
  have HK := Lib.hid hbk
  clear q1 q2 q3 q4 hbk
  clear hb9
  cases p1 with
  | true =>
    go_enter Tryd.func22, Tryd.ntmps22
    go_wp2_with fail
    refine (HB.out _).mono ?_
    rintro e w1 ⟨rfl, hw1⟩
    subst hw1
    go_wp2_with fail
    refine (Q1.out _).mono ?_
    rintro e w2 ⟨rfl, hw2⟩
    subst hw2
    go_wp2_with fail
    go_ret
    exact ⟨by rw [HK.out]; rfl, rfl⟩
  | false =>
    cases p2 with
    | true =>
      go_enter Tryd.func22, Tryd.ntmps22
      go_wp2_with fail
      refine (HB.out _).mono ?_
      rintro e w1 ⟨rfl, hw1⟩
      subst hw1
      go_wp2_with fail
      refine (Q1.out _).mono ?_
      rintro e w2 ⟨rfl, hw2⟩
      subst hw2
      go_wp2_with fail
      refine (Q2.out _).mono ?_
      rintro e w2 ⟨rfl, hw2⟩
      subst hw2
      go_wp2_with fail
      go_ret
      exact ⟨by rw [HK.out]; rfl, rfl⟩
    | false =>
      by_cases hl : 1 < b.length
      · have HL := Lib.hid (show decide (1 < b.length) = true from decide_eq_true hl)
        cases p3 with
        | true =>
          go_enter Tryd.func22, Tryd.ntmps22
          go_wp2_with fail
          refine (HB.out _).mono ?_
          rintro e w1 ⟨rfl, hw1⟩
          subst hw1
          go_wp2_with fail
          refine (Q1.out _).mono ?_
          rintro e w2 ⟨rfl, hw2⟩
          subst hw2
          go_wp2_with fail
          refine (Q2.out _).mono ?_
          rintro e w2 ⟨rfl, hw2⟩
          subst hw2
          go_wp2_with fail
          refine (Q3.out _).mono ?_
          rintro e w2 ⟨rfl, hw2⟩
          subst hw2
          go_wp2_with fail
          refine (Q4.out _).mono ?_
          rintro e w2 ⟨rfl, hw2⟩
          subst hw2
          go_wp2_with fail
          go_ret
          exact ⟨by rw [HK.out, HL.out]; rfl, rfl⟩
        | false =>
          go_enter Tryd.func22, Tryd.ntmps22
          go_wp2_with fail
          refine (HB.out _).mono ?_
          rintro e w1 ⟨rfl, hw1⟩
          subst hw1
          go_wp2_with fail
          refine (Q1.out _).mono ?_
          rintro e w2 ⟨rfl, hw2⟩
          subst hw2
          go_wp2_with fail
          refine (Q2.out _).mono ?_
          rintro e w2 ⟨rfl, hw2⟩
          subst hw2
          go_wp2_with fail
          refine (Q3.out _).mono ?_
          rintro e w2 ⟨rfl, hw2⟩
          subst hw2
          go_wp2_with fail
          go_ret
          exact ⟨by rw [HK.out, HL.out]; rfl, rfl⟩
      · have HL := Lib.hid (show decide (1 < b.length) = false from decide_eq_false hl)
        have hl2 : decide ((1 : Int) < (b.length : Int)) = false := decide_eq_false (by omega)
        go_enter Tryd.func22, Tryd.ntmps22
        go_wp2_with fail
        refine (HB.out _).mono ?_
        rintro e w1 ⟨rfl, hw1⟩
        subst hw1
        go_wp2_with fail
        refine (Q1.out _).mono ?_
        rintro e w2 ⟨rfl, hw2⟩
        subst hw2
        go_wp2_with fail
        refine (Q2.out _).mono ?_
        rintro e w2 ⟨rfl, hw2⟩
        subst hw2
        go_wp2_with fail
        go_ret
        exact ⟨by rw [HK.out, HL.out]; rfl, rfl⟩

set_option maxRecDepth 100000 in
theorem awake_any27 (w : World) : Calls Tryd.prog 17 #[] w fun e w' => e = .returned (.bool true) ∧ Below w.heap.size w w' := by
  have e1 : matV (partsL [97, 47, 46, 103, 105, 116, 47, 120]) = .tuple #[.string ⟨#[46, 103, 105, 116]⟩, .bool true] := by
    unfold matV
    rw [show findL (partsL [97, 47, 46, 103, 105, 116, 47, 120]) = some [46, 103, 105, 116] by decide +kernel]
    rfl
  have e2 : matV (partsL [97, 47, 46, 103, 105, 116, 104, 117, 98]) = .tuple #[.string ⟨#[]⟩, .bool false] := by
    unfold matV
    rw [show findL (partsL [97, 47, 46, 103, 105, 116, 104, 117, 98]) = none by decide +kernel]
    rfl
  have e3 : backB (lastL (partsL [97, 47, 98, 126])) = true := by decide +kernel
  have h1 := fun w => Match_any [97, 47, 46, 103, 105, 116, 47, 120] (by decide) w
  have h2 := fun w => Match_any [97, 47, 46, 103, 105, 116, 104, 117, 98] (by decide) w
  have h3 := fun w => Backup_any [97, 47, 98, 126] (by decide) w
  rw [e1] at h1
  rw [e2] at h2
  rw [e3] at h3
  have H1 := Lib.hid h1
  have H2 := Lib.hid h2
  have H3 := Lib.hid h3
  clear h1 h2 h3 e1 e2 e3
  go_enter Tryd.func17, Tryd.ntmps17
  go_wp2_with fail
  refine (H1.out _).mono ?_
  rintro e w1 ⟨rfl, hb1⟩
  go_wp2_with fail
  refine (H2.out _).mono ?_
  rintro e w2 ⟨rfl, hb2⟩
  have hB2 := chainB hb1 hb2
  go_wp2_with fail
  refine (H3.out _).mono ?_
  rintro e w3 ⟨rfl, hw3⟩
  subst hw3
  go_wp2_with fail
  go_ret
  exact ⟨rfl, hB2⟩
theorem below_join (x y : List UInt8) : S x ++ (⟨#[47]⟩ : ByteArray) ++ S y = S (x ++ 47 :: y) := by
  rw [show (⟨#[47]⟩ : ByteArray) = S [47] from rfl, S_append, S_append]
  simp
set_option maxRecDepth 100000 in
set_option maxHeartbeats 4000000 in
theorem lawBelow (s t : ByteArray) (w : World) :
    Calls Tryd.prog 6 #[.string s, .string t] w fun e w' => e = .returned (.bool true) ∧ Below w.heap.size w w' := by
  by_cases hno : 300 < s.size ∨ 300 < t.size
  · have hcase : decide (300 < s.size) = true ∨ (decide (300 < s.size) = false ∧ 300 < t.size) := by
      by_cases h1 : 300 < s.size
      · exact .inl (decide_eq_true h1)
      · exact .inr ⟨decide_eq_false h1, by omega⟩
    clear hno
    rcases hcase with h1 | ⟨h1, h2⟩
    all_goals
      simp only [decide_eq_true_eq, decide_eq_false_iff_not] at h1
      go_enter Tryd.func6, Tryd.ntmps6
      go_wp2_with fail
      refine (awake_any27 _).mono ?_
      rintro e w2 ⟨rfl, hb⟩
      go_wp2_with fail
      go_ret
      exact ⟨rfl, hb⟩
  obtain ⟨x, rfl⟩ : ∃ x : List UInt8, s = S x := ⟨s.data.toList, S_eta s⟩
  obtain ⟨y, rfl⟩ : ∃ x : List UInt8, t = S x := ⟨t.data.toList, S_eta t⟩
  rw [S_size, S_size] at hno
  have hx : ¬ 300 < x.length := by omega
  have hy : ¬ 300 < y.length := by omega
  have h1 := fun w => Match_any x (by omega) w
  have h2 := fun w => Match_any (x ++ 47 :: y) (by simp; omega) w
  rw [parts_app] at h2
  have HJ := Lib.hid (below_join x y)
  cases hf : findL (partsL x) with
  | none =>
    rw [show matV (partsL x) = .tuple #[.string (S []), .bool false] by unfold matV; rw [hf]] at h1
    have H1 := Lib.hid h1
    clear h1 h2 hno hf
    go_enter Tryd.func6, Tryd.ntmps6
    go_wp2_with fail
    refine (H1.out _).mono ?_
    rintro e w1 ⟨rfl, hb1⟩
    go_wp2_with fail
    refine (awake_any27 _).mono ?_
    rintro e w2 ⟨rfl, hb2⟩
    have hB2 := chainB hb1 hb2
    go_wp2_with fail
    go_ret
    exact ⟨rfl, hB2⟩
  | some q =>
    have hf2 : findL (partsL x ++ partsL y) = some q := by
      unfold findL at hf ⊢
      rw [List.find?_append, hf]
      rfl
    rw [show matV (partsL x) = .tuple #[.string (S q), .bool true] by unfold matV; rw [hf]] at h1
    rw [show matV (partsL x ++ partsL y) = .tuple #[.string (S q), .bool true] by unfold matV; rw [hf2]] at h2
    have H1 := Lib.hid h1
    have H2 := Lib.hid h2
    have hxy : (S x).size + 1 + (S y).size ≤ 1000 := by rw [S_size, S_size]; omega
    clear h1 h2 hno hf hf2
    go_enter Tryd.func6, Tryd.ntmps6
    go_wp2_with fail
    refine (H1.out _).mono ?_
    rintro e w1 ⟨rfl, hb1⟩
    go_wp2_with fail
    rw [HJ.out]
    refine (H2.out _).mono ?_
    rintro e w2 ⟨rfl, hb2⟩
    have hB2 := chainB hb1 hb2
    go_wp2_with fail
    refine (awake_any27 _).mono ?_
    rintro e w3 ⟨rfl, hb3⟩
    have hB3 := chainB hB2 hb3
    go_wp2_with fail
    go_ret
    exact ⟨rfl, hB3⟩
end Go.Proofs.YtjaiadfpdkjkpaaDoor
