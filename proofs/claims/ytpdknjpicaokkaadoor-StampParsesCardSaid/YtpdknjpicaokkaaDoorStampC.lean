/- strings.Cut at a point; stamp.Parse. -/
import Derived.Test.YtpdknjpicaokkaaDoorStampB
namespace Go.Proofs.YtpdknjpicaokkaaDoor
open Go.RowKit

theorem idx46 : ∀ l : List UInt8, (Lib.indexByte l 46 = -1 ∧ partL l = [] ∧ wholeL l = l) ∨ ∃ k : Nat, k < l.length ∧ Lib.indexByte l 46 = k ∧ l.drop k = partL l ∧ l.take k = wholeL l
  | [] => .inl ⟨rfl, rfl, rfl⟩
  | b :: l => by
    by_cases hb : b = 46
    · subst hb
      exact .inr ⟨0, by simp, by simp [Lib.indexByte], by simp [partL], by simp [wholeL]⟩
    · have hb1 : (b == 46) = false := by simpa using hb
      have hb2 : (b != 46) = true := by simp [hb]
      have e1 : partL (b :: l) = partL l := by unfold partL; rw [List.dropWhile_cons, if_pos hb2]
      have e2 : wholeL (b :: l) = b :: wholeL l := by unfold wholeL; rw [List.takeWhile_cons, if_pos hb2]
      rcases idx46 l with ⟨h1, h2, h3⟩ | ⟨k, hk, h1, h2, h3⟩
      · left
        exact ⟨by simp [Lib.indexByte, hb1, h1], by rw [e1, h2], by rw [e2, h3]⟩
      · right
        refine ⟨k + 1, by simp; omega, ?_, by rw [e1]; exact h2, by rw [e2, ← h3]; rfl⟩
        have : ¬ ((k : Int) = -1) := by omega
        simp [Lib.indexByte, hb1, h1, this]
theorem part_drop (l : List UInt8) (k : Nat) (h : l.drop k = partL l) : l.drop (k + 1) = (partL l).drop 1 := by
  rw [← h, List.drop_drop]
def cutV (r : List UInt8) : Value := .tuple #[.string (S (wholeL r)), .string (S ((partL r).drop 1)), .bool (!(partL r).isEmpty)]
theorem takeS0 (s : List UInt8) (k : Nat) : (S s).extract 0 k = S (s.take k) := by rw [S_extract, List.drop_zero, Nat.sub_zero]
theorem dropS0 (s : List UInt8) (k : Nat) : (S s).extract k s.length = S (s.drop k) := by rw [S_extract, List.take_of_length_le (by rw [List.length_drop]; exact Nat.le_refl _)]
set_option maxRecDepth 100000 in
set_option maxHeartbeats 1000000 in
theorem slcut_any (r : List UInt8) (hr : r.length ≤ 9223372036854775807) (w : World) :
    Calls Tryd.prog 104 #[.string (S r), .string ⟨#[46]⟩] w fun e w' => e = .returned (cutV r) ∧ ∃ n, w' = w.drewN n := by
  have hd1 : (⟨#[46]⟩ : ByteArray).size = 1 := rfl
  rcases idx46 r with ⟨h1, h2, h3⟩ | ⟨k, hk, h1, h2, h3⟩
  · have H := Lib.hid (show cutV r = .tuple #[.string (S r), .string (S []), .bool false] by unfold cutV; rw [h2, h3]; rfl)
    have H1 := Lib.hid h1
    clear h1 h2 h3
    go_enter Tryd.func104, Tryd.ntmps104
    go_wp2_with fail
    refine (Go.Proofs.Tryd.stringslite_Index_one _ 46 _).mono ?_
    rintro e w1 ⟨rfl, hw1⟩
    subst hw1
    rw [S_data, H1.out]
    go_wp2
    go_ret3
    exact ⟨by rw [H.out]; rfl, 0, rfl⟩
  · have hne : (partL r).isEmpty = false := by
      cases h : partL r with
      | nil => rw [h] at h2; have := congrArg List.length h2; rw [List.length_drop] at this; simp at this; omega
      | cons => rfl
    have H := Lib.hid (show cutV r = .tuple #[.string (S (r.take k)), .string (S (r.drop (k + 1))), .bool true] by unfold cutV; rw [← h3, part_drop r k h2, hne]; rfl)
    have H1 := Lib.hid h1
    have e1 := takeS0 r k
    have e2 := dropS0 r (k + 1)
    clear h1 h2 h3 hne
    generalize r.take k = a at *
    generalize r.drop (k + 1) = b at *
    have hk0 : (0 : Int) ≤ (k : Int) := by omega
    have hk1 : (k : Int) ≤ (r.length : Int) := by omega
    have hk2 : (k : Int) + 1 ≤ (r.length : Int) := by omega
    go_enter Tryd.func104, Tryd.ntmps104
    go_wp2_with fail
    refine (Go.Proofs.Tryd.stringslite_Index_one _ 46 _).mono ?_
    rintro e w1 ⟨rfl, hw1⟩
    subst hw1
    rw [S_data, H1.out]
    go_wp2
    go_quiet (fail)
    go_wp2
    go_ret3
    exact ⟨by rw [H.out]; rfl, _, rfl⟩
set_option maxRecDepth 100000 in
set_option maxHeartbeats 1000000 in
theorem cut_any (r : List UInt8) (hr : r.length ≤ 9223372036854775807) (w : World) :
    Calls Tryd.prog 77 #[.string (S r), .string ⟨#[46]⟩] w fun e w' => e = .returned (cutV r) ∧ ∃ n, w' = w.drewN n := by
  have H := Lib.hid (show cutV r = .tuple #[.string (S (wholeL r)), .string (S ((partL r).drop 1)), .bool (!(partL r).isEmpty)] from rfl)
  have HC := Lib.hid (fun w => slcut_any r hr w)
  generalize cutV r = V at *
  generalize (partL r).drop 1 = b at *
  generalize wholeL r = a at *
  generalize (partL r).isEmpty = z at *
  go_enter Tryd.func77, Tryd.ntmps77
  go_wp2_with fail
  refine (HC.out _).mono ?_
  rintro e w1 ⟨rfl, n, rfl⟩
  rw [H.out]
  go_wp2
  go_ret3
  exact ⟨by rw [H.out]; rfl, _, rfl⟩

theorem nsec_val (p : List UInt8) (hp : p ≠ []) (hd : digB (p.drop 1) 40 = true) : digB (((p.drop 1) ++ List.replicate 8 48).take 9) 9 = true ∧ valD (((p.drop 1) ++ List.replicate 8 48).take 9) 9 = (nsecF p : Int) ∧ nsecF p < 1000000000 := by
  obtain ⟨h1, h2, h3⟩ := (digB_iff _ _).1 hd
  have hl : 1 ≤ (p.drop 1).length := List.length_pos_iff.2 h1
  have hall : AllDg (((p.drop 1) ++ List.replicate 8 48).take 9) := by
    intro c hc
    rcases List.mem_append.1 (List.mem_of_mem_take hc) with h | h
    · exact h3 c h
    · rw [List.eq_of_mem_replicate h]; rfl
  have hlen : (((p.drop 1) ++ List.replicate 8 48).take 9).length = 9 := by
    rw [List.length_take, List.length_append, List.length_replicate]; omega
  have hn : nsecF p = decN (((p.drop 1) ++ List.replicate 8 48).take 9) := by unfold nsecF; rw [if_neg hp]
  have hb : digB (((p.drop 1) ++ List.replicate 8 48).take 9) 9 = true := (digB_iff _ _).2 ⟨(fun e => by rw [e] at hlen; cases hlen), by omega, hall⟩
  refine ⟨hb, ?_, ?_⟩
  · unfold valD
    rw [if_pos hb, hn, List.take_of_length_le (by omega)]
  · rw [hn]
    exact decN_lt 9 _ hall hlen
theorem whole_val (l : List UInt8) (h : digB l 16 = true) : valD l 16 = (decN l : Int) ∧ decN l < 10000000000000000 := by
  obtain ⟨h1, h2, h3⟩ := (digB_iff _ _).1 h
  have := take16_lt l h3 16 (Nat.le_refl _)
  rw [List.take_of_length_le h2] at this
  refine ⟨?_, this⟩
  unfold valD
  rw [if_pos h, List.take_of_length_le h2]
theorem prefix_minus (l : List UInt8) : Lib.hasPrefix l [45] = decide (l.head? = some 45) ∧ Lib.trimPrefix l [45] = restS l := by
  have h1 : Lib.hasPrefix l [45] = decide (l.head? = some 45) := by
    cases l with
    | nil => rfl
    | cons c l =>
      unfold Lib.hasPrefix
      rw [Bool.eq_iff_iff]
      simp
      exact ⟨fun h => h.symm, fun h => h.symm⟩
  refine ⟨h1, ?_⟩
  unfold Lib.trimPrefix restS
  rw [h1]
  by_cases h : l.head? = some 45
  · rw [if_pos h, if_pos (by simpa using h)]; simp
  · rw [if_neg h, if_neg (by simpa using h)]
end Go.Proofs.YtpdknjpicaokkaaDoor
