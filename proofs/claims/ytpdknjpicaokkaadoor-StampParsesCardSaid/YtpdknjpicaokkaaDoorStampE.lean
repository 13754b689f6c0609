/- stamp.Parse is the plain reading. -/
import Derived.Test.YtpdknjpicaokkaaDoorStampD
namespace Go.Proofs.YtpdknjpicaokkaaDoor
open Go.RowKit

theorem stampF_no (l : List UInt8) (h : okF (restS l) = false) : stampF l = (0, 0, 2) := by unfold stampF; rw [h]; rfl
theorem stampF_yes (l : List UInt8) (h : okF (restS l) = true) (hr : rightB (valF l).1 (valF l).2 = true) : stampF l = ((valF l).1, (valF l).2, 0) := by unfold stampF; rw [h, hr]; rfl
theorem stampF_out (l : List UInt8) (h : okF (restS l) = true) (hr : rightB (valF l).1 (valF l).2 = false) : stampF l = (0, 0, 6) := by unfold stampF; rw [h, hr]; rfl
theorem rest_len (l : List UInt8) : (restS l).length ≤ l.length := by
  unfold restS
  split
  · rw [List.length_tail]; omega
  · exact Nat.le_refl _
theorem whole_len (r : List UInt8) : (wholeL r).length ≤ r.length := by
  have e : r = wholeL r ++ partL r := (List.takeWhile_append_dropWhile (p := (· != 46))).symm
  have := congrArg List.length e
  rw [List.length_append] at this
  omega
theorem part_len (r : List UInt8) : ((partL r).drop 1).length ≤ r.length := by
  have e : r = wholeL r ++ partL r := (List.takeWhile_append_dropWhile (p := (· != 46))).symm
  have := congrArg List.length e
  rw [List.length_append] at this
  rw [List.length_drop]
  omega
theorem nsec_nil : nsecF [] = 0 := rfl
theorem Parse_any (l : List UInt8) (hl : l.length ≤ 9223372036854775807) (w : World) :
    Calls Tryd.prog 46 #[.string (S l)] w fun e w' => e = .returned (StV (stampF l).1 (stampF l).2.1 (stampF l).2.2) ∧ Below w.heap.size w w' := by
  obtain ⟨p1, p2⟩ := prefix_minus l
  have hr : (restS l).length ≤ 9223372036854775807 := Nat.le_trans (rest_len l) hl
  have hwl := whole_len (restS l)
  have hpl := part_len (restS l)
  have hcv : cutV (restS l) = .tuple #[.string (S (wholeL (restS l))), .string (S ((partL (restS l)).drop 1)), .bool (!(partL (restS l)).isEmpty)] := rfl
  by_cases hd : digB (wholeL (restS l)) 16 = true
  · obtain ⟨v1, v2⟩ := whole_val _ hd
    have hw := digV_yes _ 16 hd
    rw [v1] at hw
    by_cases he : partL (restS l) = []
    · have hok : okF (restS l) = true := by unfold okF; rw [hd, he]; rfl
      have hpe : (!(partL (restS l)).isEmpty) = false := by rw [he]; rfl
      rw [hpe] at hcv
      by_cases hm : l.head? = some 45
      · have hv : valF l = turnF (decN (wholeL (restS l))) (0 : Int) := by unfold valF; rw [if_pos hm, he, nsec_nil]; rfl
        rw [decide_eq_true hm] at p1
        by_cases hri : rightB (valF l).1 (valF l).2 = true
        · rw [stampF_yes l hok hri]
          rw [hv] at hri ⊢
          exact parse_mer _ l _ _ _ hr hwl (Lib.hid p1) (Lib.hid p2) (Lib.hid hcv) (Lib.hid hw) (by omega) (by omega) _ _ (Lib.hid rfl) (Lib.hid hri) w
        · have hri : rightB (valF l).1 (valF l).2 = false := by simpa using hri
          rw [stampF_out l hok hri]
          rw [hv] at hri
          exact parse_men _ l _ _ _ hr hwl (Lib.hid p1) (Lib.hid p2) (Lib.hid hcv) (Lib.hid hw) (by omega) (by omega) _ _ (Lib.hid rfl) (Lib.hid hri) w
      · have hv : valF l = ((decN (wholeL (restS l)) : Int), (0 : Int)) := by unfold valF; rw [if_neg hm, he, nsec_nil]; rfl
        rw [decide_eq_false hm] at p1
        by_cases hri : rightB (valF l).1 (valF l).2 = true
        · rw [stampF_yes l hok hri]
          rw [hv] at hri ⊢
          exact parse_per _ l _ _ _ hr hwl (Lib.hid p1) (Lib.hid p2) (Lib.hid hcv) (Lib.hid hw) (Lib.hid hri) w
        · have hri : rightB (valF l).1 (valF l).2 = false := by simpa using hri
          rw [stampF_out l hok hri]
          rw [hv] at hri
          exact parse_pen _ l _ _ _ hr hwl (Lib.hid p1) (Lib.hid p2) (Lib.hid hcv) (Lib.hid hw) (Lib.hid hri) w
    · have hpe : (!(partL (restS l)).isEmpty) = true := by
        cases h : partL (restS l) with
        | nil => exact absurd h he
        | cons => rfl
      rw [hpe] at hcv
      by_cases hd2 : digB ((partL (restS l)).drop 1) 40 = true
      · have hok : okF (restS l) = true := by unfold okF; rw [hd, hd2]; simp
        obtain ⟨n1, n2, n3⟩ := nsec_val _ he hd2
        have hn := digV_yes _ 9 n1
        rw [n2] at hn
        obtain ⟨q1, q2, _⟩ := (digB_iff _ _).1 hd2
        have q3 : 1 ≤ ((partL (restS l)).drop 1).length := List.length_pos_iff.2 q1
        have h9 : ((((partL (restS l)).drop 1) ++ List.replicate 8 48).take 9).length ≤ 9 := by rw [List.length_take]; omega
        by_cases hm : l.head? = some 45
        · have hv : valF l = turnF (decN (wholeL (restS l))) (nsecF (partL (restS l)) : Int) := by unfold valF; rw [if_pos hm]
          rw [decide_eq_true hm] at p1
          by_cases hri : rightB (valF l).1 (valF l).2 = true
          · rw [stampF_yes l hok hri]
            rw [hv] at hri ⊢
            exact parse_mfr _ l _ _ _ hr hwl (Lib.hid p1) (Lib.hid p2) (Lib.hid hcv) (Lib.hid hw) (by omega) (by omega) _ q2 h9 _ _ (Lib.hid (digV_yes _ 40 hd2)) (zeros_ext _) q3 (Lib.hid hn) (by omega) (by omega) _ _ (Lib.hid rfl) (Lib.hid hri) w
          · have hri : rightB (valF l).1 (valF l).2 = false := by simpa using hri
            rw [stampF_out l hok hri]
            rw [hv] at hri
            exact parse_mfn _ l _ _ _ hr hwl (Lib.hid p1) (Lib.hid p2) (Lib.hid hcv) (Lib.hid hw) (by omega) (by omega) _ q2 h9 _ _ (Lib.hid (digV_yes _ 40 hd2)) (zeros_ext _) q3 (Lib.hid hn) (by omega) (by omega) _ _ (Lib.hid rfl) (Lib.hid hri) w
        · have hv : valF l = ((decN (wholeL (restS l)) : Int), (nsecF (partL (restS l)) : Int)) := by unfold valF; rw [if_neg hm]
          rw [decide_eq_false hm] at p1
          by_cases hri : rightB (valF l).1 (valF l).2 = true
          · rw [stampF_yes l hok hri]
            rw [hv] at hri ⊢
            exact parse_pfr _ l _ _ _ hr hwl (Lib.hid p1) (Lib.hid p2) (Lib.hid hcv) (Lib.hid hw) _ q2 h9 _ _ (Lib.hid (digV_yes _ 40 hd2)) (zeros_ext _) q3 (Lib.hid hn) (Lib.hid hri) w
          · have hri : rightB (valF l).1 (valF l).2 = false := by simpa using hri
            rw [stampF_out l hok hri]
            rw [hv] at hri
            exact parse_pfn _ l _ _ _ hr hwl (Lib.hid p1) (Lib.hid p2) (Lib.hid hcv) (Lib.hid hw) _ q2 h9 _ _ (Lib.hid (digV_yes _ 40 hd2)) (zeros_ext _) q3 (Lib.hid hn) (Lib.hid hri) w
      · have hd2 : digB ((partL (restS l)).drop 1) 40 = false := by simpa using hd2
        have hb : (partL (restS l) == []) = false := by
          cases h : partL (restS l) with
          | nil => exact absurd h he
          | cons => rfl
        rw [stampF_no l (by unfold okF; rw [hd, hb, hd2]; rfl)]
        by_cases hm : l.head? = some 45
        · rw [decide_eq_true hm] at p1
          exact parse_m_b _ l _ _ _ hr hwl hpl (Lib.hid p1) (Lib.hid p2) (Lib.hid hcv) (Lib.hid hw) (Lib.hid (digV_no _ 40 hd2)) w
        · rw [decide_eq_false hm] at p1
          exact parse_p_b _ l _ _ _ hr hwl hpl (Lib.hid p1) (Lib.hid p2) (Lib.hid hcv) (Lib.hid hw) (Lib.hid (digV_no _ 40 hd2)) w
  · have hd : digB (wholeL (restS l)) 16 = false := by simpa using hd
    rw [stampF_no l (by unfold okF; rw [hd]; rfl)]
    by_cases hm : l.head? = some 45
    · rw [decide_eq_true hm] at p1
      exact parse_m_a _ l _ _ _ hr hwl (Lib.hid p1) (Lib.hid p2) (Lib.hid hcv) (Lib.hid (digV_no _ 16 hd)) w
    · rw [decide_eq_false hm] at p1
      exact parse_p_a _ l _ _ _ hr hwl (Lib.hid p1) (Lib.hid p2) (Lib.hid hcv) (Lib.hid (digV_no _ 16 hd)) w
end Go.Proofs.YtpdknjpicaokkaaDoor
