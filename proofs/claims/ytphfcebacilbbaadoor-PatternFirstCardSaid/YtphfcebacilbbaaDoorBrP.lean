/- The document's bracket: where a text begins so; one byte. -/
import Derived.Test.YtphfcebacilbbaaDoorBrI
import Derived.Test.YtphfcebacilbbaaDoorClassH
import Derived.Test.YtphfcebacilbbaaDoorSetsP
namespace Go.Proofs.YtphfcebacilbbaaDoor
open Go.RowKit

theorem wrap_byte (b : UInt8) : wrap64 (b.toNat : Int) = (b.toNat : Int) := by
  have := b.toNat_lt
  unfold wrap64
  omega
theorem pre_take (q sign : List UInt8) : preB q sign = (q.take sign.length == sign) := by
  unfold preB Lib.hasPrefix
  rw [Bool.eq_iff_iff, beq_iff_eq, List.isPrefixOf_iff_prefix, List.prefix_iff_eq_take]
  exact eq_comm
set_option maxRecDepth 100000 in
set_option maxHeartbeats 1000000 in
theorem begins_any (s sign : List UInt8) (k : Nat) (hs : s.length ≤ 1000000) (hk : k ≤ 2000000) (h1 : 1 ≤ sign.length) (h2 : sign.length ≤ 100) (w : World) :
    Calls Tryd.prog 47 #[.string (S s), .int .i64 k, .string (S sign)] w fun e w' => e = .returned (.bool (preB (s.drop k) sign)) ∧ w' = w := by
  by_cases hl : k + sign.length ≤ s.length
  · have he : (S s).extract k (k + sign.length) = S ((s.drop k).take sign.length) := by
      rw [S_extract, show k + sign.length - k = sign.length by omega]
    rw [pre_take]
    have hd : decide ((k : Int) + (sign.length : Int) ≤ (s.length : Int)) = true := decide_eq_true (by omega)
    have z1 : (0 : Int) ≤ (k : Int) := by omega
    have z2 : (k : Int) ≤ (k : Int) + (sign.length : Int) := by omega
    have z3 : (k : Int) + (sign.length : Int) ≤ (s.length : Int) := by omega
    generalize (s.drop k).take sign.length = q at *
    go_enter Tryd.func47, Tryd.ntmps47
    go_wp2_with fail
    go_ret
    exact ⟨rfl, rfl⟩
  · have hp : preB (s.drop k) sign = false := by
      cases h : preB (s.drop k) sign with
      | false => rfl
      | true =>
        have := preB_len _ _ h
        rw [List.length_drop] at this
        omega
    rw [hp]
    have hd : decide ((k : Int) + (sign.length : Int) ≤ (s.length : Int)) = false := decide_eq_false (by omega)
    have hd2 : ¬ ((k : Int) + (sign.length : Int) ≤ (s.length : Int)) := by omega
    go_enter Tryd.func47, Tryd.ntmps47
    go_wp2_with fail
    go_ret
    exact ⟨rfl, rfl⟩
theorem begins_is (s sign : List UInt8) (k : Nat) (hs : s.length ≤ 1000000) (hk : k ≤ 2000000) (h1 : 1 ≤ sign.length) (h2 : sign.length ≤ 100) (c : Bool) (hc : preB (s.drop k) sign = c) (x : Int) (hx : x = k) (w : World) :
    Calls Tryd.prog 47 #[.string (S s), .int .i64 x, .string (S sign)] w fun e w' => e = .returned (.bool c) ∧ w' = w := by
  subst hc hx
  exact begins_any s sign k hs hk h1 h2 w
/-- what the document's byte tells -/
def OneQ (k : Nat) (r : Option (UInt8 × Nat)) (w : World) (e : Ending) (w' : World) : Prop :=
  w' = w ∧ match r with
  | some (b, n) => e = .returned (.tuple #[.int .i64 b.toNat, .int .i64 ((k + n : Nat) : Int)])
  | none => ∃ j : Int, e = .returned (.tuple #[.int .i64 (-1), .int .i64 j])
set_option maxRecDepth 100000 in
set_option maxHeartbeats 1000000 in
theorem one_any (s : List UInt8) (k : Nat) (gl : Bool) (hk : k ≤ s.length) (hs : s.length ≤ 1000000) (w : World) :
    Calls Tryd.prog 49 #[.string (S s), .int .i64 k, .bool gl] w fun e w' => OneQ k (byteF gl (s.drop k)) w e w' := by
  by_cases h1 : preB (s.drop k) [91, 46] = true
  · have B1 := Lib.hid (fun W => begins_is s [91, 46] k hs (by omega) (by decide) (by decide) _ h1 k rfl W)
    have hF : byteF gl (s.drop k) = (closedF (s.drop (k + 2)) [46, 93]).map fun b => (b, 5) := by unfold byteF; rw [if_pos h1, List.drop_drop]
    rw [hF]
    unfold closedF
    rw [List.length_drop, List.drop_drop, show k + 2 + 1 = k + 3 by omega]
    by_cases hl : k + 5 ≤ s.length
    · have hd : decide ((k : Int) + 4 < (s.length : Int)) = true := decide_eq_true (by omega)
      have hlI : (k : Int) + 4 < (s.length : Int) := by omega
      have B2 := Lib.hid (fun c hc W => begins_is s [46, 93] (k + 3) hs (by omega) (by decide) (by decide) c hc ((k : Int) + 3) (by omega) W)
      have hp : preB (s.drop (k + 3)) [46, 93] = ((s.drop (k + 3)).take 2 == [46, 93]) := pre_take _ _
      by_cases he : (s.drop (k + 3)).take 2 = [46, 93]
      · rw [if_pos ⟨by omega, he⟩]
        rw [he] at hp
        have B3 := Lib.hid (fun W => B2.out true hp W)
        have hg : s[k + 2]? = some s[k + 2] := List.getElem?_eq_getElem (by omega)
        rw [List.head?_eq_getElem?, List.getElem?_drop, Nat.add_zero, hg]
        have hsz : k + 2 < (S s).size := by rw [S_size]; omega
        have hb : ((S s)[k + 2]'hsz) = s[k + 2] := rfl
        clear hg B2 hp he h1 hF
        generalize s[k + 2] = b at *
        have hwb := wrap_byte b
        go_enter Tryd.func49, Tryd.ntmps49
        go_wp2_with fail
        refine (B1.out _).mono ?_
        rintro e _ ⟨rfl, rfl⟩
        go_wp2_with fail
        refine (B3.out _).mono ?_
        rintro e _ ⟨rfl, rfl⟩
        go_wp2_with fail
        go_ret2
        refine ⟨rfl, ?_⟩
        show Ending.returned (.tuple #[.int .i64 (wrap64 (b.toNat : Int)), .int .i64 _]) = _
        rw [hwb]
        rfl
      · rw [if_neg (fun h => he h.2)]
        have hp : preB (s.drop (k + 3)) [46, 93] = false := by rw [hp, beq_eq_false_iff_ne]; exact he
        have B3 := Lib.hid (fun W => B2.out false hp W)
        clear B2 hp he h1 hF
        go_enter Tryd.func49, Tryd.ntmps49
        go_wp2_with fail
        refine (B1.out _).mono ?_
        rintro e _ ⟨rfl, rfl⟩
        go_wp2_with fail
        refine (B3.out _).mono ?_
        rintro e _ ⟨rfl, rfl⟩
        go_wp2_with fail
        go_ret2
        exact ⟨rfl, _, rfl⟩
    · rw [if_neg (fun h => hl (by have := h.1; omega))]
      have hd : decide ((k : Int) + 4 < (s.length : Int)) = false := decide_eq_false (by omega)
      have hlI : ¬ ((k : Int) + 4 < (s.length : Int)) := by omega
      clear h1 hF
      go_enter Tryd.func49, Tryd.ntmps49
      go_wp2_with fail
      refine (B1.out _).mono ?_
      rintro e _ ⟨rfl, rfl⟩
      go_wp2_with fail
      go_ret2
      exact ⟨rfl, _, rfl⟩
  · have h1f : preB (s.drop k) [91, 46] = false := by simpa using h1
    have B1 := Lib.hid (fun W => begins_is s [91, 46] k hs (by omega) (by decide) (by decide) _ h1f k rfl W)
    by_cases h2 : (gl && preB (s.drop k) [92]) = true
    · obtain ⟨rfl, h3⟩ := Bool.and_eq_true_iff.1 h2
      have h4 := preB_len _ _ h3
      rw [List.length_drop] at h4
      have h4 : 1 ≤ s.length - k := h4
      have B2 := Lib.hid (fun W => begins_is s [92] k hs (by omega) (by decide) (by decide) _ h3 k rfl W)
      have hF : byteF true (s.drop k) = s[k + 1]?.map fun b => (b, 2) := by unfold byteF; rw [if_neg h1, if_pos h2, List.getElem?_drop]
      rw [hF]
      clear h1 h1f h2 h3 hF
      by_cases hlt : k + 1 < s.length
      · have hg : s[k + 1]? = some s[k + 1] := List.getElem?_eq_getElem hlt
        rw [hg]
        have hsz : k + 1 < (S s).size := by rw [S_size]; omega
        have hb : ((S s)[k + 1]'hsz) = s[k + 1] := rfl
        have hI : ¬ (s.length : Int) ≤ (k : Int) + 1 := by omega
        clear hg
        generalize s[k + 1] = b at *
        have hwb := wrap_byte b
        go_enter Tryd.func49, Tryd.ntmps49
        go_wp2_with fail
        refine (B1.out _).mono ?_
        rintro e _ ⟨rfl, rfl⟩
        go_wp2_with fail
        refine (B2.out _).mono ?_
        rintro e _ ⟨rfl, rfl⟩
        go_wp2_with fail
        go_ret2
        refine ⟨rfl, ?_⟩
        show Ending.returned (.tuple #[.int .i64 (wrap64 (b.toNat : Int)), .int .i64 _]) = _
        rw [hwb]
        rfl
      · rw [List.getElem?_eq_none (by omega)]
        have hI : (s.length : Int) ≤ (k : Int) + 1 := by omega
        go_enter Tryd.func49, Tryd.ntmps49
        go_wp2_with fail
        refine (B1.out _).mono ?_
        rintro e _ ⟨rfl, rfl⟩
        go_wp2_with fail
        refine (B2.out _).mono ?_
        rintro e _ ⟨rfl, rfl⟩
        go_wp2_with fail
        go_ret2
        exact ⟨rfl, _, rfl⟩
    · have h2f : (gl && preB (s.drop k) [92]) = false := by simpa using h2
      have hF : byteF gl (s.drop k) = s[k]?.map fun b => (b, 1) := by unfold byteF; rw [if_neg h1, if_neg h2, List.getElem?_drop, Nat.add_zero]
      rw [hF]
      have B2 : gl = true → Hid (∀ W : World, Calls Tryd.prog 47 #[.string (S s), .int .i64 k, .string (S [92])] W fun e w' => e = .returned (.bool false) ∧ w' = W) := by
        rintro rfl
        exact Lib.hid (fun W => begins_is s [92] k hs (by omega) (by decide) (by decide) _ (by simpa using h2f) k rfl W)
      clear h1 h1f h2 h2f hF
      by_cases hlt : k < s.length
      · have hg : s[k]? = some s[k] := List.getElem?_eq_getElem hlt
        rw [hg]
        have hsz : k < (S s).size := by rw [S_size]; omega
        have hb : ((S s)[k]'hsz) = s[k] := rfl
        have hI : ¬ (s.length : Int) ≤ (k : Int) := by omega
        clear hg
        generalize s[k] = b at *
        have hwb := wrap_byte b
        cases gl
        · go_enter Tryd.func49, Tryd.ntmps49
          go_wp2_with fail
          refine (B1.out _).mono ?_
          rintro e _ ⟨rfl, rfl⟩
          go_wp2_with fail
          go_ret2
          refine ⟨rfl, ?_⟩
          show Ending.returned (.tuple #[.int .i64 (wrap64 (b.toNat : Int)), .int .i64 _]) = _
          rw [hwb]
          rfl
        · replace B2 := B2 rfl
          go_enter Tryd.func49, Tryd.ntmps49
          go_wp2_with fail
          refine (B1.out _).mono ?_
          rintro e _ ⟨rfl, rfl⟩
          go_wp2_with fail
          refine (B2.out _).mono ?_
          rintro e _ ⟨rfl, rfl⟩
          go_wp2_with fail
          go_ret2
          refine ⟨rfl, ?_⟩
          show Ending.returned (.tuple #[.int .i64 (wrap64 (b.toNat : Int)), .int .i64 _]) = _
          rw [hwb]
          rfl
      · rw [List.getElem?_eq_none (by omega)]
        have hI : (s.length : Int) ≤ (k : Int) := by omega
        cases gl
        · go_enter Tryd.func49, Tryd.ntmps49
          go_wp2_with fail
          refine (B1.out _).mono ?_
          rintro e _ ⟨rfl, rfl⟩
          go_wp2_with fail
          go_ret2
          exact ⟨rfl, _, rfl⟩
        · replace B2 := B2 rfl
          go_enter Tryd.func49, Tryd.ntmps49
          go_wp2_with fail
          refine (B1.out _).mono ?_
          rintro e _ ⟨rfl, rfl⟩
          go_wp2_with fail
          refine (B2.out _).mono ?_
          rintro e _ ⟨rfl, rfl⟩
          go_wp2_with fail
          go_ret2
          exact ⟨rfl, _, rfl⟩
end Go.Proofs.YtphfcebacilbbaaDoor
