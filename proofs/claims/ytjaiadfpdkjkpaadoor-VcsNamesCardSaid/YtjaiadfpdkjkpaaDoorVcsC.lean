/- The document's Known. -/
import Derived.Test.YtjaiadfpdkjkpaaDoorVcsB
namespace Go.Proofs.YtjaiadfpdkjkpaaDoor
open Go.RowKit

set_option maxRecDepth 100000 in
theorem rknown_0 (w : World) : Calls Tryd.prog 21 #[.string (S [46, 97, 114, 99, 104, 45, 105, 100, 115])] w fun e w' => e = .returned (.bool true) ∧ w' = w := by
  go_enter Tryd.func21, Tryd.ntmps21
  go_wp2
  go_ret
  exact ⟨rfl, rfl⟩
set_option maxRecDepth 100000 in
theorem rknown_1 (w : World) : Calls Tryd.prog 21 #[.string (S [46, 98, 122, 114])] w fun e w' => e = .returned (.bool true) ∧ w' = w := by
  go_enter Tryd.func21, Tryd.ntmps21
  go_wp2
  go_ret
  exact ⟨rfl, rfl⟩
set_option maxRecDepth 100000 in
theorem rknown_2 (w : World) : Calls Tryd.prog 21 #[.string (S [46, 98, 122, 114, 105, 103, 110, 111, 114, 101])] w fun e w' => e = .returned (.bool true) ∧ w' = w := by
  go_enter Tryd.func21, Tryd.ntmps21
  go_wp2
  go_ret
  exact ⟨rfl, rfl⟩
set_option maxRecDepth 100000 in
theorem rknown_3 (w : World) : Calls Tryd.prog 21 #[.string (S [46, 98, 122, 114, 116, 97, 103, 115])] w fun e w' => e = .returned (.bool true) ∧ w' = w := by
  go_enter Tryd.func21, Tryd.ntmps21
  go_wp2
  go_ret
  exact ⟨rfl, rfl⟩
set_option maxRecDepth 100000 in
theorem rknown_4 (w : World) : Calls Tryd.prog 21 #[.string (S [46, 99, 118, 115, 105, 103, 110, 111, 114, 101])] w fun e w' => e = .returned (.bool true) ∧ w' = w := by
  go_enter Tryd.func21, Tryd.ntmps21
  go_wp2
  go_ret
  exact ⟨rfl, rfl⟩
set_option maxRecDepth 100000 in
theorem rknown_5 (w : World) : Calls Tryd.prog 21 #[.string (S [46, 103, 105, 116])] w fun e w' => e = .returned (.bool true) ∧ w' = w := by
  go_enter Tryd.func21, Tryd.ntmps21
  go_wp2
  go_ret
  exact ⟨rfl, rfl⟩
set_option maxRecDepth 100000 in
theorem rknown_6 (w : World) : Calls Tryd.prog 21 #[.string (S [46, 103, 105, 116, 97, 116, 116, 114, 105, 98, 117, 116, 101, 115])] w fun e w' => e = .returned (.bool true) ∧ w' = w := by
  go_enter Tryd.func21, Tryd.ntmps21
  go_wp2
  go_ret
  exact ⟨rfl, rfl⟩
set_option maxRecDepth 100000 in
theorem rknown_7 (w : World) : Calls Tryd.prog 21 #[.string (S [46, 103, 105, 116, 105, 103, 110, 111, 114, 101])] w fun e w' => e = .returned (.bool true) ∧ w' = w := by
  go_enter Tryd.func21, Tryd.ntmps21
  go_wp2
  go_ret
  exact ⟨rfl, rfl⟩
set_option maxRecDepth 100000 in
theorem rknown_8 (w : World) : Calls Tryd.prog 21 #[.string (S [46, 103, 105, 116, 109, 111, 100, 117, 108, 101, 115])] w fun e w' => e = .returned (.bool true) ∧ w' = w := by
  go_enter Tryd.func21, Tryd.ntmps21
  go_wp2
  go_ret
  exact ⟨rfl, rfl⟩
set_option maxRecDepth 100000 in
theorem rknown_9 (w : World) : Calls Tryd.prog 21 #[.string (S [46, 104, 103])] w fun e w' => e = .returned (.bool true) ∧ w' = w := by
  go_enter Tryd.func21, Tryd.ntmps21
  go_wp2
  go_ret
  exact ⟨rfl, rfl⟩
set_option maxRecDepth 100000 in
theorem rknown_10 (w : World) : Calls Tryd.prog 21 #[.string (S [46, 104, 103, 105, 103, 110, 111, 114, 101])] w fun e w' => e = .returned (.bool true) ∧ w' = w := by
  go_enter Tryd.func21, Tryd.ntmps21
  go_wp2
  go_ret
  exact ⟨rfl, rfl⟩
set_option maxRecDepth 100000 in
theorem rknown_11 (w : World) : Calls Tryd.prog 21 #[.string (S [46, 104, 103, 116, 97, 103, 115])] w fun e w' => e = .returned (.bool true) ∧ w' = w := by
  go_enter Tryd.func21, Tryd.ntmps21
  go_wp2
  go_ret
  exact ⟨rfl, rfl⟩
set_option maxRecDepth 100000 in
theorem rknown_12 (w : World) : Calls Tryd.prog 21 #[.string (S [46, 115, 118, 110])] w fun e w' => e = .returned (.bool true) ∧ w' = w := by
  go_enter Tryd.func21, Tryd.ntmps21
  go_wp2
  go_ret
  exact ⟨rfl, rfl⟩
set_option maxRecDepth 100000 in
theorem rknown_13 (w : World) : Calls Tryd.prog 21 #[.string (S [61, 82, 69, 76, 69, 65, 83, 69, 45, 73, 68])] w fun e w' => e = .returned (.bool true) ∧ w' = w := by
  go_enter Tryd.func21, Tryd.ntmps21
  go_wp2
  go_ret
  exact ⟨rfl, rfl⟩
set_option maxRecDepth 100000 in
theorem rknown_14 (w : World) : Calls Tryd.prog 21 #[.string (S [61, 109, 101, 116, 97, 45, 117, 112, 100, 97, 116, 101])] w fun e w' => e = .returned (.bool true) ∧ w' = w := by
  go_enter Tryd.func21, Tryd.ntmps21
  go_wp2
  go_ret
  exact ⟨rfl, rfl⟩
set_option maxRecDepth 100000 in
theorem rknown_15 (w : World) : Calls Tryd.prog 21 #[.string (S [61, 117, 112, 100, 97, 116, 101])] w fun e w' => e = .returned (.bool true) ∧ w' = w := by
  go_enter Tryd.func21, Tryd.ntmps21
  go_wp2
  go_ret
  exact ⟨rfl, rfl⟩
set_option maxRecDepth 100000 in
theorem rknown_16 (w : World) : Calls Tryd.prog 21 #[.string (S [67, 86, 83])] w fun e w' => e = .returned (.bool true) ∧ w' = w := by
  go_enter Tryd.func21, Tryd.ntmps21
  go_wp2
  go_ret
  exact ⟨rfl, rfl⟩
set_option maxRecDepth 100000 in
theorem rknown_17 (w : World) : Calls Tryd.prog 21 #[.string (S [82, 67, 83])] w fun e w' => e = .returned (.bool true) ∧ w' = w := by
  go_enter Tryd.func21, Tryd.ntmps21
  go_wp2
  go_ret
  exact ⟨rfl, rfl⟩
set_option maxRecDepth 100000 in
theorem rknown_18 (w : World) : Calls Tryd.prog 21 #[.string (S [83, 67, 67, 83])] w fun e w' => e = .returned (.bool true) ∧ w' = w := by
  go_enter Tryd.func21, Tryd.ntmps21
  go_wp2
  go_ret
  exact ⟨rfl, rfl⟩
set_option maxRecDepth 100000 in
theorem rknown_19 (w : World) : Calls Tryd.prog 21 #[.string (S [95, 100, 97, 114, 99, 115])] w fun e w' => e = .returned (.bool true) ∧ w' = w := by
  go_enter Tryd.func21, Tryd.ntmps21
  go_wp2
  go_ret
  exact ⟨rfl, rfl⟩
set_option maxRecDepth 100000 in
theorem rknown_20 (w : World) : Calls Tryd.prog 21 #[.string (S [123, 97, 114, 99, 104, 125])] w fun e w' => e = .returned (.bool true) ∧ w' = w := by
  go_enter Tryd.func21, Tryd.ntmps21
  go_wp2
  go_ret
  exact ⟨rfl, rfl⟩
set_option maxRecDepth 100000 in
set_option maxHeartbeats 2000000 in
theorem rknown_no (x : List UInt8) (h : ¬ x ∈ namesL) (w : World) : Calls Tryd.prog 21 #[.string (S x)] w fun e w' => e = .returned (.bool false) ∧ w' = w := by
  have n0 : (x == [46, 97, 114, 99, 104, 45, 105, 100, 115]) = false := beq_eq_false_iff_ne.2 (fun e => h (by rw [e]; decide))
  have n1 : (x == [46, 98, 122, 114]) = false := beq_eq_false_iff_ne.2 (fun e => h (by rw [e]; decide))
  have n2 : (x == [46, 98, 122, 114, 105, 103, 110, 111, 114, 101]) = false := beq_eq_false_iff_ne.2 (fun e => h (by rw [e]; decide))
  have n3 : (x == [46, 98, 122, 114, 116, 97, 103, 115]) = false := beq_eq_false_iff_ne.2 (fun e => h (by rw [e]; decide))
  have n4 : (x == [46, 99, 118, 115, 105, 103, 110, 111, 114, 101]) = false := beq_eq_false_iff_ne.2 (fun e => h (by rw [e]; decide))
  have n5 : (x == [46, 103, 105, 116]) = false := beq_eq_false_iff_ne.2 (fun e => h (by rw [e]; decide))
  have n6 : (x == [46, 103, 105, 116, 97, 116, 116, 114, 105, 98, 117, 116, 101, 115]) = false := beq_eq_false_iff_ne.2 (fun e => h (by rw [e]; decide))
  have n7 : (x == [46, 103, 105, 116, 105, 103, 110, 111, 114, 101]) = false := beq_eq_false_iff_ne.2 (fun e => h (by rw [e]; decide))
  have n8 : (x == [46, 103, 105, 116, 109, 111, 100, 117, 108, 101, 115]) = false := beq_eq_false_iff_ne.2 (fun e => h (by rw [e]; decide))
  have n9 : (x == [46, 104, 103]) = false := beq_eq_false_iff_ne.2 (fun e => h (by rw [e]; decide))
  have n10 : (x == [46, 104, 103, 105, 103, 110, 111, 114, 101]) = false := beq_eq_false_iff_ne.2 (fun e => h (by rw [e]; decide))
  have n11 : (x == [46, 104, 103, 116, 97, 103, 115]) = false := beq_eq_false_iff_ne.2 (fun e => h (by rw [e]; decide))
  have n12 : (x == [46, 115, 118, 110]) = false := beq_eq_false_iff_ne.2 (fun e => h (by rw [e]; decide))
  have n13 : (x == [61, 82, 69, 76, 69, 65, 83, 69, 45, 73, 68]) = false := beq_eq_false_iff_ne.2 (fun e => h (by rw [e]; decide))
  have n14 : (x == [61, 109, 101, 116, 97, 45, 117, 112, 100, 97, 116, 101]) = false := beq_eq_false_iff_ne.2 (fun e => h (by rw [e]; decide))
  have n15 : (x == [61, 117, 112, 100, 97, 116, 101]) = false := beq_eq_false_iff_ne.2 (fun e => h (by rw [e]; decide))
  have n16 : (x == [67, 86, 83]) = false := beq_eq_false_iff_ne.2 (fun e => h (by rw [e]; decide))
  have n17 : (x == [82, 67, 83]) = false := beq_eq_false_iff_ne.2 (fun e => h (by rw [e]; decide))
  have n18 : (x == [83, 67, 67, 83]) = false := beq_eq_false_iff_ne.2 (fun e => h (by rw [e]; decide))
  have n19 : (x == [95, 100, 97, 114, 99, 115]) = false := beq_eq_false_iff_ne.2 (fun e => h (by rw [e]; decide))
  have n20 : (x == [123, 97, 114, 99, 104, 125]) = false := beq_eq_false_iff_ne.2 (fun e => h (by rw [e]; decide))
  clear h
  go_enter Tryd.func21, Tryd.ntmps21
  go_wp2
  go_ret
  exact ⟨rfl, rfl⟩
theorem rKnown_any (x : List UInt8) (w : World) : Calls Tryd.prog 21 #[.string (S x)] w fun e w' => e = .returned (.bool (knownB x)) ∧ w' = w := by
  by_cases h : x ∈ namesL
  · rw [show knownB x = true from decide_eq_true h]
    simp only [namesL, List.mem_cons, List.not_mem_nil, or_false] at h
    rcases h with rfl | rfl | rfl | rfl | rfl | rfl | rfl | rfl | rfl | rfl | rfl | rfl | rfl | rfl | rfl | rfl | rfl | rfl | rfl | rfl | rfl
    · exact rknown_0 w
    · exact rknown_1 w
    · exact rknown_2 w
    · exact rknown_3 w
    · exact rknown_4 w
    · exact rknown_5 w
    · exact rknown_6 w
    · exact rknown_7 w
    · exact rknown_8 w
    · exact rknown_9 w
    · exact rknown_10 w
    · exact rknown_11 w
    · exact rknown_12 w
    · exact rknown_13 w
    · exact rknown_14 w
    · exact rknown_15 w
    · exact rknown_16 w
    · exact rknown_17 w
    · exact rknown_18 w
    · exact rknown_19 w
    · exact rknown_20 w
  · rw [show knownB x = false from decide_eq_false h]
    exact rknown_no x h w
end Go.Proofs.YtjaiadfpdkjkpaaDoor
