import Derived.Test.YtpfblnegaipgdaaText
namespace Go.Proofs.Ytpfblnegaipgdaa
open Go.RowKit

set_option maxRecDepth 100000 in
theorem write_ab (w : World) : Calls Try.prog 19 #[.string (S [97, 98]), .int .i64 4] w fun e w' => e = .returned (.tuple #[.string (S [97, 98, 0, 0]), .bool true]) ∧ Below w.heap.size w w' := by
  have hx0 : Below w.heap.size w w := Below.refl _ _
  have i1 : Lib.indexByte (S [97, 98]).data.toList ((0 : Int).toNat.toUInt8) = -1 := by decide +kernel
  have s1 : (S [97, 98]).size = 2 := rfl
  go_enter Try.func19, Try.ntmps19
  go_wp2_with fail
  refine (Go.Proofs.Try.strings_IndexByte _ _ _).mono ?_
  rintro e w1 ⟨rfl, rfl⟩
  rw [i1]
  go_wp2_with fail
  refine (Go.Proofs.Try.strings_Repeat _ 2 _ (by decide) (by decide)).mono ?_
  rintro e w2 ⟨rfl, hb2⟩
  have r1 : (⟨(Lib.repeatL (ByteArray.mk #[0]).data.toList 2).toArray⟩ : ByteArray) = S [0, 0] := by decide +kernel
  rw [r1]
  go_wp2_with fail
  go_ret2
  exact ⟨rfl, hb2⟩

theorem cut_zero (w : World) : Calls Try.prog 45 #[.string (S [97, 98, 0, 0]), .string (S [0])] w fun e w' => e = .returned (.tuple #[.string (S [97, 98]), .string (S [0]), .bool true]) ∧ Below w.heap.size w w' := by
  have i1 : Lib.indexByte (S [97, 98, 0, 0]).data.toList 0 = 2 := by decide +kernel
  have s1 : (S [97, 98, 0, 0]).size = 4 := rfl
  have s2 : (S [0]).size = 1 := rfl
  go_enter Try.func45, Try.ntmps45
  go_wp2_with fail
  refine (Go.Proofs.Try.stringslite_Index_one _ 0 _).mono ?_
  rintro e w1 ⟨rfl, rfl⟩
  rw [i1]
  go_wp2
  go_quiet (fail)
  go_wp2
  go_ret3
  exact ⟨rfl, belowDrewN (Below.refl _ _)⟩

theorem scut_zero (w : World) : Calls Try.prog 29 #[.string (S [97, 98, 0, 0]), .string (S [0])] w fun e w' => e = .returned (.tuple #[.string (S [97, 98]), .string (S [0]), .bool true]) ∧ Below w.heap.size w w' := by
  go_enter Try.func29, Try.ntmps29
  go_wp2_with fail
  refine (cut_zero _).mono ?_
  rintro e w1 ⟨rfl, hb1⟩
  go_wp2_with fail
  go_ret3
  exact ⟨rfl, hb1⟩
theorem read_ab (w : World) : Calls Try.prog 20 #[.string (S [97, 98, 0, 0])] w fun e w' => e = .returned (.string (S [97, 98])) ∧ Below w.heap.size w w' := by
  go_enter Try.func20, Try.ntmps20
  go_wp2_with fail
  refine (scut_zero _).mono ?_
  rintro e w1 ⟨rfl, hb1⟩
  go_wp2_with fail
  go_ret
  exact ⟨rfl, hb1⟩

theorem awake02 (w : World) : Calls Try.prog 7 #[] w fun e w' => e = .returned (.bool true) ∧ Below w.heap.size w w' := by
  have f3 : (joinF (S [97]) (S [98])).toList == [97, 47, 98] := by decide +kernel
  have hx0 : Below w.heap.size w w := Below.refl _ _
  go_enter Try.func7, Try.ntmps7
  go_wp2_with fail
  refine (write_ab _).mono ?_
  rintro e w1 ⟨rfl, hb1⟩
  have hx1 : Below w.heap.size w w1 := hx0.trans ((show Below w.heap.size _ _ by first | exact Below.refl _ _ | (have := hx0.size; go_grown)).trans (hb1.mono (by have := hx0.size; first | omega | (simp; done) | (simp; omega))))
  go_wp2_with fail
  refine (read_ab _).mono ?_
  rintro e w2 ⟨rfl, hb2⟩
  have hx2 : Below w.heap.size w w2 := hx1.trans ((show Below w.heap.size _ _ by first | exact Below.refl _ _ | (have := hx1.size; go_grown)).trans (hb2.mono (by have := hx1.size; first | omega | (simp; done) | (simp; omega))))
  go_wp2_with fail
  refine (join_any (S [97]) (S [98]) _ (by decide) (by decide)).mono ?_
  rintro e w3 ⟨rfl, rfl⟩
  go_wp2_with fail
  go_ret
  exact ⟨rfl, hx2⟩

set_option maxRecDepth 100000 in
set_option maxHeartbeats 1000000 in
theorem lawNames (s : ByteArray) (w : World) :
    Calls Try.prog 3 #[.string s] w fun e w' => e = .returned (.bool true) ∧ Below w.heap.size w w' := by
  have hx0 : Below w.heap.size w w := Below.refl _ _
  by_cases hl : s.size ≤ 600
  · obtain ⟨a, b, ok, hp⟩ : ∃ a b ok, partF s = (a, b, ok) := ⟨_, _, _, rfl⟩
    have ea : (a.data.toList == a.toList) = true := by rw [ByteArray.toList_eq]; simp
    have eb : (b.data.toList == b.toList) = true := by rw [ByteArray.toList_eq]; simp
    have hj := part_join s
    have hn := part_len s
    rw [hp] at hj hn
    have hp2 : partV (partF s) = .tuple #[.string a, .string b, .bool ok] := by rw [hp]; rfl
    clear hp
    cases ok with
    | false =>
      clear hj hn
      go_enter Try.func3, Try.ntmps3
      go_wp2_with fail
      refine (part_any s _ (by omega)).mono ?_
      rintro e w1 ⟨rfl, hx1⟩
      rw [hp2]
      go_wp2_with fail
      refine (rpart_any s _ (by omega)).mono ?_
      rintro e w2 ⟨rfl, hb2⟩
      have hx2 := hx1.trans (hb2.mono hx1.size)
      rw [hp2]
      go_wp2_with fail
      refine (awake02 _).mono ?_
      rintro e w3 ⟨rfl, hb3⟩
      have hx3 := hx2.trans (hb3.mono hx2.size)
      go_wp2_with fail
      go_ret
      exact ⟨rfl, hx3⟩
    | true =>
      replace hj := hj rfl
      obtain ⟨n1, n2, _⟩ := hn rfl
      have f1 : (s.data.toList == s.toList) = true := by rw [ByteArray.toList_eq]; simp
      clear hn
      go_enter Try.func3, Try.ntmps3
      go_wp2_with fail
      refine (part_any s _ (by omega)).mono ?_
      rintro e w1 ⟨rfl, hx1⟩
      rw [hp2]
      go_wp2_with fail
      refine (rpart_any s _ (by omega)).mono ?_
      rintro e w2 ⟨rfl, hb2⟩
      have hx2 := hx1.trans (hb2.mono hx1.size)
      rw [hp2]
      go_wp2_with fail
      refine (join_any a b _ (by omega) (by omega)).mono ?_
      rintro e w3 ⟨rfl, rfl⟩
      rw [hj]
      go_wp2_with fail
      refine (awake02 _).mono ?_
      rintro e w3 ⟨rfl, hb3⟩
      have hx3 := hx2.trans (hb3.mono hx2.size)
      go_wp2_with fail
      go_ret
      exact ⟨rfl, hx3⟩
  · go_enter Try.func3, Try.ntmps3
    go_wp2_with fail
    refine (awake02 _).mono ?_
    rintro e w1 ⟨rfl, hb1⟩
    have hx1 : Below w.heap.size w w1 := hx0.trans ((show Below w.heap.size _ _ by first | exact Below.refl _ _ | (have := hx0.size; go_grown)).trans (hb1.mono (by have := hx0.size; first | omega | (simp; done) | (simp; omega))))
    go_wp2_with fail
    go_ret
    exact ⟨rfl, hx1⟩

end Go.Proofs.Ytpfblnegaipgdaa
