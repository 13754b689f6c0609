/- The law BracketTexts, walked. -/
import Derived.Test.YtjoalambgckchaaBrM
import Derived.Test.YtjoalambgckchaaBrH
namespace Go.Proofs.Ytjoalambgckchaa
open Go.RowKit
attribute [local irreducible] wordP

theorem set_ext (p q : Nat → Bool) (h : ∀ n, n < 256 → q n = p n) : SetV q = SetV p := by
  unfold SetV
  rw [word_cong q p 0 (fun n hn => h _ (by omega)), word_cong q p 1 (fun n hn => h _ (by omega)), word_cong q p 2 (fun n hn => h _ (by omega)), word_cong q p 3 (fun n hn => h _ (by omega))]
set_option maxRecDepth 100000 in
set_option maxHeartbeats 1000000 in
theorem texts_awake (s t : ByteArray) (gl : Bool) (m : Int) (w : World) (hm : w.cell? ⟨0, 0, none⟩ = some (.int .i64 m)) (h : 300 < s.size ∨ (s.size ≤ 300 ∧ 100 < t.size)) :
    Calls Try.prog 5 #[.string s, .string t, .bool gl] w fun e w' => e = .returned (.bool true) ∧ Below w.heap.size w w' := by
  have HW := Lib.hid (awake14 m w hm)
  rcases h with h | ⟨h1, h⟩
  all_goals
    go_enter Try.func5, Try.ntmps5
    go_wp2_with fail
    refine (HW.out).mono ?_
    rintro e w1 ⟨rfl, hb1⟩
    go_wp2_with fail
    go_ret
    exact ⟨rfl, hb1⟩
set_option maxRecDepth 100000 in
set_option maxHeartbeats 2000000 in
theorem texts_main (l b : List UInt8) (gl : Bool) (m : Int) (w : World) (hm : w.cell? ⟨0, 0, none⟩ = some (.int .i64 m)) (h1 : l.length ≤ 300) (h2 : b.length ≤ 100) :
    Calls Try.prog 5 #[.string (S l), .string (S b), .bool gl] w fun e w' => e = .returned (.bool true) ∧ Below w.heap.size w w' := by
  have hgW : 0 < w.heap.size := World.block_lt_of_cell? w ⟨0, 0, none⟩ hm
  have HA := Lib.hid (fun W hW => awake14 m W hW)
  have HO := Lib.hid (fun W => of_any (S l) W (by rw [S_size]; omega))
  have HT := Lib.hid (fun W => Text_any (ofP l) W)
  have hl : (S l).data.toList = l := rfl
  rw [hl] at HO
  clear hl
  have HI := Lib.hid (fun (x : Int) (n : Nat) (hx : x = n) (hn : n < 256) W => in_args x n (S l) W (by rw [S_size]; omega) hx hn)
  have HE := word_none_bytes (ofP l)
  cases hz : bytesP (ofP l) == []
  · cases hb : badP (ofP l)
    · have hF : textF (ofP l) = textP (ofP l) := by unfold textF; rw [hz, hb]; rfl
      have hbb := hb
      unfold badP at hbb
      simp only [Bool.or_eq_false_iff] at hbb
      obtain ⟨⟨p91, p93⟩, p92⟩ := hbb
      obtain ⟨q, hq, hqe⟩ := text_parse gl (ofP l) b p91 p92 p93 (by simpa using hz)
      have hse := set_ext (ofP l) q hqe
      have hlen : (textP (ofP l)).length ≤ 400 := by
        unfold textP insideP
        have ho : (outP (ofP l)).length ≤ 256 := by
          unfold outP
          exact Nat.le_trans (List.length_filter_le _ _) (bytesTo_len _ _)
        simp only [List.length_cons, List.length_append]
        split
        · split
          · cases ofP l 33 <;> cases ofP l 94 <;> simp [oneIf]
          · cases ofP l 33 <;> cases ofP l 94 <;> simp [oneIf]
        · cases ofP l 33 <;> cases ofP l 94 <;> cases ofP l 45 <;> simp [oneIf] <;> omega
      have hne : textP (ofP l) ≠ [] := by unfold textP; simp
      have HP := Lib.hid (fun W hW => Parse_some (textP (ofP l) ++ b) 0 gl q _ (by rw [List.length_append]; omega) rfl hq m W hW)
      rw [hse] at HP
      have i92 : inL (UInt8.ofNat 92) l = false := (ofP_in l 92 (by decide)).trans p92
      have i91 : inL (UInt8.ofNat 91) l = false := (ofP_in l 91 (by decide)).trans p91
      have i93 : inL (UInt8.ofNat 93) l = false := (ofP_in l 93 (by decide)).trans p93
      have hHI : ∀ (x : Int), (x = 91 ∨ x = 92 ∨ x = 93) → ∀ W, Calls Try.prog 13 #[.int .u8 x, .string (S l)] W fun e w' => e = .returned (.bool false) ∧ W = w' := by
        intro x hx W
        rcases hx with rfl | rfl | rfl
        · have := HI.out 91 91 rfl (by decide) W
          rw [show (S l).data.toList = l from rfl, i91] at this
          exact this
        · have := HI.out 92 92 rfl (by decide) W
          rw [show (S l).data.toList = l from rfl, i92] at this
          exact this
        · have := HI.out 93 93 rfl (by decide) W
          rw [show (S l).data.toList = l from rfl, i93] at this
          exact this
      have HI := Lib.hid hHI
      rw [hF] at HT
      rw [hz] at HE
      have hS1 : ∀ W, SetAt (World.alloc W (setObj (ofP l))) W.heap.size (ofP l) := fun W => set_alloc W (ofP l) _
      have HS1 := Lib.hid hS1
      clear hF p91 p92 p93 hq hqe hse i92 i91 i93 hHI hb hz hS1
      have hstr : S (textP (ofP l)) ++ S b = S (textP (ofP l) ++ b) := S_append _ _
      have hne2 : (textP (ofP l) == []) = false := by simpa using hne
      have hne3 : (textP (ofP l) != []) = true := by simpa using hne
      generalize textP (ofP l) = T at *
      generalize ofP l = p at *
      go_enter Try.func5, Try.ntmps5
      go_wp2_with fail
      refine (HO.out _).mono ?_
      rintro e w1 ⟨rfl, hb1⟩
      go_wp2_with fail
      have hx1 : Below w.heap.size w (w1.alloc (setObj p)) := hb1.alloc hb1.size _
      have hS := HS1.out w1
      have hz1 : w1.heap.size < (w1.alloc (setObj p)).heap.size := by simp
      change Calls _ _ _ (w1.alloc (setObj p)) _
      generalize w1.alloc (setObj p) = v1 at *
      rw [← SetV_def]
      refine (HT.out _).mono ?_
      rintro e w2 ⟨rfl, hb2⟩
      have hx2 := hx1.trans (hb2.mono hx1.size)
      have hS2 := hS.below hb2 hz1
      have hz2 : w1.heap.size < w2.heap.size := by have := hb2.size; omega
      obtain ⟨a0, a1, a2, a3⟩ := hS2.four
      clear hS hb2 hx1
      go_wp2_with fail
      refine (HI.out _ (by simp) _).mono ?_
      rintro e _ ⟨rfl, rfl⟩
      go_wp2_with fail
      refine (HI.out _ (by simp) _).mono ?_
      rintro e _ ⟨rfl, rfl⟩
      go_wp2_with fail
      refine (HI.out _ (by simp) _).mono ?_
      rintro e _ ⟨rfl, rfl⟩
      go_wp2_with fail
      refine (HP.out _ ((hx2.cell (p := ⟨0, 0, none⟩) hgW).trans hm)).mono ?_
      rintro e w3 ⟨rfl, hb3⟩
      have hx3 := hx2.trans (hb3.mono hx2.size)
      have hS3 := (hS2.below hb3 hz2).alloc (by have := hb3.size; omega) (setObj p)
      have hT3 := HS1.out w3
      have hx4 : Below w.heap.size w (w3.alloc (setObj p)) := hx3.alloc hx3.size _
      clear a0 a1 a2 a3 hS2
      go_upto_region 10 with fail
      generalize w3.alloc (setObj p) = v3 at *
      obtain ⟨a0, a1, a2, a3⟩ := hS3.four
      obtain ⟨b0, b1, b2, b3⟩ := hT3.four
      go_wp2_with fail
      refine (HA.out _ ((hx4.cell (p := ⟨0, 0, none⟩) hgW).trans hm)).mono ?_
      rintro e w4 ⟨rfl, hb4⟩
      go_wp2_with fail
      go_ret
      exact ⟨rfl, hx4.trans (hb4.mono hx4.size)⟩
    · have hF : textF (ofP l) = [] := by unfold textF; rw [hb, Bool.or_true, if_pos rfl]
      rw [hF] at HT
      rw [hz] at HE
      have HS1 := Lib.hid (fun W => set_alloc W (ofP l) 25)
      unfold badP at hb
      have j92 := ofP_in l 92 (by decide)
      have j91 := ofP_in l 91 (by decide)
      have j93 := ofP_in l 93 (by decide)
      cases h92 : ofP l 92
      · rw [h92, Bool.or_false] at hb
        have H92 := HI.out 92 92 rfl (by decide)
        rw [show (S l).data.toList = l from rfl, j92, h92] at H92
        have H92 := Lib.hid H92
        cases h91 : ofP l 91
        · rw [h91, Bool.false_or] at hb
          have H91 := HI.out 91 91 rfl (by decide)
          rw [show (S l).data.toList = l from rfl, j91, h91] at H91
          have H91 := Lib.hid H91
          have H93 := HI.out 93 93 rfl (by decide)
          rw [show (S l).data.toList = l from rfl, j93, hb] at H93
          have H93 := Lib.hid H93
          clear j92 j91 j93 hb h92 h91 hF hz
          generalize ofP l = p at *
          go_enter Try.func5, Try.ntmps5
          go_wp2_with fail
          refine (HO.out _).mono ?_
          rintro e w1 ⟨rfl, hb1⟩
          go_wp2_with fail
          have hx1 : Below w.heap.size w (w1.alloc (setObj p)) := hb1.alloc hb1.size _
          have hS := HS1.out w1
          have hz1 : w1.heap.size < (w1.alloc (setObj p)).heap.size := by simp
          change Calls _ _ _ (w1.alloc (setObj p)) _
          generalize w1.alloc (setObj p) = v1 at *
          rw [← SetV_def]
          refine (HT.out _).mono ?_
          rintro e w2 ⟨rfl, hb2⟩
          have hx2 := hx1.trans (hb2.mono hx1.size)
          have hS2 := hS.below hb2 hz1
          obtain ⟨a0, a1, a2, a3⟩ := hS2.four
          clear hS hb2 hx1
          go_wp2_with fail
          refine (H92.out _).mono ?_
          rintro e _ ⟨rfl, rfl⟩
          go_wp2_with fail
          refine (H91.out _).mono ?_
          rintro e _ ⟨rfl, rfl⟩
          go_wp2_with fail
          refine (H93.out _).mono ?_
          rintro e _ ⟨rfl, rfl⟩
          go_wp2_with fail
          refine (HA.out _ ((hx2.cell (p := ⟨0, 0, none⟩) hgW).trans hm)).mono ?_
          rintro e w4 ⟨rfl, hb4⟩
          go_wp2_with fail
          go_ret
          exact ⟨rfl, hx2.trans (hb4.mono hx2.size)⟩
        · have H91 := HI.out 91 91 rfl (by decide)
          rw [show (S l).data.toList = l from rfl, j91, h91] at H91
          have H91 := Lib.hid H91
          clear j92 j91 j93 hb h92 h91 hF hz
          generalize ofP l = p at *
          go_enter Try.func5, Try.ntmps5
          go_wp2_with fail
          refine (HO.out _).mono ?_
          rintro e w1 ⟨rfl, hb1⟩
          go_wp2_with fail
          have hx1 : Below w.heap.size w (w1.alloc (setObj p)) := hb1.alloc hb1.size _
          have hS := HS1.out w1
          have hz1 : w1.heap.size < (w1.alloc (setObj p)).heap.size := by simp
          change Calls _ _ _ (w1.alloc (setObj p)) _
          generalize w1.alloc (setObj p) = v1 at *
          rw [← SetV_def]
          refine (HT.out _).mono ?_
          rintro e w2 ⟨rfl, hb2⟩
          have hx2 := hx1.trans (hb2.mono hx1.size)
          have hS2 := hS.below hb2 hz1
          obtain ⟨a0, a1, a2, a3⟩ := hS2.four
          clear hS hb2 hx1
          go_wp2_with fail
          refine (H92.out _).mono ?_
          rintro e _ ⟨rfl, rfl⟩
          go_wp2_with fail
          refine (H91.out _).mono ?_
          rintro e _ ⟨rfl, rfl⟩
          go_wp2_with fail
          refine (HA.out _ ((hx2.cell (p := ⟨0, 0, none⟩) hgW).trans hm)).mono ?_
          rintro e w4 ⟨rfl, hb4⟩
          go_wp2_with fail
          go_ret
          exact ⟨rfl, hx2.trans (hb4.mono hx2.size)⟩
      · have H92 := HI.out 92 92 rfl (by decide)
        rw [show (S l).data.toList = l from rfl, j92, h92] at H92
        have H92 := Lib.hid H92
        clear j92 j91 j93 hb h92 hF hz
        generalize ofP l = p at *
        go_enter Try.func5, Try.ntmps5
        go_wp2_with fail
        refine (HO.out _).mono ?_
        rintro e w1 ⟨rfl, hb1⟩
        go_wp2_with fail
        have hx1 : Below w.heap.size w (w1.alloc (setObj p)) := hb1.alloc hb1.size _
        have hS := HS1.out w1
        have hz1 : w1.heap.size < (w1.alloc (setObj p)).heap.size := by simp
        change Calls _ _ _ (w1.alloc (setObj p)) _
        generalize w1.alloc (setObj p) = v1 at *
        rw [← SetV_def]
        refine (HT.out _).mono ?_
        rintro e w2 ⟨rfl, hb2⟩
        have hx2 := hx1.trans (hb2.mono hx1.size)
        have hS2 := hS.below hb2 hz1
        obtain ⟨a0, a1, a2, a3⟩ := hS2.four
        clear hS hb2 hx1
        go_wp2_with fail
        refine (H92.out _).mono ?_
        rintro e _ ⟨rfl, rfl⟩
        go_wp2_with fail
        refine (HA.out _ ((hx2.cell (p := ⟨0, 0, none⟩) hgW).trans hm)).mono ?_
        rintro e w4 ⟨rfl, hb4⟩
        go_wp2_with fail
        go_ret
        exact ⟨rfl, hx2.trans (hb4.mono hx2.size)⟩
  · have hF : textF (ofP l) = [] := by unfold textF; rw [hz, Bool.true_or, if_pos rfl]
    rw [hF] at HT
    rw [hz] at HE
    have HS1 := Lib.hid (fun W => set_alloc W (ofP l) 25)
    clear hF hz HI
    generalize ofP l = p at *
    go_enter Try.func5, Try.ntmps5
    go_wp2_with fail
    refine (HO.out _).mono ?_
    rintro e w1 ⟨rfl, hb1⟩
    go_wp2_with fail
    have hx1 : Below w.heap.size w (w1.alloc (setObj p)) := hb1.alloc hb1.size _
    have hS := HS1.out w1
    have hz1 : w1.heap.size < (w1.alloc (setObj p)).heap.size := by simp
    change Calls _ _ _ (w1.alloc (setObj p)) _
    generalize w1.alloc (setObj p) = v1 at *
    rw [← SetV_def]
    refine (HT.out _).mono ?_
    rintro e w2 ⟨rfl, hb2⟩
    have hx2 := hx1.trans (hb2.mono hx1.size)
    have hS2 := hS.below hb2 hz1
    obtain ⟨a0, a1, a2, a3⟩ := hS2.four
    clear hS hb2 hx1
    go_wp2_with fail
    refine (HA.out _ ((hx2.cell (p := ⟨0, 0, none⟩) hgW).trans hm)).mono ?_
    rintro e w4 ⟨rfl, hb4⟩
    go_wp2_with fail
    go_ret
    exact ⟨rfl, hx2.trans (hb4.mono hx2.size)⟩
theorem lawTextsB (s t : ByteArray) (gl : Bool) (w : World) (hmx : ∃ m, w.cell? ⟨0, 0, none⟩ = some (.int .i64 m)) :
    Calls Try.prog 5 #[.string s, .string t, .bool gl] w fun e w' => e = .returned (.bool true) ∧ Below w.heap.size w w' := by
  obtain ⟨m, hm⟩ := hmx
  by_cases h1 : 300 < s.size
  · exact texts_awake s t gl m w hm (Or.inl h1)
  by_cases h2 : 100 < t.size
  · exact texts_awake s t gl m w hm (Or.inr ⟨by omega, h2⟩)
  · exact texts_main s.data.toList t.data.toList gl m w hm (by rw [size_len]; omega) (by rw [size_len]; omega)
end Go.Proofs.Ytjoalambgckchaa
