/- Records: what one record has. record.Size, record.Right, and the document's. -/
import Derived.Test.YtjoalambgckchaaDoorItoa
import Derived.Test.YtjoalambgckchaaDoorRecP
import Derived.Test.YtjoalambgckchaaDoorRowk
import Derived.Test.YtjoalambgckchaaDoorRdig
namespace Go.Proofs.YtjoalambgckchaaDoor
open Go.RowKit Go.Lib

theorem bigP (k v : List UInt8) (h : k.length + v.length ≤ 200000) : dl (bareP (k, v)) ≤ 6 ∧ bareP (k, v) ≤ 200003 ∧ sizeP (k, v) ≤ 200011 ∧ bareP (k, v) + 1 ≤ sizeP (k, v) ∧ bareP (k, v) + dl (sizeP (k, v)) = sizeP (k, v) := by
  have hb : bareP (k, v) = k.length + v.length + 3 := rfl
  have h1 := dl_le 5 (bareP (k, v)) (by omega)
  have h2 := sizeN_bound (bareP (k, v)) (by omega)
  have h3 : sizeP (k, v) = sizeN (bareP (k, v)) := rfl
  have h4 := sizeN_fix (bareP (k, v)) (by omega)
  rw [h3]
  exact ⟨h1, by omega, by omega, by omega, h4⟩
set_option maxRecDepth 100000 in
set_option maxHeartbeats 1000000 in
theorem rSize0_any (k v : List UInt8) (h : k.length + v.length ≤ 200000) (w : World) {B : Nat} (hT : TB B w) (hB : B ≤ w.heap.size) :
    Calls Tryd.prog 8 #[.agg #[.string (S k), .string (S v)]] w fun e w' => e = .returned (.int .i64 (sizeP (k, v) : Nat)) ∧ Below w.heap.size w w' := by
  obtain ⟨g1, g2, g3, g4, g5⟩ := bigP k v h
  have hb : bareP (k, v) = k.length + v.length + 3 := rfl
  have hs : sizeP (k, v) = bareP (k, v) + dl (bareP (k, v) + dl (bareP (k, v))) := rfl
  have hdl : dl (bareP (k, v)) = (decDigits (bareP (k, v))).length := rfl
  have hdl2 : dl (bareP (k, v) + dl (bareP (k, v))) = (decDigits (bareP (k, v) + dl (bareP (k, v)))).length := rfl
  generalize bareP (k, v) = b at *
  generalize sizeP (k, v) = z at *
  have e1 : (k.length : Int) + v.length + 3 = (b : Nat) := by rw [hb]; omega
  have e2 : (k.length : Int) + v.length + 3 + (decDigits b).length = (b + dl b : Nat) := by rw [e1, hdl]; omega
  have e3 : (k.length : Int) + v.length + 3 + (decDigits (b + dl b)).length = (z : Nat) := by rw [e1, hs, hdl2]; omega
  have I1 := Lib.hid (show ∀ W : World, TB B W → Calls Tryd.prog 17 #[.int .i64 ((k.length : Int) + v.length + 3)] W fun e w' => e = .returned (.string (S (decDigits b))) ∧ Below W.heap.size W w' from fun W hT => by rw [e1]; exact itoa_any b (by omega) W hT)
  have I2 := Lib.hid (show ∀ W : World, TB B W → Calls Tryd.prog 17 #[.int .i64 ((k.length : Int) + v.length + 3 + (decDigits b).length)] W fun e w' => e = .returned (.string (S (decDigits (b + dl b)))) ∧ Below W.heap.size W w' from fun W hT => by rw [e2]; exact itoa_any (b + dl b) (by omega) W hT)
  have E3 := Lib.hid e3
  have l1 : (decDigits b).length ≤ 6 := by omega
  have l2 : (decDigits (b + dl b)).length ≤ 20 := by rw [← hdl2]; have := dl_le 5 (b + dl b) (by omega); omega
  clear e1 e2 e3 hs hb hdl hdl2 g5 g4 g3 g2 g1
  generalize decDigits b = d1 at *
  generalize decDigits (b + dl b) = d2 at *
  go_enter Tryd.func8, Tryd.ntmps8
  go_wp2_with fail
  have hB1 := (Below.refl w.heap.size w).alloc (Nat.le_refl _) (.cells #[.string (S k), .string (S v)] 25)
  refine (I1.out _ (hT.on (hB1.mono hB))).mono ?_
  rintro e w1 ⟨rfl, hb1⟩
  have hB2 := chain hB1 hb1
  go_wp2_with fail
  refine (I2.out _ (hT.on (hB2.mono hB))).mono ?_
  rintro e w2 ⟨rfl, hb2⟩
  go_wp2_with fail
  go_ret
  exact ⟨by rw [E3.out]; rfl, chain hB2 hb2⟩

theorem idx_contains (c : UInt8) : ∀ l : List UInt8, Lib.indexByte l c < 0 ↔ l.contains c = false
  | [] => by simp [Lib.indexByte]
  | b :: l => by
    have h1 := idx_contains c l
    have h2 := Lib.indexByte_ge l c
    rw [List.contains_cons, Bool.or_eq_false_iff, ← h1]
    by_cases hb : (b == c) = true
    · have : (c == b) = true := by rw [beq_iff_eq] at hb ⊢; exact hb.symm
      simp [Lib.indexByte, hb, this]
    · have : (c == b) = false := by
        rw [beq_eq_false_iff_ne]; intro e; subst e; simp at hb
      have hb1 : (b == c) = false := by simpa using hb
      rw [this]
      by_cases hm : Lib.indexByte l c = -1
      · simp [Lib.indexByte, hb1, hm]
      · simp [Lib.indexByte, hb1, hm]; omega
set_option maxRecDepth 100000 in
theorem Right06_any (k v : List UInt8) (w : World) :
    Calls Tryd.prog 10 #[.agg #[.string (S k), .string (S v)]] w fun e w' => e = .returned (.bool (rightP (k, v))) ∧ Below w.heap.size w w' := by
  have hB1 := (Below.refl w.heap.size w).alloc (Nat.le_refl _) (.cells #[.string (S k), .string (S v)] 25)
  cases k with
  | nil =>
    go_enter Tryd.func10, Tryd.ntmps10
    go_wp2
    go_ret
    exact ⟨rfl, hB1⟩
  | cons c k =>
    have he : (c :: k).isEmpty = false := rfl
    have HR := Lib.hid (show rightP (c :: k, v) = decide (Lib.indexByte (c :: k) 61 < 0) by
      unfold rightP
      show (true && !(c :: k).contains 61) = _
      rw [Bool.true_and]
      have := idx_contains 61 (c :: k)
      cases h : (c :: k).contains 61
      · rw [decide_eq_true (this.2 h)]; rfl
      · rw [decide_eq_false (fun g => by rw [this.1 g] at h; cases h)]; rfl)
    generalize c :: k = kk at *
    go_enter Tryd.func10, Tryd.ntmps10
    go_wp2_with fail
    refine (Go.Proofs.Tryd.strings_IndexByte (S kk) 61 _).mono ?_
    rintro e w1 ⟨rfl, rfl⟩
    have hge := Lib.indexByte_ge kk 61
    rw [S_data, show (61 : Int).toNat.toUInt8 = 61 from rfl]
    generalize Lib.indexByte kk 61 = z at *
    go_wp2
    go_ret
    exact ⟨by rw [HR.out]; rfl, hB1⟩
theorem right_take (k : List UInt8) (c : UInt8) (i : Nat) (h : i < k.length) (he : k[i] = c) : k.contains c = true := by
  subst he
  exact List.contains_iff_mem.2 (List.getElem_mem h)
set_option maxRecDepth 100000 in
theorem rRight06_any (k v : List UInt8) (hk : k.length ≤ 200000) (w : World) :
    Calls Tryd.prog 11 #[.agg #[.string (S k), .string (S v)]] w fun e w' => e = .returned (.bool (rightP (k, v))) ∧ Below w.heap.size w w' := by
  go_enter Tryd.func11, Tryd.ntmps11
  go_wp2
  have hB0 := (Below.refl w.heap.size w).alloc (Nat.le_refl _) (.cells #[.string (S k), .string (S v)] 25)
  go_loopw [3] (fun i wr => ∃ j : Nat, j ≤ k.length ∧ i = .int .i64 j ∧ (∀ m (h : m < k.length), m < j → k[m] ≠ 61) ∧ wr = w.alloc (.cells #[.string (S k), .string (S v)] 25)) (fun i _ => k.length - (RowKit.intOf i).toNat)
  case atStart => exact ⟨0, by omega, rfl, fun m h g => absurd g (Nat.not_lt_zero _), rfl⟩
  case round =>
    obtain ⟨j, hj, rfl, hno, rfl⟩ := hrel
    by_cases hlt : j < k.length
    · have hg : ((S k)[j]'(by rw [S_size]; exact hlt)) = k[j] := rfl
      by_cases hc : k[j] = 61
      · have HR := Lib.hid (show rightP (k, v) = false by unfold rightP; rw [right_take k 61 j hlt hc]; simp)
        have hcb := byte_beq k[j] 61 61 rfl hc
        rw [← hg] at hcb
        clear hno hg hc
        go_wp2
        go_ret
        exact ⟨by rw [HR.out]; rfl, hB0⟩
      · have hcb := byte_beq' k[j] 61 61 rfl hc
        rw [← hg] at hcb
        have HN := Lib.hid (show ∀ m (h : m < k.length), m < j + 1 → k[m] ≠ 61 from fun m h g => by
          rcases Nat.lt_or_ge m j with x | x
          · exact hno m h x
          · have : m = j := by omega
            subst this; exact hc)
        clear hno hg hc
        go_wp2
        go_roundw
        case rel => exact ⟨j + 1, by omega, by go_num, HN.out, by first | trivial | rfl⟩
        case measure => simp [RowKit.intOf]; omega
    · have HR := Lib.hid (show rightP (k, v) = !k.isEmpty by
        unfold rightP
        have : k.contains 61 = false := by
          cases h : k.contains 61
          · rfl
          · obtain ⟨m, hm, e⟩ := List.mem_iff_getElem.1 (List.contains_iff_mem.1 h)
            exact absurd e (hno m hm (by omega))
        rw [this]; simp)
      clear hno
      by_cases hn : k = []
      · subst hn
        go_wp2
        go_ret
        exact ⟨by rw [HR.out]; rfl, hB0⟩
      · have he : k.isEmpty = false := by cases k with | nil => exact absurd rfl hn | cons => rfl
        go_wp2
        go_ret
        exact ⟨by rw [HR.out, he]; rfl, hB0⟩
set_option maxRecDepth 100000 in
theorem rSize06_any (k v : List UInt8) (h : k.length + v.length ≤ 200000) (w : World) :
    Calls Tryd.prog 9 #[.agg #[.string (S k), .string (S v)]] w fun e w' => e = .returned (.int .i64 (sizeP (k, v) : Nat)) ∧ Below w.heap.size w w' := by
  obtain ⟨g1, g2, g3, g4, g5⟩ := bigP k v h
  have hb : bareP (k, v) = k.length + v.length + 3 := rfl
  have g6 := (sizeN_bound (bareP (k, v)) (by omega)).2
  have HL := Lib.hid (fun n h1 h2 => sizeN_least (bareP (k, v)) n (by omega) h1 h2)
  have hz : sizeN (bareP (k, v)) = sizeP (k, v) := rfl
  rw [hz] at g6 HL
  generalize bareP (k, v) = b at *
  generalize sizeP (k, v) = z at *
  have HE := Lib.hid (show (k.length : Int) + v.length + 3 = (b : Nat) by rw [hb]; omega)
  have hB0 := (Below.refl w.heap.size w).alloc (Nat.le_refl _) (.cells #[.string (S k), .string (S v)] 25)
  clear hz
  go_enter Tryd.func9, Tryd.ntmps9
  go_wp2
  rw [HE.out]
  clear hb
  go_loopw [4] (fun i wr => ∃ j : Nat, i = .int .i64 j ∧ b < j ∧ j ≤ z ∧ ∃ m, wr = (w.alloc (.cells #[.string (S k), .string (S v)] 25)).drewN m) (fun i _ => z - (RowKit.intOf i).toNat)
  case atStart => exact ⟨b + 1, by go_num, by omega, by omega, 0, rfl⟩
  case round =>
    obtain ⟨j, rfl, hj1, hj2, m, rfl⟩ := hrel
    have hl : (decDigits j).length ≤ 6 := dl_le 5 j (by omega)
    have hlz := HL.out j hj1
    have D := fun W => rdig_big 6 j (by omega) (by decide) W
    by_cases hjz : j = z
    · have hq : ((b : Int) + (decDigits j).length == (j : Int)) = true := by
        rw [beq_iff_eq]; have : b + dl j = j := by rw [hjz]; exact g5
        unfold dl at this; omega
      have HJ := Lib.hid hjz
      clear hjz hlz
      generalize decDigits j = dd at *
      go_wp2_with fail
      refine (D _).mono ?_
      rintro e w1 ⟨rfl, m1, rfl⟩
      go_wp2
      go_ret
      exact ⟨by rw [HJ.out]; rfl, belowDrewN hB0⟩
    · have hq : ((b : Int) + (decDigits j).length == (j : Int)) = false := by
        rw [beq_eq_false_iff_ne]; intro e
        have : z ≤ j := hlz (by unfold dl; omega)
        omega
      clear hlz
      generalize decDigits j = dd at *
      go_wp2_with fail
      refine (D _).mono ?_
      rintro e w1 ⟨rfl, m1, rfl⟩
      go_wp2
      go_roundw
      case rel => exact ⟨j + 1, by go_num, by omega, by omega, m + m1, rfl⟩
      case measure => simp [RowKit.intOf]; omega
end Go.Proofs.YtjoalambgckchaaDoor
