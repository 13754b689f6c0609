import Derived.Test.YtpfblnegaipgdaaDoorKit
import Derived.Test.YtpfblnegaipgdaaDoorShelf
import Derived.Lib.IndexLaws
import Derived.Lib.TrimByte
import Derived.Lib.Repeat
import Derived.Deep.RegionHeld3
namespace Go.Proofs.YtpfblnegaipgdaaDoor
open Go.RowKit

/-- ahead of the first NUL -/
def headL (l : List UInt8) : List UInt8 := l.takeWhile (· != 0)
theorem head_take : ∀ (l : List UInt8) (k : Nat), (∀ j, j < k → ∃ b, l[j]? = some b ∧ b ≠ 0) → (l[k]? = none ∨ l[k]? = some 0) → headL l = l.take k
  | [], k, _, _ => by simp [headL]
  | b :: l, 0, _, h => by
    rcases h with h | h
    · cases h
    · have : b = 0 := by simpa using h
      subst this
      simp [headL]
  | b :: l, k + 1, hk, h => by
    obtain ⟨b', hb, hne⟩ := hk 0 (by omega)
    have e : b' = b := by simpa using hb.symm
    subst e
    have ih := head_take l k (fun j hj => by simpa using hk (j + 1) (by omega)) (by simpa using h)
    unfold headL at *
    rw [List.takeWhile_cons_of_pos (by simpa using hne), ih, List.take_succ_cons]
theorem index_head (l : List UInt8) : (Lib.indexByte l 0 = -1 ∧ headL l = l ∧ ∀ b ∈ l, b ≠ 0) ∨ (∃ o : Nat, o < l.length ∧ Lib.indexByte l 0 = o ∧ headL l = l.take o ∧ headL l ≠ l) := by
  rcases Int.lt_or_le (Lib.indexByte l 0) 0 with h | h
  · have h1 : Lib.indexByte l 0 = -1 := by have := Lib.indexByte_ge l 0; omega
    have h2 := Lib.indexByte_none h1
    have h3 : ∀ b ∈ l, b ≠ 0 := by
      intro b hb e
      subst e
      obtain ⟨k, hk, e⟩ := List.getElem_of_mem hb
      exact h2 k (by rw [List.getElem?_eq_getElem hk, e])
    refine .inl ⟨h1, ?_, h3⟩
    have := head_take l l.length (fun j hj => ⟨l[j], List.getElem?_eq_getElem hj, h3 _ (List.getElem_mem hj)⟩) (.inl (List.getElem?_eq_none (Nat.le_refl _)))
    rw [this, List.take_length]
  · obtain ⟨o, ho⟩ : ∃ o : Nat, Lib.indexByte l 0 = o := ⟨(Lib.indexByte l 0).toNat, by omega⟩
    obtain ⟨h1, h2⟩ := Lib.indexByte_some ho
    have hlt : o < l.length := by
      rcases Nat.lt_or_ge o l.length with g | g
      · exact g
      · rw [List.getElem?_eq_none g] at h1; cases h1
    have e := head_take l o (fun j hj => by
      refine ⟨l[j]'(by omega), List.getElem?_eq_getElem (by omega), fun e => h2 j hj ?_⟩
      rw [List.getElem?_eq_getElem (by omega), e]) (.inr h1)
    refine .inr ⟨o, hlt, ho, e, fun g => ?_⟩
    have := congrArg List.length (e.symm.trans g)
    rw [List.length_take] at this
    omega
theorem cut_head (s : ByteArray) (o : Nat) (h : headL s.data.toList = s.data.toList.take o) : s.extract 0 o = S (headL s.data.toList) := by
  rw [h]
  have := S_extract s.data.toList 0 o
  rw [← S_eta] at this
  rw [this, List.drop_zero, Nat.sub_zero]

theorem cut_any (s : ByteArray) (w : World) (hs : s.size ≤ 1000000) :
    Calls Tryd.prog 68 #[.string s, .string (S [0])] w fun e w' => (∃ a b, e = .returned (.tuple #[.string (S (headL s.data.toList)), a, b])) ∧ Below w.heap.size w w' := by
  have s2 : (S [0]).size = 1 := rfl
  rcases index_head s.data.toList with ⟨h1, h2, _⟩ | ⟨o, h0, h1, h2, _⟩
  · have hS : s = S (headL s.data.toList) := by rw [h2]; exact S_eta s
    have HS := Lib.hid hS
    have H1 := Lib.hid h1
    clear hS h1 h2
    go_enter Tryd.func68, Tryd.ntmps68
    go_wp2_with fail
    refine (Go.Proofs.Tryd.stringslite_Index_one _ 0 _).mono ?_
    rintro e w1 ⟨rfl, rfl⟩
    rw [H1.out]
    go_wp2
    go_ret3
    refine ⟨⟨.string (S []), .bool false, ?_⟩, Below.refl _ _⟩
    rw [← HS.out]; rfl
  · have hlt : o < s.size := by rwa [size_len] at h0
    have HS := Lib.hid (cut_head s o h2)
    have H1 := Lib.hid h1
    clear h1 h2
    go_enter Tryd.func68, Tryd.ntmps68
    go_wp2_with fail
    refine (Go.Proofs.Tryd.stringslite_Index_one _ 0 _).mono ?_
    rintro e w1 ⟨rfl, rfl⟩
    rw [H1.out]
    go_wp2
    go_quiet (fail)
    go_wp2
    go_ret3
    refine ⟨⟨.string (s.extract (o + 1) s.size), .bool true, ?_⟩, belowDrewN (Below.refl _ _)⟩
    rw [← HS.out]; rfl
theorem scut_any (s : ByteArray) (w : World) (hs : s.size ≤ 1000000) :
    Calls Tryd.prog 48 #[.string s, .string (S [0])] w fun e w' => (∃ a b, e = .returned (.tuple #[.string (S (headL s.data.toList)), a, b])) ∧ Below w.heap.size w w' := by
  go_enter Tryd.func48, Tryd.ntmps48
  go_wp2_with fail
  refine (cut_any s _ hs).mono ?_
  rintro e w1 ⟨⟨a, b, rfl⟩, hb1⟩
  go_wp2_with fail
  go_ret3
  exact ⟨⟨_, _, rfl⟩, hb1⟩
theorem read_any (s : ByteArray) (w : World) (hs : s.size ≤ 1000000) :
    Calls Tryd.prog 32 #[.string s] w fun e w' => e = .returned (.string (S (headL s.data.toList))) ∧ Below w.heap.size w w' := by
  go_enter Tryd.func32, Tryd.ntmps32
  go_wp2_with fail
  refine (scut_any s _ hs).mono ?_
  rintro e w1 ⟨⟨a, b, rfl⟩, hb1⟩
  go_wp2_with fail
  go_ret
  exact ⟨rfl, hb1⟩

set_option maxRecDepth 100000 in
theorem rread_any (s : ByteArray) (w : World) (hs : s.size ≤ 1000000) :
    Calls Tryd.prog 33 #[.string s] w fun e w' => e = .returned (.string (S (headL s.data.toList))) ∧ w = w' := by
  go_enter Tryd.func33, Tryd.ntmps33
  go_wp2
  go_loop [3] (fun v => ∃ k : Nat, k ≤ s.size ∧ v = .int .i64 k ∧ ∀ j, j < k → ∃ b, s.data.toList[j]? = some b ∧ b ≠ 0) (fun v => s.size - (intOf v).toNat)
  case atStart => exact ⟨0, by omega, rfl, fun j hj => absurd hj (Nat.not_lt_zero _)⟩
  case round =>
    obtain ⟨k, hk, rfl, hj⟩ := hrel
    by_cases hlt : k < s.size
    · have hget : s.data.toList[k]? = some s[k] := by rw [List.getElem?_eq_getElem (by rw [size_len]; exact hlt)]; rfl
      by_cases h0 : s[k] = 0
      · have e := head_take s.data.toList k hj (.inr (by rw [hget, h0]))
        have HS := Lib.hid (cut_head s k e)
        have ht := byte_bne' s[k] 0 0 rfl h0
        clear hj e hget h0
        go_wp2
        go_ret
        exact ⟨by rw [← HS.out]; rfl, rfl⟩
      · have ht := byte_bne s[k] 0 0 rfl h0
        have HJ : ∀ j, j < k + 1 → ∃ b, s.data.toList[j]? = some b ∧ b ≠ 0 := by
          intro j hjk
          by_cases e : j = k
          · subst e; exact ⟨_, hget, h0⟩
          · exact hj j (by omega)
        have HJ' := Lib.hid HJ
        clear hj HJ hget h0
        go_wp2
        go_round
        case rel => exact ⟨k + 1, by omega, by go_num, HJ'.out⟩
        case measure => simp [intOf]; omega
    · have : k = s.size := by omega
      subst this
      have e := head_take s.data.toList s.size hj (.inl (List.getElem?_eq_none (by rw [size_len]; exact Nat.le_refl _)))
      have HS := Lib.hid (show s = S (headL s.data.toList) by rw [e, ← size_len, List.take_length]; exact S_eta s)
      clear hj e
      go_wp2
      go_ret
      exact ⟨by rw [← HS.out]; rfl, rfl⟩

def blankB (l : List UInt8) : Bool := l.all (· == 0)
theorem dropw_nil (p : UInt8 → Bool) : ∀ l : List UInt8, l.dropWhile p = [] ↔ ∀ b ∈ l, p b = true
  | [] => by simp
  | b :: l => by
    by_cases h : p b = true
    · rw [List.dropWhile_cons_of_pos h, dropw_nil p l]; simp [h]
    · rw [List.dropWhile_cons_of_neg h]; simp [h]
theorem trim_blank (l : List UInt8) : (Lib.trimB l 0).isEmpty = blankB l := by
  unfold Lib.trimB Lib.trimLeftB Lib.trimRightB blankB
  rw [Bool.eq_iff_iff, List.isEmpty_iff, dropw_nil]
  simp only [List.all_eq_true, beq_iff_eq]
  constructor
  · intro h b hb
    by_cases hc : b ∈ (l.reverse.dropWhile (· == 0)).reverse
    · exact h b hc
    · rw [List.mem_reverse] at hc
      have h1 : b ∈ l.reverse := by rwa [List.mem_reverse]
      rw [← List.takeWhile_append_dropWhile (p := (· == 0)) (l := l.reverse)] at h1
      rcases List.mem_append.1 h1 with h2 | h2
      · have := List.all_eq_true.1 (List.all_takeWhile (p := (· == 0)) (l := l.reverse)) b h2
        simpa using this
      · exact absurd h2 hc
  · intro h b hb
    rw [List.mem_reverse] at hb
    have := (List.dropWhile_sublist (· == 0)).subset hb
    rw [List.mem_reverse] at this
    exact h b this
theorem blank_any (s : ByteArray) (w : World) (hs : s.size ≤ 1000000) :
    Calls Tryd.prog 34 #[.string s] w fun e w' => e = .returned (.bool (blankB s.data.toList)) ∧ Below w.heap.size w w' := by
  have ht := trim_blank s.data.toList
  have HT := Lib.hid ht
  clear ht
  go_enter Tryd.func34, Tryd.ntmps34
  go_wp2_with fail
  refine (Go.Proofs.Tryd.strings_Trim_one s 0 (by decide) _ (by omega)).mono ?_
  rintro e w1 ⟨rfl, hw⟩
  have hb : Below w.heap.size w w1 := by rcases hw with rfl | rfl; exact Below.refl _ _; exact (Below.refl _ _).drew
  clear hw
  go_wp2_with fail
  go_ret
  exact ⟨by rw [← HT.out]; rfl, hb⟩
theorem rblank_any (s : ByteArray) (w : World) (hs : s.size ≤ 1000000) :
    Calls Tryd.prog 35 #[.string s] w fun e w' => e = .returned (.bool (blankB s.data.toList)) ∧ w = w' := by
  go_enter Tryd.func35, Tryd.ntmps35
  go_wp2
  go_loop [3] (fun v => ∃ k : Nat, k ≤ s.size ∧ v = .int .i64 k ∧ ∀ j, j < k → s.data.toList[j]? = some 0) (fun v => s.size - (intOf v).toNat)
  case atStart => exact ⟨0, by omega, rfl, fun j hj => absurd hj (Nat.not_lt_zero _)⟩
  case round =>
    obtain ⟨k, hk, rfl, hj⟩ := hrel
    by_cases hlt : k < s.size
    · have hget : s.data.toList[k]? = some s[k] := by rw [List.getElem?_eq_getElem (by rw [size_len]; exact hlt)]; rfl
      by_cases h0 : s[k] = 0
      · have ht := byte_bne' s[k] 0 0 rfl h0
        have HJ : ∀ j, j < k + 1 → s.data.toList[j]? = some 0 := by
          intro j hjk
          by_cases e : j = k
          · subst e; rw [hget, h0]
          · exact hj j (by omega)
        have HJ' := Lib.hid HJ
        clear hj HJ hget h0
        go_wp2
        go_round
        case rel => exact ⟨k + 1, by omega, by go_num, HJ'.out⟩
        case measure => simp [intOf]; omega
      · have ht := byte_bne s[k] 0 0 rfl h0
        have hf : blankB s.data.toList = false := by
          rw [← Bool.not_eq_true]
          intro g
          have := List.all_eq_true.1 g s[k] (List.mem_iff_getElem?.2 ⟨k, hget⟩)
          exact h0 (by simpa using this)
        have HF := Lib.hid hf
        clear hj hf hget h0
        go_wp2
        go_ret
        exact ⟨by rw [HF.out]; rfl, rfl⟩
    · have : k = s.size := by omega
      subst this
      have hf : blankB s.data.toList = true := by
        refine List.all_eq_true.2 fun b hb => ?_
        obtain ⟨j, hjl, e⟩ := List.getElem_of_mem hb
        have := hj j (by rwa [size_len] at hjl)
        rw [List.getElem?_eq_getElem hjl, e] at this
        simpa using this
      have HF := Lib.hid hf
      clear hj hf
      go_wp2
      go_ret
      exact ⟨by rw [HF.out]; rfl, rfl⟩
end Go.Proofs.YtpfblnegaipgdaaDoor
