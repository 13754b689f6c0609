import Derived.Test.YtjaiadfpdkjkpaaDoorKit
import Derived.Test.YtjaiadfpdkjkpaaDoorShelf
import Derived.RegionTactic
import Derived.ChangeAlike
import Derived.Deep.RegionHeld3
namespace Go.Proofs.YtjaiadfpdkjkpaaDoor
open Go.RowKit

/-- a scan at a block: what is left, and is it well so far -/
def ScanAt (w : World) (b : Nat) (s : ByteArray) (ok : Bool) : Prop := w.heap[b]? = some (.cells #[.string s, .bool ok] 93 (0, 0))
theorem ScanAt.c0 {w : World} {b : Nat} {s : ByteArray} {ok : Bool} (h : ScanAt w b s ok) : w.cell? ⟨b, 0, none⟩ = some (.string s) := by
  unfold ScanAt at h; simp [World.cell?, h]
theorem ScanAt.c1 {w : World} {b : Nat} {s : ByteArray} {ok : Bool} (h : ScanAt w b s ok) : w.cell? ⟨b, 1, none⟩ = some (.bool ok) := by
  unfold ScanAt at h; simp [World.cell?, h]
theorem ScanAt.f {w : World} {b : Nat} {s : ByteArray} {ok : Bool} (h : ScanAt w b s ok) (o : Nat) : w.frozen? ⟨b, o, none⟩ = false := by
  unfold ScanAt at h; simp [World.frozen?, h]
theorem ScanAt.drew {w : World} {b : Nat} {s : ByteArray} {ok : Bool} (h : ScanAt w b s ok) : ScanAt w.drew b s ok := h
theorem ScanAt.drewN {w : World} {b n : Nat} {s : ByteArray} {ok : Bool} (h : ScanAt w b s ok) : ScanAt (w.drewN n) b s ok := h
theorem ScanAt.set0 {w : World} {b : Nat} {s : ByteArray} {ok : Bool} (h : ScanAt w b s ok) (s' : ByteArray) : ScanAt (w.setCell ⟨b, 0, none⟩ (.string s')) b s' ok := by
  unfold ScanAt at *
  unfold World.setCell
  show (w.heap.modify b _)[b]? = _
  rw [Array.getElem?_modify, if_pos rfl, h]
  rfl
theorem ScanAt.set1 {w : World} {b : Nat} {s : ByteArray} {ok : Bool} (h : ScanAt w b s ok) (ok' : Bool) : ScanAt (w.setCell ⟨b, 1, none⟩ (.bool ok')) b s ok' := by
  unfold ScanAt at *
  unfold World.setCell
  show (w.heap.modify b _)[b]? = _
  rw [Array.getElem?_modify, if_pos rfl, h]
  rfl
theorem ScanAt.below {w w' : World} {b B : Nat} {s : ByteArray} {ok : Bool} (h : ScanAt w b s ok) (hb : Below B w w') (hB : b < B) : ScanAt w' b s ok := by
  unfold ScanAt at *; rw [hb.block b hB]; exact h
theorem ScanAt.lt {w : World} {b : Nat} {s : ByteArray} {ok : Bool} (h : ScanAt w b s ok) : b < w.heap.size := by
  rcases Nat.lt_or_ge b w.heap.size with g | g
  · exact g
  · unfold ScanAt at h; rw [Array.getElem?_eq_none g] at h; cases h

/-- only that block has been written -/
def Own1 (b : Nat) (w w' : World) : Prop := w.grownBy w' (some b)
theorem Own1.refl (b : Nat) (w : World) : Own1 b w w := ⟨rfl, rfl, rfl, Nat.le_refl _, fun _ _ _ => rfl⟩
theorem Own1.trans {b : Nat} {w u v : World} (h : Own1 b w u) (k : Own1 b u v) : Own1 b w v :=
  ⟨k.os.trans h.os, k.tape.trans h.tape, k.output.trans h.output, Nat.le_trans h.size k.size, fun i hi hn => (k.block i (Nat.lt_of_lt_of_le hi h.size) hn).trans (h.block i hi hn)⟩
theorem Own1.drew {b : Nat} {w u : World} (h : Own1 b w u) : Own1 b w u.drew := ⟨h.os, h.tape, h.output, h.size, h.block⟩
theorem Own1.drewN {b n : Nat} {w u : World} (h : Own1 b w u) : Own1 b w (u.drewN n) := ⟨h.os, h.tape, h.output, h.size, h.block⟩
theorem Own1.set {b o : Nat} {w u : World} (h : Own1 b w u) (v : Value) : Own1 b w (u.setCell ⟨b, o, none⟩ v) :=
  h.trans ⟨rfl, rfl, rfl, by simp [World.setCell], fun i hi hn => by
    show (u.heap.modify b _)[i]? = _
    rw [Array.getElem?_modify, if_neg (fun e => hn (by rw [e]))]⟩
theorem Own1.below {b B : Nat} {a w w' : World} (h : Own1 b w w') (hb : Below B a w) (hB : B ≤ b) (hw : b < w.heap.size) : Below B a w' :=
  hb.trans ⟨h.os, h.tape, h.output, h.size, fun i hi => h.block i (by omega) (fun e => by injection e; omega)⟩

/-- the number of some digits -/
def decI (l : List UInt8) : Int := l.foldl (fun v c => 10 * v + ((c.toNat : Int) - 48)) 0
theorem decI_snoc (l : List UInt8) (c : UInt8) : decI (l ++ [c]) = 10 * decI l + ((c.toNat : Int) - 48) := by
  unfold decI; rw [List.foldl_append]; rfl
def AllDig (l : List UInt8) : Prop := ∀ c ∈ l, 48 ≤ (c.toNat : Int) ∧ (c.toNat : Int) ≤ 57
theorem decI_bd : ∀ (n : Nat) (l : List UInt8), AllDig l → l.length = n → 0 ≤ decI l ∧ decI l < 10 ^ n
  | 0, l, _, h => by
    have : l = [] := List.eq_nil_of_length_eq_zero h
    subst this; exact ⟨by decide, by decide⟩
  | n + 1, l, hl, h => by
    have hne : l ≠ [] := by intro e; subst e; cases h
    have e := List.dropLast_concat_getLast hne
    have h1 := decI_bd n l.dropLast (fun c hc => hl c ((List.dropLast_sublist l).subset hc)) (by simp; omega)
    have h2 := hl _ (List.getLast_mem hne)
    rw [← e, decI_snoc, Int.pow_succ]
    omega
theorem allDig_of (l : List UInt8) (h : (l.all fun c => decide (48 ≤ (c.toNat : Int) ∧ (c.toNat : Int) ≤ 57)) = true) : AllDig l := fun c hc => by
  have := List.all_eq_true.1 h c hc
  exact of_decide_eq_true this
theorem AllDig.take {l : List UInt8} (h : AllDig l) (k : Nat) : AllDig (l.take k) := fun c hc => h c (List.mem_of_mem_take hc)

set_option maxRecDepth 100000 in
set_option maxHeartbeats 1000000 in
theorem digits_good (b : Nat) (s : ByteArray) (n : Nat) (hn : n ≤ s.size) (hn9 : n ≤ 9) (hs : s.size ≤ 1000000) (hd : AllDig (s.data.toList.take n)) (w : World) (hw : ScanAt w b s true) :
    Calls Tryd.prog 75 #[.pointer (some ⟨b, 0, none⟩), .int .i64 n] w fun e w' => e = .returned (.int .i64 (decI (s.data.toList.take n))) ∧ ScanAt w' b (s.extract n s.size) true ∧ Own1 b w w' := by
  have c0 := hw.c0
  have c1 := hw.c1
  have hlen : decide (s.size < n) = false := by rw [decide_eq_false_iff_not]; omega
  go_enter Tryd.func75, Tryd.ntmps75
  go_wp2
  go_loopw [5, 26] (fun v i wr => ∃ k : Nat, k ≤ n ∧ i = .int .i64 k ∧ v = .int .i64 (decI (s.data.toList.take k)) ∧ ScanAt wr b s true ∧ Own1 b w wr) (fun _ i _ => n - (intOf i).toNat)
  case atStart => exact ⟨0, by omega, rfl, rfl, hw, Own1.refl _ _⟩
  case round =>
    clear c0 c1
    obtain ⟨k, hk, rfl, rfl, hS, hO⟩ := hrel
    have c0 := hS.c0
    have c1 := hS.c1
    have f1 := hS.f 1
    have f0 := hS.f 0
    by_cases hlt : k < n
    · have hts := take_snoc s k (by omega)
      have hdd := hd s[k] (by
        rw [List.mem_take_iff_getElem]
        exact ⟨k, by rw [size_len]; omega, rfl⟩)
      have hbd := decI_bd k (s.data.toList.take k) (by have := hd.take k; rwa [List.take_take, Nat.min_eq_left (by omega)] at this) (by rw [List.length_take, size_len]; omega)
      have hp : (10 : Int) ^ k ≤ 10 ^ 9 := by
        have : (10 : Nat) ^ k ≤ 10 ^ 9 := Nat.pow_le_pow_right (by decide) (by omega)
        exact_mod_cast this
      have hb1 : 0 ≤ decI (s.data.toList.take k) := hbd.1
      have hb2 : decI (s.data.toList.take k) ≤ 1000000000 := by have := hbd.2; omega
      have HS := Lib.hid hts
      clear hts hbd hp
      go_wp2
      go_roundw
      case rel => exact ⟨k + 1, by omega, by go_num, by rw [HS.out, decI_snoc], hS.set1 true, hO.set _⟩
      case measure => simp [intOf]; omega
    · have : k = n := by omega
      subst this
      go_wp2
      go_ret
      exact ⟨rfl, hS.set0 _, hO.set _⟩

theorem ne_empty (s : ByteArray) (h : 0 < s.size) : s.toList.isEmpty = false := by
  rw [ByteArray.toList_eq]
  rw [← size_len] at h
  cases hh : s.data.toList with
  | nil => rw [hh] at h; cases h
  | cons => rfl
theorem u8_back (c : UInt8) : (c.toNat : Int).toNat.toUInt8 = c := by simp

/-- is a byte one of a text -/
theorem sign_good (b : Nat) (s t : ByteArray) (c : UInt8) (h0 : 0 < s.size) (hs : s.size ≤ 1000000) (hc : s[0] = c) (ht : 0 ≤ Lib.indexByte t.data.toList c) (w : World) (hw : ScanAt w b s true) :
    Calls Tryd.prog 76 #[.pointer (some ⟨b, 0, none⟩), .string t] w fun e w' => ScanAt w' b (s.extract 1 s.size) true ∧ Own1 b w w' ∧ e = .returned (.tuple #[]) := by
  have c0 := hw.c0
  have c1 := hw.c1
  have f1 := hw.f 1
  have f0 := hw.f 0
  have hne := ne_empty s h0
  go_enter Tryd.func76, Tryd.ntmps76
  go_wp2_with fail
  refine (Go.Proofs.Tryd.strings_IndexByte _ _ _).mono ?_
  rintro e w' ⟨rfl, rfl⟩
  rw [u8_back]
  go_wp2
  go_end0
  exact ⟨(hw.set1 true).set0 _, ((Own1.refl b w').set _).set _, rfl⟩

theorem digits_l (b : Nat) (l : List UInt8) (n : Nat) (hn : n ≤ l.length) (hn9 : n ≤ 9) (hs : l.length ≤ 1000000) (hd : AllDig (l.take n)) (w : World) (hw : ScanAt w b (S l) true) :
    Calls Tryd.prog 75 #[.pointer (some ⟨b, 0, none⟩), .int .i64 n] w fun e w' => e = .returned (.int .i64 (decI (l.take n))) ∧ ScanAt w' b (S (l.drop n)) true ∧ Own1 b w w' := by
  have h := digits_good b (S l) n (by rw [S_size]; exact hn) hn9 (by rw [S_size]; exact hs) hd w hw
  refine h.mono ?_
  rintro e w' ⟨h1, h2, h3⟩
  refine ⟨h1, ?_, h3⟩
  rw [S_extract, S_size, List.take_of_length_le (by rw [List.length_drop]; exact Nat.le_refl _)] at h2
  exact h2
theorem sign_l (b : Nat) (c : UInt8) (l : List UInt8) (t : ByteArray) (hs : l.length ≤ 100000) (ht : 0 ≤ Lib.indexByte t.data.toList c) (w : World) (hw : ScanAt w b (S (c :: l)) true) :
    Calls Tryd.prog 76 #[.pointer (some ⟨b, 0, none⟩), .string t] w fun e w' => ScanAt w' b (S l) true ∧ Own1 b w w' ∧ e = .returned (.tuple #[]) := by
  have h := sign_good b (S (c :: l)) t c (by rw [S_size]; simp) (by rw [S_size]; simp; omega) rfl ht w hw
  refine h.mono ?_
  rintro e w' ⟨h1, h2, h3⟩
  refine ⟨?_, h2, h3⟩
  rw [S_extract, S_size, List.take_of_length_le (by rw [List.length_drop]; exact Nat.le_refl _)] at h1
  exact h1
set_option maxRecDepth 100000 in
set_option maxHeartbeats 1000000 in
/-- a fraction of one digit -/
theorem fraction_one (b : Nat) (w : World) (hw : ScanAt w b (S [46, 53]) true) :
    Calls Tryd.prog 78 #[.pointer (some ⟨b, 0, none⟩)] w fun e w' => e = .returned (.int .i64 500000000) ∧ ScanAt w' b (S []) true ∧ Own1 b w w' := by
  have c0 := hw.c0
  have c1 := hw.c1
  have f1 := hw.f 1
  have f0 := hw.f 0
  go_enter Tryd.func78, Tryd.ntmps78
  go_wp2_with fail
  refine (Go.Proofs.Tryd.strings_HasPrefix _ _ _).mono ?_
  rintro e w' ⟨rfl, rfl⟩
  rw [show Lib.hasPrefix (S [46, 53]).data.toList (⟨#[46]⟩ : ByteArray).data.toList = true by decide]
  have e1 : (S [46, 53]).extract 1 2 = S [53] := by rw [S_extract]; rfl
  go_wp2_with fail
  have hS1 := hw.set0 (S [53])
  have hO1 := (Own1.refl b w').set (o := 0) (.string (S [53]))
  generalize w'.setCell ⟨b, 0, none⟩ (.string (S [53])) = w1 at hS1 hO1 ⊢
  clear c0 c1 f1 f0 e1
  have c0 := hS1.c0
  have c1 := hS1.c1
  have f1 := hS1.f 1
  have f0 := hS1.f 0
  have i0 : (S [53])[0] = 53 := rfl
  go_loop [3] (fun n => n = .int .i64 0 ∨ n = .int .i64 1) (fun n => 1 - (intOf n).toNat)
  case atStart => exact .inl rfl
  case round =>
    rcases hrel with rfl | rfl
    · go_wp2
      go_round
      case rel => exact .inr rfl
      case measure => simp [intOf]
    · go_wp2_with fail
      refine (digits_l b [53] 1 (by decide) (by decide) (by decide) (allDig_of _ rfl) _ (hS1.set1 true)).mono ?_
      rintro e w2 ⟨rfl, hS2, hO2⟩
      have hO3 := (hO1.trans ((Own1.refl b w1).set _)).trans hO2
      rw [show decI (List.take 1 [53]) = 5 from rfl]
      go_wp2
      go_loop [3, 4] (fun n v => ∃ k : Nat, 1 ≤ k ∧ k ≤ 9 ∧ n = .int .i64 k ∧ v = .int .i64 (5 * 10 ^ (k - 1))) (fun n _ => 9 - (intOf n).toNat)
      case atStart => exact ⟨1, by omega, by omega, rfl, rfl⟩
      case round =>
        obtain ⟨k, hk1, hk, rfl, rfl⟩ := hrel
        have hp : (10 : Int) ^ (k - 1) ≤ 10 ^ 8 := by
          have : (10 : Nat) ^ (k - 1) ≤ 10 ^ 8 := Nat.pow_le_pow_right (by decide) (by omega)
          exact_mod_cast this
        have hp0 : 0 ≤ (10 : Int) ^ (k - 1) := Int.pow_nonneg (by decide)
        have HS := Lib.hid (show (5 : Int) * 10 ^ (k - 1) * 10 = 5 * 10 ^ k by
          have e : k = k - 1 + 1 := by omega
          have := Int.pow_succ 10 (k - 1)
          rw [Nat.succ_eq_add_one, ← e] at this
          rw [this, Int.mul_assoc])
        by_cases hlt : k < 9
        · generalize hg : (10 : Int) ^ (k - 1) = g at *
          have Hg := Lib.hid hg
          clear hg
          go_wp2
          go_round
          case rel => exact ⟨k + 1, by omega, by omega, by go_num, by rw [HS.out, Nat.add_sub_cancel]⟩
          case measure => simp [intOf]; omega
        · have : k = 9 := by omega
          subst this
          go_wp2
          go_ret
          exact ⟨rfl, hS2, hO3⟩
end Go.Proofs.YtjaiadfpdkjkpaaDoor
