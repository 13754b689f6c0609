/- strip.Strip, the chapter's example; what they compute. -/
import Derived.Test.YtpdknjpicaokkaaDoorParts
import Derived.Lib.TrimByte
namespace Go.Proofs.YtpdknjpicaokkaaDoor
open Go.RowKit

def leadL (l : List UInt8) : List UInt8 := Lib.trimLeftB l 47
def restL (l : List UInt8) : List UInt8 := leadL ((leadL l).dropWhile (· != 47))
def stripL : Nat → List UInt8 → List UInt8
  | 0, l => l
  | n + 1, l => stripL n (restL l)
theorem lead_nil : leadL [] = [] := rfl
theorem rest_nil : restL [] = [] := rfl
theorem strip_nil : ∀ n : Nat, stripL n [] = []
  | 0 => rfl
  | n + 1 => by rw [stripL, rest_nil]; exact strip_nil n
theorem strip_add : ∀ (m n : Nat) (l : List UInt8), stripL (m + n) l = stripL n (stripL m l)
  | 0, n, l => by rw [Nat.zero_add, stripL]
  | m + 1, n, l => by rw [show m + 1 + n = (m + n) + 1 by omega, stripL, stripL]; exact strip_add m n _
theorem dropWhile_le (p : UInt8 → Bool) : ∀ l : List UInt8, (l.dropWhile p).length ≤ l.length
  | [] => by simp
  | b :: l => by
    rw [List.dropWhile_cons]
    split
    · have := dropWhile_le p l; simp; omega
    · exact Nat.le_refl _
theorem lead_le (l : List UInt8) : (leadL l).length ≤ l.length := dropWhile_le _ l
theorem rest_le (l : List UInt8) : (restL l).length ≤ l.length := Nat.le_trans (lead_le _) (Nat.le_trans (dropWhile_le _ _) (lead_le l))
theorem strip_le : ∀ (n : Nat) (l : List UInt8), (stripL n l).length ≤ l.length
  | 0, _ => Nat.le_refl _
  | n + 1, l => Nat.le_trans (strip_le n _) (rest_le l)
theorem idx_drop : ∀ l : List UInt8, (Lib.indexByte l 47 = -1 ∧ l.dropWhile (· != 47) = []) ∨ ∃ k : Nat, k ≤ l.length ∧ Lib.indexByte l 47 = k ∧ l.drop k = l.dropWhile (· != 47)
  | [] => .inl ⟨rfl, rfl⟩
  | b :: l => by
    by_cases hb : b = 47
    · subst hb
      exact .inr ⟨0, by simp, by simp [Lib.indexByte], by simp⟩
    · have hb1 : (b == 47) = false := by simpa using hb
      have hb2 : (b != 47) = true := by simp [hb]
      rcases idx_drop l with ⟨h1, h2⟩ | ⟨k, hk, h1, h2⟩
      · left
        refine ⟨by simp [Lib.indexByte, hb1, h1], ?_⟩
        rw [List.dropWhile_cons, if_pos hb2]; exact h2
      · right
        refine ⟨k + 1, by simp; omega, ?_, ?_⟩
        · have : ¬ ((k : Int) = -1) := by omega
          simp [Lib.indexByte, hb1, h1, this]
        · rw [List.dropWhile_cons, if_pos hb2]; exact h2
theorem strip_ext (s : List UInt8) (k : Nat) : (S s).extract k s.length = S (s.drop k) := by
  rw [S_extract, ← List.length_drop, List.take_length]

def stripV (l : List UInt8) (n : Int) : Value := if n < 0 then .tuple #[.string (S []), .bool false] else .tuple #[.string (S (stripL n.toNat l)), .bool (!(stripL n.toNat l).isEmpty)]
def stripOk (l : List UInt8) (n : Int) : Bool := !decide (n < 0) && !(stripL n.toNat l).isEmpty
def stripS (l : List UInt8) (n : Int) : List UInt8 := if n < 0 then [] else stripL n.toNat l
theorem strip_val (l : List UInt8) (n : Int) : stripV l n = .tuple #[.string (S (stripS l n)), .bool (stripOk l n)] := by
  unfold stripV stripS stripOk
  by_cases h : n < 0 <;> simp [h]
theorem S_empty (l : List UInt8) : (decide (S l = S [])) = l.isEmpty := by
  cases l with
  | nil => simp
  | cons b l =>
    simp only [List.isEmpty_cons, decide_eq_false_iff_not]
    intro h
    have := congrArg (fun s : ByteArray => s.data.toList) h
    simp [S] at this

set_option maxRecDepth 100000 in
set_option maxHeartbeats 1000000 in
theorem Strip_any (s : List UInt8) (n : Int) (hn : n < 9223372036854775808) (w : World) :
    Calls Tryd.prog 61 #[.string (S s), .int .i64 n] w fun e w' => e = .returned (stripV s n) ∧ w' = w := by
  by_cases h0 : n < 0
  · have HV := Lib.hid (show stripV s n = .tuple #[.string (S []), .bool false] by unfold stripV; rw [if_pos h0])
    go_enter Tryd.func61, Tryd.ntmps61
    go_wp2_with fail
    go_ret2
    exact ⟨by rw [HV.out]; rfl, rfl⟩
  obtain ⟨m, rfl⟩ : ∃ m : Nat, n = m := ⟨n.toNat, by omega⟩
  have HN := Lib.hid hn
  clear hn
  have HV := Lib.hid (show stripV s m = .tuple #[.string (S (stripL m s)), .bool (!(stripL m s).isEmpty)] by unfold stripV; rw [if_neg h0, Int.toNat_natCast])
  go_enter Tryd.func61, Tryd.ntmps61
  go_wp2
  go_loopw [0, 1] (fun s' n' wr => wr = w ∧ ∃ (l : List UInt8) (k : Nat), s' = .string (S l) ∧ n' = .int .i64 k ∧ k ≤ m ∧ l.length ≤ s.length ∧ stripL k l = stripL m s) (fun _ n' _ => (intOf n').toNat)
  case atStart => exact ⟨rfl, s, m, rfl, rfl, Nat.le_refl _, Nat.le_refl _, rfl⟩
  case round =>
    obtain ⟨rfl, l, k, rfl, rfl, hk, hl, he⟩ := hrel
    by_cases hk0 : k = 0
    · subst hk0
      rw [stripL] at he
      subst he
      go_wp2_with fail
      go_ret2
      exact ⟨by rw [HV.out]; rfl, rfl⟩
    obtain ⟨j, rfl⟩ : ∃ j, k = j + 1 := ⟨k - 1, by omega⟩
    by_cases hl0 : l = []
    · subst hl0
      rw [strip_nil] at he
      go_wp2_with fail
      go_ret2
      exact ⟨by rw [HV.out, ← he]; rfl, rfl⟩
    have hl1 : l.isEmpty = false := by cases l with | nil => exact absurd rfl hl0 | cons => rfl
    rw [stripL, restL] at he
    have hll := Nat.le_trans (lead_le l) hl
    have hidx := idx_drop (leadL l)
    have hrl := Nat.le_trans (rest_le l) hl
    rw [restL] at hrl
    have HE := Lib.hid he
    have HR := Lib.hid hrl
    clear he hrl
    go_wp2_with fail
    refine (Go.Proofs.Tryd.strings_TrimLeft_one (S l) 47 (by decide) _).mono ?_
    rintro e w1 ⟨rfl, rfl⟩
    rw [S_data]
    rw [show (⟨(Lib.trimLeftB l 47).toArray⟩ : ByteArray) = S (leadL l) from rfl]
    generalize leadL l = g at *
    go_wp2_with fail
    refine (Go.Proofs.Tryd.strings_IndexByte _ _ _).mono ?_
    rintro e w2 ⟨rfl, rfl⟩
    rw [show ((47 : Int).toNat.toUInt8) = 47 from rfl, S_data]
    rcases hidx with ⟨h1, h2⟩ | ⟨o, ho, h1, h2⟩
    · rw [h1]
      rw [h2, lead_nil, strip_nil] at HE
      go_wp2_with fail
      go_ret2
      exact ⟨by rw [HV.out, ← HE.out]; rfl, rfl⟩
    · rw [h1]
      have H2 := Lib.hid h2
      clear h1 h2
      have hno : ¬ ((o : Int) < 0) := by omega
      have hge : (0 : Int) ≤ (o : Int) := by omega
      have hsz : o ≤ (S g).size := ho
      have hog : (o : Int) ≤ (g.length : Int) := by omega
      have hd := strip_ext g o
      rw [H2.out] at hd
      generalize hq : g.dropWhile (· != 47) = q at *
      clear hq
      clear hsz hog hge hl0
      dsimp only
      repeat (first | go_values | go_skip | go_guarded | go_step | go_upon | go_back)
      refine (Go.Proofs.Tryd.strings_TrimLeft_one _ 47 (by decide) _).mono ?_
      rintro e w1 ⟨rfl, rfl⟩
      rw [S_data, show (⟨(Lib.trimLeftB q 47).toArray⟩ : ByteArray) = S (leadL q) from rfl]
      dsimp only
      repeat (first | go_values | go_skip | go_guarded | go_step | go_upon | go_back)
      have hn := HN.out
      have hw : wrap64 (j : Int) = j := by unfold wrap64; omega
      rw [hw]
      refine ⟨⟨trivial, _, j, rfl, rfl, by omega, HR.out, HE.out⟩, ?_⟩
      show (Int.toNat (j : Int)) < (Int.toNat ((j + 1 : Nat) : Int))
      omega

set_option maxRecDepth 100000 in
theorem awake_any26 (w : World) : Calls Tryd.prog 19 #[] w fun e w' => e = .returned (.bool true) ∧ Below w.heap.size w w' := by
  have e1 : stripV [97, 47, 47, 98, 47, 99] 1 = .tuple #[.string ⟨#[98, 47, 99]⟩, .bool true] := by unfold stripV; rw [if_neg (by decide)]; rfl
  have e2 : stripV [97, 47, 47, 98, 47, 99] 3 = .tuple #[.string ⟨#[]⟩, .bool false] := by unfold stripV; rw [if_neg (by decide)]; rfl
  have e3 : partsL [97, 47, 47, 98, 47, 99] = [[97], [98], [99]] := by decide +kernel
  have hp := fun w => Parts_any [97, 47, 47, 98, 47, 99] (by decide) w
  rw [e3] at hp
  have h1 := fun w => Strip_any [97, 47, 47, 98, 47, 99] 1 (by decide) w
  have h2 := fun w => Strip_any [97, 47, 47, 98, 47, 99] 3 (by decide) w
  rw [e1] at h1
  rw [e2] at h2
  have H1 := Lib.hid h1
  have H2 := Lib.hid h2
  have HP := Lib.hid hp
  clear h1 h2 hp e1 e2 e3
  go_enter Tryd.func19, Tryd.ntmps19
  go_wp2_with fail
  refine (H1.out _).mono ?_
  rintro e w1 ⟨rfl, rfl⟩
  go_wp2_with fail
  refine (H2.out _).mono ?_
  rintro e w1 ⟨rfl, rfl⟩
  go_wp2_with fail
  refine (HP.out _).mono ?_
  rintro e w1 ⟨⟨v, rfl, hO⟩, hb⟩
  obtain ⟨a, c, rfl, _⟩ := hO.strs
  go_wp2_with fail
  go_ret
  exact ⟨rfl, hb⟩
end Go.Proofs.YtpdknjpicaokkaaDoor
