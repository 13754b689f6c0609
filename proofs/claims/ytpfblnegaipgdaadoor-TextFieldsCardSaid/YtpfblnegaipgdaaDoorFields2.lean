import Derived.Test.YtpfblnegaipgdaaDoorFields
namespace Go.Proofs.YtpfblnegaipgdaaDoor
open Go.RowKit

def fitB (l : List UInt8) (n : Int) : Bool := decide (0 ≤ n ∧ n ≤ 512 ∧ (l.length : Int) ≤ n ∧ headL l = l)
theorem fit_iff (l : List UInt8) (n : Int) : fitB l n = true ↔ (0 ≤ n ∧ n ≤ 512 ∧ (l.length : Int) ≤ n ∧ headL l = l) := by unfold fitB; exact decide_eq_true_iff
def padL (l : List UInt8) (n : Nat) : List UInt8 := l ++ List.replicate (n - l.length) 0
def writeV (l : List UInt8) (n : Int) : Value := if fitB l n = true then .tuple #[.string (S (padL l n.toNat)), .bool true] else .tuple #[.string (S []), .bool false]

theorem write_any (s : ByteArray) (n : Int) (w : World) (hs : s.size ≤ 1000000) :
    Calls Tryd.prog 30 #[.string s, .int .i64 n] w fun e w' => e = .returned (writeV s.data.toList n) ∧ Below w.heap.size w w' := by
  by_cases hr : 0 ≤ n ∧ n ≤ 512 ∧ (s.size : Int) ≤ n
  · obtain ⟨r1, r2, r3⟩ := hr
    rcases index_head s.data.toList with ⟨h1, h2, _⟩ | ⟨o, h0, h1, _, h2⟩
    · obtain ⟨m, rfl⟩ : ∃ m : Nat, n = m := ⟨n.toNat, by omega⟩
      have HF := Lib.hid (show writeV s.data.toList m = .tuple #[.string (S (padL s.data.toList m)), .bool true] by
        unfold writeV
        rw [if_pos ((fit_iff _ _).2 ⟨r1, r2, by rw [size_len]; exact r3, h2⟩), Int.toNat_natCast])
      have hrep : (⟨(Lib.repeatL (⟨#[0]⟩ : ByteArray).data.toList (m - s.size)).toArray⟩ : ByteArray) = S (List.replicate (m - s.size) 0) := by
        have := Lib.repeatL_replicate (0 : UInt8) 1 (m - s.size)
        rw [Nat.mul_one] at this
        show S (Lib.repeatL [0] (m - s.size)) = _
        exact congrArg S this
      have hpad : s ++ S (List.replicate (m - s.size) 0) = S (padL s.data.toList m) := by
        have := S_append s.data.toList (List.replicate (m - s.size) 0)
        rw [← S_eta] at this
        rw [this, padL, size_len]
      have HP := Lib.hid hpad
      have HR := Lib.hid hrep
      have H1 := Lib.hid h1
      clear h1 h2 hpad hrep
      go_enter Tryd.func30, Tryd.ntmps30
      go_wp2_with fail
      refine (Go.Proofs.Tryd.strings_IndexByte _ _ _).mono ?_
      rintro e w1 ⟨rfl, rfl⟩
      rw [show ((0 : Int).toNat.toUInt8) = 0 from rfl, H1.out]
      go_wp2_with fail
      rw [show ((m : Int) - (s.size : Int)) = ((m - s.size : Nat) : Int) by omega]
      refine (Go.Proofs.Tryd.strings_Repeat _ (m - s.size) _ (by omega) (by show 1 * (m - s.size) ≤ _; omega)).mono ?_
      rintro e w2 ⟨rfl, hb2⟩
      rw [HR.out]
      go_wp2_with fail
      go_ret2
      refine ⟨?_, hb2⟩
      rw [HF.out, ← HP.out]; rfl
    · have HF := Lib.hid (show writeV s.data.toList n = .tuple #[.string (S []), .bool false] by
        unfold writeV
        rw [if_neg (fun h => h2 ((fit_iff _ _).1 h).2.2.2)])
      have H1 := Lib.hid h1
      clear h1 h2
      go_enter Tryd.func30, Tryd.ntmps30
      go_wp2_with fail
      refine (Go.Proofs.Tryd.strings_IndexByte _ _ _).mono ?_
      rintro e w1 ⟨rfl, rfl⟩
      rw [show ((0 : Int).toNat.toUInt8) = 0 from rfl, H1.out]
      go_wp2_with fail
      go_ret2
      refine ⟨?_, Below.refl _ _⟩
      rw [HF.out]; rfl
  · have HF := Lib.hid (show writeV s.data.toList n = .tuple #[.string (S []), .bool false] by
      unfold writeV
      rw [if_neg (fun h => hr (by have := (fit_iff _ _).1 h; rw [size_len] at this; exact ⟨this.1, this.2.1, this.2.2.1⟩))])
    by_cases r1 : n < 0
    · clear hr
      go_enter Tryd.func30, Tryd.ntmps30
      go_wp2_with fail
      go_ret2
      refine ⟨?_, Below.refl _ _⟩
      rw [HF.out]; rfl
    by_cases r2 : 512 < n
    · clear hr
      go_enter Tryd.func30, Tryd.ntmps30
      go_wp2_with fail
      go_ret2
      refine ⟨?_, Below.refl _ _⟩
      rw [HF.out]; rfl
    have r3 : n < s.size := by omega
    clear hr
    go_enter Tryd.func30, Tryd.ntmps30
    go_wp2_with fail
    go_ret2
    refine ⟨?_, Below.refl _ _⟩
    rw [HF.out]; rfl

theorem rwrite_any (l : List UInt8) (n : Int) (w : World) (hs : l.length ≤ 1000000) :
    Calls Tryd.prog 31 #[.string (S l), .int .i64 n] w fun e w' => e = .returned (writeV l n) ∧ w = w' := by
  by_cases hr : 0 ≤ n ∧ n ≤ 512 ∧ (l.length : Int) ≤ n
  · obtain ⟨r1, r2, r3⟩ := hr
    by_cases h2 : headL l = l
    · obtain ⟨m, rfl⟩ : ∃ m : Nat, n = m := ⟨n.toNat, by omega⟩
      have HF := Lib.hid (show writeV l m = .tuple #[.string (S (padL l m)), .bool true] by
        unfold writeV
        rw [if_pos ((fit_iff _ _).2 ⟨r1, r2, r3, h2⟩), Int.toNat_natCast])
      have hb : (headL l == l) = true := beq_iff_eq.2 h2
      have H2 := Lib.hid h2
      clear h2
      go_enter Tryd.func31, Tryd.ntmps31
      go_wp2_with fail
      refine (rread_any (S l) _ (by rw [S_size]; exact hs)).mono ?_
      rintro e w' ⟨rfl, rfl⟩
      rw [S_data]
      go_wp2_with fail
      go_loop [0] (fun v => ∃ k : Nat, l.length ≤ k ∧ k ≤ m ∧ v = .string (S (padL l k))) (fun v => match v with | .string t => m - t.size | _ => 0)
      case atStart => exact ⟨l.length, Nat.le_refl _, by omega, by rw [padL, Nat.sub_self]; simp⟩
      case round =>
        obtain ⟨k, hk1, hk, rfl⟩ := hrel
        have hsz : (padL l k).length = k := by rw [padL, List.length_append, List.length_replicate]; omega
        have hnx : S (padL l k) ++ S [0] = S (padL l (k + 1)) := by
          rw [S_append, padL, padL, List.append_assoc, show k + 1 - l.length = k - l.length + 1 by omega, List.replicate_succ']
        have HS := Lib.hid hsz
        have HN := Lib.hid hnx
        have z0 : (padL l k).length ≤ k := by omega
        have z1 : k ≤ (padL l k).length := by omega
        clear hsz hnx
        by_cases hlt : k < m
        · go_wp2
          go_round
          case rel => exact ⟨k + 1, by omega, by omega, by rw [← HN.out]; rfl⟩
          case measure =>
            have e1 : (padL l k ++ [0]).length = k + 1 := by rw [List.length_append, HS.out]; rfl
            show m - (S (padL l k) ++ S [0]).size < m - (S (padL l k)).size
            rw [S_append, S_size, S_size, e1, HS.out]
            omega
        · have : k = m := by omega
          subst this
          go_wp2
          go_ret2
          exact ⟨by rw [HF.out]; rfl, rfl⟩
    · have HF := Lib.hid (show writeV l n = .tuple #[.string (S []), .bool false] by
        unfold writeV
        rw [if_neg (fun h => h2 ((fit_iff _ _).1 h).2.2.2)])
      have hb : (headL l == l) = false := beq_eq_false_iff_ne.2 h2
      clear h2
      go_enter Tryd.func31, Tryd.ntmps31
      go_wp2_with fail
      refine (rread_any (S l) _ (by rw [S_size]; exact hs)).mono ?_
      rintro e w' ⟨rfl, rfl⟩
      rw [S_data]
      go_wp2_with fail
      go_ret2
      refine ⟨?_, rfl⟩
      rw [HF.out]; rfl
  · have HF := Lib.hid (show writeV l n = .tuple #[.string (S []), .bool false] by
      unfold writeV
      rw [if_neg (fun h => hr (by have := (fit_iff _ _).1 h; exact ⟨this.1, this.2.1, this.2.2.1⟩))])
    by_cases r1 : n < 0
    · clear hr
      go_enter Tryd.func31, Tryd.ntmps31
      go_wp2_with fail
      go_ret2
      refine ⟨?_, rfl⟩
      rw [HF.out]; rfl
    by_cases r2 : 512 < n
    · clear hr
      go_enter Tryd.func31, Tryd.ntmps31
      go_wp2_with fail
      go_ret2
      refine ⟨?_, rfl⟩
      rw [HF.out]; rfl
    have r3 : n < l.length := by omega
    clear hr
    go_enter Tryd.func31, Tryd.ntmps31
    go_wp2_with fail
    go_ret2
    refine ⟨?_, rfl⟩
    rw [HF.out]; rfl
end Go.Proofs.YtpfblnegaipgdaaDoor
