/- when.pad. -/
import Derived.Test.YtjldphpdfckjnaaDoorItoa
import Derived.Test.YtjldphpdfckjnaaDoorWhenH
namespace Go.Proofs.YtjldphpdfckjnaaDoor
open Go.RowKit Go.Lib

theorem rep_one (c : UInt8) (n : Nat) : Lib.repeatL [c] n = List.replicate n c := by
  induction n with
  | zero => rfl
  | succ n ih => rw [Lib.repeatL, ih, List.replicate_succ]; rfl
set_option maxRecDepth 100000 in
theorem pad_any (v n : Nat) (hv : v ≤ 1000000000) (hn : n ≤ 20) (w : World) {B : Nat} (hT : TB B w) :
    Calls Tryd.prog 114 #[.int .i64 v, .int .i64 n] w fun e w' => e = .returned (.string (S (padL n v))) ∧ Below w.heap.size w w' := by
  have hl := digs_len 9 v (by omega)
  have hmx : max ((n : Int) - ((decDigits v).length : Int)) 0 = ((n - (decDigits v).length : Nat) : Int) := by omega
  have hcat : S (List.replicate (n - (decDigits v).length) 48) ++ S (decDigits v) = S (padL n v) := S_append _ _
  have HC := Lib.hid hcat
  have I := Lib.hid (fun W hT => itoa_any v hv W (B := B) hT)
  clear hcat
  generalize hq : n - (decDigits v).length = q at *
  have hq2 : q ≤ 20 := by omega
  clear hq
  generalize decDigits v = d at *
  go_enter Tryd.func114, Tryd.ntmps114
  go_wp2_with fail
  refine (I.out _ hT).mono ?_
  rintro e w1 ⟨rfl, hb1⟩
  go_wp2_with fail
  refine (Go.Proofs.Tryd.strings_Repeat _ q _ (by omega) (by show 1 * q ≤ _; omega)).mono ?_
  rintro e w2 ⟨rfl, hb2⟩
  have hz : (⟨(Lib.repeatL (⟨#[48]⟩ : ByteArray).data.toList q).toArray⟩ : ByteArray) = S (List.replicate q 48) := by
    rw [show (⟨#[48]⟩ : ByteArray).data.toList = [48] from rfl, rep_one]; rfl
  rw [hz]
  have hrl : (List.replicate q (48 : UInt8)).length ≤ 20 := by rw [List.length_replicate]; exact hq2
  have HC2 := HC.out
  generalize List.replicate q (48 : UInt8) = z at *
  go_wp2_with fail
  go_ret
  exact ⟨by rw [← HC2]; rfl, hb1.trans (hb2.mono hb1.size)⟩
end Go.Proofs.YtjldphpdfckjnaaDoor
