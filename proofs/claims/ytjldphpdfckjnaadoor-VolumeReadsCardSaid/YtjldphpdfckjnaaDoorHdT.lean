/- Heads of members: the document's field, octal, within, walked. -/
import Derived.Test.YtjldphpdfckjnaaDoorHdN
import Derived.Test.YtjldphpdfckjnaaDoorPartBig
namespace Go.Proofs.YtjldphpdfckjnaaDoor
open Go.RowKit

theorem qsame {f : FuncId} {args : Array Value} {w : World} {n : Nat} {v : Value} (h : Calls Tryd.prog f args (w.drewN n) fun e w' => e = .returned v ∧ w.drewN n = w') :
    Calls Tryd.prog f args (w.drewN n) fun e w'' => e = .returned v ∧ ∃ m, w'' = w.drewN m :=
  Calls.quiet_of_same (h.mono fun _ _ ⟨a, b⟩ => ⟨a, b.symm⟩)
theorem readT_self (l : List UInt8) : (readT l == l) = noNul l := by
  unfold readT noNul
  induction l with
  | nil => rfl
  | cons b l ih =>
    rw [List.takeWhile_cons, List.contains_cons]
    by_cases hb : b = 0
    · subst hb
      simp
    · have h1 : (b != 0) = true := bne_iff_ne.2 hb
      have h2 : ((0 : UInt8) == b) = false := beq_eq_false_iff_ne.2 (fun e => hb e.symm)
      rw [if_pos h1, h2, Bool.false_or, ← ih]
      simp
theorem readT_nul (l : List UInt8) (h : noNul l = true) : readT l = l := by
  have := readT_self l
  rw [h] at this
  exact beq_iff_eq.1 this
/-- how many bytes a text has -/
def sizeOfV (v : Value) : Nat := match v with | .string s => s.size | _ => 0
theorem sizeOfV_S (t : List UInt8) : sizeOfV (.string (S t)) = t.length := S_size t
theorem msr (n : Nat) (t : List UInt8) (h : t.length < n) : n - sizeOfV (.string (S t ++ ⟨#[0]⟩)) < n - sizeOfV (.string (S t)) := by
  rw [show (⟨#[0]⟩ : ByteArray) = S [0] from rfl, S_append, sizeOfV_S, sizeOfV_S, List.length_append]
  simp
  omega
theorem rep_snoc (l : List UInt8) (j : Nat) : l ++ List.replicate j 0 ++ [0] = l ++ List.replicate (j + 1) 0 := by
  rw [List.append_assoc, List.replicate_succ']
set_option maxRecDepth 100000 in
set_option maxHeartbeats 2000000 in
theorem rWrite_any (l : List UInt8) (n : Nat) (w : World) (hl : l.length ≤ n) (hn : n ≤ 512) (hz : noNul l = true) :
    Calls Tryd.prog 90 #[.string (S l), .int .i64 n] w fun e w' => e = .returned (.tuple #[.string (S (padL l n)), .bool true]) ∧ w = w' := by
  have HR := Lib.hid (rRead2_any l w (by omega))
  rw [readT_nul l hz] at HR
  have hbb : (l == l) = true := beq_iff_eq.2 rfl
  have hbn : (l != l) = false := by simp
  have h1 : ¬ (n : Int) < 0 := by omega
  have h2 : ¬ (n : Int) > 512 := by omega
  have h3 : ¬ (l.length : Int) > (n : Int) := by omega
  clear hz
  go_enter Tryd.func90, Tryd.ntmps90
  go_wp2_with fail
  refine HR.out.mono ?_
  rintro e w1 ⟨rfl, rfl⟩
  clear HR
  go_wp2_with fail
  go_loopw [0] (fun v0 wr => ∃ (j : Nat) (t : List UInt8), v0 = .string (S t) ∧ Hid (t = l ++ List.replicate j 0) ∧ t.length = l.length + j ∧ l.length + j ≤ n ∧ w = wr) (fun v0 _ => n - (sizeOfV v0))
  case atStart => exact ⟨0, l, rfl, Lib.hid (by simp), by omega, by omega, rfl⟩
  case round =>
    obtain ⟨j, t, rfl, HT, htl, hj, rfl⟩ := hrel
    by_cases hlt : l.length + j < n
    · have hltI : (t.length : Int) < (n : Int) := by omega
      have HN : Hid (S t ++ S [0] = S (t ++ [0])) := Lib.hid (S_append _ _)
      have HT2 : Hid (t ++ [0] = l ++ List.replicate (j + 1) 0) := Lib.hid (by rw [HT.out, rep_snoc])
      go_wp2_with fail
      go_roundw
      case rel => exact ⟨j + 1, t ++ [0], congrArg Value.string HN.out, HT2, by simp; omega, by omega, trivial⟩
      case measure => exact msr n t (by omega)
    · have hltI : ¬ (t.length : Int) < (n : Int) := by omega
      have HF : Hid (padL l n = t) := Lib.hid (by unfold padL; rw [HT.out, show n - l.length = j by omega])
      go_wp2_with fail
      go_ret2
      exact ⟨by rw [HF.out]; rfl, rfl⟩
theorem rField_any (l : List UInt8) (n : Nat) (w : World) (hl : l.length ≤ n) (hn : n ≤ 512) (hz : noNul l = true) :
    Calls Tryd.prog 52 #[.string (S l), .int .i64 n] w fun e w' => e = .returned (.string (S (padL l n))) ∧ w = w' := by
  have HR := Lib.hid (rWrite_any l n w hl hn hz)
  go_enter Tryd.func52, Tryd.ntmps52
  go_wp2_with fail
  refine HR.out.mono ?_
  rintro e w1 ⟨rfl, rfl⟩
  go_wp2_with fail
  go_ret
  exact ⟨rfl, rfl⟩
theorem rOct_any (v n : Nat) (w : World) (h2 : 2 ≤ n) (h12 : n ≤ 12) (hv : v < 8 ^ (n - 1)) :
    Calls Tryd.prog 53 #[.int .i64 v, .int .i64 n] w fun e w' => e = .returned (.string (S (octL (n - 1) v [0]))) ∧ w = w' := by
  have HR := Lib.hid (rOctal_yes v n w h2 h12 hv)
  clear hv
  go_enter Tryd.func53, Tryd.ntmps53
  go_wp2_with fail
  refine HR.out.mono ?_
  rintro e w1 ⟨rfl, rfl⟩
  go_wp2_with fail
  go_ret
  exact ⟨rfl, rfl⟩
end Go.Proofs.YtjldphpdfckjnaaDoor
