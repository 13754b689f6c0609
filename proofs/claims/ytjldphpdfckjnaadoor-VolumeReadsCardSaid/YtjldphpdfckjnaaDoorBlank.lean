/- Blank bytes: the document's Blank, and a text that is trimmed of NULs. -/
import Derived.Test.YtjldphpdfckjnaaDoorKit
import Derived.Lib.TrimByte
namespace Go.Proofs.YtjldphpdfckjnaaDoor
open Go.RowKit

def blankB (l : List UInt8) : Bool := l.all (· == 0)
theorem trim_blank (l : List UInt8) : (Lib.trimB l 0).isEmpty = blankB l := by
  have key : ∀ l : List UInt8, (l.dropWhile (· == 0)).isEmpty = l.all (· == 0) := by
    intro l
    induction l with
    | nil => rfl
    | cons b l ih =>
      rw [List.dropWhile_cons, List.all_cons]
      cases h : (b == (0 : UInt8)) with
      | true => rw [if_pos rfl, ih]; rfl
      | false => rw [if_neg (by decide)]; rfl
  have key2 : ∀ l : List UInt8, l = l.takeWhile (· == 0) ++ l.dropWhile (· == 0) := fun l => (List.takeWhile_append_dropWhile (p := (· == 0))).symm
  unfold Lib.trimB Lib.trimLeftB Lib.trimRightB blankB
  rw [key, List.all_reverse]
  have h := congrArg (fun m : List UInt8 => m.all (· == 0)) (key2 l.reverse)
  simp only [List.all_append, List.all_reverse] at h
  rw [h]
  have ht : (l.reverse.takeWhile (· == 0)).all (· == 0) = true := by
    generalize l.reverse = m
    induction m with
    | nil => rfl
    | cons b m ih =>
      rw [List.takeWhile_cons]
      cases hb : (b == (0 : UInt8)) with
      | true => rw [if_pos rfl, List.all_cons, hb, ih]; rfl
      | false => rw [if_neg (by decide)]; rfl
  rw [ht, Bool.true_and]
theorem blank_take (s : ByteArray) (k : Nat) (h : k < s.size) (hb : blankB (s.data.toList.take k) = true) (hc : s[k] = 0) : blankB (s.data.toList.take (k + 1)) = true := by
  rw [take_snoc s k h]
  unfold blankB at hb ⊢
  rw [List.all_append, hb]
  simp [hc]
theorem blank_no (s : ByteArray) (k : Nat) (h : k < s.size) (hc : s[k] ≠ 0) : blankB s.data.toList = false := by
  unfold blankB
  rw [List.all_eq_false]
  exact ⟨s[k], List.getElem_mem (by rw [size_len]; exact h), by simpa using hc⟩
set_option maxRecDepth 100000 in
theorem rBlank_any (s : ByteArray) (hs : s.size ≤ 1000000) (w : World) :
    Calls Tryd.prog 65 #[.string s] w fun e w' => e = .returned (.bool (blankB s.data.toList)) ∧ w = w' := by
  go_enter Tryd.func65, Tryd.ntmps65
  go_wp2
  go_loop [3] (fun i => ∃ k : Nat, k ≤ s.size ∧ i = .int .i64 k ∧ blankB (s.data.toList.take k) = true) (fun i => s.size - (intOf i).toNat)
  case atStart => exact ⟨0, Nat.zero_le _, rfl, rfl⟩
  case round =>
    obtain ⟨k, hk, rfl, hb⟩ := hrel
    have HB := Lib.hid hb
    clear hb
    by_cases hlt : k < s.size
    · by_cases hc : s[k] = 0
      · have HN := Lib.hid (blank_take s k hlt HB.out hc)
        have hx : ((s[k].toNat : Int) != 0) = false := by rw [hc]; rfl
        clear hc
        go_wp2
        go_round
        case rel => exact ⟨k + 1, by omega, by go_num, HN.out⟩
        case measure => simp [intOf]; omega
      · have HN := Lib.hid (blank_no s k hlt hc)
        have hx : ((s[k].toNat : Int) != 0) = true := byte_bne s[k] 0 0 rfl hc
        clear hc
        go_wp2
        go_ret
        exact ⟨by rw [HN.out]; rfl, rfl⟩
    · have hk2 : s.size ≤ k := by omega
      have hb := HB.out
      rw [take_all s k hk2] at hb
      have HF := Lib.hid hb
      clear hb
      go_wp2
      go_ret
      exact ⟨by rw [HF.out]; rfl, rfl⟩
end Go.Proofs.YtjldphpdfckjnaaDoor
