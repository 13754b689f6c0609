/- Plain laws of what is skipped in a text. -/
import Derived.Test.YtjaiadfpdkjkpaaDoorParts
namespace Go.Proofs.YtjaiadfpdkjkpaaDoor
open Go.RowKit

theorem drop_step (s : ByteArray) (k : Nat) (h : k < s.size) : s.data.toList.drop k = s[k] :: s.data.toList.drop (k + 1) := List.drop_eq_getElem_cons (by simpa using h)
def skipL (l : List UInt8) : List UInt8 := l.dropWhile (· != 47)
theorem skip_same (s : ByteArray) (k : Nat) (h : k < s.size) (hc : s[k] ≠ 47) : skipL (s.data.toList.drop k) = skipL (s.data.toList.drop (k + 1)) := by
  rw [drop_step s k h, skipL, List.dropWhile_cons, if_pos (by simpa using hc)]; rfl
theorem skip_stop (s : ByteArray) (k : Nat) (h : k < s.size) (hc : s[k] = 47) : skipL (s.data.toList.drop k) = s.data.toList.drop k := by
  rw [drop_step s k h, skipL, List.dropWhile_cons, if_neg (by simp [hc])]
theorem at_ne47 (s : ByteArray) (j : Nat) (h : j < s.size) (hc : s[j] ≠ 47) : ((s[j].toNat : Int) != 47) = true := by
  rw [bne_iff_ne]
  intro h'
  exact hc (UInt8.toNat_inj.1 (by have : s[j].toNat = 47 := by omega
                                  rw [this]; rfl))

theorem strip_ext (s : List UInt8) (k : Nat) : (S s).extract k s.length = S (s.drop k) := by
  rw [S_extract, ← List.length_drop, List.take_length]

end Go.Proofs.YtjaiadfpdkjkpaaDoor
