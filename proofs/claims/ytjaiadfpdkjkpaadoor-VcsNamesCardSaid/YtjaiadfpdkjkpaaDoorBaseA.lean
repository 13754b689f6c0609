/- strip.Base. -/
import Derived.Test.YtjaiadfpdkjkpaaDoorBaseL
namespace Go.Proofs.YtjaiadfpdkjkpaaDoor
open Go.RowKit

theorem chainB {w u v : World} (h : Below w.heap.size w u) (k : Below u.heap.size u v) : Below w.heap.size w v := h.trans (k.mono h.size)
def baseL (l : List UInt8) : List UInt8 := lastL (partsL l)
set_option maxRecDepth 100000 in
theorem Base_any (s : List UInt8) (hs : s.length ≤ 1000000) (w : World) :
    Calls Tryd.prog 40 #[.string (S s)] w fun e w' => e = .returned (.string (S (baseL s))) ∧ w' = w := by
  obtain ⟨k, hk1, hk2, hk3⟩ := lastIdx_of (trimR s) _ rfl (trimR_last s)
  rw [← parts_trim] at hk3
  have hl := trimR_len s
  have HT := Lib.hid (show baseL s = (trimR s).drop k from hk3)
  have hx := strip_ext (trimR s) k
  rw [← HT.out] at hx
  have hki : Lib.lastIndexByte (S (trimR s)) 47 = (k : Int) - 1 := by omega
  have HK := Lib.hid hki
  clear hk1 hk3 hki
  go_enter Tryd.func40, Tryd.ntmps40
  go_wp2_with fail
  refine (Go.Proofs.Tryd.strings_TrimRight_one (S s) 47 (by decide) _ (by rw [S_size]; omega)).mono ?_
  rintro e w1 ⟨rfl, rfl⟩
  rw [S_data, show (⟨(Lib.trimRightB s 47).toArray⟩ : ByteArray) = S (trimR s) from rfl]
  have HT2 := HT
  clear HT
  generalize trimR s = t at *
  go_wp2_with fail
  refine (Go.Proofs.Tryd.strings_LastIndexByte (S t) 47 (by rw [S_size]; omega) _).mono ?_
  rintro e w2 ⟨rfl, rfl⟩
  rw [HK.out]
  have hk0 : (0 : Int) ≤ (k : Int) := by omega
  go_wp2_with fail
  go_ret
  exact ⟨rfl, rfl⟩
end Go.Proofs.YtjaiadfpdkjkpaaDoor
