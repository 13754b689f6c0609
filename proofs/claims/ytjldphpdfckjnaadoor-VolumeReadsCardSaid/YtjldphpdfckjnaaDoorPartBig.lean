/- The document's Part, of a name of any length. -/
import Derived.Test.YtjldphpdfckjnaaDoorText
namespace Go.Proofs.YtjldphpdfckjnaaDoor
open Go.RowKit

set_option maxRecDepth 100000 in
set_option maxHeartbeats 1000000 in
theorem rpart_big (s : ByteArray) (w : World) (hs : s.size ≤ 140737488355328) :
    Calls Tryd.prog 51 #[.string s] w fun e w' => e = .returned (partV (partF s)) ∧ Below w.heap.size w w' := by
  by_cases h100 : s.size ≤ 100
  · have H := Lib.hid h100
    have hI : (s.size : Int) ≤ 100 := by omega
    clear h100
    go_enter Tryd.func51, Tryd.ntmps51
    go_wp2
    go_ret3
    refine ⟨?_, Below.refl _ _⟩
    rw [partF, if_pos H.out]; rfl
  have hI : ¬ (s.size : Int) ≤ 100 := by omega
  have H := Lib.hid h100
  clear h100
  go_enter Tryd.func51, Tryd.ntmps51
  go_wp2
  go_loopw [5, 6] (fun v i wr => ∃ k : Nat, 1 ≤ k ∧ k ≤ s.size ∧ i = .int .i64 k ∧ v = .int .i64 (lastGood s k) ∧ w = wr) (fun _ i _ => s.size - (intOf i).toNat)
  case atStart => exact ⟨1, by omega, by omega, rfl, by rw [lastGood, if_neg (by rw [(good_not s 0).2 (by omega)]; decide)]; rfl, rfl⟩
  case round =>
    obtain ⟨k, hk1, hk, rfl, rfl, rfl⟩ := hrel
    by_cases hlt : k < s.size
    · have hx := getx s k hlt
      have hl := lastGood_lt s k
      go_wp2
      all_goals (refine ⟨⟨k + 1, by omega, by omega, by push_cast; rfl, ?_, trivial⟩, by simp only [intOf]; omega⟩; rw [lastGood]; first | (rw [if_pos ((good_iff s k).2 (by rw [hx]; omega))]; done) | (rw [if_neg (by rw [(good_not s k).2 (by rw [hx]; omega)]; decide)]))
    · have hks : k = s.size := by omega
      subst hks
      rcases lastGood_lt s s.size with hg | ⟨i, hi, hg, hgi⟩
      · rw [hg]
        have P1 := Lib.hid hg
        clear hg
        go_wp2
        go_ret3
        refine ⟨?_, Below.refl _ _⟩
        rw [partF, if_neg H.out, if_pos (by rw [P1.out]; decide)]; rfl
      · rw [hg]
        have P1 := Lib.hid hg
        clear hg hgi
        have e1 := S_extract
        go_wp2
        go_quiet (fail)
        go_wp2
        go_ret3
        refine ⟨?_, belowDrewN (Below.refl _ _)⟩
        rw [partF, if_neg H.out, if_neg (by rw [P1.out]; omega), P1.out]; rfl

end Go.Proofs.YtjldphpdfckjnaaDoor
