import Derived.Test.YtebgchjffopicaaClassH
namespace Go.Proofs.Ytebgchjffopicaa
open Go.RowKit

set_option maxRecDepth 100000 in
set_option maxHeartbeats 1000000 in
theorem awake13 (w : World) : Calls Try.prog 18 #[] w fun e w' => e = .returned (.bool true) ∧ Below w.heap.size w w' := by
  have f1 : (bytesP (andP (rangeP 33 126) (notP alnumP))).length = 32 := by decide +kernel
  have f2 : (bytesP (foldP (ofP [97, 90])) == [65, 90, 97, 122]) = true := by decide +kernel
  have hn : namedP [112, 117, 110, 99, 116] = (andP (rangeP 33 126) (notP alnumP), true) := rfl
  have hx0 : Below w.heap.size w w := Below.refl _ _
  go_enter Try.func18, Try.ntmps18
  go_wp2_with fail
  refine (named_any _ _).mono ?_
  rintro e w1 ⟨rfl, hb1⟩
  have hx1 : Below w.heap.size w w1 := hx0.trans ((show Below w.heap.size _ _ by first | exact Below.refl _ _ | (have := hx0.size; go_grown)).trans (hb1.mono (by have := hx0.size; first | omega | (simp; done) | (simp; omega))))
  go_wp2_with fail
  rw [← SetV_def]
  refine (len_any _ _).mono ?_
  rintro e w2 ⟨rfl, hb2⟩
  have hx2 : Below w.heap.size w w2 := hx1.trans ((show Below w.heap.size _ _ by first | exact Below.refl _ _ | (have := hx1.size; go_grown)).trans (hb2.mono (by have := hx1.size; first | omega | (simp; done) | (simp; omega))))
  go_wp2_with fail
  refine (of_any _ _ (by decide)).mono ?_
  rintro e w3 ⟨rfl, hb3⟩
  have hx3 : Below w.heap.size w w3 := hx2.trans ((show Below w.heap.size _ _ by first | exact Below.refl _ _ | (have := hx2.size; go_grown)).trans (hb3.mono (by have := hx2.size; first | omega | (simp; done) | (simp; omega))))
  go_wp2_with fail
  rw [← SetV_def]
  refine (fold_any _ _).mono ?_
  rintro e w4 ⟨rfl, hb4⟩
  have hx4 : Below w.heap.size w w4 := hx3.trans ((show Below w.heap.size _ _ by first | exact Below.refl _ _ | (have := hx3.size; go_grown)).trans (hb4.mono (by have := hx3.size; first | omega | (simp; done) | (simp; omega))))
  go_wp2_with fail
  rw [← SetV_def]
  refine (bytes_any _ _).mono ?_
  rintro e w5 ⟨rfl, hb5⟩
  have hx5 : Below w.heap.size w w5 := hx4.trans ((show Below w.heap.size _ _ by first | exact Below.refl _ _ | (have := hx4.size; go_grown)).trans (hb5.mono (by have := hx4.size; first | omega | (simp; done) | (simp; omega))))
  go_wp2_with fail
  go_ret
  exact ⟨rfl, hx5⟩
end Go.Proofs.Ytebgchjffopicaa
