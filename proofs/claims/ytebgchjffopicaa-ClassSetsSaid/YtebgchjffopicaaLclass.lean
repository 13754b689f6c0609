/- The law ClassNames: for every input the law's call returns true and changes nothing that was there. No condition. -/
import Derived.Test.YtebgchjffopicaaClassI
namespace Go.Proofs.Ytebgchjffopicaa
open Go.RowKit
attribute [local irreducible] wordP

set_option maxRecDepth 100000 in
set_option maxHeartbeats 1000000 in
theorem lawNames (s : ByteArray) (a b : UInt8) (w : World) :
    Calls Try.prog 7 #[.string s, .int .u8 a.toNat, .int .u8 b.toNat] w fun e w' => e = .returned (.bool true) ∧ Below w.heap.size w w' := by
  have ha := a.toNat_lt
  have hb := b.toNat_lt
  have hx0 : Below w.heap.size w w := Below.refl _ _
  by_cases h100 : 100 < s.size
  · go_enter Try.func7, Try.ntmps7
    go_wp2_with fail
    refine (awake13 _).mono ?_
    rintro e w1 ⟨rfl, hb1⟩
    have hx1 : Below w.heap.size w w1 := hx0.trans ((show Below w.heap.size _ _ by first | exact Below.refl _ _ | (have := hx0.size; go_grown)).trans (hb1.mono (by have := hx0.size; first | omega | (simp; done) | (simp; omega))))
    go_wp2_with fail
    go_ret
    exact ⟨rfl, hx1⟩
  · go_enter Try.func7, Try.ntmps7
    go_wp2_with fail
    refine (named_any _ _).mono ?_
    rintro e w1 ⟨rfl, hb1⟩
    have hx1 : Below w.heap.size w w1 := hx0.trans ((show Below w.heap.size _ _ by first | exact Below.refl _ _ | (have := hx0.size; go_grown)).trans (hb1.mono (by have := hx0.size; first | omega | (simp; done) | (simp; omega))))
    go_wp2_with fail
    refine (rnamed_any _ _).mono ?_
    rintro e w2 ⟨rfl, hb2⟩
    have hx2 : Below w.heap.size w w2 := hx1.trans ((show Below w.heap.size _ _ by first | exact Below.refl _ _ | (have := hx1.size; go_grown)).trans (hb2.mono (by have := hx1.size; first | omega | (simp; done) | (simp; omega))))
    obtain ⟨a0, a1, a2, a3⟩ := ((set_alloc w1 (namedP s.toList).1 _).below hb2 (by simp)).four
    go_wp2_with fail
    rw [← SetV_def]
    refine (bytes_any _ _).mono ?_
    rintro e w3 ⟨rfl, hb3⟩
    have hx3 : Below w.heap.size w w3 := hx2.trans ((show Below w.heap.size _ _ by first | exact Below.refl _ _ | (have := hx2.size; go_grown)).trans (hb3.mono (by have := hx2.size; first | omega | (simp; done) | (simp; omega))))
    go_wp2_with fail
    refine (range_any _ _ _ (by omega) (by omega) (by omega) (by omega)).mono ?_
    rintro e w4 ⟨rfl, hb4⟩
    have hx4 : Below w.heap.size w w4 := hx3.trans ((show Below w.heap.size _ _ by first | exact Below.refl _ _ | (have := hx3.size; go_grown)).trans (hb4.mono (by have := hx3.size; first | omega | (simp; done) | (simp; omega))))
    go_wp2_with fail
    rw [← SetV_def]
    refine (bytes_any _ _).mono ?_
    rintro e w5 ⟨rfl, hb5⟩
    have hx5 : Below w.heap.size w w5 := hx4.trans ((show Below w.heap.size _ _ by first | exact Below.refl _ _ | (have := hx4.size; go_grown)).trans (hb5.mono (by have := hx4.size; first | omega | (simp; done) | (simp; omega))))
    go_wp2_with fail
    refine (between_any _ _ _ (by omega) (by omega) (by omega) (by omega)).mono ?_
    rintro e w6 ⟨rfl, hb6⟩
    have hx6 : Below w.heap.size w w6 := hx5.trans ((show Below w.heap.size _ _ by first | exact Below.refl _ _ | (have := hx5.size; go_grown)).trans (hb6.mono (by have := hx5.size; first | omega | (simp; done) | (simp; omega))))
    go_wp2_with fail
    refine (awake13 _).mono ?_
    rintro e w7 ⟨rfl, hb7⟩
    have hx7 : Below w.heap.size w w7 := hx6.trans ((show Below w.heap.size _ _ by first | exact Below.refl _ _ | (have := hx6.size; go_grown)).trans (hb7.mono (by have := hx6.size; first | omega | (simp; done) | (simp; omega))))
    go_wp2_with fail
    go_ret
    exact ⟨rfl, hx7⟩

end Go.Proofs.Ytebgchjffopicaa
