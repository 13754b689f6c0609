/- Numbers of fields: octal's Read, walked. -/
import Derived.Test.YtjldphpdfckjnaaDoorOctF
namespace Go.Proofs.YtjldphpdfckjnaaDoor
open Go.RowKit

set_option maxRecDepth 100000 in
set_option maxHeartbeats 1000000 in
theorem oRead_any (s : List UInt8) (w : World) (hs : s.length ≤ 1000000) :
    Calls Tryd.prog 92 #[.string (S s)] w fun e w' => e = .returned (.tuple #[.int .i64 (readO s).1, .int .i64 (readO s).2]) ∧ w = w' := by
  have HM := Lib.hid (may_any (s.length : Int) w)
  by_cases h : s.length < 2 ∨ 12 < s.length
  · have HR : Hid (readO s = (0, 1)) := Lib.hid (by unfold readO; rw [if_pos h])
    have hm : mayO (s.length : Int) = false := decide_eq_false (by omega)
    rw [hm] at HM
    clear h hm
    go_enter Tryd.func92, Tryd.ntmps92
    go_wp2_with fail
    refine (HM.out).mono ?_
    rintro e w1 ⟨rfl, rfl⟩
    go_wp2_with fail
    go_ret2
    exact ⟨by rw [HR.out]; rfl, rfl⟩
  have hm : mayO (s.length : Int) = true := decide_eq_true (by omega)
  rw [hm] at HM
  have h0 : 0 < (S s).size := by rw [S_size]; omega
  have h0I : (0 : Int) < (s.length : Int) := by omega
  by_cases h1 : ((S s)[0]'h0).toNat = 128
  · have HB := Lib.hid (bits_pos s w (by omega) (by omega) h0 h1)
    have a1 : (((S s)[0]'h0).toNat : Int) = 128 := by omega
    have a2 : ((((S s)[0]'h0).toNat : Int) == 128) = true := beq_iff_eq.2 a1
    generalize readO s = RR at *
    clear h h1 hm
    go_enter Tryd.func92, Tryd.ntmps92
    go_wp2_with fail
    refine (HM.out).mono ?_
    rintro e w1 ⟨rfl, rfl⟩
    go_wp2_with fail
    refine (HB.out).mono ?_
    rintro e w1 ⟨rfl, rfl⟩
    go_wp2_with fail
    go_ret2
    exact ⟨rfl, rfl⟩
  have a1 : ¬ (((S s)[0]'h0).toNat : Int) = 128 := by omega
  have a2 : ((((S s)[0]'h0).toNat : Int) == 128) = false := beq_eq_false_iff_ne.2 a1
  by_cases h2 : ((S s)[0]'h0).toNat = 255
  · have HB := Lib.hid (bits_neg s w (by omega) (by omega) h0 h2)
    have b1 : (((S s)[0]'h0).toNat : Int) = 255 := by omega
    have b2 : ((((S s)[0]'h0).toNat : Int) == 255) = true := beq_iff_eq.2 b1
    generalize readO s = RR at *
    clear h h1 h2 hm
    go_enter Tryd.func92, Tryd.ntmps92
    go_wp2_with fail
    refine (HM.out).mono ?_
    rintro e w1 ⟨rfl, rfl⟩
    go_wp2_with fail
    refine (HB.out).mono ?_
    rintro e w1 ⟨rfl, rfl⟩
    go_wp2_with fail
    go_ret2
    exact ⟨rfl, rfl⟩
  · have HB := Lib.hid (digits_any s w (by omega))
    have HR : readO s = octR (octO 0 0 s) := by unfold readO; rw [if_neg h, firstO_at s h0, if_neg h1, if_neg h2]; rfl
    rw [← HR] at HB
    have b1 : ¬ (((S s)[0]'h0).toNat : Int) = 255 := by omega
    have b2 : ((((S s)[0]'h0).toNat : Int) == 255) = false := beq_eq_false_iff_ne.2 b1
    clear HR
    generalize readO s = RR at *
    clear h h1 h2 hm
    go_enter Tryd.func92, Tryd.ntmps92
    go_wp2_with fail
    refine (HM.out).mono ?_
    rintro e w1 ⟨rfl, rfl⟩
    go_wp2_with fail
    refine (HB.out).mono ?_
    rintro e w1 ⟨rfl, rfl⟩
    go_wp2_with fail
    go_ret2
    exact ⟨rfl, rfl⟩
end Go.Proofs.YtjldphpdfckjnaaDoor
