/- Heads of members: the two Parses, whole. -/
import Derived.Test.YtjldphpdfckjnaaDoorHdH1
import Derived.Test.YtjldphpdfckjnaaDoorHdH2
import Derived.Test.YtjldphpdfckjnaaDoorHdH3
import Derived.Test.YtjldphpdfckjnaaDoorHdI1
import Derived.Test.YtjldphpdfckjnaaDoorHdI2
import Derived.Test.YtjldphpdfckjnaaDoorHdI3
namespace Go.Proofs.YtjldphpdfckjnaaDoor
open Go.RowKit

/-- header.Parse -/
theorem hParse_any (s : List UInt8) (w : World) (hs : s.length ≤ 1000000) :
    Calls Tryd.prog 28 #[.string (S s)] w fun e w' => e = .returned (.tuple #[HV (parseN s).1, .int .i64 (parseN s).2]) ∧ Below w.heap.size w w' := by
  by_cases h : s.length ≠ 512 ∨ rightL s = false ∨ formN (fldL s 257 8) = 0
  · exact hParse_none s w hs h
  · have h1 : s.length = 512 := by
      by_cases g : s.length = 512
      · exact g
      · exact absurd (.inl g) h
    have h2 : rightL s = true := by
      cases g : rightL s with
      | true => rfl
      | false => exact absurd (.inr (.inl g)) h
    rcases form_cases (fldL s 257 8) with g | g | g | g
    · exact absurd (.inr (.inr g)) h
    · exact hParse_f1 s w h1 h2 g
    · exact hParse_f2 s w h1 h2 g
    · exact hParse_f3 s w h1 h2 g
theorem form_lit (m : List UInt8) : (formN m = 1 → m = [0, 0, 0, 0, 0, 0, 0, 0]) ∧ (formN m = 2 → m = [117, 115, 116, 97, 114, 0, 48, 48]) ∧ (formN m = 3 → m = [117, 115, 116, 97, 114, 32, 32, 0]) := by
  unfold formN
  split
  · rename_i h; exact ⟨fun e => (by cases e), fun _ => h, fun e => (by cases e)⟩
  · split
    · rename_i h; exact ⟨fun e => (by cases e), fun e => (by cases e), fun _ => h⟩
    · split
      · rename_i h; exact ⟨fun _ => h, fun e => (by cases e), fun e => (by cases e)⟩
      · exact ⟨fun e => (by cases e), fun e => (by cases e), fun e => (by cases e)⟩
set_option maxRecDepth 100000 in
set_option maxHeartbeats 8000000 in
theorem rParse_none (s : List UInt8) (w : World) (h : s.length ≠ 512 ∨ rightL s = false ∨ formN (fldL s 257 8) = 0) :
    Calls Tryd.prog 31 #[.string (S s)] w fun e w' => e = .returned (.tuple #[HV (parseN s).1, .int .i64 (parseN s).2]) ∧ Below w.heap.size w w' := by
  have HR0 : Hid (HAt (w.alloc (.cells #[.string ⟨#[]⟩, .string ⟨#[]⟩, .int .u8 0, .int .i64 0, .int .i64 0, .int .i64 0, .int .i64 0, .int .i64 0, .string ⟨#[]⟩, .string ⟨#[]⟩, .int .i64 0, .int .i64 0, .int .i64 0] 68)) w.heap.size noneH) := Lib.hid (AtB.new w _ (HC noneH))
  have HX0 : Hid (Below w.heap.size w (w.alloc (.cells #[.string ⟨#[]⟩, .string ⟨#[]⟩, .int .u8 0, .int .i64 0, .int .i64 0, .int .i64 0, .int .i64 0, .int .i64 0, .string ⟨#[]⟩, .string ⟨#[]⟩, .int .i64 0, .int .i64 0, .int .i64 0] 68))) := Lib.hid ((Below.refl _ _).alloc (Nat.le_refl _) _)
  by_cases h1 : s.length = 512
  rotate_left
  · have HF : Hid (parseN s = (noneH, 1)) := Lib.hid (by unfold parseN; rw [if_pos h1])
    have h1b : ((s.length : Int) != 512) = true := bne_iff_ne.2 (by omega)
    clear h h1
    go_enter Tryd.func31, Tryd.ntmps31
    go_wp2_with (first | (refine app_storeAll2 rfl _ _ _ rfl (w.heap.size + 1) (by simp) (HC noneH).toArray (HC noneH).toArray rfl rfl info_head rfl (HC_one _) ?_; have hN1 : HAt ((w.alloc (.cells #[.string ⟨#[]⟩, .string ⟨#[]⟩, .int .u8 0, .int .i64 0, .int .i64 0, .int .i64 0, .int .i64 0, .int .i64 0, .string ⟨#[]⟩, .string ⟨#[]⟩, .int .i64 0, .int .i64 0, .int .i64 0] 68)).alloc (.cells (HC noneH).toArray 68)) (w.heap.size + 1) noneH := AtB.new2 _ _ _ (HC noneH) (by simp); have hR1 : HAt ((w.alloc (.cells #[.string ⟨#[]⟩, .string ⟨#[]⟩, .int .u8 0, .int .i64 0, .int .i64 0, .int .i64 0, .int .i64 0, .int .i64 0, .string ⟨#[]⟩, .string ⟨#[]⟩, .int .i64 0, .int .i64 0, .int .i64 0] 68)).alloc (.cells (HC noneH).toArray 68)) w.heap.size noneH := AtB.alloc HR0.out _; have hX1 : Below w.heap.size w ((w.alloc (.cells #[.string ⟨#[]⟩, .string ⟨#[]⟩, .int .u8 0, .int .i64 0, .int .i64 0, .int .i64 0, .int .i64 0, .int .i64 0, .string ⟨#[]⟩, .string ⟨#[]⟩, .int .i64 0, .int .i64 0, .int .i64 0] 68)).alloc (.cells (HC noneH).toArray 68)) := HX0.out.alloc HX0.out.size _; generalize hWa : (w.alloc (.cells #[.string ⟨#[]⟩, .string ⟨#[]⟩, .int .u8 0, .int .i64 0, .int .i64 0, .int .i64 0, .int .i64 0, .int .i64 0, .string ⟨#[]⟩, .string ⟨#[]⟩, .int .i64 0, .int .i64 0, .int .i64 0] 68)).alloc (.cells (HC noneH).toArray 68) = Wa at *; clear hWa HR0 HX0) | (refine hl_load rfl _ rfl _ rfl noneH hN1 ?_) | (refine hl_store rfl _ _ rfl _ rfl noneH noneH hR1 rfl _ w hX1 (Nat.le_refl _) ?_; intro w9 hR9 hb9 hk9))
    refine bodyPost_ret (results_ht rfl _ _ _ noneH rfl hR9) rfl ⟨by rw [HF.out]; rfl, hb9⟩
  have h1b : ((s.length : Int) != 512) = false := by rw [h1]; rfl
  have h2I : (257 : Int) ≤ (s.length : Int) := by omega
  have h3I : (265 : Int) ≤ (s.length : Int) := by omega
  have HSR := Lib.hid (fun w => rRightS_any s w)
  by_cases h2 : rightL s = false
  · have HF : Hid (parseN s = (noneH, 4)) := Lib.hid (by unfold parseN; rw [if_neg (not_not_intro h1), if_pos h2])
    rw [h2] at HSR
    clear h h1 h2
    go_enter Tryd.func31, Tryd.ntmps31
    go_wp2_with (first | (refine app_storeAll2 rfl _ _ _ rfl (w.heap.size + 1) (by simp) (HC noneH).toArray (HC noneH).toArray rfl rfl info_head rfl (HC_one _) ?_; have hN1 : HAt ((w.alloc (.cells #[.string ⟨#[]⟩, .string ⟨#[]⟩, .int .u8 0, .int .i64 0, .int .i64 0, .int .i64 0, .int .i64 0, .int .i64 0, .string ⟨#[]⟩, .string ⟨#[]⟩, .int .i64 0, .int .i64 0, .int .i64 0] 68)).alloc (.cells (HC noneH).toArray 68)) (w.heap.size + 1) noneH := AtB.new2 _ _ _ (HC noneH) (by simp); have hR1 : HAt ((w.alloc (.cells #[.string ⟨#[]⟩, .string ⟨#[]⟩, .int .u8 0, .int .i64 0, .int .i64 0, .int .i64 0, .int .i64 0, .int .i64 0, .string ⟨#[]⟩, .string ⟨#[]⟩, .int .i64 0, .int .i64 0, .int .i64 0] 68)).alloc (.cells (HC noneH).toArray 68)) w.heap.size noneH := AtB.alloc HR0.out _; have hX1 : Below w.heap.size w ((w.alloc (.cells #[.string ⟨#[]⟩, .string ⟨#[]⟩, .int .u8 0, .int .i64 0, .int .i64 0, .int .i64 0, .int .i64 0, .int .i64 0, .string ⟨#[]⟩, .string ⟨#[]⟩, .int .i64 0, .int .i64 0, .int .i64 0] 68)).alloc (.cells (HC noneH).toArray 68)) := HX0.out.alloc HX0.out.size _; generalize hWa : (w.alloc (.cells #[.string ⟨#[]⟩, .string ⟨#[]⟩, .int .u8 0, .int .i64 0, .int .i64 0, .int .i64 0, .int .i64 0, .int .i64 0, .string ⟨#[]⟩, .string ⟨#[]⟩, .int .i64 0, .int .i64 0, .int .i64 0] 68)).alloc (.cells (HC noneH).toArray 68) = Wa at *; clear hWa HR0 HX0))
    refine (HSR.out _).mono ?_
    rintro e w1 ⟨rfl, rfl⟩
    go_wp2_with (first | (refine hl_load rfl _ rfl _ rfl noneH hN1 ?_) | (refine hl_store rfl _ _ rfl _ rfl noneH noneH hR1 rfl _ w hX1 (Nat.le_refl _) ?_; intro w9 hR9 hb9 hk9))
    refine bodyPost_ret (results_ht rfl _ _ _ noneH rfl hR9) rfl ⟨by rw [HF.out]; rfl, hb9⟩
  have h3 : formN (fldL s 257 8) = 0 := by
    rcases h with h | h | h
    · exact absurd h1 h
    · exact absurd h h2
    · exact h
  have HF : Hid (parseN s = (noneH, 2)) := Lib.hid (by unfold parseN; rw [if_neg (not_not_intro h1), if_neg h2, if_pos h3])
  obtain ⟨b1, b2, b3⟩ := form_zero (fldL s 257 8) (fld_len s 257 8 (by omega)) h3
  have hext : (S s).extract 257 265 = S (fldL s 257 8) := fld_ext s 257 265
  have HBL := Lib.hid (fun w => rBlank_any (S (fldL s 257 8)) (by rw [S_size, fld_len s 257 8 (by omega)]; decide) w)
  rw [S_data, b3] at HBL
  have b1 : (fldL s 257 8 == [117, 115, 116, 97, 114, 0, 48, 48]) = false := beq_eq_false_iff_ne.2 b1
  have b2 : (fldL s 257 8 == [117, 115, 116, 97, 114, 32, 32, 0]) = false := beq_eq_false_iff_ne.2 b2
  rw [Bool.not_eq_false] at h2
  rw [h2] at HSR
  generalize fldL s 257 8 = M at *
  clear h h1 h2 h3 b3
  go_enter Tryd.func31, Tryd.ntmps31
  go_wp2_with (first | (refine app_storeAll2 rfl _ _ _ rfl (w.heap.size + 1) (by simp) (HC noneH).toArray (HC noneH).toArray rfl rfl info_head rfl (HC_one _) ?_; have hN1 : HAt ((w.alloc (.cells #[.string ⟨#[]⟩, .string ⟨#[]⟩, .int .u8 0, .int .i64 0, .int .i64 0, .int .i64 0, .int .i64 0, .int .i64 0, .string ⟨#[]⟩, .string ⟨#[]⟩, .int .i64 0, .int .i64 0, .int .i64 0] 68)).alloc (.cells (HC noneH).toArray 68)) (w.heap.size + 1) noneH := AtB.new2 _ _ _ (HC noneH) (by simp); have hR1 : HAt ((w.alloc (.cells #[.string ⟨#[]⟩, .string ⟨#[]⟩, .int .u8 0, .int .i64 0, .int .i64 0, .int .i64 0, .int .i64 0, .int .i64 0, .string ⟨#[]⟩, .string ⟨#[]⟩, .int .i64 0, .int .i64 0, .int .i64 0] 68)).alloc (.cells (HC noneH).toArray 68)) w.heap.size noneH := AtB.alloc HR0.out _; have hX1 : Below w.heap.size w ((w.alloc (.cells #[.string ⟨#[]⟩, .string ⟨#[]⟩, .int .u8 0, .int .i64 0, .int .i64 0, .int .i64 0, .int .i64 0, .int .i64 0, .string ⟨#[]⟩, .string ⟨#[]⟩, .int .i64 0, .int .i64 0, .int .i64 0] 68)).alloc (.cells (HC noneH).toArray 68)) := HX0.out.alloc HX0.out.size _; generalize hWa : (w.alloc (.cells #[.string ⟨#[]⟩, .string ⟨#[]⟩, .int .u8 0, .int .i64 0, .int .i64 0, .int .i64 0, .int .i64 0, .int .i64 0, .string ⟨#[]⟩, .string ⟨#[]⟩, .int .i64 0, .int .i64 0, .int .i64 0] 68)).alloc (.cells (HC noneH).toArray 68) = Wa at *; clear hWa HR0 HX0))
  refine (HSR.out _).mono ?_
  rintro e w1 ⟨rfl, rfl⟩
  have hR2 : HAt (Wa.alloc (.cells (HC noneH).toArray 68)) w.heap.size noneH := AtB.alloc hR1 _
  have hN2 : HAt (Wa.alloc (.cells (HC noneH).toArray 68)) (w.heap.size + 1) noneH := AtB.alloc hN1 _
  have hX2 : Below w.heap.size w (Wa.alloc (.cells (HC noneH).toArray 68)) := hX1.alloc hX1.size _
  go_wp2_with (first | (refine app_storeAll rfl _ _ _ rfl (HC noneH).toArray (HC noneH).toArray rfl rfl info_head rfl (HC_one _) ?_))
  refine (HBL.out _).mono ?_
  rintro e w1 ⟨rfl, rfl⟩
  go_wp2_with (first | (refine hl_load rfl _ rfl _ rfl noneH hN2 ?_) | (refine hl_store rfl _ _ rfl _ rfl noneH noneH hR2 rfl _ w hX2 (Nat.le_refl _) ?_; intro w9 hR9 hb9 hk9))
  refine bodyPost_ret (results_ht rfl _ _ _ noneH rfl hR9) rfl ⟨by rw [HF.out]; rfl, hb9⟩
/-- the document's Parse of a head -/
theorem rParseH_any (s : List UInt8) (w : World) :
    Calls Tryd.prog 31 #[.string (S s)] w fun e w' => e = .returned (.tuple #[HV (parseN s).1, .int .i64 (parseN s).2]) ∧ Below w.heap.size w w' := by
  by_cases h : s.length ≠ 512 ∨ rightL s = false ∨ formN (fldL s 257 8) = 0
  · exact rParse_none s w h
  · have h1 : s.length = 512 := by
      by_cases g : s.length = 512
      · exact g
      · exact absurd (.inl g) h
    have h2 : rightL s = true := by
      cases g : rightL s with
      | true => rfl
      | false => exact absurd (.inr (.inl g)) h
    rcases form_cases (fldL s 257 8) with g | g | g | g
    · exact absurd (.inr (.inr g)) h
    · exact rParse_f1 s w h1 h2 ((form_lit _).1 g)
    · exact rParse_f2 s w h1 h2 ((form_lit _).2.1 g)
    · exact rParse_f3 s w h1 h2 ((form_lit _).2.2 g)
end Go.Proofs.YtjldphpdfckjnaaDoor
