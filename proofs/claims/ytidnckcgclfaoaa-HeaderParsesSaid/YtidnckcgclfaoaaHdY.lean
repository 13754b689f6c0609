/- The laws on heads: a block with other bytes at some places. -/
import Derived.Test.YtidnckcgclfaoaaHdN
import Derived.Test.YtidnckcgclfaoaaByAt
import Derived.Test.YtidnckcgclfaoaaRowk
import Derived.Test.YtidnckcgclfaoaaPost5
import Derived.Deep.RegionHeld3
namespace Go.Proofs.Ytidnckcgclfaoaa
open Go.RowKit

set_option maxRecDepth 100000 in
set_option maxHeartbeats 8000000 in
theorem spoilt_any (blk : List UInt8) (spots : List (Nat × List UInt8)) (v : Value) (sl : Bool) (w : World) (hbl : blk.length = 512) (hv : SpotsV w v spots) (hp : ∀ p ∈ spots, p.1 < 65536 ∧ p.2.length ≤ 140737488355328) (hsn : spots.length ≤ 1000) :
    Calls Try.prog 10 #[.string (S blk), v, .bool sl] w fun e w' => ∃ t : List UInt8, t.length = 512 ∧ e = .returned (.string (S t)) ∧ Below w.heap.size w w' := by
  obtain ⟨a, c, rfl, hv⟩ := hv
  have HV := Lib.hid hv
  have HP := Lib.hid hp
  have hlen : spots.length = spots.length := rfl
  clear hv hp hlen
  go_enter Try.func10, Try.ntmps10
  go_wp2_with (refine app_bytes rfl _ rfl blk rfl ?_; intro w1 cb hb1 hBy hcb; rw [hbl])
  rw [hbl] at hcb
  have HX1 := Lib.hid hb1
  have HB1 := Lib.hid hBy
  have HL := Lib.hid hbl
  clear hb1 hBy hbl
  generalize hg : w.heap.size = g at *
  have HG := Lib.hid hg
  clear hg
  go_loopw [14] (fun v14 wr => ∃ (k : Nat) (cur : List UInt8), v14 = .int .i64 k ∧ k ≤ spots.length ∧ Hid (cur.length = 512) ∧ Hid (ByAt wr g cur) ∧ Hid (Below g w wr)) (fun v14 _ => spots.length - (intOf v14).toNat)
  case atStart => exact ⟨0, blk, rfl, Nat.zero_le _, HL, HB1, HX1⟩
  case round =>
    obtain ⟨k, cur, rfl, hk, HCL, HB, HX⟩ := hrel
    clear HB1 HX1 HL
    by_cases hlt : k < spots.length
    · have hkI : (k : Int) < (spots.length : Int) := by omega
      obtain ⟨b, off, rfl, hblt, hcell⟩ := HV.out (by omega)
      obtain ⟨p, hpk⟩ : ∃ p, spots[k] = p := ⟨_, rfl⟩
      have hpb := HP.out p (by rw [← hpk]; exact List.getElem_mem hlt)
      obtain ⟨At, s⟩ := p
      have hbg : b < g := by have := HG.out; omega
      have c0 : wr.cell? ⟨b, off + k * 2, none⟩ = some (.int .u16 At) := by
        rw [HX.out.cell (by exact hbg)]
        exact hcell k hlt 0 _ (by rw [hpk]; rfl)
      have c1 : wr.cell? ⟨b, off + k * 2 + 1, none⟩ = some (.string (S s)) := by
        rw [HX.out.cell (by exact hbg)]
        exact hcell k hlt 1 _ (by rw [hpk]; rfl)
      obtain ⟨hA, hsl⟩ := hpb
      obtain ⟨q, hq⟩ : ∃ q : Nat, q = At % 512 := ⟨_, rfl⟩
      have hqI : (At : Int) % 512 = (q : Int) := by omega
      have hq5 : q < 512 := by omega
      have hne : ¬ cb = q := by omega
      have hcbI : (512 : Int) ≤ (cb : Int) := by omega
      have hcb2 : 512 ≤ cb := hcb
      have hA2 : (At : Int) ≤ 65535 := by omega
      have hA0 : (0 : Int) ≤ (At : Int) := by omega
      have htm : ((At : Int)).tmod 512 = (q : Int) := by rw [Int.tmod_eq_emod_of_nonneg hA0]; exact hqI
      have hwA : IntKind.i64.wrap (At : Int) = (At : Int) := wrap_lit_i64 _ (by omega) (by omega)
      have hq0I : (0 : Int) ≤ (q : Int) := by omega
      have hq5I : (q : Int) ≤ 512 := by omega
      clear hq hcell hpk HV HP
      have HB5 : Hid (ByAt (wr.alloc (.cells #[.int .u16 At, .string (S s)] 57)) g cur) := Lib.hid (HB.out.same (Below.heap_alloc wr _ g HB.out.lt))
      have HX5 : Hid (Below g w (wr.alloc (.cells #[.int .u16 At, .string (S s)] 57))) := Lib.hid (HX.out.alloc (Nat.le_of_lt HB.out.lt) _)
      have HQ5 : Hid (AtB (wr.alloc (.cells #[.int .u16 At, .string (S s)] 57)) wr.heap.size 57 [.int .u16 At, .string (S s)]) := Lib.hid (AtB.new wr _ [.int .u16 At, .string (S s)])
      have hgp : g < wr.heap.size := HB.out.lt
      go_upto_region 6 with fail
      generalize wr.alloc (.cells #[.int .u16 At, .string (S s)] 57) = w5 at *
      generalize wr.heap.size = gp at *
      have q0d : w5.drew.cell? ⟨gp, 0, none⟩ = some (.int .u16 At) := by rw [show w5.drew.cell? ⟨gp, 0, none⟩ = w5.cell? ⟨gp, 0, none⟩ from rfl, HQ5.out.cell 0]; rfl
      have q1d : w5.drew.cell? ⟨gp, 1, none⟩ = some (.string (S s)) := by rw [show w5.drew.cell? ⟨gp, 1, none⟩ = w5.cell? ⟨gp, 1, none⟩ from rfl, HQ5.out.cell 1]; rfl
      have hbd : Below g w w5.drew := HX5.out.drew
      have hWd : ByAt w5.drew g cur := HB5.out
      have hfit : q + Nat.min s.length (512 - q) ≤ cur.length := by
        rw [HCL.out]
        have : Nat.min s.length (512 - q) ≤ 512 - q := Nat.min_le_right _ _
        omega
      clear c0 c1 HB HX HB5 HX5 HQ5
      go_region_held3 (fun W => W.cell? ⟨gp, 0, none⟩ = some (.int .u16 At) ∧ W.cell? ⟨gp, 1, none⟩ = some (.string (S s))) (first | exact ⟨r0, r1⟩ | exact ⟨q0d, q1d⟩) (first
        | (refine step_copy (by rfl) (.tmp 28) (.tmp 30) (by rfl) g q (512 - q) (cb - q) (by rfl) s cur (by rfl) _ rfl hWd hfit g w hbd (Nat.le_refl _) ?_; intro w6 hW6 hb6 hk6; have r0 : w6.cell? ⟨gp, 0, none⟩ = some (.int .u16 At) := (World.cell?_of_block (a := ⟨gp, 0, none⟩) (hk6 gp (by omega))).trans q0d; have r1 : w6.cell? ⟨gp, 1, none⟩ = some (.string (S s)) := (World.cell?_of_block (a := ⟨gp, 1, none⟩) (hk6 gp (by omega))).trans q1d))
      clear hwA htm hqI
      go_wp2_with fail
      go_roundw
      case rel => exact ⟨k + 1, _, by go_num, by omega, Lib.hid (by rw [lay_len _ _ _ (by rw [List.length_take]; have : Nat.min s.length (512 - q) ≤ 512 - q := Nat.min_le_right _ _; rw [HCL.out]; omega)]; exact HCL.out), Lib.hid hW6, Lib.hid hb6⟩
      case measure => simp [intOf] <;> omega
    · have hkk : k = spots.length := by omega
      subst hkk
      have hkI : ¬ (spots.length : Int) < (spots.length : Int) := by omega
      have hstr := HB.out.str 512 cb HCL.out.symm
      have HSE := Lib.hid (fun w => rSeal_any cur w HCL.out)
      cases sl with
      | true =>
        go_wp2_with fail
        refine (HSE.out _).mono ?_
        rintro e w2 ⟨rfl, hb2⟩
        go_wp2_with fail
        go_ret
        exact ⟨sealL cur, seal_len cur HCL.out, rfl, by rw [HG.out]; exact HX.out.trans (hb2.mono (Nat.le_of_lt HB.out.lt))⟩
      | false =>
        go_wp2_with fail
        go_ret
        exact ⟨cur, HCL.out, rfl, by rw [HG.out]; exact HX.out⟩
end Go.Proofs.Ytidnckcgclfaoaa
