/- The statement WhenNumbersSaid: for every input the law's call returns true, and what was in memory is as it was. No condition. -/
import Derived.Test.YtpfblnegaipgdaaRows
import Derived.Test.YtpfblnegaipgdaaWhenG
import Derived.Test.YtpfblnegaipgdaaPost
import Derived.ShutString
import Derived.Lib.SmallJoins
namespace Go.Proofs.Ytpfblnegaipgdaa
open Go.ChangeShapes Go.WideShapes Go.ChangeAt Go.RowKit Go.Joins
open Go.ChangeMaps (open_string shut_string)

set_option maxRecDepth 100000 in
theorem whenNumbers_lifted (os : Os) (started : os.Started) (H : Type) (enc : TypeId × Value → H) :
    ReturnsInHanded {} Try.checked os 6 .any (Rows.whenNumbersSpec.pre6 enc Try.prog Try.f6 Rows.whenNumbersRow.domain false) (Rows.whenNumbersSpec.post enc Try.prog Try.f6 false true false false) := by
  refine returnsInHanded_of_change (C := Try.checked) Try.own started (by kernel_rfl) Try.func6
    (ChangeSpec.witness6 (enc := enc) (C := Try.checked) false ⟨#[], #[.int .i64 0, .agg #[.int .i64 0, .int .i64 0], .agg #[.int .i64 0, .int .i64 0]], []⟩ 8 (by kernel_rfl) (by kernel_rfl) (by kernel_rfl) (by kernel_rfl)) ?_
  intro W base args ds gs before hval0 hW hcnd hreach
  have hval : ∀ (j : Nat) t v, Try.f6.params[j]? = some t → args[j]? = some v → Value.okWide Try.prog W .any base t v := hval0
  have hW' := hW
  obtain ⟨p, q, hA0, hV, rfl, hfz, hnd⟩ := hW
  have hA : DataW.TrodAll enc Try.prog W 0 (fun _ => true) true Try.f6.params.toList args.toList ds p := hA0
  rw [Try.params6] at hA hval
  obtain ⟨v0, vs0, d0, ds0, p0, q0, hargs, rfl, rfl, h0, r0⟩ := trodAll_cons hA
  obtain ⟨v1, vs1, d1, ds1, p1, q1, rfl, rfl, rfl, h1, r1⟩ := trodAll_cons r0
  obtain ⟨v2, vs2, d2, ds2, p2, q2, rfl, rfl, rfl, h2, r2⟩ := trodAll_cons r1
  obtain ⟨rfl, rfl, rfl⟩ := trodAll_nil r2
  obtain rfl : args = #[v0, v1, v2] := by cases args; simp_all
  obtain ⟨rfl, rfl⟩ := trodVars_none hV
  obtain ⟨x0, rfl, rfl, rfl, m0⟩ := open_int Try.underlying3 (hval 0 3 v0 rfl rfl) h0
  obtain ⟨ca1, cb1, ya1, yb1, mm1, rfl, rfl, rfl, hya1, hyb1⟩ := open_agg2 Try.underlying37 (by kernel_rfl) (show Try.prog.cellsOf 37 = 2 by kernel_rfl) (hval 1 37 v1 rfl rfl) h1
  obtain ⟨x1, ea1, rfl, wa1⟩ := DataW.trod_int Try.underlying3 hya1
  obtain ⟨z1, eb1, rfl, wb1⟩ := DataW.trod_int Try.underlying3 hyb1
  simp at ea1 eb1
  subst ea1 eb1
  obtain ⟨ca2, cb2, ya2, yb2, mm2, rfl, rfl, rfl, hya2, hyb2⟩ := open_agg2 Try.underlying37 (by kernel_rfl) (show Try.prog.cellsOf 37 = 2 by kernel_rfl) (hval 2 37 v2 rfl rfl) h2
  obtain ⟨x2, ea2, rfl, wa2⟩ := DataW.trod_int Try.underlying3 hya2
  obtain ⟨z2, eb2, rfl, wb2⟩ := DataW.trod_int Try.underlying3 hyb2
  simp at ea2 eb2
  subst ea2 eb2
  clear hA0 hval0
  simp only [List.append_nil] at hW'
  have reads1 : ∀ (W' : World) (sp : Nat → Bool), DataW.Trod enc Try.prog W' 0 sp true 37 (.agg #[.int .i64 x1, .int .i64 z1]) (.agg [.lit (.int .i64 x1), .lit (.int .i64 z1)]) [] := fun W' sp =>
    shut_agg2 (y0 := (.lit (.int .i64 x1), [])) (y1 := (.lit (.int .i64 z1), [])) Try.underlying37 (by kernel_rfl) (show Try.prog.cellsOf 37 = 2 by kernel_rfl) ⟨1, by simp [DataW.trod, Try.underlying3, wa1]⟩ ⟨1, by simp [DataW.trod, Try.underlying3, wb1]⟩
  have reads2 : ∀ (W' : World) (sp : Nat → Bool), DataW.Trod enc Try.prog W' 0 sp true 37 (.agg #[.int .i64 x2, .int .i64 z2]) (.agg [.lit (.int .i64 x2), .lit (.int .i64 z2)]) [] := fun W' sp =>
    shut_agg2 (y0 := (.lit (.int .i64 x2), [])) (y1 := (.lit (.int .i64 z2), [])) Try.underlying37 (by kernel_rfl) (show Try.prog.cellsOf 37 = 2 by kernel_rfl) ⟨1, by simp [DataW.trod, Try.underlying3, wa2]⟩ ⟨1, by simp [DataW.trod, Try.underlying3, wb2]⟩
  refine (lawNumbers x0 x1 z1 x2 z2 W (i64_lo m0) (i64_hi m0)).mono fun e W' ⟨he, hb⟩ => ?_
  subst he
  exact ⟨_, rfl, post_of_below (pa := []) (pv := []) hW' (fun _ _ _ => (trodAll_cons_mk (shut_bool Try.underlying4 _) trodAll_mk0)) (fun _ _ => (trodAll_cons_mk (shut_int Try.underlying3 m0) (trodAll_cons_mk (reads1 _ _) (trodAll_cons_mk (reads2 _ _) trodAll_mk0)))) (fun _ _ => rfl) rfl hb⟩

theorem whenNumbers_holds : Rows.WhenNumbersSaid :=
  OpenClaim.holds_of_wide 6 Try.f6 rfl rfl rfl rfl rfl rfl rfl ⟨rfl, rfl, rfl, rfl, rfl⟩ rfl rfl rfl rfl rfl (by kernel_rfl) Try.func6 (by kernel_rfl)
    (of_decide_eq_true (by kernel_rfl)) (by unfold Func.isWrapper; rw [if_neg (of_decide_eq_false (by kernel_rfl))]; exact ⟨rfl, rfl⟩)
    (fun os started H enc _ => whenNumbers_lifted os started H enc)

end Go.Proofs.Ytpfblnegaipgdaa
