/- The statement WhenTextsSaid: for every input the law's call returns true, and what was in memory is as it was. No condition. -/
import Derived.Test.YtjaiadfpdkjkpaaDoorCards
import Derived.Test.YtjaiadfpdkjkpaaDoorTie
import Derived.Deep.DeepHandedRow
import Derived.Lib.LaidTab
import Derived.SevenTiedAt
import Derived.LaidMore
import Derived.Test.YtjaiadfpdkjkpaaDoorLaid2
import Derived.Test.YtjaiadfpdkjkpaaDoorWhenN
import Derived.Test.YtjaiadfpdkjkpaaDoorPost
import Derived.ShutString
import Derived.Lib.SmallJoins
namespace Go.Proofs.YtjaiadfpdkjkpaaDoor
open Go.ChangeShapes Go.WideShapes Go.ChangeAt Go.RowKit Go.Joins
open Go.ChangeMaps (open_string shut_string)

set_option maxRecDepth 100000 in
theorem whenTexts_contract (H : Type) (enc : TypeId × Value → H) (W : World) (base : Nat) (args : Array Value) (ds gs : List (DataW H)) (before : List MemPlace)
    (hval0 : ∀ (j : Nat) t v, Tryd.f8.params[j]? = some t → args[j]? = some v → Value.okWide Tryd.prog W .any base t v)
    (hW : DataW.Whole enc Tryd.prog Tryd.f8.params.toList Rows.whenTextsSpec.vars false W args.toList ds gs before) (hL : laidMetH Tryd.prog Rows.whenTextsRow.laid W) :
    Calls Tryd.prog 8 args W fun e W' => ∃ v, e = .returned v ∧ Rows.whenTextsSpec.post enc Tryd.prog Tryd.f8 false true false false W args v W' := by
  have hval : ∀ (j : Nat) t v, Tryd.f8.params[j]? = some t → args[j]? = some v → Value.okWide Tryd.prog W .any base t v := hval0
  have hW' := hW
  obtain ⟨p, q, hA0, hV, rfl, hfz, hnd⟩ := hW
  have hA : DataW.TrodAll enc Tryd.prog W 0 (fun _ => true) true Tryd.f8.params.toList args.toList ds p := hA0
  rw [Tryd.params8] at hA hval
  obtain ⟨v0, vs0, d0, ds0, p0, q0, hargs, rfl, rfl, h0, r0⟩ := trodAll_cons hA
  obtain ⟨rfl, rfl, rfl⟩ := trodAll_nil r0
  obtain rfl : args = #[v0] := by cases args; simp_all
  obtain ⟨rfl, rfl⟩ := trodVars_none hV
  obtain ⟨ca0, cb0, ya0, yb0, mm0, rfl, rfl, rfl, hya0, hyb0⟩ := open_agg2 Tryd.underlying41 (by kernel_rfl) (show Tryd.prog.cellsOf 41 = 2 by kernel_rfl) (hval 0 41 v0 rfl rfl) h0
  obtain ⟨x0, ea0, rfl, wa0⟩ := DataW.trod_int Tryd.underlying3 hya0
  obtain ⟨z0, eb0, rfl, wb0⟩ := DataW.trod_int Tryd.underlying3 hyb0
  simp at ea0 eb0
  subst ea0 eb0
  clear hA0 hval0
  simp only [List.append_nil] at hW'
  have reads0 : ∀ (W' : World) (sp : Nat → Bool), DataW.Trod enc Tryd.prog W' 0 sp true 41 (.agg #[.int .i64 x0, .int .i64 z0]) (.agg [.lit (.int .i64 x0), .lit (.int .i64 z0)]) [] := fun W' sp =>
    shut_agg2 (y0 := (.lit (.int .i64 x0), [])) (y1 := (.lit (.int .i64 z0), [])) Tryd.underlying41 (by kernel_rfl) (show Tryd.prog.cellsOf 41 = 2 by kernel_rfl) ⟨1, by simp [DataW.trod, Tryd.underlying3, wa0]⟩ ⟨1, by simp [DataW.trod, Tryd.underlying3, wb0]⟩
  refine (lawTexts29 x0 z0 W (i64_lo wa0) (i64_hi wa0) (i64_lo wb0) (i64_hi wb0) (pow10_five hL)).mono fun e W' ⟨he, hb⟩ => ?_
  subst he
  exact ⟨_, rfl, post_of_below (pa := []) (pv := []) hW' (fun _ _ _ => (trodAll_cons_mk (shut_bool Tryd.underlying4 _) trodAll_mk0)) (fun _ _ => (trodAll_cons_mk (reads0 _ _) trodAll_mk0)) (fun _ _ => rfl) rfl hb⟩

noncomputable def whenTexts_world (os : Os) : World := { World.doorLaid Tryd.prog 400 os with heap := (World.doorLaid Tryd.prog 400 os).heap.modify 1 fun o => match o with | .cells _ t f => .cells (Pinned.utf8FirstZ.map fun n : Nat => Value.int .u8 (n : Int)).toArray t f | o => o }
set_option maxRecDepth 100000 in
theorem whenTexts_met (os : Os) : laidMet Tryd.prog Rows.whenTextsRow.laid ((whenTexts_world os).forCall (fun _ _ => 0) ⟨#[], #[.agg #[.int .i64 0, .int .i64 0]], []⟩).memory :=
  laidMet_of_run' 8 (by kernel_rfl) (by kernel_rfl)
theorem whenTexts_reads (os : Os) {H : Type} (enc : TypeId × Value → H) : ∃ places, DataW.whole enc Tryd.prog ((whenTexts_world os).forCall (fun _ _ => 0) ⟨#[], #[.agg #[.int .i64 0, .int .i64 0]], []⟩).memory Tryd.f8.params.toList Rows.whenTextsSpec.vars false (#[.agg #[.int .i64 0, .int .i64 0]] : Array Value).toList 8 = some ([.agg [.lit (.int .i64 0), .lit (.int .i64 0)]], [], places) :=
  ⟨[], by kernel_rfl⟩
set_option maxRecDepth 100000 in
theorem whenTexts_lifted (os : Os) (started : os.Started) (H : Type) (enc : TypeId × Value → H) (F : Stop.Interp) :
    ReturnsInHanded {} Tryd.checked os 8 .any ((OpenSpec.ofChange Rows.whenTextsSpec).preRow enc Tryd.prog Tryd.f8 Rows.whenTextsRow.domain false Rows.whenTextsRow.laid) (((OpenSpec.ofChange Rows.whenTextsSpec).at F).post enc Tryd.prog Tryd.f8 false true false false) := by
  obtain ⟨places, hx⟩ := whenTexts_reads os enc
  refine returnsInHanded_of_row (C := Tryd.checked) (s := OpenSpec.ofChange Rows.whenTextsSpec) Tryd.own started (by kernel_rfl) Tryd.func8
    (witness_row_at (enc := enc) (C := Tryd.checked) false (whenTexts_world os) #[.agg #[.int .i64 0, .int .i64 0]] rfl (by kernel_rfl) (by kernel_rfl) (by kernel_rfl)
      (OpenSpec.preRow_of_cond 8 hx (by kernel_rfl) (fun k hk => by cases hk) (by kernel_rfl) (whenTexts_met os))) ?_
  intro W base args ds gs before hval hW _ _ _ hL _ _
  exact whenTexts_contract H enc W base args ds gs before hval hW hL
theorem whenTexts_said : Rows.WhenTextsSaid :=
  OpenClaim.holds_of_cond 8 Tryd.f8 rfl rfl rfl rfl rfl rfl rfl ⟨rfl, rfl, rfl, rfl, rfl⟩ rfl rfl rfl rfl rfl (by kernel_rfl) Tryd.func8 (by kernel_rfl)
    (of_decide_eq_true (by kernel_rfl)) (by unfold Func.isWrapper; first | (rw [if_pos (by decide +kernel)]; kernel_rfl) | (rw [if_neg (by decide +kernel)]; exact ⟨rfl, rfl⟩))
    (fun os started H enc _ F => by rw [OpenClaim.pre_eq_preRow]; exact whenTexts_lifted os started H enc F)
theorem whenTexts_plain (f : FuncId) (fn : Func) (hf : Tryd.pinned.checked.prog.funcNamed "boulter/boulterlaw29.WhenTexts" = some f) (hfn : Tryd.pinned.checked.prog.funcs[f]? = some fn) :
    false = Tryd.pinned.checked.prog.looks [] ∧ ∀ (j : Nat) t, fn.params[j]? = some t → Tryd.pinned.checked.prog.wantsStandIn t = false := by
  obtain rfl : f = 8 := Option.some.inj ((show Tryd.prog.funcNamed "boulter/boulterlaw29.WhenTexts" = some 8 by kernel_rfl).symm.trans hf) |>.symm
  obtain rfl : fn = Tryd.f8 := (Option.some.inj (Tryd.func8.symm.trans hfn)).symm
  refine ⟨by kernel_rfl, fun j t ht => ?_⟩
  rw [Tryd.params8] at ht
  have hm : t ∈ [41] := by simpa using Array.mem_of_getElem? ht
  have hall : ([41].all fun u => !Tryd.prog.wantsStandIn u) = true := by kernel_rfl
  exact (show Tryd.prog.wantsStandIn t = false by simpa using List.all_eq_true.1 hall t hm)
theorem whenTexts_holds : Rows.WhenTextsCardSaid :=
  Claim7.holds_tied_plain_at .later [] _ _ _ _ whenTexts_said (fun _ h => by cases h) (by kernel_rfl) (fun _ h => by cases h) whenTexts_row_tie rfl ⟨rfl, rfl⟩ (by kernel_rfl) rfl whenTexts_plain (by kernel_rfl)

end Go.Proofs.YtjaiadfpdkjkpaaDoor
