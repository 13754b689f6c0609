/- The statement HeaderOldSaid: for every input the law's call returns true, and what was in memory is as it was. No condition. -/
import Derived.SizedLaws
import Derived.Test.YtidnckcgclfaoaaRows
import Derived.Test.YtidnckcgclfaoaaHdZ2
import Derived.Test.YtidnckcgclfaoaaPost5
import Derived.ShutString
import Derived.Lib.SmallJoins
namespace Go.Proofs.Ytidnckcgclfaoaa
open Go.ChangeShapes Go.WideShapes Go.ChangeAt Go.RowKit Go.Joins
open Go.ChangeMaps (open_string shut_string)

set_option maxRecDepth 100000 in
theorem headerOld_lifted (os : Os) (started : os.Started) (H : Type) (enc : TypeId × Value → H) :
    ReturnsInHanded {} Try.checked os 5 .any (Rows.headerOldSpec.pre6 enc Try.prog Try.f5 Rows.headerOldRow.domain false) (Rows.headerOldSpec.post enc Try.prog Try.f5 false true false false) := by
  refine returnsInHanded_of_change_sized (C := Try.checked) Try.own started (by kernel_rfl) Try.func5
    (ChangeSpec.witness6 (enc := enc) (C := Try.checked) false ⟨#[], #[.agg #[.string ByteArray.empty, .string ByteArray.empty, .int .u8 0, .int .i64 0, .int .i64 0, .int .i64 0, .int .i64 0, .int .i64 0, .string ByteArray.empty, .string ByteArray.empty, .int .i64 0, .int .i64 0, .int .i64 0], .string ByteArray.empty], []⟩ 8 (by kernel_rfl) (by kernel_rfl) (by kernel_rfl) (by kernel_rfl)) ?_
  intro W base args ds gs before hval0 hW hcnd hR hholds
  have hval : ∀ (j : Nat) t v, Try.f5.params[j]? = some t → args[j]? = some v → Value.okWide Try.prog W .any base t v := hval0
  have hW' := hW
  obtain ⟨p, q, hA0, hV, rfl, hfz, hnd⟩ := hW
  have hA : DataW.TrodAll enc Try.prog W 0 (fun _ => true) true Try.f5.params.toList args.toList ds p := hA0
  rw [Try.params5] at hA hval
  obtain ⟨v0, vs0, d0, ds0, p0, q0, hargs, rfl, rfl, h0, r0⟩ := trodAll_cons hA
  obtain ⟨v1, vs1, d1, ds1, p1, q1, rfl, rfl, rfl, h1, r1⟩ := trodAll_cons r0
  obtain ⟨rfl, rfl, rfl⟩ := trodAll_nil r1
  obtain rfl : args = #[v0, v1] := by cases args; simp_all
  obtain ⟨rfl, rfl⟩ := trodVars_none hV
  have k0 := h0
  have hvv0 := hval 0 23 v0 rfl rfl
  have k1 := h1
  clear hA0 hval0
  simp only [List.append_nil] at hW'
  have hlt0 : ∀ x ∈ p0, x.block < W.heap.size := fun x hx => by have := hW'.lt x (by simp [hx]); simpa using this
  have hw0 : ∀ x ∈ d0.weights Try.prog 23, x ≤ reachBytes := fun x hx => by simpa using List.all_eq_true.1 hR x (DataW.weights_mem_each (j := 0) rfl rfl x hx)
  obtain ⟨x0, rfl, wf0, sh0⟩ := head_of_trod hvv0 h0 hw0
  have hlt1 : ∀ x ∈ p1, x.block < W.heap.size := fun x hx => by have := hW'.lt x (by simp [hx]); simpa using this
  have hw1 : ∀ x ∈ d1.weights Try.prog 9, x ≤ reachBytes := fun x hx => by simpa using List.all_eq_true.1 hR x (DataW.weights_mem_each (j := 1) rfl rfl x hx)
  have hvs1 := hval 1 9 v1 rfl rfl
  obtain ⟨x1, hxv1, hxd1, -, m1⟩ := open_string Try.underlying9 hvs1 h1
  subst hxv1
  have hx1 : x1.data.toList.length ≤ 140737488355328 := by
    have rb : reachBytes ≤ 140737488355328 := by decide
    have := hw1 x1.data.toList.length (by rw [hxd1, DataW.weights]; exact List.mem_singleton.2 rfl)
    omega
  refine (lawOld05 x0 x1.data.toList W sh0 wf0 hx1).mono fun e W' ⟨he, hb⟩ => ?_
  subst he
  exact ⟨_, rfl, post_of_below2 (pv := []) hW' (fun _ _ _ => (trodAll_cons_mk (shut_bool Try.underlying4 _) trodAll_mk0)) (trodAll_cons_mk (Below.trod Try.laidOut (by kernel_rfl) (of_decide_eq_true (by kernel_rfl)) k0 hb hlt0) (trodAll_cons_mk (Below.trod Try.laidOut (by kernel_rfl) (of_decide_eq_true (by kernel_rfl)) k1 hb hlt1) trodAll_mk0)) rfl (by simp) hb⟩

theorem headerOld_holds : Rows.HeaderOldSaid :=
  OpenClaim.holds_of_wide 5 Try.f5 rfl rfl rfl rfl rfl rfl rfl ⟨rfl, rfl, rfl, rfl, rfl⟩ rfl rfl rfl rfl rfl (by kernel_rfl) Try.func5 (by kernel_rfl)
    (of_decide_eq_true (by kernel_rfl)) (by unfold Func.isWrapper; rw [if_neg (of_decide_eq_false (by kernel_rfl))]; exact ⟨rfl, rfl⟩)
    (fun os started H enc _ => headerOld_lifted os started H enc)

end Go.Proofs.Ytidnckcgclfaoaa
