/- The statement HeaderParsesSaid: for every input the law's call returns true, and what was in memory is as it was. No condition. -/
import Derived.SizedLaws
import Derived.Test.YtidnckcgclfaoaaRows
import Derived.Test.YtidnckcgclfaoaaHdZ
import Derived.Test.YtidnckcgclfaoaaPost5
import Derived.ShutString
import Derived.Lib.SmallJoins
namespace Go.Proofs.Ytidnckcgclfaoaa
open Go.ChangeShapes Go.WideShapes Go.ChangeAt Go.RowKit Go.Joins
open Go.ChangeMaps (open_string shut_string)

set_option maxRecDepth 100000 in
theorem headerParses_lifted (os : Os) (started : os.Started) (H : Type) (enc : TypeId × Value → H) :
    ReturnsInHanded {} Try.checked os 3 .any (Rows.headerParsesSpec.pre6 enc Try.prog Try.f3 Rows.headerParsesRow.domain false) (Rows.headerParsesSpec.post enc Try.prog Try.f3 false true false false) := by
  refine returnsInHanded_of_change_sized (C := Try.checked) Try.own started (by kernel_rfl) Try.func3
    (ChangeSpec.witness6 (enc := enc) (C := Try.checked) false ⟨#[], #[.agg #[.string ByteArray.empty, .string ByteArray.empty, .int .u8 0, .int .i64 0, .int .i64 0, .int .i64 0, .int .i64 0, .int .i64 0, .string ByteArray.empty, .string ByteArray.empty, .int .i64 0, .int .i64 0, .int .i64 0], .slice none 0 0, .bool false, .string ByteArray.empty], []⟩ 8 (by kernel_rfl) (by kernel_rfl) (by kernel_rfl) (by kernel_rfl)) ?_
  intro W base args ds gs before hval0 hW hcnd hR hholds
  have hval : ∀ (j : Nat) t v, Try.f3.params[j]? = some t → args[j]? = some v → Value.okWide Try.prog W .any base t v := hval0
  have hW' := hW
  obtain ⟨p, q, hA0, hV, rfl, hfz, hnd⟩ := hW
  have hA : DataW.TrodAll enc Try.prog W 0 (fun _ => true) true Try.f3.params.toList args.toList ds p := hA0
  rw [Try.params3] at hA hval
  obtain ⟨v0, vs0, d0, ds0, p0, q0, hargs, rfl, rfl, h0, r0⟩ := trodAll_cons hA
  obtain ⟨v1, vs1, d1, ds1, p1, q1, rfl, rfl, rfl, h1, r1⟩ := trodAll_cons r0
  obtain ⟨v2, vs2, d2, ds2, p2, q2, rfl, rfl, rfl, h2, r2⟩ := trodAll_cons r1
  obtain ⟨v3, vs3, d3, ds3, p3, q3, rfl, rfl, rfl, h3, r3⟩ := trodAll_cons r2
  obtain ⟨rfl, rfl, rfl⟩ := trodAll_nil r3
  obtain rfl : args = #[v0, v1, v2, v3] := by cases args; simp_all
  obtain ⟨rfl, rfl⟩ := trodVars_none hV
  have k0 := h0
  have hvv0 := hval 0 23 v0 rfl rfl
  have k1 := h1
  obtain ⟨a1, n1, c1, rfl⟩ := okWide_slice Try.underlying24 (hval 1 24 v1 rfl rfl)
  obtain ⟨x2, rfl, rfl, rfl⟩ := open_bool Try.underlying4 (hval 2 4 v2 rfl rfl) h2
  have k3 := h3
  clear hA0 hval0
  simp only [List.append_nil] at hW'
  have hlt0 : ∀ x ∈ p0, x.block < W.heap.size := fun x hx => by have := hW'.lt x (by simp [hx]); simpa using this
  have hw0 : ∀ x ∈ d0.weights Try.prog 23, x ≤ reachBytes := fun x hx => by simpa using List.all_eq_true.1 hR x (DataW.weights_mem_each (j := 0) rfl rfl x hx)
  obtain ⟨x0, rfl, wf0, sh0⟩ := head_of_trod hvv0 h0 hw0
  have hlt1 : ∀ x ∈ p1, x.block < W.heap.size := fun x hx => by have := hW'.lt x (by simp [hx]); simpa using this
  have hw1 : ∀ x ∈ d1.weights Try.prog 24, x ≤ reachBytes := fun x hx => by simpa using List.all_eq_true.1 hR x (DataW.weights_mem_each (j := 1) rfl rfl x hx)
  obtain ⟨l1, hS1, hM1⟩ := spots_of_trod k1 hlt1 hw1
  have hlt3 : ∀ x ∈ p3, x.block < W.heap.size := fun x hx => by have := hW'.lt x (by simp [hx]); simpa using this
  have hw3 : ∀ x ∈ d3.weights Try.prog 9, x ≤ reachBytes := fun x hx => by simpa using List.all_eq_true.1 hR x (DataW.weights_mem_each (j := 3) rfl rfl x hx)
  have hvs3 := hval 3 9 v3 rfl rfl
  obtain ⟨x3, hxv3, hxd3, -, m3⟩ := open_string Try.underlying9 hvs3 h3
  subst hxv3
  have hx3 : x3.data.toList.length ≤ 140737488355328 := by
    have rb : reachBytes ≤ 140737488355328 := by decide
    have := hw3 x3.data.toList.length (by rw [hxd3, DataW.weights]; exact List.mem_singleton.2 rfl)
    omega
  refine (lawParses05 x0 l1 (.slice a1 n1 c1) x2 x3.data.toList W sh0 wf0 hS1 hM1 hx3).mono fun e W' ⟨he, hb⟩ => ?_
  subst he
  exact ⟨_, rfl, post_of_below2 (pv := []) hW' (fun _ _ _ => (trodAll_cons_mk (shut_bool Try.underlying4 _) trodAll_mk0)) (trodAll_cons_mk (Below.trod Try.laidOut (by kernel_rfl) (of_decide_eq_true (by kernel_rfl)) k0 hb hlt0) (trodAll_cons_mk (Below.trod Try.laidOut (by kernel_rfl) (of_decide_eq_true (by kernel_rfl)) k1 hb hlt1) (trodAll_cons_mk (shut_bool Try.underlying4 x2) (trodAll_cons_mk (Below.trod Try.laidOut (by kernel_rfl) (of_decide_eq_true (by kernel_rfl)) k3 hb hlt3) trodAll_mk0)))) rfl (by simp) hb⟩

theorem headerParses_holds : Rows.HeaderParsesSaid :=
  OpenClaim.holds_of_wide 3 Try.f3 rfl rfl rfl rfl rfl rfl rfl ⟨rfl, rfl, rfl, rfl, rfl⟩ rfl rfl rfl rfl rfl (by kernel_rfl) Try.func3 (by kernel_rfl)
    (of_decide_eq_true (by kernel_rfl)) (by unfold Func.isWrapper; rw [if_neg (of_decide_eq_false (by kernel_rfl))]; exact ⟨rfl, rfl⟩)
    (fun os started H enc _ => headerParses_lifted os started H enc)

end Go.Proofs.Ytidnckcgclfaoaa
