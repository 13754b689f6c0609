/- What opens and shuts a map with holes among the arguments. -/
import Derived.Test.YtnemjfojlgjkfaaDoorPost
import Derived.Test.YtnemjfojlgjkfaaDoorSparseA
import Derived.Deep.SlicePairs
import Derived.Carry
import Derived.OpenShut
namespace Go.Proofs.YtnemjfojlgjkfaaDoor
open Go.ChangeShapes Go.WideShapes Go.ChangeAt Go.RowKit

theorem Tryd.laidOut : laidOutB Tryd.prog = true := by kernel_rfl
theorem pie_of_trod {H : Type} {enc : TypeId × Value → H} {W : World} {fuel : Nat} {v : Value} {x : DataW H × List MemPlace}
    (hf : DataW.trod enc Tryd.prog W 0 (fun _ => true) true fuel 23 [v] = some x) (hlt : ∀ y ∈ x.2, y.block < W.heap.size) : ∃ l : List (Int × Int), PieV W v l := by
  rcases Go.Deep.open_slice_pairs Tryd.underlying23 Tryd.underlying57 (by kernel_rfl) rfl rfl (by kernel_rfl) (by kernel_rfl) hf with ⟨hcs, hx⟩ | ⟨a', len', cap', m, fu, V0, V1, D0, D1, P0, P1, hcs, _, hl, hm, hz, hx, hall⟩
  · rw [List.singleton_inj] at hcs
    subst hcs
    exact ⟨[], none, 0, rfl, fun h => absurd h (Nat.lt_irrefl _)⟩
  · rw [List.singleton_inj] at hcs
    subst hcs
    simp only [if_true] at hz
    subst hx
    have hs : ∀ i, i < len' → ∃ q : Int × Int, W.cell? (a'.add (i * 2)) = some (.int .i64 q.1) ∧ W.cell? (a'.add (i * 2 + 1)) = some (.int .i64 q.2) := by
      intro i hi
      obtain ⟨h0, h1, h2, h3⟩ := hall i (by omega)
      obtain ⟨x, hx, _, _⟩ := DataW.trod_int Tryd.underlying3 h2
      obtain ⟨y, hy, _, _⟩ := DataW.trod_int Tryd.underlying3 h3
      rw [List.singleton_inj] at hx hy
      exact ⟨(x, y), by rw [h0, hx], by rw [h1, hy]⟩
    obtain ⟨X, hX⟩ : ∃ X : Nat → Int × Int, ∀ i, i < len' → W.cell? (a'.add (i * 2)) = some (.int .i64 (X i).1) ∧ W.cell? (a'.add (i * 2 + 1)) = some (.int .i64 (X i).2) := by
      refine ⟨fun i => if h : i < len' then Classical.choose (hs i h) else (0, 0), fun i hi => ?_⟩
      simp only [dif_pos hi]
      exact Classical.choose_spec (hs i hi)
    have hlen : ((List.range len').map X).length = len' := by rw [List.length_map, List.length_range]
    refine ⟨(List.range len').map X, some a', cap', by rw [hlen], fun hp => ?_⟩
    rw [hlen] at hp
    obtain ⟨b, off, spot⟩ := a'
    have hspot : spot = none := by simpa [Addr.add] using World.cell?_spot (hX 0 hp).1
    subst hspot
    refine ⟨b, off, rfl, hlt (.cell b off) (List.mem_append_left _ (MemPlace.mem_row.2 ⟨0, by omega, by simp⟩)), fun j hj => ?_⟩
    rw [hlen] at hj
    have e : ((List.range len').map X)[j]'(by rw [hlen]; exact hj) = X j := by rw [List.getElem_map, List.getElem_range]
    rw [e]
    have h2 := hX j hj
    rw [add_plain, add_plain] at h2
    exact h2
theorem post_of_below2 {H : Type} {enc : TypeId × Value → H} {P : Program} {f : Func} {s : ChangeSpec} {W W' : World} {args : Array Value} {v : Value} {ds gs : List (DataW H)} {before pa pv : List MemPlace}
    (hW : DataW.Whole enc P f.params.toList s.vars false W args.toList ds gs before)
    (hres : ∀ (b : Nat) (sp : Nat → Bool) (hd : Bool), DataW.TrodAll enc P W' b sp hd f.resultTypes.toList (v.resultList f.resultTypes.size) (s.fn H (ds ++ gs)).results [])
    (hargs : DataW.TrodAll enc P W' 0 (fun b => decide (b < W.heap.size)) true f.params.toList args.toList (s.fn H (ds ++ gs)).args pa)
    (hvars : DataW.TrodVars enc P W' (fun b => decide (b < W.heap.size)) s.vars (s.fn H (ds ++ gs)).vars pv)
    (_hps : before = pa ++ pv) (hb : Below W.heap.size W W') :
    s.post enc P f false true false false W args v W' := by
  exact ⟨ds, gs, before, [], pa, pv, hW, hres _ _ _, hargs, hvars, hb.frame _, fun h => by cases h⟩
end Go.Proofs.YtnemjfojlgjkfaaDoor
