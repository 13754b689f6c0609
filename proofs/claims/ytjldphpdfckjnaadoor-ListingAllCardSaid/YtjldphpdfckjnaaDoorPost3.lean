/- What opens and shuts a slice of pairs of texts among the arguments, and a number of sixteen bits. -/
import Derived.Test.YtjldphpdfckjnaaDoorPost
import Derived.Test.YtjldphpdfckjnaaDoorPairV
import Derived.Deep.SlicePairs
import Derived.Carry
import Derived.OpenShut
namespace Go.Proofs.YtjldphpdfckjnaaDoor
open Go.ChangeShapes Go.WideShapes Go.ChangeAt Go.RowKit

theorem u16_of (n : Int) (h : (Lit.int .u16 n).wf = true) : ∃ b : UInt16, n = (b.toNat : Int) := by
  have hx : 0 ≤ n ∧ n ≤ 65535 := by simpa [Lit.wf, IntKind.min, IntKind.max, IntKind.signed, IntKind.bits] using h
  refine ⟨UInt16.ofNat n.toNat, ?_⟩
  rw [UInt16.toNat_ofNat', Nat.mod_eq_of_lt (by omega)]
  omega
theorem Tryd.laidOut : laidOutB Tryd.prog = true := by kernel_rfl
theorem weightsAll_mem {H : Type} {P : Program} {e : TypeId} : ∀ (ds : List (DataW H)) (d : DataW H), d ∈ ds → ∀ n ∈ d.weights P e, n ∈ DataW.weightsAll P e ds
  | [], _, h, _, _ => by cases h
  | x :: ds, d, h, n, hn => by
    rw [DataW.weightsAll]
    rcases List.mem_cons.1 h with rfl | g
    · exact List.mem_append_left _ hn
    · exact List.mem_append_right _ (weightsAll_mem ds d g n hn)
theorem pairs_of_trod {H : Type} {enc : TypeId × Value → H} {W : World} {a : Option Addr} {n c : Nat} {d : DataW H} {p : List MemPlace}
    (h : DataW.Trod enc Tryd.prog W 0 (fun _ => true) true 53 (.slice a n c) d p) (hlt : ∀ x ∈ p, x.block < W.heap.size)
    (hw : ∀ x ∈ d.weights Tryd.prog 53, x ≤ reachBytes) : ∃ l : List PR, PairsV W (.slice a n c) l ∧ ∀ p ∈ l, p.1.length ≤ 140737488355328 ∧ p.2.length ≤ 140737488355328 := by
  obtain ⟨fuel, hf⟩ := h
  rcases Go.Deep.open_slice_pairs Tryd.underlying53 Tryd.underlying123 (by kernel_rfl) rfl rfl (by kernel_rfl) (by kernel_rfl) hf with ⟨hcs, hx⟩ | ⟨a', len', cap', m, fu, V0, V1, D0, D1, P0, P1, hcs, _, hl, hm, hz, hx, hall⟩
  · simp [Value.cells] at hcs
    obtain ⟨rfl, rfl, rfl⟩ := hcs
    exact ⟨[], ⟨none, 0, rfl, fun h => absurd h (Nat.lt_irrefl _)⟩, fun p hp => by cases hp⟩
  · simp [Value.cells] at hcs
    obtain ⟨rfl, rfl, rfl⟩ := hcs
    simp only [if_true] at hz
    simp only [Prod.mk.injEq] at hx
    obtain ⟨rfl, rfl⟩ := hx
    have hmem : ∀ i, i < n → ∀ x, x ∈ (D0 i).weights Tryd.prog 9 ∨ x ∈ (D1 i).weights Tryd.prog 9 → x ≤ reachBytes := by
      intro i hi x hx
      apply hw
      rw [DataW.weights, Tryd.underlying53]
      refine List.mem_cons_of_mem _ (List.mem_append_left _ (weightsAll_mem _ _ (List.mem_map.2 ⟨i, List.mem_range.2 hi, rfl⟩) x ?_))
      rw [DataW.weights, Tryd.underlying123]
      show x ∈ (D0 i).weights Tryd.prog 9 ++ ((D1 i).weights Tryd.prog 9 ++ [])
      rw [List.append_nil]
      exact List.mem_append.2 hx
    have hs : ∀ i, i < n → ∃ x y : ByteArray, W.cell? (a'.add (i * 2)) = some (.string x) ∧ W.cell? (a'.add (i * 2 + 1)) = some (.string y) ∧ x.data.toList.length ≤ 140737488355328 ∧ y.data.toList.length ≤ 140737488355328 := by
      intro i hi
      obtain ⟨h0, h1, h2, h3⟩ := hall i (by omega)
      obtain ⟨x, hx, ex, _⟩ := DataW.trod_string Tryd.underlying9 h2
      obtain ⟨y, hy, ey, _⟩ := DataW.trod_string Tryd.underlying9 h3
      rw [List.singleton_inj] at hx hy
      have ex := congrArg Prod.fst ex
      have ey := congrArg Prod.fst ey
      have rb : reachBytes ≤ 140737488355328 := by decide
      have mx := hmem i hi x.data.toList.length (.inl (by rw [show D0 i = .lit (.string x.data.toList) from ex, DataW.weights]; exact List.mem_singleton.2 rfl))
      have my := hmem i hi y.data.toList.length (.inr (by rw [show D1 i = .lit (.string y.data.toList) from ey, DataW.weights]; exact List.mem_singleton.2 rfl))
      exact ⟨x, y, by rw [h0, hx], by rw [h1, hy], by omega, by omega⟩
    obtain ⟨X, hX⟩ : ∃ X : Nat → PR, ∀ i, i < n → W.cell? (a'.add (i * 2)) = some (.string (S (X i).1)) ∧ W.cell? (a'.add (i * 2 + 1)) = some (.string (S (X i).2)) ∧ (X i).1.length ≤ 140737488355328 ∧ (X i).2.length ≤ 140737488355328 := by
      refine ⟨fun i => if h : i < n then ((Classical.choose (hs i h)).data.toList, (Classical.choose (Classical.choose_spec (hs i h))).data.toList) else ([], []), fun i hi => ?_⟩
      simp only [dif_pos hi]
      exact Classical.choose_spec (Classical.choose_spec (hs i hi))
    have hlen : ((List.range n).map X).length = n := by rw [List.length_map, List.length_range]
    refine ⟨(List.range n).map X, ⟨some a', c, by rw [hlen], fun hp => ?_⟩, fun q hq => by
      obtain ⟨j, hj, rfl⟩ := List.mem_map.1 hq
      exact (hX j (List.mem_range.1 hj)).2.2⟩
    rw [hlen] at hp
    obtain ⟨b, off, spot⟩ := a'
    have hspot : spot = none := by simpa [Addr.add] using World.cell?_spot (hX 0 hp).1
    subst hspot
    refine ⟨b, off, rfl, hlt (.cell b off) (List.mem_append_left _ (MemPlace.mem_row.2 ⟨0, by omega, by simp⟩)), fun j hj i u hu => ?_⟩
    rw [hlen] at hj
    have e : ((List.range n).map X)[j]'(by rw [hlen]; exact hj) = X j := by rw [List.getElem_map, List.getElem_range]
    rw [e] at hu
    have h2 := hX j hj
    rw [add_plain, add_plain] at h2
    match i, hu with
    | 0, hu => rw [← hu]; exact h2.1
    | 1, hu => rw [← hu]; exact h2.2.1
theorem post_of_below2 {H : Type} {enc : TypeId × Value → H} {P : Program} {f : Func} {s : ChangeSpec} {W W' : World} {args : Array Value} {v : Value} {ds gs : List (DataW H)} {before pa pv : List MemPlace}
    (hW : DataW.Whole enc P f.params.toList s.vars false W args.toList ds gs before)
    (hres : ∀ (b : Nat) (sp : Nat → Bool) (hd : Bool), DataW.TrodAll enc P W' b sp hd f.resultTypes.toList (v.resultList f.resultTypes.size) (s.fn H (ds ++ gs)).results [])
    (hargs : DataW.TrodAll enc P W' 0 (fun b => decide (b < W.heap.size)) true f.params.toList args.toList (s.fn H (ds ++ gs)).args pa)
    (hvars : DataW.TrodVars enc P W' (fun b => decide (b < W.heap.size)) s.vars (s.fn H (ds ++ gs)).vars pv)
    (_hps : before = pa ++ pv) (hb : Below W.heap.size W W') :
    s.post enc P f false true false false W args v W' := by
  exact ⟨ds, gs, before, [], pa, pv, hW, hres _ _ _, hargs, hvars, hb.frame _, fun h => by cases h⟩
end Go.Proofs.YtjldphpdfckjnaaDoor
