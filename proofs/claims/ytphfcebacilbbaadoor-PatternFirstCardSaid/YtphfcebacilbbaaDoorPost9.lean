/- What opens a rule, and a slice of rules, among the arguments. -/
import Derived.Test.YtphfcebacilbbaaDoorPost
import Derived.Test.YtphfcebacilbbaaDoorRowk
import Derived.Lib.SmallJoins
import Derived.Carry
import Derived.OpenShut
import Derived.Deep.SlicePairs
namespace Go.Proofs.YtphfcebacilbbaaDoor
open Go.Joins Go.ChangeShapes Go.WideShapes Go.ChangeAt Go.RowKit Go.Deep

theorem Tryd.laidOut : laidOutB Tryd.prog = true := by kernel_rfl
/-- what closes a law's row where an argument is more than a number or a text -/
theorem post_of_below2 {H : Type} {enc : TypeId × Value → H} {P : Program} {f : Func} {s : ChangeSpec} {W W' : World} {args : Array Value} {v : Value} {ds gs : List (DataW H)} {before pv : List MemPlace}
    (hW : DataW.Whole enc P f.params.toList s.vars false W args.toList ds gs before)
    (hres : ∀ (b : Nat) (sp : Nat → Bool) (hd : Bool), DataW.TrodAll enc P W' b sp hd f.resultTypes.toList (v.resultList f.resultTypes.size) (s.fn H (ds ++ gs)).results [])
    {pa : List MemPlace} (hargs : DataW.TrodAll enc P W' 0 (fun b => decide (b < W.heap.size)) true f.params.toList args.toList (s.fn H (ds ++ gs)).args pa)
    (hvars : DataW.TrodVars enc P W' (fun b => decide (b < W.heap.size)) s.vars (s.fn H (ds ++ gs)).vars pv)
    (_hps : before = pa ++ pv) (hb : Below W.heap.size W W') :
    s.post enc P f false true false false W args v W' := by
  exact ⟨ds, gs, before, [], pa, pv, hW, hres _ _ _, hargs, hvars, hb.frame _, fun h => by cases h⟩
/-- a rule -/
abbrev RuleL : Type := List UInt8 × Bool × Bool × Bool
def ruleC (r : RuleL) : List Value := [.string (S r.1), .bool r.2.1, .bool r.2.2.1, .bool r.2.2.2]
theorem ruleC_len (r : RuleL) : (ruleC r).length = 4 := rfl
set_option maxRecDepth 100000 in
theorem rule_of_trod {H : Type} {enc : TypeId × Value → H} {W : World} {r : Reach} {b0 : Nat} {v : Value} {d : DataW H} {p : List MemPlace}
    (hv : Value.okWide Tryd.prog W r b0 43 v) (h : DataW.Trod enc Tryd.prog W 0 (fun _ => true) true 43 v d p) :
    ∃ (t : ByteArray) (a f s : Bool), v = .agg #[.string t, .bool a, .bool f, .bool s] := by
  obtain ⟨c0, c1, c2, c3, y0, y1, y2, y3, n, rfl, -, -, h0, h1, h2, h3⟩ := open_agg4 Tryd.underlying43 (by kernel_rfl) (show Tryd.prog.cellsOf 43 = 4 by kernel_rfl) hv h
  obtain ⟨t, e0, -, -⟩ := DataW.trod_string Tryd.underlying9 h0
  obtain ⟨a, e1, -⟩ := DataW.trod_bool Tryd.underlying4 h1
  obtain ⟨f, e2, -⟩ := DataW.trod_bool Tryd.underlying4 h2
  obtain ⟨s, e3, -⟩ := DataW.trod_bool Tryd.underlying4 h3
  rw [List.singleton_inj] at e0 e1 e2 e3
  subst e0; subst e1; subst e2; subst e3
  exact ⟨t, a, f, s, rfl⟩
/-- a slice that reads as some rules -/
def RulesV (W : World) (v : Value) (l : List RuleL) : Prop := RowsV ruleC 4 W v l
set_option maxRecDepth 100000 in
theorem rules_of_trod {H : Type} {enc : TypeId × Value → H} {W : World} {a : Option Addr} {n c : Nat} {d : DataW H} {p : List MemPlace}
    (h : DataW.Trod enc Tryd.prog W 0 (fun _ => true) true 48 (.slice a n c) d p) : ∃ l : List RuleL, RulesV W (.slice a n c) l := by
  obtain ⟨fuel, hf⟩ := h
  have hC : Tryd.prog.cellsOf 43 = 4 := by kernel_rfl
  have ks : Tryd.prog.cellsOf 9 = 1 := by kernel_rfl
  have kb : Tryd.prog.cellsOf 4 = 1 := by kernel_rfl
  rcases open_slice Tryd.underlying48 hf with ⟨hcs, hx⟩ | ⟨a', len', cap', m, nn, D, Pl, hcs, _, hl, hm, hz, hx, hall⟩
  · simp [Value.cells] at hcs
    obtain ⟨rfl, rfl, rfl⟩ := hcs
    exact ⟨[], ⟨none, 0, rfl, fun h => absurd h (Nat.lt_irrefl _)⟩⟩
  · simp [Value.cells] at hcs
    obtain ⟨rfl, rfl, rfl⟩ := hcs
    simp only [if_true] at hz
    simp only [Prod.mk.injEq] at hx
    obtain ⟨rfl, rfl⟩ := hx
    rw [hC] at hall
    have hs : ∀ i, i < n → ∃ q : RuleL, ∀ k u, (ruleC q)[k]? = some u → W.cell? (a'.add (i * 4 + k)) = some u := by
      intro i hi
      obtain ⟨cs', h1, h2⟩ := hall i (by omega)
      obtain ⟨_, hlen, hcell⟩ := World.cells?_some h1
      obtain ⟨xs, n2, _, _, hcl, hxl, hg⟩ := DataW.trod_struct Tryd.underlying43 h2
      rw [hC] at hcl
      match cs', hcl with
      | [c0, c1, c2, c3], _ =>
        match xs, hxl with
        | [y0, y1, y2, y3], _ =>
          have g0 : DataW.trod enc Tryd.prog W 0 (fun _ => true) true n2 9 [c0] = some y0 := by simpa [ks] using hg 0 _ rfl
          have g1 : DataW.trod enc Tryd.prog W 0 (fun _ => true) true n2 4 [c1] = some y1 := by simpa [kb] using hg 1 _ rfl
          have g2 : DataW.trod enc Tryd.prog W 0 (fun _ => true) true n2 4 [c2] = some y2 := by simpa [kb] using hg 2 _ rfl
          have g3 : DataW.trod enc Tryd.prog W 0 (fun _ => true) true n2 4 [c3] = some y3 := by simpa [kb] using hg 3 _ rfl
          obtain ⟨t, e0, -, -⟩ := DataW.trod_string Tryd.underlying9 g0
          obtain ⟨a, e1, -⟩ := DataW.trod_bool Tryd.underlying4 g1
          obtain ⟨f, e2, -⟩ := DataW.trod_bool Tryd.underlying4 g2
          obtain ⟨s, e3, -⟩ := DataW.trod_bool Tryd.underlying4 g3
          rw [List.singleton_inj] at e0 e1 e2 e3
          subst e0; subst e1; subst e2; subst e3
          refine ⟨(t.data.toList, a, f, s), fun k u hu => ?_⟩
          have hk : k < 4 := (List.getElem?_eq_some_iff.1 hu).1
          have h3 := hcell k hk
          have hu2 : ([.string t, .bool a, .bool f, .bool s] : List Value)[k]? = some u := hu
          rw [hu2] at h3
          rw [← h3, add_add]
    obtain ⟨X, hX⟩ : ∃ X : Nat → RuleL, ∀ i, i < n → ∀ k u, (ruleC (X i))[k]? = some u → W.cell? (a'.add (i * 4 + k)) = some u := by
      refine ⟨fun i => if h : i < n then Classical.choose (hs i h) else ([], false, false, false), fun i hi => ?_⟩
      simp only [dif_pos hi]
      exact Classical.choose_spec (hs i hi)
    have hlen : ((List.range n).map X).length = n := by rw [List.length_map, List.length_range]
    refine ⟨(List.range n).map X, some a', c, by rw [hlen], fun hp => ?_⟩
    rw [hlen] at hp
    have hc0 := hX 0 hp 0 _ rfl
    obtain ⟨b, off, spot⟩ := a'
    have hspot : spot = none := by simpa [Addr.add] using World.cell?_spot hc0
    subst hspot
    refine ⟨b, off, rfl, World.block_lt_of_cell? _ _ hc0, fun j hj i u hu => ?_⟩
    rw [hlen] at hj
    have e : ((List.range n).map X)[j]'(by rw [hlen]; exact hj) = X j := by rw [List.getElem_map, List.getElem_range]
    rw [e] at hu
    have h2 := hX j hj i u hu
    rw [add_plain] at h2
    rw [Nat.add_assoc]
    exact h2
end Go.Proofs.YtphfcebacilbbaaDoor
