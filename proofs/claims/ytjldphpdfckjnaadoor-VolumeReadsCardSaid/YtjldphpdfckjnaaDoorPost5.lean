/- What opens a head, and a slice of spots, among the arguments. -/
import Derived.Test.YtjldphpdfckjnaaDoorPost
import Derived.Test.YtjldphpdfckjnaaDoorHdK
import Derived.Test.YtjldphpdfckjnaaDoorRowk
import Derived.Lib.SmallJoins
import Derived.Deep.SlicePairs
import Derived.Carry
import Derived.OpenShut
namespace Go.Proofs.YtjldphpdfckjnaaDoor
open Go.Joins Go.ChangeShapes Go.WideShapes Go.ChangeAt Go.RowKit Go.Deep

theorem u16_of (n : Int) (h : (Lit.int .u16 n).wf = true) : ∃ b : UInt16, n = (b.toNat : Int) := by
  have hx : 0 ≤ n ∧ n ≤ 65535 := by simpa [Lit.wf, IntKind.min, IntKind.max, IntKind.signed, IntKind.bits] using h
  refine ⟨UInt16.ofNat n.toNat, ?_⟩
  rw [UInt16.toNat_ofNat', Nat.mod_eq_of_lt (by omega)]
  omega
theorem Tryd.laidOut : laidOutB Tryd.prog = true := by kernel_rfl
set_option maxRecDepth 100000 in
theorem head_of_trod {H : Type} {enc : TypeId × Value → H} {W : World} {r : Reach} {b0 : Nat} {v : Value} {d : DataW H} {p : List MemPlace}
    (hv : Value.okWide Tryd.prog W r b0 68 v) (h : DataW.Trod enc Tryd.prog W 0 (fun _ => true) true 68 v d p)
    (hw : ∀ x ∈ d.weights Tryd.prog 68, x ≤ reachBytes) : ∃ hd : HeadL, v = HV hd ∧ wfH hd ∧ shortH hd 140737488355328 := by
  have hs := Tryd.underlying68
  have hC : Tryd.prog.cellsOf 68 = 13 := by kernel_rfl
  obtain ⟨cs, rfl, hsz⟩ := okWide_struct hs hv
  obtain ⟨l⟩ := cs
  match l, hsz.trans hC with
  | [c0, c1, c2, c3, c4, c5, c6, c7, c8, c9, c10, c11, c12], _ =>
    obtain ⟨fuel, hf⟩ := h
    obtain ⟨xs, n, _, hx, _, hlen, hg⟩ := DataW.trod_struct hs hf
    match xs, hlen with
    | [y0, y1, y2, y3, y4, y5, y6, y7, y8, y9, y10, y11, y12], _ =>
      have ks : Tryd.prog.cellsOf 9 = 1 := by kernel_rfl
      have kb : Tryd.prog.cellsOf 5 = 1 := by kernel_rfl
      have ki : Tryd.prog.cellsOf 3 = 1 := by kernel_rfl
      simp only [Prod.mk.injEq] at hx
      obtain ⟨hxd, -⟩ := hx
      have g0 : DataW.trod enc Tryd.prog W 0 (fun _ => true) true n 9 [c0] = some y0 := by simpa [Value.cells, ks] using hg 0 _ rfl
      have g1 : DataW.trod enc Tryd.prog W 0 (fun _ => true) true n 9 [c1] = some y1 := by simpa [Value.cells, ks] using hg 1 _ rfl
      have g2 : DataW.trod enc Tryd.prog W 0 (fun _ => true) true n 5 [c2] = some y2 := by simpa [Value.cells, kb] using hg 2 _ rfl
      have g3 : DataW.trod enc Tryd.prog W 0 (fun _ => true) true n 3 [c3] = some y3 := by simpa [Value.cells, ki] using hg 3 _ rfl
      have g4 : DataW.trod enc Tryd.prog W 0 (fun _ => true) true n 3 [c4] = some y4 := by simpa [Value.cells, ki] using hg 4 _ rfl
      have g5 : DataW.trod enc Tryd.prog W 0 (fun _ => true) true n 3 [c5] = some y5 := by simpa [Value.cells, ki] using hg 5 _ rfl
      have g6 : DataW.trod enc Tryd.prog W 0 (fun _ => true) true n 3 [c6] = some y6 := by simpa [Value.cells, ki] using hg 6 _ rfl
      have g7 : DataW.trod enc Tryd.prog W 0 (fun _ => true) true n 3 [c7] = some y7 := by simpa [Value.cells, ki] using hg 7 _ rfl
      have g8 : DataW.trod enc Tryd.prog W 0 (fun _ => true) true n 9 [c8] = some y8 := by simpa [Value.cells, ks] using hg 8 _ rfl
      have g9 : DataW.trod enc Tryd.prog W 0 (fun _ => true) true n 9 [c9] = some y9 := by simpa [Value.cells, ks] using hg 9 _ rfl
      have g10 : DataW.trod enc Tryd.prog W 0 (fun _ => true) true n 3 [c10] = some y10 := by simpa [Value.cells, ki] using hg 10 _ rfl
      have g11 : DataW.trod enc Tryd.prog W 0 (fun _ => true) true n 3 [c11] = some y11 := by simpa [Value.cells, ki] using hg 11 _ rfl
      have g12 : DataW.trod enc Tryd.prog W 0 (fun _ => true) true n 3 [c12] = some y12 := by simpa [Value.cells, ki] using hg 12 _ rfl
      obtain ⟨x0, hc0, e0, -⟩ := DataW.trod_string Tryd.underlying9 g0
      rw [List.singleton_inj] at hc0
      subst hc0 e0
      obtain ⟨x1, hc1, e1, -⟩ := DataW.trod_string Tryd.underlying9 g1
      rw [List.singleton_inj] at hc1
      subst hc1 e1
      obtain ⟨x2, hc2, e2, w2⟩ := DataW.trod_int Tryd.underlying5 g2
      rw [List.singleton_inj] at hc2
      subst hc2 e2
      obtain ⟨x3, hc3, e3, w3⟩ := DataW.trod_int Tryd.underlying3 g3
      rw [List.singleton_inj] at hc3
      subst hc3 e3
      obtain ⟨x4, hc4, e4, w4⟩ := DataW.trod_int Tryd.underlying3 g4
      rw [List.singleton_inj] at hc4
      subst hc4 e4
      obtain ⟨x5, hc5, e5, w5⟩ := DataW.trod_int Tryd.underlying3 g5
      rw [List.singleton_inj] at hc5
      subst hc5 e5
      obtain ⟨x6, hc6, e6, w6⟩ := DataW.trod_int Tryd.underlying3 g6
      rw [List.singleton_inj] at hc6
      subst hc6 e6
      obtain ⟨x7, hc7, e7, w7⟩ := DataW.trod_int Tryd.underlying3 g7
      rw [List.singleton_inj] at hc7
      subst hc7 e7
      obtain ⟨x8, hc8, e8, -⟩ := DataW.trod_string Tryd.underlying9 g8
      rw [List.singleton_inj] at hc8
      subst hc8 e8
      obtain ⟨x9, hc9, e9, -⟩ := DataW.trod_string Tryd.underlying9 g9
      rw [List.singleton_inj] at hc9
      subst hc9 e9
      obtain ⟨x10, hc10, e10, w10⟩ := DataW.trod_int Tryd.underlying3 g10
      rw [List.singleton_inj] at hc10
      subst hc10 e10
      obtain ⟨x11, hc11, e11, w11⟩ := DataW.trod_int Tryd.underlying3 g11
      rw [List.singleton_inj] at hc11
      subst hc11 e11
      obtain ⟨x12, hc12, e12, w12⟩ := DataW.trod_int Tryd.underlying3 g12
      rw [List.singleton_inj] at hc12
      subst hc12 e12
      obtain ⟨kb, rfl⟩ := u8_of x2 w2
      rw [hxd, DataW.weights, hs] at hw
      simp only [List.map_cons, List.map_nil, DataW.weightsEach, DataW.weights, List.nil_append, List.cons_append, List.append_nil, List.mem_cons, List.not_mem_nil, or_false] at hw
      have rb : reachBytes ≤ 140737488355328 := by decide
      have m0 : x0.data.toList.length ≤ reachBytes := hw _ (by simp)
      have m1 : x1.data.toList.length ≤ reachBytes := hw _ (by simp)
      have m8 : x8.data.toList.length ≤ reachBytes := hw _ (by simp)
      have m9 : x9.data.toList.length ≤ reachBytes := hw _ (by simp)
      exact ⟨⟨x0.data.toList, x1.data.toList, kb, x3, x4, x5, x6, x7, x8.data.toList, x9.data.toList, x10, x11, x12⟩, rfl, ⟨w3, w4, w5, w6, w7, w10, w11⟩, by show x0.data.toList.length ≤ _; omega, by show x1.data.toList.length ≤ _; omega, by show x8.data.toList.length ≤ _; omega, by show x9.data.toList.length ≤ _; omega⟩
/-- other bytes at a place -/
def spotC (p : Nat × List UInt8) : List Value := [.int .u16 p.1, .string (S p.2)]
def SpotsV (w : World) (v : Value) (l : List (Nat × List UInt8)) : Prop := RowsV spotC 2 w v l
theorem weightsAll_mem {H : Type} {P : Program} {e : TypeId} : ∀ (ds : List (DataW H)) (d : DataW H), d ∈ ds → ∀ n ∈ d.weights P e, n ∈ DataW.weightsAll P e ds
  | [], _, h, _, _ => by cases h
  | x :: ds, d, h, n, hn => by
    rw [DataW.weightsAll]
    rcases List.mem_cons.1 h with rfl | g
    · exact List.mem_append_left _ hn
    · exact List.mem_append_right _ (weightsAll_mem ds d g n hn)
set_option maxRecDepth 100000 in
theorem spots_of_trod {H : Type} {enc : TypeId × Value → H} {W : World} {a : Option Addr} {n c : Nat} {d : DataW H} {p : List MemPlace}
    (h : DataW.Trod enc Tryd.prog W 0 (fun _ => true) true 23 (.slice a n c) d p) (hlt : ∀ x ∈ p, x.block < W.heap.size)
    (hw : ∀ x ∈ d.weights Tryd.prog 23, x ≤ reachBytes) : ∃ l : List (Nat × List UInt8), SpotsV W (.slice a n c) l ∧ ∀ p ∈ l, p.1 < 65536 ∧ p.2.length ≤ 140737488355328 := by
  obtain ⟨fuel, hf⟩ := h
  rcases Go.Deep.open_slice_pairs Tryd.underlying23 Tryd.underlying26 (by kernel_rfl) rfl rfl (by kernel_rfl) (by kernel_rfl) hf with ⟨hcs, hx⟩ | ⟨a', len', cap', m, fu, V0, V1, D0, D1, P0, P1, hcs, _, hl, hm, hz, hx, hall⟩
  · simp [Value.cells] at hcs
    obtain ⟨rfl, rfl, rfl⟩ := hcs
    exact ⟨[], ⟨none, 0, rfl, fun h => absurd h (Nat.lt_irrefl _)⟩, fun p hp => by cases hp⟩
  · simp [Value.cells] at hcs
    obtain ⟨rfl, rfl, rfl⟩ := hcs
    simp only [if_true] at hz
    simp only [Prod.mk.injEq] at hx
    obtain ⟨rfl, rfl⟩ := hx
    have hmem : ∀ i, i < n → ∀ x, x ∈ (D1 i).weights Tryd.prog 9 → x ≤ reachBytes := by
      intro i hi x hx
      apply hw
      rw [DataW.weights, Tryd.underlying23]
      refine List.mem_cons_of_mem _ (List.mem_append_left _ (weightsAll_mem _ _ (List.mem_map.2 ⟨i, List.mem_range.2 hi, rfl⟩) x ?_))
      rw [DataW.weights, Tryd.underlying26]
      show x ∈ (D0 i).weights Tryd.prog 22 ++ ((D1 i).weights Tryd.prog 9 ++ [])
      rw [List.append_nil]
      exact List.mem_append.2 (.inr hx)
    have hs : ∀ i, i < n → ∃ (x : UInt16) (y : ByteArray), W.cell? (a'.add (i * 2)) = some (.int .u16 x.toNat) ∧ W.cell? (a'.add (i * 2 + 1)) = some (.string y) ∧ y.data.toList.length ≤ 140737488355328 := by
      intro i hi
      obtain ⟨h0, h1, h2, h3⟩ := hall i (by omega)
      obtain ⟨x, hx, _, wx⟩ := DataW.trod_int Tryd.underlying22 h2
      obtain ⟨y, hy, ey, _⟩ := DataW.trod_string Tryd.underlying9 h3
      rw [List.singleton_inj] at hx hy
      obtain ⟨z, rfl⟩ := u16_of x wx
      have ey := congrArg Prod.fst ey
      have rb : reachBytes ≤ 140737488355328 := by decide
      have my := hmem i hi y.data.toList.length (by rw [show D1 i = .lit (.string y.data.toList) from ey, DataW.weights]; exact List.mem_singleton.2 rfl)
      exact ⟨z, y, by rw [h0, hx], by rw [h1, hy], by omega⟩
    obtain ⟨X, hX⟩ : ∃ X : Nat → Nat × List UInt8, ∀ i, i < n → W.cell? (a'.add (i * 2)) = some (.int .u16 (X i).1) ∧ W.cell? (a'.add (i * 2 + 1)) = some (.string (S (X i).2)) ∧ (X i).1 < 65536 ∧ (X i).2.length ≤ 140737488355328 := by
      refine ⟨fun i => if h : i < n then ((Classical.choose (hs i h)).toNat, (Classical.choose (Classical.choose_spec (hs i h))).data.toList) else (0, []), fun i hi => ?_⟩
      simp only [dif_pos hi]
      have h := Classical.choose_spec (Classical.choose_spec (hs i hi))
      exact ⟨h.1, h.2.1, (Classical.choose (hs i hi)).toNat_lt, h.2.2⟩
    have hlen : ((List.range n).map X).length = n := by rw [List.length_map, List.length_range]
    refine ⟨(List.range n).map X, ⟨some a', c, by rw [hlen], fun hp => ?_⟩, fun q hq => by
      obtain ⟨j, hj, rfl⟩ := List.mem_map.1 hq
      exact (hX j (List.mem_range.1 hj)).2.2⟩
    rw [hlen] at hp
    obtain ⟨b, off, spot⟩ := a'
    have hspot : spot = none := by simpa [Addr.add] using World.cell?_spot (hX 0 hp).1
    subst hspot
    refine ⟨b, off, rfl, hlt (.cell b off) (List.mem_append_left _ (MemPlace.mem_row.2 ⟨0, by omega, by simp⟩)), fun j hj i u hu => ?_⟩
    rw [hlen] at hj
    have e : ((List.range n).map X)[j]'(by rw [hlen]; exact hj) = X j := by rw [List.getElem_map, List.getElem_range]
    rw [e] at hu
    have h2 := hX j hj
    rw [add_plain, add_plain] at h2
    match i, hu with
    | 0, hu => rw [← hu]; exact h2.1
    | 1, hu => rw [← hu]; exact h2.2.1
theorem post_of_below2 {H : Type} {enc : TypeId × Value → H} {P : Program} {f : Func} {s : ChangeSpec} {W W' : World} {args : Array Value} {v : Value} {ds gs : List (DataW H)} {before pa pv : List MemPlace}
    (hW : DataW.Whole enc P f.params.toList s.vars false W args.toList ds gs before)
    (hres : ∀ (b : Nat) (sp : Nat → Bool) (hd : Bool), DataW.TrodAll enc P W' b sp hd f.resultTypes.toList (v.resultList f.resultTypes.size) (s.fn H (ds ++ gs)).results [])
    (hargs : DataW.TrodAll enc P W' 0 (fun b => decide (b < W.heap.size)) true f.params.toList args.toList (s.fn H (ds ++ gs)).args pa)
    (hvars : DataW.TrodVars enc P W' (fun b => decide (b < W.heap.size)) s.vars (s.fn H (ds ++ gs)).vars pv)
    (_hps : before = pa ++ pv) (hb : Below W.heap.size W W') :
    s.post enc P f false true false false W args v W' := by
  exact ⟨ds, gs, before, [], pa, pv, hW, hres _ _ _, hargs, hvars, hb.frame _, fun h => by cases h⟩
end Go.Proofs.YtjldphpdfckjnaaDoor
