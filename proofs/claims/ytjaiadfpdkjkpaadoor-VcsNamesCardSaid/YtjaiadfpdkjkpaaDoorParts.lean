/- strip.Parts: the pieces of a name that hold something. -/
import Derived.Test.YtjaiadfpdkjkpaaDoorSplit
import Derived.Test.YtjaiadfpdkjkpaaDoorStrs
import Derived.RangeFuncBox
import Derived.Maps.AppendAt
namespace Go.Proofs.YtjaiadfpdkjkpaaDoor
open Go.RowKit
attribute [local go_sem] Oper.semAt_some

def partsL (l : List UInt8) : List (List UInt8) := (splitL 47 l).filter (fun p => !p.isEmpty)
def fullL (pre : List (List UInt8)) : List (List UInt8) := pre.filter (fun p => !p.isEmpty)
theorem full_snoc (pre : List (List UInt8)) (x : List UInt8) : fullL (pre ++ [x]) = if x.isEmpty then fullL pre else fullL pre ++ [x] := by
  unfold fullL
  rw [List.filter_append]
  cases h : x.isEmpty <;> simp [h]
theorem split_len (c : UInt8) : ∀ l : List UInt8, (splitL c l).length ≤ l.length + 1
  | [] => by simp [splitL]
  | b :: l => by
    have ih := split_len c l
    rw [splitL]
    split
    · simp; omega
    · cases h : splitL c l with
      | nil => simp
      | cons p ps => rw [h] at ih; simp at ih ⊢; omega
theorem full_le (pre : List (List UInt8)) : (fullL pre).length ≤ pre.length := List.length_filter_le _ _

/-- the box of what is collected, at w's end -/
def PartI (w : World) (pre : List (List UInt8)) (W : World) : Prop :=
  (∃ v, W.heap[w.heap.size]? = some (.cells #[v] 37 (0, 0)) ∧ OwnS W (w.heap.size + 4) v (fullL pre)) ∧ Below w.heap.size w W ∧ w.heap.size + 4 ≤ W.heap.size
theorem partI_own (w : World) (B : Nat) (hB : w.heap.size ≤ B) : OwnOr B (splitMine (w.heap.size + 1)) (PartI w) := by
  rintro pre W W' row ⟨⟨v, hv, hO⟩, hb, hs4⟩ hg hrow
  refine ⟨⟨v, ?_, ?_⟩, ?_, Nat.le_trans hs4 hg.size⟩
  · rw [hg.block _ (Array.getElem?_eq_some_iff.1 hv).1 (fun e => ?_)]
    · exact hv
    · rcases hrow _ e.symm with h | ⟨_, o, ho, hc⟩
      · rcases h with h | h | h <;> omega
      · rw [hv] at ho
        injection ho with ho
        subst ho
        cases hc
  · obtain ⟨h1, h2⟩ := hO
    refine ⟨h1, ?_⟩
    rcases h2 with h2 | ⟨g, cap, cur, hv', hgb, hh, r⟩
    · exact Or.inl h2
    · refine Or.inr ⟨g, cap, cur, hv', hgb, ?_, r⟩
      rw [hg.block _ (Array.getElem?_eq_some_iff.1 hh).1 (fun e => ?_)]
      · exact hh
      · rcases hrow _ e.symm with h | ⟨_, o, ho, hc⟩
        · rcases h with h | h | h <;> omega
        · rw [hh] at ho
          injection ho with ho
          subst ho
          cases hc
  · refine hb.grown hg hb.size fun k e => ?_
    rcases hrow _ e with h | ⟨h, _⟩
    · rcases h with h | h | h <;> omega
    · omega

set_option maxRecDepth 100000 in
set_option maxHeartbeats 4000000 in
theorem Parts_any (s : List UInt8) (hs : s.length ≤ 1000000) (w : World) :
    Calls Tryd.prog 36 #[.string (S s)] w fun e w' => (∃ v, e = .returned v ∧ OwnS w' (w.heap.size + 4) v (partsL s)) ∧ Below w.heap.size w w' := by
  refine (callsIn_wide (n := 9)).1 ?_
  refine callsIn_of_wp_marks Tryd.func36 rfl trivial ?_ rfl
  simp only [Tryd.ntmps36, List.size_toArray, List.length_cons, List.length_nil, Nat.reduceAdd, Nat.reduceSub, Array.replicate_succ, Array.replicate_zero, List.push_toArray, List.append_toArray, List.nil_append, List.cons_append]
  gi_wp2_with (refine ⟨trivial, ?_⟩; gi_at_call 64; refine (callsIn_wide.2 (seq_any s 47 _)).mono ?_; rintro e w1 ⟨rfl, rfl⟩)
  have hS := seq_at s 47 (w.alloc (.cells #[.slice none 0 0] 37))
  have hB0 : Below w.heap.size w ((((w.alloc (.cells #[.slice none 0 0] 37)).alloc (.cells #[.string (S s)] 9)).alloc (.cells #[.string (S [47])] 9)).alloc (.cells #[.int .i64 0] 3)) :=
    ((((Below.refl _ _).alloc (Nat.le_refl _) _).alloc (by simp) _).alloc (by simp; omega) _).alloc (by simp; omega) _
  have hv0 : ((((w.alloc (.cells #[.slice none 0 0] 37)).alloc (.cells #[.string (S s)] 9)).alloc (.cells #[.string (S [47])] 9)).alloc (.cells #[.int .i64 0] 3)).heap[w.heap.size]? = some (.cells #[.slice none 0 0] 37 (0, 0)) := by
    rw [Below.heap_alloc _ _ _ (by simp; omega), Below.heap_alloc _ _ _ (by simp; omega), Below.heap_alloc _ _ _ (by simp)]
    exact heap_alloc_new _ _
  have hz : ((((w.alloc (.cells #[.slice none 0 0] 37)).alloc (.cells #[.string (S s)] 9)).alloc (.cells #[.string (S [47])] 9)).alloc (.cells #[.int .i64 0] 3)).heap.size = w.heap.size + 4 := by simp
  rw [show (w.alloc (.cells #[.slice none 0 0] 37)).heap.size = w.heap.size + 1 by simp] at hS
  generalize ((((w.alloc (.cells #[.slice none 0 0] 37)).alloc (.cells #[.string (S s)] 9)).alloc (.cells #[.string (S [47])] 9)).alloc (.cells #[.int .i64 0] 3)) = W0 at hS hB0 hv0 hz ⊢
  have hOwn : OwnOr W0.heap.size (splitMine (w.heap.size + 1)) (PartI w) := partI_own w _ (by omega)
  refine wpIn_range_all rfl (by omega) (gf := 106) (lb := #[.pointer (some ⟨w.heap.size + 1 + 1, 0, none⟩), .pointer (some ⟨w.heap.size + 1, 0, none⟩), .pointer (some ⟨w.heap.size + 1 + 2, 0, none⟩)]) rfl trivial (enters_of Tryd.func106 (by kernel_rfl) rfl)
    (split_gives 8 (by omega) (w.heap.size + 1) s 47 hs W0 hS) (fun b hb => by rcases hb with h | h | h <;> omega) (Below.refl _ _) (fun _ => rfl) (PartI w) hOwn ⟨⟨_, hv0, OwnS.nil _ _⟩, hB0, Nat.le_of_eq hz.symm⟩
    (fun x => { tmps := #[.string (S s), undef, .slice none 0 0, .pointer (some ⟨w.heap.size, 0, none⟩), .string (S x), .string (S s), .func (.func 106) #[] #[.pointer (some ⟨w.heap.size + 1 + 1, 0, none⟩), .pointer (some ⟨w.heap.size + 1, 0, none⟩), .pointer (some ⟨w.heap.size + 1 + 2, 0, none⟩)], .string (S x), undef, undef, undef, undef, undef, undef, undef], defers := [] }) ?assign ?body ?done
  case assign =>
    intro l x W K hK
    gi_wp2
    exact hK
  case done =>
    rintro D W hD hi hK
    obtain ⟨⟨v, hv, hO⟩, hb, hs4⟩ := hi
    have hi' := hOwn.put (.deferred none) (s := splitL 47 s) (W := W) ⟨⟨v, hv, hO⟩, hb, hs4⟩ hD hK rfl
    have c3 : W.cell? ⟨w.heap.size, 0, none⟩ = some v := by simp [World.cell?, hv]
    gi_wp2
    refine ⟨by simp, .inl ⟨_, _, rfl, run_takeDeferred hK, ?_⟩⟩
    obtain ⟨⟨v', hv', hO'⟩, hb', _⟩ := hi'
    have e : v' = v := by
      rw [World.putObj_heap_other (by omega), hv] at hv'
      injection hv' with e1
      injection e1 with e1
      have := congrArg (fun a : Array Value => a[0]?) e1
      simpa using this.symm
    subst e
    refine ⟨_, results_tmp rfl _ _ _, ?_⟩
    exact ⟨⟨v', rfl, hO'⟩, hb'⟩
  case body =>
    rintro l pre x rest W hi hx
    obtain ⟨⟨v, hv, hO⟩, hb, hs4⟩ := hi
    have c3 : W.cell? ⟨w.heap.size, 0, none⟩ = some v := by simp [World.cell?, hv]
    have f3 : W.frozen? ⟨w.heap.size, 0, none⟩ = false := by simp [World.frozen?, hv]
    by_cases he : x.isEmpty = true
    · gi_wp2
      exact ⟨KeepsOthers.refl _, KeepOwn.refl _ _, ⟨v, hv, by rw [full_snoc, if_pos he]; exact hO⟩, hb, hs4⟩
    · have he' : x.isEmpty = false := by simpa using he
      have hfs := full_snoc pre x
      rw [if_neg he] at hfs
      have HFS := Lib.hid hfs
      have hlen : (fullL pre).length ≤ 1000001 := by
        have h1 := full_le pre
        have h2 := split_len 47 s
        have h3 := congrArg List.length hx
        rw [List.length_append] at h3
        omega
      have HLN := Lib.hid hlen
      have hsz := hb.size
      have hW4 : w.heap.size + 4 ≤ W.heap.size := hs4
      obtain ⟨i0, hi0, hz0, hz1, hz2⟩ := info_parts info_str
      obtain ⟨av, cv, ev, _⟩ := hO.strs
      subst ev
      clear he hfs hlen
      gi_wp2_with (gi_at_builtin; refine wpListIn_append_own _ rfl _ _ 37 rfl (w.heap.size + 4) 9 i0 (.string ⟨#[]⟩) 1 16 Tryd.underlying37 hi0 hz0 hz1 hz2 rfl (by decide) _ _ _ rfl (hO.alloc _) ⟨W.heap.size, 0, none⟩ 1 1 [.string (S x)] rfl rfl (cell_one_new _ _ _) (by simp [Value.oneCell']) (by have := HLN.out; unfold maxLen; omega) (by have := HLN.out; omega) (by simp; omega) ?_; intro v' w1 hown' hgrow _; obtain ⟨g', cap', rfl⟩ := ownsRow_succ hown'; have hlW := (Array.getElem?_eq_some_iff.1 hv).1; have hne : (Value.slice av (fullL pre).length cv).ownBlock ≠ some w.heap.size := (fun e => by have := (hO.lt _ e).1; omega); have hv1 : w1.heap[w.heap.size]? = some (.cells #[.slice av (fullL pre).length cv] 37 (0, 0)) := (by rw [hgrow.block _ (by simp; omega) (fun e => hne e.symm), Below.heap_alloc _ _ _ (by omega)]; exact hv); have c4 := cell_of hv1; have f4 := froz_of hv1)
      have hg2 : (W.alloc (.cells #[.string (S x)] 9)).grownBy w1 (Value.slice av (fullL pre).length cv).ownBlock := hgrow
      have hsw : W.heap.size + 1 ≤ w1.heap.size := by have := hg2.size; simpa using this
      have hown : ∀ r, (Value.slice av (fullL pre).length cv).ownBlock = some r → w.heap.size + 4 ≤ r ∧ r < W.heap.size := fun r e => hO.lt r e
      have hcell : ∀ r (o : Obj), (Value.slice av (fullL pre).length cv).ownBlock = some r → W.heap[r]? = some o → o.isCells = true := by
        intro r o e ho
        rcases hO.2 with ⟨h2, _⟩ | ⟨g, cap, cur, h2, hgb, hh, _⟩
        · rw [h2] at e; cases e
        · rw [h2] at e
          have e' : g = r := by simpa [Value.ownBlock] using e
          subst e'
          rw [hh] at ho
          cases ho
          rfl
      have hko : KeepsOthers W w1 := (KeepsOthers.alloc W _).trans (KeepsOthers.of_grownBy hg2 fun r o e ho => hcell r o e (by rw [← ho, Below.heap_alloc _ _ _ (hown r e).2]))
      have hv2 : ∀ u, (w1.setCell ⟨w.heap.size, 0, none⟩ u).heap[w.heap.size]? = some (.cells #[u] 37 (0, 0)) := by
        intro u
        simp [World.setCell, Array.getElem?_modify, hv1]
      have hgp := hown'.lt g' rfl
      refine ⟨hko.trans (KeepsOthers.setCell _ _ _), ⟨?_, ?_⟩, ⟨⟨_, hv2 _, ?_⟩, ?_, ?_⟩⟩
      · simp only [World.size_setCell]; omega
      · intro b hbm
        have hbw : b < w.heap.size + 4 ∧ w.heap.size < b := by rcases hbm with h | h | h <;> omega
        rw [Below.heap_setCell _ _ _ _ (by show b ≠ w.heap.size; omega), hg2.block _ (by simp; omega) (fun e => by have := (hown _ e.symm).1; omega), Below.heap_alloc _ _ _ (by omega)]
      · rw [HFS.out]
        have hset := ownsRow_setCell_below hown' (a := ⟨w.heap.size, 0, none⟩) (by show w.heap.size < w.heap.size + 4; omega) (Value.slice (some ⟨g', 0, none⟩) ((fullL pre).length + 1) cap')
        unfold OwnS
        rw [List.map_append, List.length_append]
        exact hset
      · exact ((hb.alloc (by omega) _).grown hg2 (by simp; omega) (fun k e => by have := (hown _ e).1; omega)).setCell (Nat.le_refl _) _
      · simp only [World.size_setCell]; omega
end Go.Proofs.YtjaiadfpdkjkpaaDoor
