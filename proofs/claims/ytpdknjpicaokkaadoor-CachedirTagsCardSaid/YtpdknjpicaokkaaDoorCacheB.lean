/- cachedir.New and Put. -/
import Derived.Test.YtpdknjpicaokkaaDoorCacheA
import Derived.Deep.RegionHeld3
namespace Go.Proofs.YtpdknjpicaokkaaDoor
open Go.RowKit

/-- an index at a block: its map's block, and what the map tells -/
structure IdxAt (w : World) (g b n : Nat) (M : List UInt8 → Bool) : Prop where
  block : w.heap[g]? = some (.cells #[.map (some b)] 87 (0, 0))
  map : BoolMap w b n M
theorem IdxAt.below {w w' : World} {g b n B : Nat} {M : List UInt8 → Bool} (h : IdxAt w g b n M) (hb : Below B w w') (hg : g < B) (hB : b < B) : IdxAt w' g b n M := ⟨(hb.block g hg).trans h.block, h.map.below hb hB⟩
theorem IdxAt.lt {w : World} {g b n : Nat} {M : List UInt8 → Bool} (h : IdxAt w g b n M) : g < w.heap.size := (Array.getElem?_eq_some_iff.1 h.block).1
theorem IdxAt.step {w w' : World} {g b n : Nat} {M : List UInt8 → Bool} (h : IdxAt w g b n M) (hb : Below w.heap.size w w') : IdxAt w' g b n M := h.below hb h.lt h.map.lt
set_option maxRecDepth 100000 in
theorem new_any (w : World) :
    Calls Tryd.prog 15 #[] w fun e w' => e = .returned (.pointer (some ⟨w.heap.size + 1, 0, none⟩)) ∧ IdxAt w' (w.heap.size + 1) w.heap.size 0 (fun _ => false) ∧ Below w.heap.size w w' := by
  have hmm := @run_makeMap Tryd.prog
  go_enter Tryd.func15, Tryd.ntmps15
  go_wp2
  go_ret
  refine ⟨by simp, ⟨?_, ?_⟩, ((Below.refl _ _).alloc (Nat.le_refl _) _).alloc (by simp) _⟩
  · have := heap_alloc_new (w.alloc (.map #[] 0)) (.cells #[.map (some w.heap.size)] 87)
    simpa using this
  · exact (BoolMap.made w).same (Below.heap_alloc _ _ _ (by simp))
end Go.Proofs.YtpdknjpicaokkaaDoor
