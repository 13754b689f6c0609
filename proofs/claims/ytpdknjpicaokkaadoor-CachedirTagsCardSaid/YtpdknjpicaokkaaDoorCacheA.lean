/- A map from texts to bools, in plain words: what it tells of each text; made, written, read. -/
import Derived.Test.YtpdknjpicaokkaaDoorStripJ
import Derived.Maps.OwnOps
import Derived.Maps.OwnSet
import Derived.Maps.Views
namespace Go.Proofs.YtpdknjpicaokkaaDoor
open Go.RowKit Go.Maps

/-- the block b is a map that tells M -/
def BoolMap (w : World) (b n : Nat) (M : List UInt8 → Bool) : Prop :=
  ∃ D : DataW Unit, w.ownsMap Tryd.prog 9 (plainElem Tryd.prog 4) b n D ∧ ∀ s : List UInt8, D.atKey (.string s) (.lit (.bool false)) = .lit (.bool (M s))
theorem strKeyed : Keyed Tryd.prog 9 := string_keyed Tryd.underlying9
theorem zeroBool (w : World) : (zeroValue 4).run Tryd.prog w = .ok (.bool false) w := by kernel_rfl
theorem key_S (s : List UInt8) (h : s.length ≤ 9223372036854775807) : keyOf Tryd.prog 9 (.string (S s)) = some (.string s) := by
  have := Go.WideMaps.keyOf_string_mk Tryd.underlying9 (show (S s).size ≤ maxLen by rw [S_size]; exact h)
  rw [S_data] at this
  exact this
theorem BoolMap.made (w : World) : BoolMap (w.alloc (.map #[] 0)) w.heap.size 0 (fun _ => false) :=
  ⟨.map [], World.ownsMap_made w Tryd.prog _ _, fun _ => rfl⟩
theorem BoolMap.lt {w : World} {b n : Nat} {M : List UInt8 → Bool} (h : BoolMap w b n M) : b < w.heap.size := by
  obtain ⟨D, h, _⟩ := h
  exact h.lt
theorem BoolMap.same {w w' : World} {b n : Nat} {M : List UInt8 → Bool} (h : BoolMap w b n M) (e : w'.heap[b]? = w.heap[b]?) : BoolMap w' b n M := by
  obtain ⟨D, ⟨es, clock, hb, F, hs, hD⟩, h2⟩ := h
  exact ⟨D, ⟨es, clock, e.trans hb, F, hs, hD⟩, h2⟩
theorem BoolMap.below {w w' : World} {b n B : Nat} {M : List UInt8 → Bool} (h : BoolMap w b n M) (hb : Below B w w') (hB : b < B) : BoolMap w' b n M := h.same (hb.block b hB)
theorem bool_inv {v : Value} {x : Bool} {ps : List MemPlace} (h : plainElem (H := Unit) Tryd.prog 4 v = some (.lit (.bool x), ps)) : v = .bool x := by
  have hu := Tryd.underlying4
  unfold plainElem at h
  generalize Tryd.prog.underlying 4 = u at *
  subst hu
  cases v <;> simp at h
  rw [h.1]
theorem BoolMap.look {w : World} {b n : Nat} {M : List UInt8 → Bool} (h : BoolMap w b n M) (s : List UInt8) (hs : s.length ≤ 9223372036854775807) :
    (Instr.lookup 85 (.map (some b)) (.string (S s)) false).run Tryd.prog w = .ok (.bool (M s)) w := by
  obtain ⟨D, h, h2⟩ := h
  obtain ⟨v, ps, hrun, hv⟩ := h.lookup strKeyed Tryd.underlying85 (zeroBool w) (plainElem_bool Tryd.underlying4 false) (key_S s hs)
  rw [h2 s] at hv
  rw [hrun, bool_inv hv]
theorem BoolMap.put {w : World} {b n : Nat} {M : List UInt8 → Bool} (h : BoolMap w b n M) (hn : n < 1000000) (s : List UInt8) (hs : s.length ≤ 9223372036854775807) :
    ∃ w', (Instr.mapUpdate 85 (.map (some b)) (.string (S s)) (.bool true)).run Tryd.prog w = .ok () w' ∧ BoolMap w' b (n + 1) (fun t => decide (t = s) || M t) ∧ w.grownBy w' (some b) := by
  obtain ⟨D, h, h2⟩ := h
  obtain ⟨w', hrun, h3, h4⟩ := h.update strKeyed Tryd.underlying85 (by unfold maxLen; omega) (key_S s hs) (plainElem_bool Tryd.underlying4 true)
  refine ⟨w', hrun, ⟨_, h3, fun t => ?_⟩, h4⟩
  by_cases ht : t = s
  · subst ht
    rw [atKey_put_same h.isMap (strKeyed.key (key_S t hs))]
    simp
  · rw [atKey_put_other (by intro e; injection e with e; exact ht e), h2 t]
    simp [ht]
end Go.Proofs.YtpdknjpicaokkaaDoor
