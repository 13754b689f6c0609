/- cachedir's Put. -/
import Derived.Test.YtpdknjpicaokkaaDoorCacheB
namespace Go.Proofs.YtpdknjpicaokkaaDoor
open Go.RowKit

theorem IdxAt.cell {w : World} {g b n : Nat} {M : List UInt8 → Bool} (h : IdxAt w g b n M) : w.cell? ⟨g, 0, none⟩ = some (.map (some b)) := cell_of h.block
def keyL (s : List UInt8) : List UInt8 := joinL (partsL s)
theorem key_le (s : List UInt8) : (keyL s).length ≤ s.length + 1 := Nat.le_trans (joinL_len _) (parts_sum s)
set_option maxRecDepth 100000 in
set_option maxHeartbeats 4000000 in
theorem put_any (g b n : Nat) (M : List UInt8 → Bool) (s : List UInt8) (hs : s.length ≤ 100000) (hn : n < 100000) (hgb : g ≠ b) (w : World) (h : IdxAt w g b n M) :
    Calls Tryd.prog 17 #[.pointer (some ⟨g, 0, none⟩), .string (S s)] w fun e w' => e = .returned (.tuple #[]) ∧ IdxAt w' g b (n + 1) (fun t => decide (t = keyL s) || M t) ∧ w.grownBy w' (some b) := by
  have c0 := h.cell
  have hm := h.map
  have hlt := h.lt
  have hmlt := h.map.lt
  have hblk := Lib.hid h.block
  have hk := key_le s
  have hlen := parts_len s
  have HP := Lib.hid (fun w => Parts_any s (by omega) w)
  have HJ := Lib.hid (fun w v hv => Join_any (partsL s) v (by omega) (fun q hq => Nat.le_trans (parts_each s q hq) (by omega)) w hv)
  rw [show joinL (partsL s) = keyL s from rfl] at HJ
  have hput : ∃ pw : World → World, ∀ W, BoolMap W b n M → (Instr.mapUpdate 85 (.map (some b)) (.string (S (keyL s))) (.bool true)).run Tryd.prog W = .ok () (pw W) ∧ BoolMap (pw W) b (n + 1) (fun t => decide (t = keyL s) || M t) ∧ W.grownBy (pw W) (some b) := by
    have hall : ∀ W, ∃ W', BoolMap W b n M → (Instr.mapUpdate 85 (.map (some b)) (.string (S (keyL s))) (.bool true)).run Tryd.prog W = .ok () W' ∧ BoolMap W' b (n + 1) (fun t => decide (t = keyL s) || M t) ∧ W.grownBy W' (some b) := by
      intro W
      by_cases hW : BoolMap W b n M
      · obtain ⟨W', h1⟩ := hW.put (by omega) (keyL s) (by omega)
        exact ⟨W', fun _ => h1⟩
      · exact ⟨W, fun g => absurd g hW⟩
    exact ⟨fun W => (hall W).choose, fun W => (hall W).choose_spec⟩
  obtain ⟨pw, hpw⟩ := hput
  have HPW := Lib.hid hpw
  have hrun := fun W hW => (hpw W hW).1
  have hpc : ∀ W, BoolMap W b n M → W.cell? ⟨g, 0, none⟩ = some (.map (some b)) → (pw W).cell? ⟨g, 0, none⟩ = some (.map (some b)) := fun W hW hc => by
    refine (hpw W hW).2.2.cell hc ?_
    intro e
    injection e with e
    exact hgb e
  have HPC := Lib.hid hpc
  have HGB := Lib.hid hgb
  generalize keyL s = j at *
  generalize partsL s = l at *
  clear hpw hpc hk hlen hgb h hs hn
  go_enter Tryd.func17, Tryd.ntmps17
  go_wp2_with fail
  go_region_held3 (fun W => W.cell? ⟨g, 0, none⟩ = some (.map (some b))) (first | assumption | exact c0 | exact HPC.out _ (by assumption) (by assumption)) (first
    | (go_at_call 24; refine (HP.out _).mono ?_; rintro e w1 ⟨⟨v, rfl, hO⟩, hb1⟩; have hx1 : Below w.heap.size w w1 := (belowDrewN (n := 1) (Below.refl _ _)).trans hb1; have m1 : BoolMap w1 b n M := hm.below hx1 (by omega); have hS : w1.cell? ⟨g, 0, none⟩ = some (.map (some b)) := (by rw [hx1.cell (by exact hlt)]; exact c0))
    | (go_at_call 21; refine (HJ.out _ _ hO.strs).mono ?_; rintro e w2 ⟨rfl, hb2⟩; have hx2 : Below w.heap.size w w2 := chainB hx1 hb2; have m2 : BoolMap w2 b n M := hm.below hx2 (by omega); have hS : w2.cell? ⟨g, 0, none⟩ = some (.map (some b)) := (by rw [hx2.cell (by exact hlt)]; exact c0)))
  go_wp2_with fail
  go_end0
  obtain ⟨_, p2, p3⟩ := HPW.out w2 m2
  refine ⟨rfl, ⟨?_, p2⟩, ⟨p3.os.trans hx2.os, p3.tape.trans hx2.tape, p3.output.trans hx2.output, Nat.le_trans hx2.size p3.size, fun i hi hn => ?_⟩⟩
  · rw [p3.block g (by have := hx2.size; omega) (fun e => HGB.out (by injection e)), hx2.block g hlt]
    exact hblk.out
  · rw [p3.block i (by have := hx2.size; omega) hn, hx2.block i hi]
end Go.Proofs.YtpdknjpicaokkaaDoor
