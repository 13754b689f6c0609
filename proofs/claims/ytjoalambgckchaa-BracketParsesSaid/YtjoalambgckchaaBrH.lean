/- A bracket at the head of a text; the chapter's examples. -/
import Derived.Test.YtjoalambgckchaaBrG
import Derived.Test.YtjoalambgckchaaClassH
namespace Go.Proofs.Ytjoalambgckchaa
open Go.RowKit
attribute [local irreducible] wordP

theorem Parse_some (s : List UInt8) (k : Nat) (gl : Bool) (p : Nat → Bool) (n : Nat) (hs : s.length ≤ 1000000) (h : s[k]? = some 91) (hp : parseP s k gl = some (p, n)) (m : Int) (w : World) (hm : w.cell? ⟨0, 0, none⟩ = some (.int .i64 m)) :
    Calls Try.prog 7 #[.string (S s), .int .i64 k, .bool gl] w fun e w' => e = .returned (.tuple #[SetV p, .int .i64 n, .int .i64 0]) ∧ Below w.heap.size w w' := by
  have := Parse_is s k gl hs w h m hm
  rw [hp] at this
  exact this
theorem Parse_none (s : List UInt8) (k : Nat) (gl : Bool) (hs : s.length ≤ 1000000) (h : s[k]? = some 91) (hp : parseP s k gl = none) (m : Int) (w : World) (hm : w.cell? ⟨0, 0, none⟩ = some (.int .i64 m)) :
    Calls Try.prog 7 #[.string (S s), .int .i64 k, .bool gl] w fun e w' => e = .returned (.tuple #[SetV noneP, .int .i64 0, .int .i64 11]) ∧ Below w.heap.size w w' := by
  have := Parse_is s k gl hs w h m hm
  rw [hp] at this
  exact this
/-- a set that is stored in a new block -/
abbrev setObj (p : Nat → Bool) : Obj := .cells #[.int .u64 (wordP p 0), .int .u64 (wordP p 1), .int .u64 (wordP p 2), .int .u64 (wordP p 3)] 25
theorem some_of {α β : Type} {f : α → β} {o : Option α} {b : β} (h : o.map f = some b) : ∃ a, o = some a ∧ f a = b := by
  cases o with
  | none => cases h
  | some a => exact ⟨a, rfl, Option.some.inj h⟩
set_option maxRecDepth 100000 in
set_option maxHeartbeats 1000000 in
theorem awake14 (m : Int) (w : World) (hm : w.cell? ⟨0, 0, none⟩ = some (.int .i64 m)) : Calls Try.prog 6 #[] w fun e w' => e = .returned (.bool true) ∧ Below w.heap.size w w' := by
  obtain ⟨⟨pa, na⟩, ha, ha2⟩ := some_of (show (parseP [91, 93, 97, 45, 99, 93] 0 false).map (fun r => (bytesP r.1, r.2)) = some ([93, 97, 98, 99], 6) by decide +kernel)
  obtain ⟨⟨pb, nb⟩, hb, hb2⟩ := some_of (show (parseP [91, 33, 97, 93] 0 true).map (fun r => ((bytesP r.1).length, r.2)) = some (255, 4) by decide +kernel)
  have hc : parseP [91, 98, 45, 97, 93] 0 true = none := by
    have : (parseP [91, 98, 45, 97, 93] 0 true).isNone = true := by decide +kernel
    simpa using this
  obtain ⟨ha3, rfl⟩ := Prod.mk.inj ha2
  obtain ⟨hb3, rfl⟩ := Prod.mk.inj hb2
  have ha3 : bytesP pa = [93, 97, 98, 99] := ha3
  have hb3 : (bytesP pb).length = 255 := hb3
  have PA := Lib.hid (fun W hW => Parse_some [91, 93, 97, 45, 99, 93] 0 false pa 6 (by decide) rfl ha m W hW)
  have PB := Lib.hid (fun W hW => Parse_some [91, 33, 97, 93] 0 true pb 4 (by decide) rfl hb m W hW)
  have PC := Lib.hid (fun W hW => Parse_none [91, 98, 45, 97, 93] 0 true (by decide) rfl hc m W hW)
  have HA := Lib.hid ha3
  have HB := Lib.hid hb3
  have hgW : 0 < w.heap.size := World.block_lt_of_cell? w ⟨0, 0, none⟩ hm
  clear ha ha2 hb hb2 hc ha3 hb3
  go_enter Try.func6, Try.ntmps6
  go_wp2_with fail
  refine (PA.out _ hm).mono ?_
  rintro e w1 ⟨rfl, hb1⟩
  go_wp2_with fail
  have hS1 := set_alloc w1 pa 25
  have hx1 : Below w.heap.size w (w1.alloc (setObj pa)) := hb1.alloc hb1.size _
  have hl1 : w1.heap.size < (w1.alloc (setObj pa)).heap.size := by simp
  change Calls _ _ _ (w1.alloc (setObj pa)) _
  generalize w1.alloc (setObj pa) = v1 at *
  refine (PB.out _ ((hx1.cell (p := ⟨0, 0, none⟩) hgW).trans hm)).mono ?_
  rintro e w2 ⟨rfl, hb2⟩
  go_wp2_with fail
  have hx2 := hx1.trans (hb2.mono hx1.size)
  have hS2 := (hS1.below hb2 hl1).alloc (by have := hb2.size; omega) (setObj pb)
  have hT2 := set_alloc w2 pb 25
  have hx3 : Below w.heap.size w (w2.alloc (setObj pb)) := hx2.alloc hx2.size _
  have hl2 : w2.heap.size < (w2.alloc (setObj pb)).heap.size := by simp
  have hl3 : w1.heap.size < w2.heap.size := by have := hb2.size; omega
  change Calls _ _ _ (w2.alloc (setObj pb)) _
  generalize w2.alloc (setObj pb) = v2 at *
  refine (PC.out _ ((hx3.cell (p := ⟨0, 0, none⟩) hgW).trans hm)).mono ?_
  rintro e w3 ⟨rfl, hb3⟩
  have hS3 := (hS2.below hb3 (by omega)).alloc (by have := hb3.size; omega) (setObj noneP)
  have hT3 := (hT2.below hb3 (by omega)).alloc (by have := hb3.size; omega) (setObj noneP)
  have hx4 := hx3.trans (hb3.mono hx3.size)
  have hx5 : Below w.heap.size w (w3.alloc (setObj noneP)) := hx4.alloc hx4.size _
  have hl4 : w2.heap.size < (w3.alloc (setObj noneP)).heap.size := by have := hb3.size; simp; omega
  go_upto_region 4 with fail
  generalize w3.alloc (setObj noneP) = v3 at *
  obtain ⟨a0, a1, a2, a3⟩ := hS3.four
  go_wp2_with fail
  rw [← SetV_def]
  refine (bytes_any pa _).mono ?_
  rintro e w4 ⟨rfl, hb4⟩
  rw [HA.out]
  obtain ⟨b0, b1, b2, b3⟩ := (hT3.below hb4 hl4).four
  clear a0 a1 a2 a3
  go_wp2_with fail
  rw [← SetV_def]
  refine (len_any pb _).mono ?_
  rintro e w5 ⟨rfl, hb5⟩
  rw [HB.out]
  clear b0 b1 b2 b3
  go_wp2_with fail
  go_ret
  exact ⟨rfl, (hx5.trans (hb4.mono hx5.size)).trans (hb5.mono (by have := hx5.size; have := hb4.size; omega))⟩
end Go.Proofs.Ytjoalambgckchaa
