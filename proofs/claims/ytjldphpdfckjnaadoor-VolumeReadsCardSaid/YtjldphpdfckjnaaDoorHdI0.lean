/- Heads of members: the document's Parse, walked, at a block that is none. -/
import Derived.Test.YtjldphpdfckjnaaDoorHdG
import Derived.Test.YtjldphpdfckjnaaDoorBlank
namespace Go.Proofs.YtjldphpdfckjnaaDoor
open Go.RowKit

theorem app_storeAll2 {ops : Array Oper} {rest : List Oper} {o : Oper} {a : Act} {Q : Exit → Act → World → Prop} {w : World} (hgd : o.guard = none) (p x : Operand) (T : TypeId) (ho : o.op = .store T p x) (g : Nat) (hg : w.heap.size = g)
    (c c' : Array Value) (hp : a.eval p = .pointer (some ⟨g, 0, none⟩)) (hx : a.eval x = .agg c') (hi : (Tryd.prog.info? T).map (·.size) = some c'.size) (hc : c.size = c'.size) (h1 : c'.all (·.oneCell') = true)
    (h : wpList Tryd.prog ops Q rest (a.put o.dst undef) (w.alloc (.cells c' T))) : wpList Tryd.prog ops Q (o :: rest) a (w.alloc (.cells c T)) := by
  subst hg
  exact app_storeAll hgd p x T ho c c' hp hx hi hc h1 h
theorem form_zero (m : List UInt8) (h8 : m.length = 8) (h : formN m = 0) : m ≠ [117, 115, 116, 97, 114, 0, 48, 48] ∧ m ≠ [117, 115, 116, 97, 114, 32, 32, 0] ∧ blankB m = false := by
  unfold formN at h
  split at h
  · cases h
  · rename_i h1
    split at h
    · cases h
    · rename_i h2
      split at h
      · cases h
      · rename_i h3
        refine ⟨h1, h2, ?_⟩
        cases hb : blankB m with
        | false => rfl
        | true =>
          exfalso
          apply h3
          unfold blankB at hb
          have := List.eq_replicate_of_mem (a := (0 : UInt8)) (l := m) (fun b hm => by simpa using List.all_eq_true.1 hb b hm)
          rw [h8] at this
          rw [this]; rfl
end Go.Proofs.YtjldphpdfckjnaaDoor
