/- Appending a text to a slice of bytes of the call's own. -/
import Derived.Test.YtphfcebacilbbaaDoorKit
namespace Go.Proofs.YtphfcebacilbbaaDoor
open Go.RowKit

/-- 'append(v, s...)' of a string on a slice of bytes of the call's own -/
theorem app_text {ops : Array Oper} {rest : List Oper} {o : Oper} {a : Act} {Q : Exit → Act → World → Prop} {w0 : World} (hgd : o.guard = none) (s x : Operand)
    (ho : o.op = .call { callee := .builtin .append, args := #[s, x], argTypes := #[69, 9] })
    (base : Nat) (v : Value) (l n : List UInt8) (hs : a.eval s = v) (hown : OwnB w0 base v l)
    (hx : a.eval x = .string (S n))
    (hbound : l.length + n.length ≤ 140737488355328) (hbase : base ≤ w0.heap.size)
    (h : ∀ v' w', OwnB w' base v' (l ++ n) → Below base w0 w' → wpList Tryd.prog ops Q rest (a.put o.dst v') w') :
    wpList Tryd.prog ops Q (o :: rest) a w0 := by
  obtain ⟨i0, hi, hz0, hz1, hz2⟩ := info_parts info_u8
  refine Lib.wpList_append_own_string w0 hgd s x 69 9 ho base 5 i0 Tryd.underlying69 Tryd.underlying9 hi hz0 hz1 hz2 v l.length (l.map bv) hs hown (S n) hx (by rw [S_size]; unfold maxLen; omega) (by rw [S_size]; exact hbound) hbase ?_
  intro v' w' h2 h3 _
  refine h v' w' ?_ ?_
  · unfold OwnB
    rw [List.map_append, List.length_append]
    rw [S_size] at h2
    exact h2
  · refine (Below.refl base w0).grown h3 hbase ?_
    intro k hk
    exact (hown.lt k hk).1
end Go.Proofs.YtphfcebacilbbaaDoor
