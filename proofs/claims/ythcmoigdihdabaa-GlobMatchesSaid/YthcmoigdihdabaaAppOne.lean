/- 'append(v, b)' of one byte. -/
import Derived.Test.YthcmoigdihdabaaKit
namespace Go.Proofs.Ythcmoigdihdabaa
open Go.RowKit

/-- 'append(v, b)' of one byte on a slice of the call's own. -/
theorem app_one {ops : Array Oper} {rest : List Oper} {o : Oper} {a : Act} {Q : Exit → Act → World → Prop} {w0 : World} (hgd : o.guard = none) (s x : Operand)
    (ho : o.op = .call { callee := .builtin .append, args := #[s, x], argTypes := #[39, 39] })
    (base : Nat) (v : Value) (l : List UInt8) (hs : a.eval s = v) (hown : OwnB w0 base v l) (y : Int)
    (hx : a.eval x = .slice (some ⟨w0.heap.size, 0, none⟩) 1 1) (h0 : 0 ≤ y) (h1 : y < 256)
    (hbound : l.length + 1 ≤ 140737488355328) (hbase : base ≤ w0.heap.size)
    (h : ∀ v' w', OwnB w' base v' (l ++ [byteI y]) → Below base w0 w' → Grew w0 w' v v' → wpList Try.prog ops Q rest (a.put o.dst v') w') :
    wpList Try.prog ops Q (o :: rest) a (w0.alloc (.cells #[.int .u8 y] 5)) :=
  app_lit hgd s x ho base v l [byteI y] hs hown 1 #[.int .u8 y] hx (by rw [List.map_cons, bv_byteI y h0 h1]; rfl) rfl hbound hbase h
end Go.Proofs.Ythcmoigdihdabaa
