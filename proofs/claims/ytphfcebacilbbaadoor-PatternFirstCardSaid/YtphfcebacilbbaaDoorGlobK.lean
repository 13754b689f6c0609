/- The document's globs: Parse, walked. -/
import Derived.Test.YtphfcebacilbbaaDoorGlobE
import Derived.Test.YtphfcebacilbbaaDoorBrQ
namespace Go.Proofs.YtphfcebacilbbaaDoor
open Go.RowKit
attribute [local irreducible] wordP

/-- a set's bytes as a text -/
def Tk.txt : Tk → List UInt8
  | .set p => bytesP p
  | _ => []
/-- the three cells of the document's token -/
def Tk.rcells (t : Tk) : List Value := [.int .i64 t.kind, .int .u8 t.b.toNat, .string (S t.txt)]
theorem Tk.rcells_len (t : Tk) : t.rcells.length = 3 := rfl
theorem Tk.rone (t : Tk) : ∀ u ∈ t.rcells, u.oneCell' = true := by
  intro u hu
  simp only [Tk.rcells, List.mem_cons, List.not_mem_nil, or_false] at hu
  rcases hu with rfl | rfl | rfl <;> rfl
theorem info_rtok : (Tryd.prog.info? 88).map (fun i => (i.zero, i.size, i.bytes)) = some (some (.agg #[.int .i64 0, .int .u8 0, .string ⟨#[]⟩]), 3, 32) := by kernel_rfl
abbrev OwnU (w : World) (base : Nat) (v : Value) (l : List Tk) : Prop := OwnR Tk.rcells 88 3 w base v l
theorem app_rtok {ops : Array Oper} {rest : List Oper} {o : Oper} {a : Act} {Q : Exit → Act → World → Prop} {w0 : World} (hgd : o.guard = none) (s x : Operand)
    (ho : o.op = .call { callee := .builtin .append, args := #[s, x], argTypes := #[50, 50] })
    (base : Nat) (v : Value) (l : List Tk) (n : Tk) (C : Array Value) (hC : C.toList = n.rcells) (hs : a.eval s = v) (hown : OwnU w0 base v l)
    (hx : a.eval x = .slice (some ⟨w0.heap.size, 0, none⟩) 1 1)
    (hbound : l.length ≤ 1000000000) (hbase : base ≤ w0.heap.size)
    (h : ∀ v' w', OwnU w' base v' (l ++ [n]) → Below base w0 w' → Grew w0 w' v v' → wpList Tryd.prog ops Q rest (a.put o.dst v') w') :
    wpList Tryd.prog ops Q (o :: rest) a (w0.alloc (.cells C 88)) :=
  app_row Tk.rcells 50 88 3 32 _ Tk.rcells_len Tk.rone Tryd.underlying50 info_rtok rfl (by decide) (by decide) hgd s x ho base v l n C hC hs hown hx hbound hbase h
theorem rtok_any (k : Int) (b : Int) (t : Tk) (hk : t.kind = k) (hb : (t.b.toNat : Int) = b) (hp : t.txt = []) : (#[.int .i64 k, .int .u8 b, .string ⟨#[]⟩] : Array Value).toList = t.rcells := by
  unfold Tk.rcells
  rw [hk, hb, hp]
  rfl
end Go.Proofs.YtphfcebacilbbaaDoor
