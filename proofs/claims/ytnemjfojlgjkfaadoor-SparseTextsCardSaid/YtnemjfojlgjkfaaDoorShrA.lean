/- Maps with holes: slices of pieces that the call itself made. Plain helpers. -/
import Derived.Test.YtnemjfojlgjkfaaDoorShrQ
import Derived.Test.YtnemjfojlgjkfaaDoorStepR
namespace Go.Proofs.YtnemjfojlgjkfaaDoor
open Go.RowKit

def pc (p : Int × Int) : List Value := [.int .i64 p.1, .int .i64 p.2]
theorem pc_len (p : Int × Int) : (pc p).length = 2 := rfl
theorem pc_one (p : Int × Int) : ∀ u ∈ pc p, u.oneCell' = true := by
  intro u hu
  simp only [pc, List.mem_cons, List.not_mem_nil, or_false] at hu
  rcases hu with rfl | rfl <;> rfl
theorem PieV.ofRows {w : World} {v : Value} {l : Pcs} (h : RowsV pc 2 w v l) : PieV w v l := by
  obtain ⟨a, c, h1, h2⟩ := h
  refine ⟨a, c, h1, fun hp => ?_⟩
  obtain ⟨b, off, h3, h4, h5⟩ := h2 hp
  exact ⟨b, off, h3, h4, fun j hj => ⟨h5 j hj 0 _ rfl, h5 j hj 1 _ rfl⟩⟩
theorem info_pie : (Tryd.prog.info? 57).map (fun i => (i.zero, i.size, i.bytes)) = some (some (.agg #[.int .i64 0, .int .i64 0]), 2, 16) := by kernel_rfl
theorem info_rpie : (Tryd.prog.info? 58).map (fun i => (i.zero, i.size, i.bytes)) = some (some (.agg #[.int .i64 0, .int .i64 0]), 2, 16) := by kernel_rfl
/-- a slice of pieces of the call's own -/
abbrev OwnQ (w : World) (base : Nat) (v : Value) (l : Pcs) : Prop := OwnR pc 57 2 w base v l
abbrev OwnW (w : World) (base : Nat) (v : Value) (l : Pcs) : Prop := OwnR pc 58 2 w base v l
theorem OwnR.pieV {e : TypeId} {w : World} {base : Nat} {v : Value} {l : Pcs} (h : OwnR pc e 2 w base v l) : PieV w v l := PieV.ofRows (h.rows pc_len)
theorem app_pie {ops : Array Oper} {rest : List Oper} {o : Oper} {a : Act} {Q : Exit → Act → World → Prop} {w0 : World} (hgd : o.guard = none) (s x : Operand)
    (ho : o.op = .call { callee := .builtin .append, args := #[s, x], argTypes := #[23, 23] })
    (base : Nat) (v : Value) (l : Pcs) (n : Int × Int) (C : Array Value) (hC : C.toList = pc n) (hs : a.eval s = v) (hown : OwnQ w0 base v l)
    (hx : a.eval x = .slice (some ⟨w0.heap.size, 0, none⟩) 1 1)
    (hbound : l.length ≤ 1000000000) (hbase : base ≤ w0.heap.size)
    (h : ∀ v' w', OwnQ w' base v' (l ++ [n]) → Below base w0 w' → Grew w0 w' v v' → wpList Tryd.prog ops Q rest (a.put o.dst v') w') :
    wpList Tryd.prog ops Q (o :: rest) a (w0.alloc (.cells C 57)) :=
  app_row pc 23 57 2 16 _ pc_len pc_one Tryd.underlying23 info_pie rfl (by decide) (by decide) hgd s x ho base v l n C hC hs hown hx hbound hbase h
theorem app_rpie {ops : Array Oper} {rest : List Oper} {o : Oper} {a : Act} {Q : Exit → Act → World → Prop} {w0 : World} (hgd : o.guard = none) (s x : Operand)
    (ho : o.op = .call { callee := .builtin .append, args := #[s, x], argTypes := #[29, 29] })
    (base : Nat) (v : Value) (l : Pcs) (n : Int × Int) (C : Array Value) (hC : C.toList = pc n) (hs : a.eval s = v) (hown : OwnW w0 base v l)
    (hx : a.eval x = .slice (some ⟨w0.heap.size, 0, none⟩) 1 1)
    (hbound : l.length ≤ 1000000000) (hbase : base ≤ w0.heap.size)
    (h : ∀ v' w', OwnW w' base v' (l ++ [n]) → Below base w0 w' → Grew w0 w' v v' → wpList Tryd.prog ops Q rest (a.put o.dst v') w') :
    wpList Tryd.prog ops Q (o :: rest) a (w0.alloc (.cells C 58)) :=
  app_row pc 29 58 2 16 _ pc_len pc_one Tryd.underlying29 info_rpie rfl (by decide) (by decide) hgd s x ho base v l n C hC hs hown hx hbound hbase h
end Go.Proofs.YtnemjfojlgjkfaaDoor
