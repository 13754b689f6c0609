/- Slices of pairs of texts. -/
import Derived.Test.YtjldphpdfckjnaaDoorRecP
import Derived.Test.YtjldphpdfckjnaaDoorRowk
namespace Go.Proofs.YtjldphpdfckjnaaDoor
open Go.RowKit Go.Lib

def pf (p : PR) : List Value := [.string (S p.1), .string (S p.2)]
theorem pf_len (p : PR) : (pf p).length = 2 := rfl
theorem pf_one (p : PR) : ∀ u ∈ pf p, u.oneCell' = true := by
  intro u hu
  rcases List.mem_cons.1 hu with rfl | h
  · rfl
  · rw [List.mem_singleton.1 h]; rfl
theorem info_pair : (Tryd.prog.info? 123).map (fun i => (i.zero, i.size, i.bytes)) = some (some (.agg #[.string ⟨#[]⟩, .string ⟨#[]⟩]), 2, 32) := by kernel_rfl
abbrev PairsV (w : World) (v : Value) (l : List PR) : Prop := RowsV pf 2 w v l
abbrev OwnP (w : World) (base : Nat) (v : Value) (l : List PR) : Prop := OwnR pf 123 2 w base v l
/-- 'append(v, p)' on a slice of pairs of the call's own -/
theorem app_pair {ops : Array Oper} {rest : List Oper} {o : Oper} {a : Act} {Q : Exit → Act → World → Prop} {w0 : World} (hgd : o.guard = none) (s x : Operand)
    (ho : o.op = .call { callee := .builtin .append, args := #[s, x], argTypes := #[53, 53] })
    (base : Nat) (v : Value) (l : List PR) (n : PR) (hs : a.eval s = v) (hown : OwnP w0 base v l)
    (hx : a.eval x = .slice (some ⟨w0.heap.size, 0, none⟩) 1 1)
    (hbound : l.length ≤ 1000000000) (hbase : base ≤ w0.heap.size)
    (h : ∀ v' w', OwnP w' base v' (l ++ [n]) → Below base w0 w' → Grew w0 w' v v' → wpList Tryd.prog ops Q rest (a.put o.dst v') w') :
    wpList Tryd.prog ops Q (o :: rest) a (w0.alloc (.cells #[.string (S n.1), .string (S n.2)] 123)) :=
  app_row pf 53 123 2 32 _ pf_len pf_one Tryd.underlying53 info_pair rfl (by decide) (by decide) hgd s x ho base v l n _ rfl hs hown hx hbound hbase h

/-- a pair lies at a block -/
def PairAt (w : World) (g : Nat) (k v : List UInt8) : Prop := w.heap[g]? = some (.cells #[.string (S k), .string (S v)] 123 (0, 0))
theorem PairAt.new (w : World) (k v : List UInt8) : PairAt (w.alloc (.cells #[.string (S k), .string (S v)] 123)) w.heap.size k v := heap_alloc_new _ _
theorem PairAt.c0 {w : World} {g : Nat} {k v : List UInt8} (h : PairAt w g k v) : w.cell? ⟨g, 0, none⟩ = some (.string (S k)) := by unfold World.cell?; rw [h]; rfl
theorem PairAt.c1 {w : World} {g : Nat} {k v : List UInt8} (h : PairAt w g k v) : w.cell? ⟨g, 1, none⟩ = some (.string (S v)) := by unfold World.cell?; rw [h]; rfl
theorem PairAt.lt {w : World} {g : Nat} {k v : List UInt8} (h : PairAt w g k v) : g < w.heap.size := by
  rcases Nat.lt_or_ge g w.heap.size with x | x
  · exact x
  · unfold PairAt at h; rw [Array.getElem?_eq_none x] at h; cases h
theorem PairAt.below {w w' : World} {g B : Nat} {k v : List UInt8} (h : PairAt w g k v) (hb : Below B w w') (hB : g < B) : PairAt w' g k v := by
  unfold PairAt; rw [hb.block g hB]; exact h
end Go.Proofs.YtjldphpdfckjnaaDoor
