/- A glob: Parse. -/
import Derived.Test.YtphfcebacilbbaaDoorGlobB
import Derived.Test.YtphfcebacilbbaaDoorBrH0
namespace Go.Proofs.YtphfcebacilbbaaDoor
open Go.RowKit
attribute [local irreducible] wordP

/-- one token at a place: it, and how long it is -/
def tokF (s : List UInt8) (k : Nat) : Option (Tk × Nat) := match s[k]? with
  | none => none
  | some c => if c = 42 then some (.star, 1) else if c = 63 then some (.any, 1)
    else if c = 91 then (parseP s k true).map fun r => (.set r.1, r.2 - k)
    else if c = 92 then s[k + 1]?.map fun b => (.byte b, 2)
    else some (.byte c, 1)
/-- tokens from a place on, or the place and the number of the first error -/
def parseG (s : List UInt8) : Nat → Nat → List Tk → Option (List Tk × Nat × Nat)
  | 0, _, _ => none
  | f + 1, k, out => if s.length ≤ k then some (out, 0, 0) else if out.length = 1024 then some ([], k, 8) else match tokF s k with
    | none => some ([], k, 11)
    | some (t, n) => parseG s f (k + n) (out ++ [t])
theorem Tk.one (t : Tk) : ∀ u ∈ t.cells, u.oneCell' = true := by
  intro u hu
  simp only [Tk.cells, List.mem_cons, List.not_mem_nil, or_false] at hu
  rcases hu with rfl | rfl | rfl | rfl | rfl | rfl <;> rfl
theorem info_tok : (Tryd.prog.info? 31).map (fun i => (i.zero, i.size, i.bytes)) = some (some (.agg #[.int .i64 0, .int .u8 0, .int .u64 0, .int .u64 0, .int .u64 0, .int .u64 0]), 6, 48) := by kernel_rfl
abbrev OwnT (w : World) (base : Nat) (v : Value) (l : List Tk) : Prop := OwnR Tk.cells 31 6 w base v l
/-- 'append(v, t)' on a slice of tokens of the call's own -/
theorem app_tok {ops : Array Oper} {rest : List Oper} {o : Oper} {a : Act} {Q : Exit → Act → World → Prop} {w0 : World} (hgd : o.guard = none) (s x : Operand)
    (ho : o.op = .call { callee := .builtin .append, args := #[s, x], argTypes := #[23, 23] })
    (base : Nat) (v : Value) (l : List Tk) (n : Tk) (C : Array Value) (hC : C.toList = n.cells) (hs : a.eval s = v) (hown : OwnT w0 base v l)
    (hx : a.eval x = .slice (some ⟨w0.heap.size, 0, none⟩) 1 1)
    (hbound : l.length ≤ 1000000000) (hbase : base ≤ w0.heap.size)
    (h : ∀ v' w', OwnT w' base v' (l ++ [n]) → Below base w0 w' → Grew w0 w' v v' → wpList Tryd.prog ops Q rest (a.put o.dst v') w') :
    wpList Tryd.prog ops Q (o :: rest) a (w0.alloc (.cells C 31)) :=
  app_row Tk.cells 23 31 6 48 _ Tk.cells_len Tk.one Tryd.underlying23 info_tok rfl (by decide) (by decide) hgd s x ho base v l n C hC hs hown hx hbound hbase h
theorem parseP_gt {s : List UInt8} {k : Nat} {gl : Bool} {p : Nat → Bool} {n : Nat} (h : parseP s k gl = some (p, n)) : k + 2 ≤ n := by
  have ge : ∀ (f : Nat) (first : Bool) (k : Nat) (p q : Nat → Bool) (n : Nat), itemsA gl s f first k p = some (q, n) → k ≤ n := by
    intro f
    induction f with
    | zero => intro _ _ _ _ _ h; cases h
    | succ f ih =>
      intro first k p q n h
      rw [itemsA] at h
      cases hk : s[k]? with
      | none => rw [hk] at h; cases h
      | some c =>
        rw [hk] at h
        dsimp only at h
        by_cases h2 : (c == 93 && !first) = true
        · rw [if_pos h2] at h
          cases h
          exact Nat.le_refl _
        · rw [if_neg h2] at h
          cases hf : itemF gl (s.drop k) with
          | none => rw [hf] at h; cases h
          | some rn =>
            rw [hf] at h
            have := ih _ _ _ _ _ h
            omega
  unfold parseP at h
  obtain ⟨r, h1, h2⟩ := Option.map_eq_some_iff.1 h
  have := ge _ _ _ _ _ _ h1
  have e : r.2 + 1 = n := (Prod.mk.inj h2).2
  omega
theorem tokF_pos {s : List UInt8} {k : Nat} {t : Tk} {n : Nat} (h : tokF s k = some (t, n)) : 1 ≤ n ∧ k + n ≤ s.length := by
  unfold tokF at h
  cases hc : s[k]? with
  | none => rw [hc] at h; cases h
  | some c =>
    rw [hc] at h
    have hk := (List.getElem?_eq_some_iff.1 hc).1
    dsimp only at h
    split at h
    · cases h; omega
    split at h
    · cases h; omega
    split at h
    · obtain ⟨r, h1, h2⟩ := Option.map_eq_some_iff.1 h
      have h3 := parseP_gt (p := r.1) (n := r.2) h1
      have h4 := parseP_le (p := r.1) (n := r.2) h1
      have e : r.2 - k = n := (Prod.mk.inj h2).2
      omega
    split at h
    · obtain ⟨b, h1, h2⟩ := Option.map_eq_some_iff.1 h
      have h3 := (List.getElem?_eq_some_iff.1 h1).1
      have e : 2 = n := (Prod.mk.inj h2).2
      omega
    · cases h; omega
theorem tok_set (p : Nat → Bool) : (#[.int .i64 3, .int .u8 0, .int .u64 (wordP p 0), .int .u64 (wordP p 1), .int .u64 (wordP p 2), .int .u64 (wordP p 3)] : Array Value).toList = (Tk.set p).cells := rfl
theorem tok_zero (k : Int) (b : Int) (t : Tk) (hk : t.kind = k) (hb : (t.b.toNat : Int) = b) (hp : t.p = noneP) : (#[.int .i64 k, .int .u8 b, .int .u64 0, .int .u64 0, .int .u64 0, .int .u64 0] : Array Value).toList = t.cells := by
  unfold Tk.cells
  rw [hk, hb, hp, show (wordP noneP 0 : Nat) = 0 from word_none 0, show (wordP noneP 1 : Nat) = 0 from word_none 1, show (wordP noneP 2 : Nat) = 0 from word_none 2, show (wordP noneP 3 : Nat) = 0 from word_none 3]
  rfl
end Go.Proofs.YtphfcebacilbbaaDoor
