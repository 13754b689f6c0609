/- Maps from numbers to texts, or to numbers, that a call makes: what they hold, in plain words; made, written, ranged over in whatever order. -/
import Derived.Test.YtjldphpdfckjnaaDoorKit
import Derived.Maps.OwnOps
import Derived.Maps.OwnSet
import Derived.Maps.Views
import Derived.Maps.RangeWalk
import Derived.Maps.StringElems
namespace Go.Proofs.YtjldphpdfckjnaaDoor
open Go.RowKit Go.Maps

theorem intKeyed : Keyed Tryd.prog 3 := int_keyed Tryd.underlying3
theorem key_I (x : Int) (h : (Lit.int .i64 x).wf = true) : keyOf Tryd.prog 3 (.int .i64 x) = some (.int .i64 x) := keyOf_int_mk Tryd.underlying3 h
/-- the block b is a map that holds just M; its elements are of type e -/
def KMap (e : TypeId) (w : World) (b n : Nat) (M : Int → Option Lit) : Prop :=
  ∃ D : DataW Unit, w.ownsMap Tryd.prog 3 (plainElem Tryd.prog e) b n D ∧ (∀ x : Int, has D (.int .i64 x) = (M x).isSome) ∧ ∀ x l zd, M x = some l → D.atKey (.int .i64 x) zd = .lit l
theorem KMap.made (e : TypeId) (w : World) : KMap e (w.alloc (.map #[] 0)) w.heap.size 0 (fun _ => none) :=
  ⟨.map [], World.ownsMap_made w Tryd.prog _ _, fun _ => rfl, fun _ _ _ h => by cases h⟩
theorem KMap.lt {e : TypeId} {w : World} {b n : Nat} {M : Int → Option Lit} (h : KMap e w b n M) : b < w.heap.size := by
  obtain ⟨D, h, _⟩ := h
  exact h.lt
theorem KMap.same {e : TypeId} {w w' : World} {b n : Nat} {M : Int → Option Lit} (h : KMap e w b n M) (q : w'.heap[b]? = w.heap[b]?) : KMap e w' b n M := by
  obtain ⟨D, ⟨es, clock, hb, F, hs, hD⟩, h2⟩ := h
  exact ⟨D, ⟨es, clock, q.trans hb, F, hs, hD⟩, h2⟩
theorem KMap.below {e : TypeId} {w w' : World} {b n B : Nat} {M : Int → Option Lit} (h : KMap e w b n M) (hb : Below B w w') (hB : b < B) : KMap e w' b n M := h.same (hb.block b hB)
theorem KMap.put {e t : TypeId} (ht : Tryd.prog.underlying t = some (.map 3 e)) {w : World} {b n : Nat} {M : Int → Option Lit} (h : KMap e w b n M) (hn : n < 1000000) (x : Int) (hx : (Lit.int .i64 x).wf = true)
    (v : Value) (l : Lit) (hv : plainElem (H := Unit) Tryd.prog e v = some (.lit l, [])) :
    ∃ w', (Instr.mapUpdate t (.map (some b)) (.int .i64 x) v).run Tryd.prog w = .ok () w' ∧ KMap e w' b (n + 1) (fun y => if y = x then some l else M y) ∧ w.grownBy w' (some b) := by
  obtain ⟨D, h, h2, h5⟩ := h
  obtain ⟨w', hrun, h3, h4⟩ := h.update intKeyed ht (by unfold maxLen; omega) (key_I x hx) hv
  refine ⟨w', hrun, ⟨_, h3, fun y => ?_, fun y l' zd e => ?_⟩, h4⟩
  · by_cases hy : y = x
    · subst hy
      rw [has_put_same h.isMap (intKeyed.key (key_I y hx))]; simp
    · rw [has_put_other (by intro e; injection e with _ e; exact hy e), h2 y]; simp [hy]
  · by_cases hy : y = x
    · subst hy
      simp only [if_true] at e
      cases e
      exact atKey_put_same h.isMap (intKeyed.key (key_I y hx)) _ _
    · simp only [if_neg hy] at e
      rw [atKey_put_other (by intro e; injection e with _ e; exact hy e)]
      exact h5 y l' zd e
theorem elem_S (s : List UInt8) (h : s.length ≤ 140737488355328) : plainElem (H := Unit) Tryd.prog 9 (.string (S s)) = some (.lit (.string s), []) :=
  plainElem_string Tryd.underlying9 (by rw [S_size]; unfold maxLen; omega)
theorem elem_I (x : Int) (h : (Lit.int .i64 x).wf = true) : plainElem (H := Unit) Tryd.prog 3 (.int .i64 x) = some (.lit (.int .i64 x), []) := plainElem_int Tryd.underlying3 h

/-- block r is an iterator over the map at block b, which holds M; 'left' says which keys are still to come, cnt: how many -/
def KRange (e : TypeId) (w : World) (b r : Nat) (M : Int → Option Lit) (left : Int → Bool) (cnt : Nat) : Prop :=
  ∃ (D : DataW Unit) (n : Nat) (lf : Lit → Bool), w.ranges Tryd.prog 3 (plainElem Tryd.prog e) b r n D lf cnt ∧ (∀ x l zd, M x = some l → D.atKey (.int .i64 x) zd = .lit l) ∧
    (∀ x, lf (.int .i64 x) = left x) ∧ ∀ x, left x = true → (M x).isSome = true
theorem KRange.ltr {e : TypeId} {w : World} {b r : Nat} {M : Int → Option Lit} {left : Int → Bool} {cnt : Nat} (h : KRange e w b r M left cnt) : r < w.heap.size := by
  obtain ⟨D, n, lf, h, _⟩ := h
  exact h.lt
theorem KRange.left_eq {e : TypeId} {w : World} {b r : Nat} {M : Int → Option Lit} {left : Int → Bool} {cnt : Nat} (h : KRange e w b r M left cnt) : w.rangeLeft b r = cnt := by
  obtain ⟨D, n, lf, h, _⟩ := h
  exact h.left_eq
theorem KRange.kept {e : TypeId} {w w' : World} {b r : Nat} {M : Int → Option Lit} {left : Int → Bool} {cnt : Nat} {row : Option Nat} (h : KRange e w b r M left cnt) (hg : w.grownBy w' row) (hb : some b ≠ row) (hr : some r ≠ row) : KRange e w' b r M left cnt := by
  obtain ⟨D, n, lf, h, h2⟩ := h
  exact ⟨D, n, lf, h.kept hg hb hr, h2⟩
theorem KRange.same {e : TypeId} {w w' : World} {b r : Nat} {M : Int → Option Lit} {left : Int → Bool} {cnt : Nat} (h : KRange e w b r M left cnt) (q1 : w'.heap[b]? = w.heap[b]?) (q2 : w'.heap[r]? = w.heap[r]?) : KRange e w' b r M left cnt := by
  obtain ⟨D, n, lf, ⟨es, clock, since, seen, c0, h1, F, h3, h4, h5, h6⟩, h2⟩ := h
  exact ⟨D, n, lf, ⟨es, clock, since, seen, c0, q1.trans h1, F, h3, h4, q2.trans h5, h6⟩, h2⟩
theorem KRange.below {e : TypeId} {w w' : World} {b r B : Nat} {M : Int → Option Lit} {left : Int → Bool} {cnt : Nat} (h : KRange e w b r M left cnt) (hb : Below B w w') (h1 : b < B) (h2 : r < B) : KRange e w' b r M left cnt :=
  h.same (hb.block b h1) (hb.block r h2)
theorem grown_below {B : Nat} {w w' : World} {r : Nat} (hg : w.grownBy w' (some r)) (hB : B ≤ w.heap.size) (hr : B ≤ r) : Below B w w' :=
  (Below.refl B w).grown hg hB (fun k e => by cases e; exact hr)
theorem grown_below0 {B : Nat} {w w' : World} (hg : w.grownBy w' none) (hB : B ≤ w.heap.size) : Below B w w' :=
  (Below.refl B w).grown hg hB (fun k e => by cases e)

section
variable (w : World) {ops : Array Oper} {rest : List Oper} {o : Oper} {a : Act} {Q : Exit → Act → World → Prop}
theorem app_range (hg : o.guard = none) (m : Operand) (t : TypeId) (hop : o.op = Op.range t m) (e : TypeId) (ht : Tryd.prog.underlying t = some (.map 3 e)) (b n : Nat) (M : Int → Option Lit)
    (hm : a.eval m = .map (some b)) (hown : KMap e w b n M)
    (hK : ∀ w' cnt, KRange e w' b w.heap.size M (fun x => (M x).isSome) cnt → w.grownBy w' none → w'.heap.size = w.heap.size + 1 → wpList Tryd.prog ops Q rest (a.put o.dst (.pointer (some ⟨w.heap.size, 0, none⟩))) w') :
    wpList Tryd.prog ops Q (o :: rest) a w := by
  obtain ⟨D, hown, h2, h3⟩ := hown
  exact wpList_range_own w hg m t hop 3 e intKeyed ht _ b n D hm hown fun w' hr hgr hs =>
    hK w' _ ⟨D, n, _, hr, h3, fun x => h2 x, fun _ h => h⟩ hgr hs
theorem strike_I (left : Int → Bool) (lf : Lit → Bool) (x : Int) (h : ∀ x, lf (.int .i64 x) = left x) : ∀ z : Int, (fun q : Lit => lf q && !q.sameKey (.int .i64 x)) (.int .i64 z) = (fun z : Int => left z && !(z == x)) z := by
  intro z
  show (lf (.int .i64 z) && !(Lit.int .i64 z).sameKey (.int .i64 x)) = (left z && !(z == x))
  rw [h z]
  congr 2
  show decide (IntKind.i64 = IntKind.i64 ∧ z = x) = _
  by_cases hz : z = x
  · subst hz; simp
  · simp [hz]
theorem strike_some {M : Int → Option Lit} {left : Int → Bool} (x : Int) (h : ∀ x, left x = true → (M x).isSome = true) : ∀ z, (fun z : Int => left z && !(z == x)) z = true → (M z).isSome = true := by
  intro z hz
  rw [Bool.and_eq_true] at hz
  exact h z hz.1
theorem int_inv {key : Value} {kl : Lit} (h : keyOf Tryd.prog 3 key = some kl) : ∃ x : Int, key = .int .i64 x := by
  obtain ⟨x, hx, _⟩ := keyOf_int_inv Tryd.underlying3 h
  exact ⟨x, hx⟩
/-- the step of a range over a map of texts -/
theorem app_nextS (hg : o.guard = none) (it : Operand) (hop : o.op = Op.next it false) (b r : Nat) (M : Int → Option Lit) (left : Int → Bool) (cnt : Nat)
    (hit : a.eval it = .pointer (some ⟨r, 0, none⟩)) (h : KRange 9 w b r M left cnt)
    (hDone : (∀ x, left x = false) → wpList Tryd.prog ops Q rest (a.put o.dst (.tuple #[.bool false])) w)
    (hMore : ∀ (x : Int) (s : List UInt8) (w' : World) (cnt' : Nat), left x = true → M x = some (.string s) → KRange 9 w' b r M (fun z => left z && !(z == x)) cnt' → cnt' < cnt →
      w.grownBy w' (some r) → w'.heap.size = w.heap.size → (Instr.entry (.pointer (some ⟨r, 0, none⟩))).run Tryd.prog w' = .ok (.tuple #[.int .i64 x, .string (S s)]) w' →
      wpList Tryd.prog ops Q rest (a.put o.dst (.tuple #[.bool true, .int .i64 x, .string (S s)])) w') :
    wpList Tryd.prog ops Q (o :: rest) a w := by
  obtain ⟨D, n, lf, h, h2, h3, h4⟩ := h
  refine wpList_next_ranges w hg it hop 3 intKeyed _ (Value.int .i64) (Value.string) (fun key kl hk => int_inv hk) (fun v y hv => by obtain ⟨c, hc, _⟩ := plainElem_string_inv Tryd.underlying9 hv; exact ⟨c, hc⟩)
    b r n D lf cnt hit h (fun _ hl => hDone fun x => by rw [← h3 x]; exact hl _) (fun x c kl y w' cnt' hkey hlk hv hat hrg hlt hgr hsz hen => ?_)
  obtain ⟨x', ex, rfl, hwx⟩ := keyOf_int_inv Tryd.underlying3 hkey
  cases ex
  obtain ⟨c', ec, rfl, hwc⟩ := plainElem_string_inv Tryd.underlying9 hv
  cases ec
  have hl : left x = true := by rw [← h3 x]; exact hlk
  obtain ⟨l, hM⟩ := Option.isSome_iff_exists.1 (h4 x hl)
  have hl2 := (h2 x l (.lit (.bool false)) hM).symm.trans (hat (.lit (.bool false)))
  injection hl2 with hl2
  subst hl2
  exact hMore x c.data.toList w' cnt' hl hM ⟨D, n, _, hrg, h2, strike_I left lf x h3, strike_some x h4⟩ hlt hgr hsz hen
/-- the step of a range over a map of numbers -/
theorem app_nextI (hg : o.guard = none) (it : Operand) (hop : o.op = Op.next it false) (b r : Nat) (M : Int → Option Lit) (left : Int → Bool) (cnt : Nat)
    (hit : a.eval it = .pointer (some ⟨r, 0, none⟩)) (h : KRange 3 w b r M left cnt)
    (hDone : (∀ x, left x = false) → wpList Tryd.prog ops Q rest (a.put o.dst (.tuple #[.bool false])) w)
    (hMore : ∀ (x c : Int) (w' : World) (cnt' : Nat), left x = true → M x = some (.int .i64 c) → KRange 3 w' b r M (fun z => left z && !(z == x)) cnt' → cnt' < cnt →
      w.grownBy w' (some r) → w'.heap.size = w.heap.size → (Instr.entry (.pointer (some ⟨r, 0, none⟩))).run Tryd.prog w' = .ok (.tuple #[.int .i64 x, .int .i64 c]) w' →
      wpList Tryd.prog ops Q rest (a.put o.dst (.tuple #[.bool true, .int .i64 x, .int .i64 c])) w') :
    wpList Tryd.prog ops Q (o :: rest) a w := by
  obtain ⟨D, n, lf, h, h2, h3, h4⟩ := h
  refine wpList_next_ranges w hg it hop 3 intKeyed _ (Value.int .i64) (Value.int .i64) (fun key kl hk => int_inv hk) (fun v y hv => by obtain ⟨c, hc, _⟩ := plainElem_int_inv Tryd.underlying3 hv; exact ⟨c, hc⟩)
    b r n D lf cnt hit h (fun _ hl => hDone fun x => by rw [← h3 x]; exact hl _) (fun x c kl y w' cnt' hkey hlk hv hat hrg hlt hgr hsz hen => ?_)
  obtain ⟨x', ex, rfl, hwx⟩ := keyOf_int_inv Tryd.underlying3 hkey
  cases ex
  obtain ⟨c', ec, rfl, hwc⟩ := plainElem_int_inv Tryd.underlying3 hv
  cases ec
  have hl : left x = true := by rw [← h3 x]; exact hlk
  obtain ⟨l, hM⟩ := Option.isSome_iff_exists.1 (h4 x hl)
  have hl2 := (h2 x l (.lit (.bool false)) hM).symm.trans (hat (.lit (.bool false)))
  injection hl2 with hl2
  subst hl2
  exact hMore x c w' cnt' hl hM ⟨D, n, _, hrg, h2, strike_I left lf x h3, strike_some x h4⟩ hlt hgr hsz hen
end
end Go.Proofs.YtjldphpdfckjnaaDoor
