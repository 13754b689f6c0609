/- A struct at a block of its own, known whole: stored, loaded, returned. Plain helpers. -/
import Derived.Test.YtphfcebacilbbaaDoorAtB
import Derived.Laws.Tables
import Derived.Laws.Rows
import Derived.Laws.CopyOwn
namespace Go.Proofs.YtphfcebacilbbaaDoor
open Go.RowKit

theorem rw_load {T : TypeId} {fs : Array Field} (hu : Tryd.prog.underlying T = some (.struct fs)) {ops : Array Oper} {rest : List Oper} {o : Oper} {a : Act} {Q : Exit → Act → World → Prop} {w : World} (hgd : o.guard = none) (x : Operand) (ho : o.op = .load T x)
    (g : Nat) (hx : a.eval x = .pointer (some ⟨g, 0, none⟩)) (C : List Value) (hA : AtB w g T C) (hi : (Tryd.prog.info? T).map (·.size) = some C.toArray.size) (h : wpList Tryd.prog ops Q rest (a.put o.dst (.agg C.toArray)) w) : wpList Tryd.prog ops Q (o :: rest) a w :=
  wpList_load_row hgd T x ho g hx T C.toArray (0, 0) _ hA hu rfl hi h
theorem rw_store {T : TypeId} {ops : Array Oper} {rest : List Oper} {o : Oper} {a : Act} {Q : Exit → Act → World → Prop} {w : World} (hgd : o.guard = none) (x y : Operand) (ho : o.op = .store T x y)
    (g : Nat) (hx : a.eval x = .pointer (some ⟨g, 0, none⟩)) (C C2 : List Value) (hA : AtB w g T C) (hy : a.eval y = .agg C2.toArray) (hi : (Tryd.prog.info? T).map (·.size) = some C2.toArray.size) (hl : C.toArray.size = C2.toArray.size) (h1 : C2.toArray.all (·.oneCell') = true)
    (B : Nat) (wb : World) (hb : Below B wb w) (hBg : B ≤ g)
    (h : ∀ w', AtB w' g T C2 → Below B wb w' → (∀ k, k ≠ g → w'.heap[k]? = w.heap[k]?) → wpList Tryd.prog ops Q rest (a.put o.dst undef) w') : wpList Tryd.prog ops Q (o :: rest) a w :=
  wpList_store_row hgd T x y ho g C2.toArray hx hy T C.toArray hA hi hl h1
    (h _ (setRow_heap w g _ _ _ _ hA) (below_setRow hb hBg _) (fun k hk => setRow_other w g k _ hk))
theorem results_rw1 {fn : Func} {t : Tmp} {T : TypeId} {fs : Array Field} (hu : Tryd.prog.underlying T = some (.struct fs)) (h : fn.results = #[.cell t T]) (tmps : Array Value) (w : World) (g : Nat) (C : List Value) (hp : tmps.getD t undef = .pointer (some ⟨g, 0, none⟩)) (hA : AtB w g T C) (hi : (Tryd.prog.info? T).map (·.size) = some C.toArray.size) :
    (results fn tmps).run Tryd.prog w = .ok (.agg C.toArray) w := by
  have hl := run_loadVar_row (P := Tryd.prog) w g T T C.toArray (0, 0) _ hA hu rfl hi
  have hp2 : tmps[t]?.getD undef = .pointer (some ⟨g, 0, none⟩) := by simpa using hp
  simp [results, h, hp2, asAddr, hl]
theorem results_rw2 {fn : Func} {t u : Tmp} {T : TypeId} {fs : Array Field} (hu : Tryd.prog.underlying T = some (.struct fs)) (h : fn.results = #[.cell t T, .tmp u]) (tmps : Array Value) (w : World) (g : Nat) (C : List Value) (hp : tmps.getD t undef = .pointer (some ⟨g, 0, none⟩)) (hA : AtB w g T C) (hi : (Tryd.prog.info? T).map (·.size) = some C.toArray.size) :
    (results fn tmps).run Tryd.prog w = .ok (.tuple #[.agg C.toArray, tmps.getD u undef]) w := by
  have hl := run_loadVar_row (P := Tryd.prog) w g T T C.toArray (0, 0) _ hA hu rfl hi
  have hp2 : tmps[t]?.getD undef = .pointer (some ⟨g, 0, none⟩) := by simpa using hp
  simp [results, h, hp2, asAddr, hl]
theorem results_rw3 {fn : Func} {t u v : Tmp} {T : TypeId} {fs : Array Field} (hu : Tryd.prog.underlying T = some (.struct fs)) (h : fn.results = #[.cell t T, .tmp u, .tmp v]) (tmps : Array Value) (w : World) (g : Nat) (C : List Value) (hp : tmps.getD t undef = .pointer (some ⟨g, 0, none⟩)) (hA : AtB w g T C) (hi : (Tryd.prog.info? T).map (·.size) = some C.toArray.size) :
    (results fn tmps).run Tryd.prog w = .ok (.tuple #[.agg C.toArray, tmps.getD u undef, tmps.getD v undef]) w := by
  have hl := run_loadVar_row (P := Tryd.prog) w g T T C.toArray (0, 0) _ hA hu rfl hi
  have hp2 : tmps[t]?.getD undef = .pointer (some ⟨g, 0, none⟩) := by simpa using hp
  simp [results, h, hp2, asAddr, hl]
end Go.Proofs.YtphfcebacilbbaaDoor
