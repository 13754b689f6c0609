/- A range over a function whose iterator keeps state of its own in captured cells: the law and the form of the iterator's contract. The body never leaves the loop. -/
import Derived.RangeFuncNested
import Derived.RangeFuncBound
import Derived.RangeFuncCalls
import Derived.RangeFuncLeaves
import Derived.Shelf.Abstract
import Derived.Shelf.RegionOpen
import Derived.Test.YtjaiadfpdkjkpaaDoorProg
namespace Go.Proofs.YtjaiadfpdkjkpaaDoor
open Go.RowKit

/-- J abides new blocks and stores into the iterator's own blocks -/
def AbOwn {β : Type} (mine : Nat → Prop) (J : β → World → Prop) : Prop :=
  ∀ s W W' row, J s W → W.grownBy W' row → (∀ r, row = some r → mine r) → J s W'
/-- what a round leaves alone: the iterator's own blocks -/
def KeepOwn (mine : Nat → Prop) (A B : World) : Prop := A.heap.size ≤ B.heap.size ∧ ∀ b, mine b → B.heap[b]? = A.heap[b]?
theorem KeepOwn.refl (mine : Nat → Prop) (A : World) : KeepOwn mine A A := ⟨Nat.le_refl _, fun _ _ => rfl⟩
theorem KeepOwn.trans {mine : Nat → Prop} {A B C : World} (h : KeepOwn mine A B) (k : KeepOwn mine B C) : KeepOwn mine A C := ⟨Nat.le_trans h.1 k.1, fun b hb => (k.2 b hb).trans (h.2 b hb)⟩
theorem KeepOwn.put {mine : Nat → Prop} {W : World} {l : Nat} {o : Obj} (h : ¬ mine l) : KeepOwn mine W (W.putObj l o) :=
  ⟨by rw [show (W.putObj l o).heap.size = W.heap.size by simp [World.putObj]]; exact Nat.le_refl _, fun b hb => World.putObj_heap_other (fun e => h (e ▸ hb))⟩
/-- the iterator's contract: it yields just these, one behind the other -/
def GivesAll {α : Type} (F : Fence) (n : Nat) (P : Program) (g : Nat) (lb : Array Value) (encs : α → Array Value) (mine : Nat → Prop) (xs : List α) (w : World) : Prop :=
  ∀ (l : Nat) (J : List α → World → Prop) (W : World), Below w.heap.size w W → AbOwn mine J →
    (∀ pre x rest W1, J pre W1 → pre ++ x :: rest = xs → YieldAt F (n - 1) P l (encs x) W1 fun e W' => e = .returned (.bool true) ∧ J (pre ++ [x]) W' ∧ KeepOwn mine W1 W') →
    J [] W →
    CallsIn F n P g (#[.func (.yield l) #[] #[]] ++ lb) W fun e W' => (∃ v, e = .returned v) ∧ J xs W'
/-- how a round of such a body ends -/
def allPost {α : Type} (mine : Nat → Prop) (I : List α → World → Prop) (xs : List α) (W : World) : Exit → Act → World → Prop
  | .normal, _, W' => KeepsOthers W W' ∧ KeepOwn mine W W' ∧ I xs W'
  | _, _, _ => False
/-- I abides new blocks, turns of what is no cells from B on, and the iterator's stores -/
def OwnOr {β : Type} (B : Nat) (mine : Nat → Prop) (I : β → World → Prop) : Prop :=
  ∀ s W W' row, I s W → W.grownBy W' row → (∀ r, row = some r → mine r ∨ (B ≤ r ∧ ∃ o : Obj, W.heap[r]? = some o ∧ o.isCells = false)) → I s W'

variable {F : Fence} {n : Nat} {P : Program}
theorem OwnOr.put {β : Type} {B : Nat} {mine : Nat → Prop} {I : β → World → Prop} (h : OwnOr B mine I) {s : β} {W : World} {l : Nat} {o : Obj} (o' : Obj) (hs : I s W) (hB : B ≤ l) (hl : W.heap[l]? = some o) (hc : o.isCells = false) : I s (W.putObj l o') :=
  h s W _ (some l) hs (grownBy_putObj' W l o') fun r e => by cases e; exact .inr ⟨hB, o, hl, hc⟩

theorem wpIn_range_all {α : Type} {g : Operand} {ps : Array Tmp} {assign body : Code} {Q : Exit → Act → World → Prop} {a : Act} {w : World}
    (hro : F.round = none) (h1 : 1 ≤ n) {gf : Nat} {lb : Array Value} (hg : a.eval g = .func (.func gf) #[] lb) (hFg : F.fn gf) (eg : ∀ args w, (callFunc gf args).run P w = .ok (.enter gf args) w)
    {encs : α → Array Value} {mine : Nat → Prop} {xs : List α} {w0 : World} (hseq : GivesAll F (n - 1) P gf lb encs mine xs w0)
    (hmine : ∀ b, mine b → b < w.heap.size) (hb0 : Below w0.heap.size w0 w) (hps : ∀ x, (encs x).size = ps.size)
    (I : List α → World → Prop) (hI : OwnOr w.heap.size mine I) (h0 : I [] w) (a₁ : α → Act)
    (hassign : ∀ (l : Nat) (x : α) (W : World) (K : Act → World → Prop), K (a₁ x) W →
      assign.wpIn (F.inRound l) (n - 1 - 1) P (Exit.then K (fun _ _ _ => False)) { tmps := (ps.zip (encs x)).foldl (fun t (p, v) => t.setIfInBounds p v) a.tmps, defers := [] } W)
    (hbody : ∀ (l : Nat) (pre : List α) (x : α) (rest : List α) (W : World), I pre W → pre ++ x :: rest = xs → body.wpIn (F.inRound l) (n - 1 - 1) P (allPost mine I (pre ++ [x]) W) (a₁ x) W)
    (hdone : ∀ (D : Nat) (W : World), w.heap.size ≤ D → I xs W → W.heap[D]? = some (.deferred (some [])) → Q .normal { a with defers := { target := .collected D, args := #[] } :: a.defers } W) :
    (Code.rangeFunc g ps assign body).wpIn F n P Q a w := by
  refine wpIn_rangeFunc fun fn hfn => ?_
  rw [hro]
  let rec0 : LoopState → Loop := fun st => { state := st, pending := none, fn, tmps := a.tmps, params := ps, assign, body, defers := w.heap.size }
  have hrec : ∀ st, rec0 st = { state := st, pending := none, fn, tmps := a.tmps, params := ps, assign, body, defers := w.heap.size } := fun _ => rfl
  clear_value rec0
  let W1 := (w.alloc (.deferred (some []))).alloc (.loop (rec0 .ready))
  have hW1 : W1 = (w.alloc (.deferred (some []))).alloc (.loop (rec0 .ready)) := rfl
  clear_value W1
  have hL1 : W1.heap[w.heap.size + 1]? = some (.loop (rec0 .ready)) := by
    rw [hW1]; have := World.alloc_heap_new (w.alloc (.deferred (some []))) (.loop (rec0 .ready)); rwa [World.size_alloc] at this
  have hD1 : W1.heap[w.heap.size]? = some (.deferred (some [])) := by
    rw [hW1]; exact (Below.heap_alloc _ _ _ (by simp)).trans (World.alloc_heap_new w _)
  have hbel : Below w.heap.size w W1 := by rw [hW1]; exact ((Below.refl _ w).alloc (Nat.le_refl _) _).alloc (by simp) _
  have hI1 : I [] W1 := by
    rw [hW1]
    refine hI [] _ _ none (hI [] _ _ none h0 (World.grownBy_alloc w _ none) fun r e => by cases e) (World.grownBy_alloc _ _ none) fun r e => by cases e
  refine ⟨w.heap.size + 1, [{ target := .collected w.heap.size, args := #[] }], W1, { target := .fn (.func gf) lb, args := #[.func (.yield (w.heap.size + 1)) #[] #[]] }, W1, gf,
    #[.func (.yield (w.heap.size + 1)) #[] #[]] ++ lb, W1, ?_, ?_, ?_, ?_, fun _ => h1, ?_⟩
  · rw [hW1, hrec]; exact run_enterLoop_outer _ _ _ _ _
  · simp only [resolve, hg]
    simp [go_sem]
  · intro f' hf'; simp [Target.leads] at hf'; subst hf'; exact hFg
  · simp [invoke, go_sem, eg]
  · have hml : ¬ mine (w.heap.size + 1) := fun h => by have := hmine _ h; omega
    have hmd : ¬ mine w.heap.size := fun h => by have := hmine _ h; omega
    refine (hseq (w.heap.size + 1) (fun pre W => I pre W ∧ W.heap[w.heap.size + 1]? = some (.loop (rec0 .ready)) ∧ W.heap[w.heap.size]? = some (.deferred (some []))) W1
      (hb0.trans (hbel.mono hb0.size)) ?_ ?_ ⟨hI1, hL1, hD1⟩).mono ?_
    · rintro s A B row ⟨k1, k2, k3⟩ hgr hrow
      refine ⟨hI s A B row k1 hgr fun r e => .inl (hrow r e), ?_, ?_⟩
      · rw [hgr.block _ (Array.getElem?_eq_some_iff.1 k2).1 (fun e => hml (hrow _ e.symm))]; exact k2
      · rw [hgr.block _ (Array.getElem?_eq_some_iff.1 k3).1 (fun e => hmd (hrow _ e.symm))]; exact k3
    · rintro pre x rest W ⟨hi, hl, hd⟩ hxs
      have hlt : w.heap.size + 1 < W.heap.size := (Array.getElem?_eq_some_iff.1 hl).1
      have hy := run_yield (P := P) (args := encs x) hl (by rw [hrec]; exact hps x)
      rw [hrec] at hy
      refine ⟨fn, _, assign, body, hy, roundIn_of_wpIn hfn (hassign _ x W _ ⟨_, run_beginRound hl (by rw [hrec]), ?_⟩)⟩
      have hl2 : (W.putObj (w.heap.size + 1) (.loop { rec0 .ready with state := .busy })).heap[w.heap.size + 1]? = some (.loop { rec0 .ready with state := .busy }) := World.putObj_heap_same hlt
      have hd2 : (W.putObj (w.heap.size + 1) (.loop { rec0 .ready with state := .busy })).heap[w.heap.size]? = some (.deferred (some [])) := (World.putObj_heap_other (by omega)).trans hd
      refine wpIn_mono (hbody _ pre x rest _ (hI.put _ hi (by omega) hl rfl) hxs) ?_
      rintro e a3 W3 hp
      cases e with
      | normal =>
        obtain ⟨hko, hkm, hi3⟩ := hp
        have hl3 := hko.same _ _ hl2 rfl
        have hd3 := hko.same _ _ hd2 rfl
        have hr := run_endRound (P := P) none hl3
        refine ⟨_, _, hr, rfl, ⟨hI.put _ hi3 (by omega) hl3 rfl, ?_, (World.putObj_heap_other (by omega)).trans hd3⟩, (KeepOwn.put hml).trans (hkm.trans (KeepOwn.put hml))⟩
        rw [World.putObj_heap_same (Array.getElem?_eq_some_iff.1 hl3).1]
        simp [hrec]
      | ret => exact hp.elim
      | exit id => exact hp.elim
      | goto t => exact hp.elim
      | panic ch => exact hp.elim
      | outgrown => exact hp.elim
    · rintro e W2 ⟨⟨v, rfl⟩, hi, hl, hd⟩
      exact ⟨none, _, by have := run_endLoop (P := P) hl (by rw [hrec]; simp); rw [hrec] at this; exact this, hdone _ _ (Nat.le_refl _) (hI.put _ hi (by omega) hl rfl) ((World.putObj_heap_other (by omega)).trans hd)⟩
end Go.Proofs.YtjaiadfpdkjkpaaDoor
