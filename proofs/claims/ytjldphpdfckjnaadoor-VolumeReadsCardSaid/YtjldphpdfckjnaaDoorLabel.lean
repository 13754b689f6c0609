/- A scope whose text is some parts, a label, and what is jumped back to. Plain helpers. -/
import Derived.Test.YtjldphpdfckjnaaDoorKit
import Derived.ScopeJumps
import Derived.WalkMore
namespace Go.Proofs.YtjldphpdfckjnaaDoor
open Go.RowKit

theorem scope_l1 {P : Program} {r1 R : Code} {Q : Exit → Act → World → Prop} {a : Act} {w : World} (l : Nat) (J : Act → World → Prop) (μ : Act → World → Nat)
    (h1 : findLabel r1 l = none)
    (body : ∀ a w, J a w → R.wp P (Exit.jump l (fun a' w' => J a' w' ∧ μ a' w' < μ a w) Q) a w)
    (first : (∀ a w, J a w → R.wp P (Exit.jump l J Q) a w) → (r1.seq ((Code.label l).seq R)).wp P (Exit.jump l J Q) a w) :
    (Code.scope (r1.seq ((Code.label l).seq R))).wp P Q a w := by
  refine wp_scope_jumps (rest := Code.seq .skip R) l J μ (by simp [findLabel, h1]) (first fun a w h => Code.wp_mono ?_ (body a w h)) ?_
  · intro e a' w' hq
    cases e <;> first | exact hq | exact ⟨hq.1, hq.2.1⟩
  · intro a w h
    exact wp_seq (wp_skip (body a w h))
theorem scope_l2 {P : Program} {r1 r2 R : Code} {Q : Exit → Act → World → Prop} {a : Act} {w : World} (l : Nat) (J : Act → World → Prop) (μ : Act → World → Nat)
    (h1 : findLabel r1 l = none) (h2 : findLabel r2 l = none)
    (body : ∀ a w, J a w → R.wp P (Exit.jump l (fun a' w' => J a' w' ∧ μ a' w' < μ a w) Q) a w)
    (first : (∀ a w, J a w → R.wp P (Exit.jump l J Q) a w) → (r1.seq (r2.seq ((Code.label l).seq R))).wp P (Exit.jump l J Q) a w) :
    (Code.scope (r1.seq (r2.seq ((Code.label l).seq R)))).wp P Q a w := by
  refine wp_scope_jumps (rest := Code.seq .skip R) l J μ (by simp [findLabel, h1, h2]) (first fun a w h => Code.wp_mono ?_ (body a w h)) ?_
  · intro e a' w' hq
    cases e <;> first | exact hq | exact ⟨hq.1, hq.2.1⟩
  · intro a w h
    exact wp_seq (wp_skip (body a w h))
theorem scope_l3 {P : Program} {r1 r2 r3 R : Code} {Q : Exit → Act → World → Prop} {a : Act} {w : World} (l : Nat) (J : Act → World → Prop) (μ : Act → World → Nat)
    (h1 : findLabel r1 l = none) (h2 : findLabel r2 l = none) (h3 : findLabel r3 l = none)
    (body : ∀ a w, J a w → R.wp P (Exit.jump l (fun a' w' => J a' w' ∧ μ a' w' < μ a w) Q) a w)
    (first : (∀ a w, J a w → R.wp P (Exit.jump l J Q) a w) → (r1.seq (r2.seq (r3.seq ((Code.label l).seq R)))).wp P (Exit.jump l J Q) a w) :
    (Code.scope (r1.seq (r2.seq (r3.seq ((Code.label l).seq R))))).wp P Q a w := by
  refine wp_scope_jumps (rest := Code.seq .skip R) l J μ (by simp [findLabel, h1, h2, h3]) (first fun a w h => Code.wp_mono ?_ (body a w h)) ?_
  · intro e a' w' hq
    cases e <;> first | exact hq | exact ⟨hq.1, hq.2.1⟩
  · intro a w h
    exact wp_seq (wp_skip (body a w h))
theorem scope_l4 {P : Program} {r1 r2 r3 r4 R : Code} {Q : Exit → Act → World → Prop} {a : Act} {w : World} (l : Nat) (J : Act → World → Prop) (μ : Act → World → Nat)
    (h1 : findLabel r1 l = none) (h2 : findLabel r2 l = none) (h3 : findLabel r3 l = none) (h4 : findLabel r4 l = none)
    (body : ∀ a w, J a w → R.wp P (Exit.jump l (fun a' w' => J a' w' ∧ μ a' w' < μ a w) Q) a w)
    (first : (∀ a w, J a w → R.wp P (Exit.jump l J Q) a w) → (r1.seq (r2.seq (r3.seq (r4.seq ((Code.label l).seq R))))).wp P (Exit.jump l J Q) a w) :
    (Code.scope (r1.seq (r2.seq (r3.seq (r4.seq ((Code.label l).seq R)))))).wp P Q a w := by
  refine wp_scope_jumps (rest := Code.seq .skip R) l J μ (by simp [findLabel, h1, h2, h3, h4]) (first fun a w h => Code.wp_mono ?_ (body a w h)) ?_
  · intro e a' w' hq
    cases e <;> first | exact hq | exact ⟨hq.1, hq.2.1⟩
  · intro a w h
    exact wp_seq (wp_skip (body a w h))
theorem scope_l5 {P : Program} {r1 r2 r3 r4 r5 R : Code} {Q : Exit → Act → World → Prop} {a : Act} {w : World} (l : Nat) (J : Act → World → Prop) (μ : Act → World → Nat)
    (h1 : findLabel r1 l = none) (h2 : findLabel r2 l = none) (h3 : findLabel r3 l = none) (h4 : findLabel r4 l = none) (h5 : findLabel r5 l = none)
    (body : ∀ a w, J a w → R.wp P (Exit.jump l (fun a' w' => J a' w' ∧ μ a' w' < μ a w) Q) a w)
    (first : (∀ a w, J a w → R.wp P (Exit.jump l J Q) a w) → (r1.seq (r2.seq (r3.seq (r4.seq (r5.seq ((Code.label l).seq R)))))).wp P (Exit.jump l J Q) a w) :
    (Code.scope (r1.seq (r2.seq (r3.seq (r4.seq (r5.seq ((Code.label l).seq R))))))).wp P Q a w := by
  refine wp_scope_jumps (rest := Code.seq .skip R) l J μ (by simp [findLabel, h1, h2, h3, h4, h5]) (first fun a w h => Code.wp_mono ?_ (body a w h)) ?_
  · intro e a' w' hq
    cases e <;> first | exact hq | exact ⟨hq.1, hq.2.1⟩
  · intro a w h
    exact wp_seq (wp_skip (body a w h))
theorem scope_l6 {P : Program} {r1 r2 r3 r4 r5 r6 R : Code} {Q : Exit → Act → World → Prop} {a : Act} {w : World} (l : Nat) (J : Act → World → Prop) (μ : Act → World → Nat)
    (h1 : findLabel r1 l = none) (h2 : findLabel r2 l = none) (h3 : findLabel r3 l = none) (h4 : findLabel r4 l = none) (h5 : findLabel r5 l = none) (h6 : findLabel r6 l = none)
    (body : ∀ a w, J a w → R.wp P (Exit.jump l (fun a' w' => J a' w' ∧ μ a' w' < μ a w) Q) a w)
    (first : (∀ a w, J a w → R.wp P (Exit.jump l J Q) a w) → (r1.seq (r2.seq (r3.seq (r4.seq (r5.seq (r6.seq ((Code.label l).seq R))))))).wp P (Exit.jump l J Q) a w) :
    (Code.scope (r1.seq (r2.seq (r3.seq (r4.seq (r5.seq (r6.seq ((Code.label l).seq R)))))))).wp P Q a w := by
  refine wp_scope_jumps (rest := Code.seq .skip R) l J μ (by simp [findLabel, h1, h2, h3, h4, h5, h6]) (first fun a w h => Code.wp_mono ?_ (body a w h)) ?_
  · intro e a' w' hq
    cases e <;> first | exact hq | exact ⟨hq.1, hq.2.1⟩
  · intro a w h
    exact wp_seq (wp_skip (body a w h))
end Go.Proofs.YtjldphpdfckjnaaDoor
