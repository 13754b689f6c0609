/- What the calls of Go's library lean on: the table of powers of ten, and one number; and numbers in decimal digits. -/
import Derived.Test.YtjldphpdfckjnaaDoorItoa
namespace Go.Proofs.YtjldphpdfckjnaaDoor
open Go.RowKit Go.Lib

/-- a number of sixty-four bits -/
def I64 (n : Int) : Prop := -9223372036854775808 ≤ n ∧ n ≤ 9223372036854775807
/-- the library's number reads as some number -/
def MX (w : World) : Prop := ∃ m : Int, w.cell? ⟨0, 0, none⟩ = some (.int .i64 m)
theorem MX.on {w u : World} (h : MX w) (hb : Below w.heap.size w u) : MX u := by
  obtain ⟨m, hm⟩ := h
  exact ⟨m, by rw [hb.cell (World.block_lt_of_cell? _ _ hm)]; exact hm⟩
structure TM (w : World) : Prop where
  tb : TB w.heap.size w
  mx : MX w
theorem TM.on {w u : World} (h : TM w) (hb : Below w.heap.size w u) : TM u := ⟨h.tb.up hb hb.size, h.mx.on hb⟩
theorem itoaI_any (n : Int) (h : I64 n) (w : World) (hT : TM w) :
    Calls Tryd.prog 43 #[.int .i64 n] w fun e w' => e = .returned (.string (S (itoa n))) ∧ Below w.heap.size w w' := by
  refine (Go.Proofs.Tryd.strconv_Itoa n h.1 h.2 w hT.tb.here).mono ?_
  rintro e w' ⟨h, k, os, rfl⟩
  exact ⟨h, below_grow _ _ (Nat.le_refl _) _ _⟩
end Go.Proofs.YtjldphpdfckjnaaDoor
