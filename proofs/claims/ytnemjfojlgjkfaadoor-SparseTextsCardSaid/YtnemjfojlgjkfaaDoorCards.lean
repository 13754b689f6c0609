/-
  DERIVED. GIVEN WITH THE SEED: THE CARDS: each row of YtnemjfojlgjkfaaDoorRows.lean that lists a variable, with what it lists TIED to the program's text (the seventh form; the later family's looks); each row that meets fmt, with fmt's text TOLD by the authors' own Lean function (tested against real Go, not proved from fmt's source: count such statements apart). THE CARD IS WHAT COUNTS. Prove the row's statement (the work); the ties are given (YtnemjfojlgjkfaaDoorTie.lean); close each card by the builder's one call (the guide's Derived/Test/ToyasCard.lean, 'card_holds'). Laid BY PROGRAM, IN A SANDBOX (cutbox-door.mjs). By AI agents, Wed Nov 11 2026. No macro, syntax, notation, axiom, sorry.
-/
import Derived.Test.YtnemjfojlgjkfaaDoorRows
import GoSem.ClaimSeven
namespace Go.Proofs.YtnemjfojlgjkfaaDoor
namespace Rows

/-- THE TIED CARD OF 'boulterlaw40.SparseShrinks'. -/
def sparseShrinksCard : Claim7 := { stood := { row := sparseShrinksRow, standIns := [], harness := (true, "269aa0d5c87b29988f2c15cbbaa5d4072fe1722bc41c752490efca31a8c89b26"), looks := false }, kinds := [], alts := [], laidByText := true, laidKinds := [.data, .data, .data, .data, .pinned], laidTests := true, laidLooks := .later }
def SparseShrinksCardSaid : Prop := Claim7.holds Tryd.pinned (.plain (OpenSpec.ofChange sparseShrinksSpec)) sparseShrinksCard

/-- THE TIED CARD OF 'boulterlaw40.SparseCuts'. -/
def sparseCutsCard : Claim7 := { stood := { row := sparseCutsRow, standIns := [], harness := (true, "269aa0d5c87b29988f2c15cbbaa5d4072fe1722bc41c752490efca31a8c89b26"), looks := false }, kinds := [], alts := [], laidByText := true, laidKinds := [.data, .data, .data, .data, .pinned], laidTests := true, laidLooks := .later }
def SparseCutsCardSaid : Prop := Claim7.holds Tryd.pinned (.plain (OpenSpec.ofChange sparseCutsSpec)) sparseCutsCard

/-- THE TIED CARD OF 'boulterlaw40.SparseExpands'. -/
def sparseExpandsCard : Claim7 := { stood := { row := sparseExpandsRow, standIns := [], harness := (true, "269aa0d5c87b29988f2c15cbbaa5d4072fe1722bc41c752490efca31a8c89b26"), looks := false }, kinds := [], alts := [], laidByText := true, laidKinds := [.data, .data, .data, .data, .pinned], laidTests := true, laidLooks := .later }
def SparseExpandsCardSaid : Prop := Claim7.holds Tryd.pinned (.plain (OpenSpec.ofChange sparseExpandsSpec)) sparseExpandsCard

/-- THE TIED CARD OF 'boulterlaw40.SparseTexts'. -/
def sparseTextsCard : Claim7 := { stood := { row := sparseTextsRow, standIns := [], harness := (true, "269aa0d5c87b29988f2c15cbbaa5d4072fe1722bc41c752490efca31a8c89b26"), looks := false }, kinds := [], alts := [], laidByText := true, laidKinds := [.data, .data, .data, .data, .pinned], laidTests := true, laidLooks := .later }
def SparseTextsCardSaid : Prop := Claim7.holds Tryd.pinned (.plain (OpenSpec.ofChange sparseTextsSpec)) sparseTextsCard

/-- THE SECOND FORM's CARD OF 'boulterlaw40.SparseShrinks'. -/
def sparseShrinksUptoCard : Claim7 := { stood := { row := sparseShrinksUptoRow, standIns := [], harness := (true, "269aa0d5c87b29988f2c15cbbaa5d4072fe1722bc41c752490efca31a8c89b26"), looks := false }, kinds := [], alts := [], laidByText := true, laidKinds := [.data, .data, .data, .data, .pinned], laidTests := true, laidLooks := .later }
def SparseShrinksUptoCardSaid : Prop := Claim7.holds Tryd.pinned (.plain (OpenSpec.upto sparseShrinksSpec)) sparseShrinksUptoCard

/-- THE SECOND FORM's CARD OF 'boulterlaw40.SparseCuts'. -/
def sparseCutsUptoCard : Claim7 := { stood := { row := sparseCutsUptoRow, standIns := [], harness := (true, "269aa0d5c87b29988f2c15cbbaa5d4072fe1722bc41c752490efca31a8c89b26"), looks := false }, kinds := [], alts := [], laidByText := true, laidKinds := [.data, .data, .data, .data, .pinned], laidTests := true, laidLooks := .later }
def SparseCutsUptoCardSaid : Prop := Claim7.holds Tryd.pinned (.plain (OpenSpec.upto sparseCutsSpec)) sparseCutsUptoCard

/-- THE SECOND FORM's CARD OF 'boulterlaw40.SparseExpands'. -/
def sparseExpandsUptoCard : Claim7 := { stood := { row := sparseExpandsUptoRow, standIns := [], harness := (true, "269aa0d5c87b29988f2c15cbbaa5d4072fe1722bc41c752490efca31a8c89b26"), looks := false }, kinds := [], alts := [], laidByText := true, laidKinds := [.data, .data, .data, .data, .pinned], laidTests := true, laidLooks := .later }
def SparseExpandsUptoCardSaid : Prop := Claim7.holds Tryd.pinned (.plain (OpenSpec.upto sparseExpandsSpec)) sparseExpandsUptoCard

/-- THE SECOND FORM's CARD OF 'boulterlaw40.SparseTexts'. -/
def sparseTextsUptoCard : Claim7 := { stood := { row := sparseTextsUptoRow, standIns := [], harness := (true, "269aa0d5c87b29988f2c15cbbaa5d4072fe1722bc41c752490efca31a8c89b26"), looks := false }, kinds := [], alts := [], laidByText := true, laidKinds := [.data, .data, .data, .data, .pinned], laidTests := true, laidLooks := .later }
def SparseTextsUptoCardSaid : Prop := Claim7.holds Tryd.pinned (.plain (OpenSpec.upto sparseTextsSpec)) sparseTextsUptoCard
end Rows
end Go.Proofs.YtnemjfojlgjkfaaDoor
