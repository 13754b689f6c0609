/-
  DERIVED. GIVEN WITH THE SEED: THE CARDS: each row of YtjoalambgckchaaDoorRows.lean that lists a variable, with what it lists TIED to the program's text (the seventh form; the later family's looks); each row that meets fmt, with fmt's text TOLD by the authors' own Lean function (tested against real Go, not proved from fmt's source: count such statements apart). THE CARD IS WHAT COUNTS. Prove the row's statement (the work); the ties are given (YtjoalambgckchaaDoorTie.lean); close each card by the builder's one call (the guide's Derived/Test/ToyasCard.lean, 'card_holds'). Laid BY PROGRAM, IN A SANDBOX (cutbox-door.mjs). By AI agents, Wed Nov 11 2026. No macro, syntax, notation, axiom, sorry.
-/
import Derived.Test.YtjoalambgckchaaDoorRows
import GoSem.ClaimSeven
namespace Go.Proofs.YtjoalambgckchaaDoor
namespace Rows

/-- THE TIED CARD OF 'boulterlaw06.RecordPrints'. -/
def recordPrintsCard : Claim7 := { stood := { row := recordPrintsRow, standIns := [], harness := (true, "f620f2463de77b936a5ebbe8c582ae4c6b77cbb60502b33a079defeff3c905ea"), looks := false }, kinds := [], alts := [], laidByText := true, laidKinds := [.data, .data, .data], laidTests := true, laidLooks := .later }
def RecordPrintsCardSaid : Prop := Claim7.holds Tryd.pinned (.plain (OpenSpec.ofChange recordPrintsSpec)) recordPrintsCard

/-- THE TIED CARD OF 'boulterlaw06.RecordParses'. -/
def recordParsesCard : Claim7 := { stood := { row := recordParsesRow, standIns := [], harness := (true, "f620f2463de77b936a5ebbe8c582ae4c6b77cbb60502b33a079defeff3c905ea"), looks := false }, kinds := [], alts := [], laidByText := true, laidKinds := [.data, .data, .data], laidTests := true, laidLooks := .later }
def RecordParsesCardSaid : Prop := Claim7.holds Tryd.pinned (.plain (OpenSpec.ofChange recordParsesSpec)) recordParsesCard

/-- THE TIED CARD OF 'boulterlaw06.RecordSizes'. -/
def recordSizesCard : Claim7 := { stood := { row := recordSizesRow, standIns := [], harness := (true, "f620f2463de77b936a5ebbe8c582ae4c6b77cbb60502b33a079defeff3c905ea"), looks := false }, kinds := [], alts := [], laidByText := true, laidKinds := [.data, .data, .data], laidTests := true, laidLooks := .later }
def RecordSizesCardSaid : Prop := Claim7.holds Tryd.pinned (.plain (OpenSpec.ofChange recordSizesSpec)) recordSizesCard

/-- THE TIED CARD OF 'boulterlaw06.RecordFull'. -/
def recordFullCard : Claim7 := { stood := { row := recordFullRow, standIns := [], harness := (true, "f620f2463de77b936a5ebbe8c582ae4c6b77cbb60502b33a079defeff3c905ea"), looks := false }, kinds := [], alts := [], laidByText := true, laidKinds := [.data, .data, .data], laidTests := true, laidLooks := .later }
def RecordFullCardSaid : Prop := Claim7.holds Tryd.pinned (.plain (OpenSpec.ofChange recordFullSpec)) recordFullCard

/-- THE SECOND FORM's CARD OF 'boulterlaw06.RecordPrints'. -/
def recordPrintsUptoCard : Claim7 := { stood := { row := recordPrintsUptoRow, standIns := [], harness := (true, "f620f2463de77b936a5ebbe8c582ae4c6b77cbb60502b33a079defeff3c905ea"), looks := false }, kinds := [], alts := [], laidByText := true, laidKinds := [.data, .data, .data], laidTests := true, laidLooks := .later }
def RecordPrintsUptoCardSaid : Prop := Claim7.holds Tryd.pinned (.plain (OpenSpec.upto recordPrintsSpec)) recordPrintsUptoCard

/-- THE SECOND FORM's CARD OF 'boulterlaw06.RecordParses'. -/
def recordParsesUptoCard : Claim7 := { stood := { row := recordParsesUptoRow, standIns := [], harness := (true, "f620f2463de77b936a5ebbe8c582ae4c6b77cbb60502b33a079defeff3c905ea"), looks := false }, kinds := [], alts := [], laidByText := true, laidKinds := [.data, .data, .data], laidTests := true, laidLooks := .later }
def RecordParsesUptoCardSaid : Prop := Claim7.holds Tryd.pinned (.plain (OpenSpec.upto recordParsesSpec)) recordParsesUptoCard

/-- THE SECOND FORM's CARD OF 'boulterlaw06.RecordSizes'. -/
def recordSizesUptoCard : Claim7 := { stood := { row := recordSizesUptoRow, standIns := [], harness := (true, "f620f2463de77b936a5ebbe8c582ae4c6b77cbb60502b33a079defeff3c905ea"), looks := false }, kinds := [], alts := [], laidByText := true, laidKinds := [.data, .data, .data], laidTests := true, laidLooks := .later }
def RecordSizesUptoCardSaid : Prop := Claim7.holds Tryd.pinned (.plain (OpenSpec.upto recordSizesSpec)) recordSizesUptoCard

/-- THE SECOND FORM's CARD OF 'boulterlaw06.RecordFull'. -/
def recordFullUptoCard : Claim7 := { stood := { row := recordFullUptoRow, standIns := [], harness := (true, "f620f2463de77b936a5ebbe8c582ae4c6b77cbb60502b33a079defeff3c905ea"), looks := false }, kinds := [], alts := [], laidByText := true, laidKinds := [.data, .data, .data], laidTests := true, laidLooks := .later }
def RecordFullUptoCardSaid : Prop := Claim7.holds Tryd.pinned (.plain (OpenSpec.upto recordFullSpec)) recordFullUptoCard
end Rows
end Go.Proofs.YtjoalambgckchaaDoor
