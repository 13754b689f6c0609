/-
  DERIVED. GIVEN WITH THE SEED: THE CARDS: each row of YtphfcebacilbbaaDoorRows.lean that lists a variable, with what it lists TIED to the program's text (the seventh form; the later family's looks); each row that meets fmt, with fmt's text TOLD by the authors' own Lean function (tested against real Go, not proved from fmt's source: count such statements apart). THE CARD IS WHAT COUNTS. Prove the row's statement (the work); the ties are given (YtphfcebacilbbaaDoorTie.lean); close each card by the builder's one call (the guide's Derived/Test/ToyasCard.lean, 'card_holds'). Laid BY PROGRAM, IN A SANDBOX (cutbox-door.mjs). By AI agents, Wed Nov 11 2026. No macro, syntax, notation, axiom, sorry.
-/
import Derived.Test.YtphfcebacilbbaaDoorRows
import GoSem.ClaimSeven
namespace Go.Proofs.YtphfcebacilbbaaDoor
namespace Rows

/-- THE TIED CARD OF 'boulterlaw16.GtableCounts'. -/
def gtableCountsCard : Claim7 := { stood := { row := gtableCountsRow, standIns := [], harness := (true, "7bf75971e79062f44343dda2ca6fb37e86e5e2d4b2bd24430fe9dc8042609021"), looks := false }, kinds := [], alts := [], laidByText := true, laidKinds := [.data, .pinned], laidTests := true, laidLooks := .later }
def GtableCountsCardSaid : Prop := Claim7.holds Tryd.pinned (.plain (OpenSpec.ofChange gtableCountsSpec)) gtableCountsCard

/-- THE TIED CARD OF 'boulterlaw16.GtableTokens'. -/
def gtableTokensCard : Claim7 := { stood := { row := gtableTokensRow, standIns := [], harness := (true, "7bf75971e79062f44343dda2ca6fb37e86e5e2d4b2bd24430fe9dc8042609021"), looks := false }, kinds := [], alts := [], laidByText := true, laidKinds := [.data, .pinned], laidTests := true, laidLooks := .later }
def GtableTokensCardSaid : Prop := Claim7.holds Tryd.pinned (.plain (OpenSpec.ofChange gtableTokensSpec)) gtableTokensCard

/-- THE TIED CARD OF 'boulterlaw17.PatternBelow'. -/
def patternBelowCard : Claim7 := { stood := { row := patternBelowRow, standIns := [], harness := (true, "7bf75971e79062f44343dda2ca6fb37e86e5e2d4b2bd24430fe9dc8042609021"), looks := false }, kinds := [], alts := [], laidByText := true, laidKinds := [.data, .pinned], laidTests := true, laidLooks := .later }
def PatternBelowCardSaid : Prop := Claim7.holds Tryd.pinned (.plain (OpenSpec.ofChange patternBelowSpec)) patternBelowCard

/-- THE TIED CARD OF 'boulterlaw17.PatternFirst'. -/
def patternFirstCard : Claim7 := { stood := { row := patternFirstRow, standIns := [], harness := (true, "7bf75971e79062f44343dda2ca6fb37e86e5e2d4b2bd24430fe9dc8042609021"), looks := false }, kinds := [], alts := [], laidByText := true, laidKinds := [.data, .pinned], laidTests := true, laidLooks := .later }
def PatternFirstCardSaid : Prop := Claim7.holds Tryd.pinned (.plain (OpenSpec.ofChange patternFirstSpec)) patternFirstCard

/-- THE SECOND FORM's CARD OF 'boulterlaw16.GtableCounts'. -/
def gtableCountsUptoCard : Claim7 := { stood := { row := gtableCountsUptoRow, standIns := [], harness := (true, "7bf75971e79062f44343dda2ca6fb37e86e5e2d4b2bd24430fe9dc8042609021"), looks := false }, kinds := [], alts := [], laidByText := true, laidKinds := [.data, .pinned], laidTests := true, laidLooks := .later }
def GtableCountsUptoCardSaid : Prop := Claim7.holds Tryd.pinned (.plain (OpenSpec.upto gtableCountsSpec)) gtableCountsUptoCard

/-- THE SECOND FORM's CARD OF 'boulterlaw16.GtableTokens'. -/
def gtableTokensUptoCard : Claim7 := { stood := { row := gtableTokensUptoRow, standIns := [], harness := (true, "7bf75971e79062f44343dda2ca6fb37e86e5e2d4b2bd24430fe9dc8042609021"), looks := false }, kinds := [], alts := [], laidByText := true, laidKinds := [.data, .pinned], laidTests := true, laidLooks := .later }
def GtableTokensUptoCardSaid : Prop := Claim7.holds Tryd.pinned (.plain (OpenSpec.upto gtableTokensSpec)) gtableTokensUptoCard

/-- THE SECOND FORM's CARD OF 'boulterlaw17.PatternBelow'. -/
def patternBelowUptoCard : Claim7 := { stood := { row := patternBelowUptoRow, standIns := [], harness := (true, "7bf75971e79062f44343dda2ca6fb37e86e5e2d4b2bd24430fe9dc8042609021"), looks := false }, kinds := [], alts := [], laidByText := true, laidKinds := [.data, .pinned], laidTests := true, laidLooks := .later }
def PatternBelowUptoCardSaid : Prop := Claim7.holds Tryd.pinned (.plain (OpenSpec.upto patternBelowSpec)) patternBelowUptoCard

/-- THE SECOND FORM's CARD OF 'boulterlaw17.PatternFirst'. -/
def patternFirstUptoCard : Claim7 := { stood := { row := patternFirstUptoRow, standIns := [], harness := (true, "7bf75971e79062f44343dda2ca6fb37e86e5e2d4b2bd24430fe9dc8042609021"), looks := false }, kinds := [], alts := [], laidByText := true, laidKinds := [.data, .pinned], laidTests := true, laidLooks := .later }
def PatternFirstUptoCardSaid : Prop := Claim7.holds Tryd.pinned (.plain (OpenSpec.upto patternFirstSpec)) patternFirstUptoCard
end Rows
end Go.Proofs.YtphfcebacilbbaaDoor
