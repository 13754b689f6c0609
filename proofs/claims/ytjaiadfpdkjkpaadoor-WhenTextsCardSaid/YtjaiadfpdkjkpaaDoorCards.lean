/-
  DERIVED. GIVEN WITH THE SEED: THE CARDS: each row of YtjaiadfpdkjkpaaDoorRows.lean that lists a variable, with what it lists TIED to the program's text (the seventh form; the later family's looks); each row that meets fmt, with fmt's text TOLD by the authors' own Lean function (tested against real Go, not proved from fmt's source: count such statements apart). THE CARD IS WHAT COUNTS. Prove the row's statement (the work); the ties are given (YtjaiadfpdkjkpaaDoorTie.lean); close each card by the builder's one call (the guide's Derived/Test/ToyasCard.lean, 'card_holds'). Laid BY PROGRAM, IN A SANDBOX (cutbox-door.mjs). By AI agents, Wed Nov 11 2026. No macro, syntax, notation, axiom, sorry.
-/
import Derived.Test.YtjaiadfpdkjkpaaDoorRows
import GoSem.ClaimSeven
namespace Go.Proofs.YtjaiadfpdkjkpaaDoor
namespace Rows

/-- THE TIED CARD OF 'boulterlaw09.SpanUnpads'. -/
def spanUnpadsCard : Claim7 := { stood := { row := spanUnpadsRow, standIns := [], harness := (true, "f2ba4ad11be24ff8fbb2978965343f43feb7fe2459510393f6c577eb02b198ee"), looks := false }, kinds := [], alts := [], laidByText := true, laidKinds := [.data, .pinned], laidTests := true, laidLooks := .later }
def SpanUnpadsCardSaid : Prop := Claim7.holds Tryd.pinned (.plain (OpenSpec.ofChange spanUnpadsSpec)) spanUnpadsCard

/-- THE TIED CARD OF 'boulterlaw09.SpanPads'. -/
def spanPadsCard : Claim7 := { stood := { row := spanPadsRow, standIns := [], harness := (true, "f2ba4ad11be24ff8fbb2978965343f43feb7fe2459510393f6c577eb02b198ee"), looks := false }, kinds := [], alts := [], laidByText := true, laidKinds := [.data, .pinned], laidTests := true, laidLooks := .later }
def SpanPadsCardSaid : Prop := Claim7.holds Tryd.pinned (.plain (OpenSpec.ofChange spanPadsSpec)) spanPadsCard

/-- THE TIED CARD OF 'boulterlaw27.VcsMatches'. -/
def vcsMatchesCard : Claim7 := { stood := { row := vcsMatchesRow, standIns := [], harness := (true, "f2ba4ad11be24ff8fbb2978965343f43feb7fe2459510393f6c577eb02b198ee"), looks := false }, kinds := [], alts := [], laidByText := true, laidKinds := [.data, .pinned], laidTests := true, laidLooks := .later }
def VcsMatchesCardSaid : Prop := Claim7.holds Tryd.pinned (.plain (OpenSpec.ofChange vcsMatchesSpec)) vcsMatchesCard

/-- THE TIED CARD OF 'boulterlaw27.VcsBelow'. -/
def vcsBelowCard : Claim7 := { stood := { row := vcsBelowRow, standIns := [], harness := (true, "f2ba4ad11be24ff8fbb2978965343f43feb7fe2459510393f6c577eb02b198ee"), looks := false }, kinds := [], alts := [], laidByText := true, laidKinds := [.data, .pinned], laidTests := true, laidLooks := .later }
def VcsBelowCardSaid : Prop := Claim7.holds Tryd.pinned (.plain (OpenSpec.ofChange vcsBelowSpec)) vcsBelowCard

/-- THE TIED CARD OF 'boulterlaw27.VcsNames'. -/
def vcsNamesCard : Claim7 := { stood := { row := vcsNamesRow, standIns := [], harness := (true, "f2ba4ad11be24ff8fbb2978965343f43feb7fe2459510393f6c577eb02b198ee"), looks := false }, kinds := [], alts := [], laidByText := true, laidKinds := [.data, .pinned], laidTests := true, laidLooks := .later }
def VcsNamesCardSaid : Prop := Claim7.holds Tryd.pinned (.plain (OpenSpec.ofChange vcsNamesSpec)) vcsNamesCard

/-- THE TIED CARD OF 'boulterlaw29.WhenTexts'. -/
def whenTextsCard : Claim7 := { stood := { row := whenTextsRow, standIns := [], harness := (true, "f2ba4ad11be24ff8fbb2978965343f43feb7fe2459510393f6c577eb02b198ee"), looks := false }, kinds := [], alts := [], laidByText := true, laidKinds := [.data, .data, .data, .data, .pinned], laidTests := true, laidLooks := .later }
def WhenTextsCardSaid : Prop := Claim7.holds Tryd.pinned (.plain (OpenSpec.ofChange whenTextsSpec)) whenTextsCard

/-- THE SECOND FORM's CARD OF 'boulterlaw09.SpanUnpads'. -/
def spanUnpadsUptoCard : Claim7 := { stood := { row := spanUnpadsUptoRow, standIns := [], harness := (true, "f2ba4ad11be24ff8fbb2978965343f43feb7fe2459510393f6c577eb02b198ee"), looks := false }, kinds := [], alts := [], laidByText := true, laidKinds := [.data, .pinned], laidTests := true, laidLooks := .later }
def SpanUnpadsUptoCardSaid : Prop := Claim7.holds Tryd.pinned (.plain (OpenSpec.upto spanUnpadsSpec)) spanUnpadsUptoCard

/-- THE SECOND FORM's CARD OF 'boulterlaw09.SpanPads'. -/
def spanPadsUptoCard : Claim7 := { stood := { row := spanPadsUptoRow, standIns := [], harness := (true, "f2ba4ad11be24ff8fbb2978965343f43feb7fe2459510393f6c577eb02b198ee"), looks := false }, kinds := [], alts := [], laidByText := true, laidKinds := [.data, .pinned], laidTests := true, laidLooks := .later }
def SpanPadsUptoCardSaid : Prop := Claim7.holds Tryd.pinned (.plain (OpenSpec.upto spanPadsSpec)) spanPadsUptoCard

/-- THE SECOND FORM's CARD OF 'boulterlaw27.VcsMatches'. -/
def vcsMatchesUptoCard : Claim7 := { stood := { row := vcsMatchesUptoRow, standIns := [], harness := (true, "f2ba4ad11be24ff8fbb2978965343f43feb7fe2459510393f6c577eb02b198ee"), looks := false }, kinds := [], alts := [], laidByText := true, laidKinds := [.data, .pinned], laidTests := true, laidLooks := .later }
def VcsMatchesUptoCardSaid : Prop := Claim7.holds Tryd.pinned (.plain (OpenSpec.upto vcsMatchesSpec)) vcsMatchesUptoCard

/-- THE SECOND FORM's CARD OF 'boulterlaw27.VcsBelow'. -/
def vcsBelowUptoCard : Claim7 := { stood := { row := vcsBelowUptoRow, standIns := [], harness := (true, "f2ba4ad11be24ff8fbb2978965343f43feb7fe2459510393f6c577eb02b198ee"), looks := false }, kinds := [], alts := [], laidByText := true, laidKinds := [.data, .pinned], laidTests := true, laidLooks := .later }
def VcsBelowUptoCardSaid : Prop := Claim7.holds Tryd.pinned (.plain (OpenSpec.upto vcsBelowSpec)) vcsBelowUptoCard

/-- THE SECOND FORM's CARD OF 'boulterlaw27.VcsNames'. -/
def vcsNamesUptoCard : Claim7 := { stood := { row := vcsNamesUptoRow, standIns := [], harness := (true, "f2ba4ad11be24ff8fbb2978965343f43feb7fe2459510393f6c577eb02b198ee"), looks := false }, kinds := [], alts := [], laidByText := true, laidKinds := [.data, .pinned], laidTests := true, laidLooks := .later }
def VcsNamesUptoCardSaid : Prop := Claim7.holds Tryd.pinned (.plain (OpenSpec.upto vcsNamesSpec)) vcsNamesUptoCard

/-- THE SECOND FORM's CARD OF 'boulterlaw29.WhenTexts'. -/
def whenTextsUptoCard : Claim7 := { stood := { row := whenTextsUptoRow, standIns := [], harness := (true, "f2ba4ad11be24ff8fbb2978965343f43feb7fe2459510393f6c577eb02b198ee"), looks := false }, kinds := [], alts := [], laidByText := true, laidKinds := [.data, .data, .data, .data, .pinned], laidTests := true, laidLooks := .later }
def WhenTextsUptoCardSaid : Prop := Claim7.holds Tryd.pinned (.plain (OpenSpec.upto whenTextsSpec)) whenTextsUptoCard
end Rows
end Go.Proofs.YtjaiadfpdkjkpaaDoor
