/-
  DERIVED. GIVEN WITH THE SEED: THE CARDS: each row of YtpdknjpicaokkaaDoorRows.lean that lists a variable, with what it lists TIED to the program's text (the seventh form; the later family's looks); each row that meets fmt, with fmt's text TOLD by the authors' own Lean function (tested against real Go, not proved from fmt's source: count such statements apart). THE CARD IS WHAT COUNTS. Prove the row's statement (the work); the ties are given (YtpdknjpicaokkaaDoorTie.lean); close each card by the builder's one call (the guide's Derived/Test/ToyasCard.lean, 'card_holds'). Laid BY PROGRAM, IN A SANDBOX (cutbox-door.mjs). By AI agents, Wed Nov 11 2026. No macro, syntax, notation, axiom, sorry.
-/
import Derived.Test.YtpdknjpicaokkaaDoorRows
import GoSem.ClaimSeven
namespace Go.Proofs.YtpdknjpicaokkaaDoor
namespace Rows

/-- THE TIED CARD OF 'boulterlaw28.CachedirModes'. -/
def cachedirModesCard : Claim7 := { stood := { row := cachedirModesRow, standIns := [], harness := (true, "ce886ed47671936643196ca378e687b4a836b726e7969e8a0a191b809ecc1600"), looks := false }, kinds := [], alts := [], laidByText := true, laidKinds := [.data, .pinned], laidTests := true, laidLooks := .later }
def CachedirModesCardSaid : Prop := Claim7.holds Tryd.pinned (.plain (OpenSpec.ofChange cachedirModesSpec)) cachedirModesCard

/-- THE TIED CARD OF 'boulterlaw26.StripJoins'. -/
def stripJoinsCard : Claim7 := { stood := { row := stripJoinsRow, standIns := [], harness := (true, "ce886ed47671936643196ca378e687b4a836b726e7969e8a0a191b809ecc1600"), looks := false }, kinds := [], alts := [], laidByText := true, laidKinds := [.data, .pinned], laidTests := true, laidLooks := .later }
def StripJoinsCardSaid : Prop := Claim7.holds Tryd.pinned (.plain (OpenSpec.ofChange stripJoinsSpec)) stripJoinsCard

/-- THE TIED CARD OF 'boulterlaw28.CachedirTags'. -/
def cachedirTagsCard : Claim7 := { stood := { row := cachedirTagsRow, standIns := [], harness := (true, "ce886ed47671936643196ca378e687b4a836b726e7969e8a0a191b809ecc1600"), looks := false }, kinds := [], alts := [], laidByText := true, laidKinds := [.data, .pinned], laidTests := true, laidLooks := .later }
def CachedirTagsCardSaid : Prop := Claim7.holds Tryd.pinned (.plain (OpenSpec.ofChange cachedirTagsSpec)) cachedirTagsCard

/-- THE TIED CARD OF 'boulterlaw26.StripParts'. -/
def stripPartsCard : Claim7 := { stood := { row := stripPartsRow, standIns := [], harness := (true, "ce886ed47671936643196ca378e687b4a836b726e7969e8a0a191b809ecc1600"), looks := false }, kinds := [], alts := [], laidByText := true, laidKinds := [.data, .pinned], laidTests := true, laidLooks := .later }
def StripPartsCardSaid : Prop := Claim7.holds Tryd.pinned (.plain (OpenSpec.ofChange stripPartsSpec)) stripPartsCard

/-- THE TIED CARD OF 'boulterlaw40.SparseShrinks'. -/
def sparseShrinksCard : Claim7 := { stood := { row := sparseShrinksRow, standIns := [], harness := (true, "ce886ed47671936643196ca378e687b4a836b726e7969e8a0a191b809ecc1600"), looks := false }, kinds := [], alts := [], laidByText := true, laidKinds := [.data, .data, .data, .data, .pinned], laidTests := true, laidLooks := .later }
def SparseShrinksCardSaid : Prop := Claim7.holds Tryd.pinned (.plain (OpenSpec.ofChange sparseShrinksSpec)) sparseShrinksCard

/-- THE TIED CARD OF 'boulterlaw40.SparseCuts'. -/
def sparseCutsCard : Claim7 := { stood := { row := sparseCutsRow, standIns := [], harness := (true, "ce886ed47671936643196ca378e687b4a836b726e7969e8a0a191b809ecc1600"), looks := false }, kinds := [], alts := [], laidByText := true, laidKinds := [.data, .data, .data, .data, .pinned], laidTests := true, laidLooks := .later }
def SparseCutsCardSaid : Prop := Claim7.holds Tryd.pinned (.plain (OpenSpec.ofChange sparseCutsSpec)) sparseCutsCard

/-- THE TIED CARD OF 'boulterlaw40.SparseExpands'. -/
def sparseExpandsCard : Claim7 := { stood := { row := sparseExpandsRow, standIns := [], harness := (true, "ce886ed47671936643196ca378e687b4a836b726e7969e8a0a191b809ecc1600"), looks := false }, kinds := [], alts := [], laidByText := true, laidKinds := [.data, .data, .data, .data, .pinned], laidTests := true, laidLooks := .later }
def SparseExpandsCardSaid : Prop := Claim7.holds Tryd.pinned (.plain (OpenSpec.ofChange sparseExpandsSpec)) sparseExpandsCard

/-- THE TIED CARD OF 'boulterlaw04.StampParses'. -/
def stampParsesCard : Claim7 := { stood := { row := stampParsesRow, standIns := [], harness := (true, "ce886ed47671936643196ca378e687b4a836b726e7969e8a0a191b809ecc1600"), looks := false }, kinds := [], alts := [], laidByText := true, laidKinds := [.data, .data, .data, .data, .pinned], laidTests := true, laidLooks := .later }
def StampParsesCardSaid : Prop := Claim7.holds Tryd.pinned (.plain (OpenSpec.ofChange stampParsesSpec)) stampParsesCard

/-- THE TIED CARD OF 'boulterlaw04.StampTexts'. -/
def stampTextsCard : Claim7 := { stood := { row := stampTextsRow, standIns := [], harness := (true, "ce886ed47671936643196ca378e687b4a836b726e7969e8a0a191b809ecc1600"), looks := false }, kinds := [], alts := [], laidByText := true, laidKinds := [.data, .data, .data, .data, .pinned], laidTests := true, laidLooks := .later }
def StampTextsCardSaid : Prop := Claim7.holds Tryd.pinned (.plain (OpenSpec.ofChange stampTextsSpec)) stampTextsCard

/-- THE TIED CARD OF 'boulterlaw04.StampOrder'. -/
def stampOrderCard : Claim7 := { stood := { row := stampOrderRow, standIns := [], harness := (true, "ce886ed47671936643196ca378e687b4a836b726e7969e8a0a191b809ecc1600"), looks := false }, kinds := [], alts := [], laidByText := true, laidKinds := [.data, .data, .data, .data, .pinned], laidTests := true, laidLooks := .later }
def StampOrderCardSaid : Prop := Claim7.holds Tryd.pinned (.plain (OpenSpec.ofChange stampOrderSpec)) stampOrderCard

/-- THE TIED CARD OF 'boulterlaw04.StampAdds'. -/
def stampAddsCard : Claim7 := { stood := { row := stampAddsRow, standIns := [], harness := (true, "ce886ed47671936643196ca378e687b4a836b726e7969e8a0a191b809ecc1600"), looks := false }, kinds := [], alts := [], laidByText := true, laidKinds := [.data, .data, .data, .data, .pinned], laidTests := true, laidLooks := .later }
def StampAddsCardSaid : Prop := Claim7.holds Tryd.pinned (.plain (OpenSpec.ofChange stampAddsSpec)) stampAddsCard

/-- THE TIED CARD OF 'boulterlaw40.SparseTexts'. -/
def sparseTextsCard : Claim7 := { stood := { row := sparseTextsRow, standIns := [], harness := (true, "ce886ed47671936643196ca378e687b4a836b726e7969e8a0a191b809ecc1600"), looks := false }, kinds := [], alts := [], laidByText := true, laidKinds := [.data, .data, .data, .data, .pinned], laidTests := true, laidLooks := .later }
def SparseTextsCardSaid : Prop := Claim7.holds Tryd.pinned (.plain (OpenSpec.ofChange sparseTextsSpec)) sparseTextsCard

/-- THE SECOND FORM's CARD OF 'boulterlaw28.CachedirModes'. -/
def cachedirModesUptoCard : Claim7 := { stood := { row := cachedirModesUptoRow, standIns := [], harness := (true, "ce886ed47671936643196ca378e687b4a836b726e7969e8a0a191b809ecc1600"), looks := false }, kinds := [], alts := [], laidByText := true, laidKinds := [.data, .pinned], laidTests := true, laidLooks := .later }
def CachedirModesUptoCardSaid : Prop := Claim7.holds Tryd.pinned (.plain (OpenSpec.upto cachedirModesSpec)) cachedirModesUptoCard

/-- THE SECOND FORM's CARD OF 'boulterlaw26.StripJoins'. -/
def stripJoinsUptoCard : Claim7 := { stood := { row := stripJoinsUptoRow, standIns := [], harness := (true, "ce886ed47671936643196ca378e687b4a836b726e7969e8a0a191b809ecc1600"), looks := false }, kinds := [], alts := [], laidByText := true, laidKinds := [.data, .pinned], laidTests := true, laidLooks := .later }
def StripJoinsUptoCardSaid : Prop := Claim7.holds Tryd.pinned (.plain (OpenSpec.upto stripJoinsSpec)) stripJoinsUptoCard

/-- THE SECOND FORM's CARD OF 'boulterlaw28.CachedirTags'. -/
def cachedirTagsUptoCard : Claim7 := { stood := { row := cachedirTagsUptoRow, standIns := [], harness := (true, "ce886ed47671936643196ca378e687b4a836b726e7969e8a0a191b809ecc1600"), looks := false }, kinds := [], alts := [], laidByText := true, laidKinds := [.data, .pinned], laidTests := true, laidLooks := .later }
def CachedirTagsUptoCardSaid : Prop := Claim7.holds Tryd.pinned (.plain (OpenSpec.upto cachedirTagsSpec)) cachedirTagsUptoCard

/-- THE SECOND FORM's CARD OF 'boulterlaw26.StripParts'. -/
def stripPartsUptoCard : Claim7 := { stood := { row := stripPartsUptoRow, standIns := [], harness := (true, "ce886ed47671936643196ca378e687b4a836b726e7969e8a0a191b809ecc1600"), looks := false }, kinds := [], alts := [], laidByText := true, laidKinds := [.data, .pinned], laidTests := true, laidLooks := .later }
def StripPartsUptoCardSaid : Prop := Claim7.holds Tryd.pinned (.plain (OpenSpec.upto stripPartsSpec)) stripPartsUptoCard

/-- THE SECOND FORM's CARD OF 'boulterlaw40.SparseShrinks'. -/
def sparseShrinksUptoCard : Claim7 := { stood := { row := sparseShrinksUptoRow, standIns := [], harness := (true, "ce886ed47671936643196ca378e687b4a836b726e7969e8a0a191b809ecc1600"), looks := false }, kinds := [], alts := [], laidByText := true, laidKinds := [.data, .data, .data, .data, .pinned], laidTests := true, laidLooks := .later }
def SparseShrinksUptoCardSaid : Prop := Claim7.holds Tryd.pinned (.plain (OpenSpec.upto sparseShrinksSpec)) sparseShrinksUptoCard

/-- THE SECOND FORM's CARD OF 'boulterlaw40.SparseCuts'. -/
def sparseCutsUptoCard : Claim7 := { stood := { row := sparseCutsUptoRow, standIns := [], harness := (true, "ce886ed47671936643196ca378e687b4a836b726e7969e8a0a191b809ecc1600"), looks := false }, kinds := [], alts := [], laidByText := true, laidKinds := [.data, .data, .data, .data, .pinned], laidTests := true, laidLooks := .later }
def SparseCutsUptoCardSaid : Prop := Claim7.holds Tryd.pinned (.plain (OpenSpec.upto sparseCutsSpec)) sparseCutsUptoCard

/-- THE SECOND FORM's CARD OF 'boulterlaw40.SparseExpands'. -/
def sparseExpandsUptoCard : Claim7 := { stood := { row := sparseExpandsUptoRow, standIns := [], harness := (true, "ce886ed47671936643196ca378e687b4a836b726e7969e8a0a191b809ecc1600"), looks := false }, kinds := [], alts := [], laidByText := true, laidKinds := [.data, .data, .data, .data, .pinned], laidTests := true, laidLooks := .later }
def SparseExpandsUptoCardSaid : Prop := Claim7.holds Tryd.pinned (.plain (OpenSpec.upto sparseExpandsSpec)) sparseExpandsUptoCard

/-- THE SECOND FORM's CARD OF 'boulterlaw04.StampParses'. -/
def stampParsesUptoCard : Claim7 := { stood := { row := stampParsesUptoRow, standIns := [], harness := (true, "ce886ed47671936643196ca378e687b4a836b726e7969e8a0a191b809ecc1600"), looks := false }, kinds := [], alts := [], laidByText := true, laidKinds := [.data, .data, .data, .data, .pinned], laidTests := true, laidLooks := .later }
def StampParsesUptoCardSaid : Prop := Claim7.holds Tryd.pinned (.plain (OpenSpec.upto stampParsesSpec)) stampParsesUptoCard

/-- THE SECOND FORM's CARD OF 'boulterlaw04.StampTexts'. -/
def stampTextsUptoCard : Claim7 := { stood := { row := stampTextsUptoRow, standIns := [], harness := (true, "ce886ed47671936643196ca378e687b4a836b726e7969e8a0a191b809ecc1600"), looks := false }, kinds := [], alts := [], laidByText := true, laidKinds := [.data, .data, .data, .data, .pinned], laidTests := true, laidLooks := .later }
def StampTextsUptoCardSaid : Prop := Claim7.holds Tryd.pinned (.plain (OpenSpec.upto stampTextsSpec)) stampTextsUptoCard

/-- THE SECOND FORM's CARD OF 'boulterlaw04.StampOrder'. -/
def stampOrderUptoCard : Claim7 := { stood := { row := stampOrderUptoRow, standIns := [], harness := (true, "ce886ed47671936643196ca378e687b4a836b726e7969e8a0a191b809ecc1600"), looks := false }, kinds := [], alts := [], laidByText := true, laidKinds := [.data, .data, .data, .data, .pinned], laidTests := true, laidLooks := .later }
def StampOrderUptoCardSaid : Prop := Claim7.holds Tryd.pinned (.plain (OpenSpec.upto stampOrderSpec)) stampOrderUptoCard

/-- THE SECOND FORM's CARD OF 'boulterlaw04.StampAdds'. -/
def stampAddsUptoCard : Claim7 := { stood := { row := stampAddsUptoRow, standIns := [], harness := (true, "ce886ed47671936643196ca378e687b4a836b726e7969e8a0a191b809ecc1600"), looks := false }, kinds := [], alts := [], laidByText := true, laidKinds := [.data, .data, .data, .data, .pinned], laidTests := true, laidLooks := .later }
def StampAddsUptoCardSaid : Prop := Claim7.holds Tryd.pinned (.plain (OpenSpec.upto stampAddsSpec)) stampAddsUptoCard

/-- THE SECOND FORM's CARD OF 'boulterlaw40.SparseTexts'. -/
def sparseTextsUptoCard : Claim7 := { stood := { row := sparseTextsUptoRow, standIns := [], harness := (true, "ce886ed47671936643196ca378e687b4a836b726e7969e8a0a191b809ecc1600"), looks := false }, kinds := [], alts := [], laidByText := true, laidKinds := [.data, .data, .data, .data, .pinned], laidTests := true, laidLooks := .later }
def SparseTextsUptoCardSaid : Prop := Claim7.holds Tryd.pinned (.plain (OpenSpec.upto sparseTextsSpec)) sparseTextsUptoCard
end Rows
end Go.Proofs.YtpdknjpicaokkaaDoor
