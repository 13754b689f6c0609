/-
  DERIVED. GIVEN WITH THE SEED: THE CARDS: each row of YtpfblnegaipgdaaDoorRows.lean that lists a variable, with what it lists TIED to the program's text (the seventh form; the later family's looks); each row that meets fmt, with fmt's text TOLD by the authors' own Lean function (tested against real Go, not proved from fmt's source: count such statements apart). THE CARD IS WHAT COUNTS. Prove the row's statement (the work); the ties are given (YtpfblnegaipgdaaDoorTie.lean); close each card by the builder's one call (the guide's Derived/Test/ToyasCard.lean, 'card_holds'). Laid BY PROGRAM, IN A SANDBOX (cutbox-door.mjs). By AI agents, Wed Nov 11 2026. No macro, syntax, notation, axiom, sorry.
-/
import Derived.Test.YtpfblnegaipgdaaDoorRows
import GoSem.ClaimSeven
namespace Go.Proofs.YtpfblnegaipgdaaDoor
namespace Rows

/-- THE TIED CARD OF 'boulterlaw41.NetstrPuts'. -/
def netstrPutsCard : Claim7 := { stood := { row := netstrPutsRow, standIns := [], harness := (true, "11b4e3ae935aba6fcc53aa3c4bcfd837b90d34a63e2fc722f33bc904709be672"), looks := false }, kinds := [], alts := [], laidByText := true, laidKinds := [.data, .data, .data], laidTests := true, laidLooks := .later }
def NetstrPutsCardSaid : Prop := Claim7.holds Tryd.pinned (.plain (OpenSpec.ofChange netstrPutsSpec)) netstrPutsCard

/-- THE TIED CARD OF 'boulterlaw41.NetstrTakes'. -/
def netstrTakesCard : Claim7 := { stood := { row := netstrTakesRow, standIns := [], harness := (true, "11b4e3ae935aba6fcc53aa3c4bcfd837b90d34a63e2fc722f33bc904709be672"), looks := false }, kinds := [], alts := [], laidByText := true, laidKinds := [.data, .data, .data], laidTests := true, laidLooks := .later }
def NetstrTakesCardSaid : Prop := Claim7.holds Tryd.pinned (.plain (OpenSpec.ofChange netstrTakesSpec)) netstrTakesCard

/-- THE TIED CARD OF 'boulterlaw28.CachedirModes'. -/
def cachedirModesCard : Claim7 := { stood := { row := cachedirModesRow, standIns := [], harness := (true, "11b4e3ae935aba6fcc53aa3c4bcfd837b90d34a63e2fc722f33bc904709be672"), looks := false }, kinds := [], alts := [], laidByText := true, laidKinds := [.data, .pinned], laidTests := true, laidLooks := .later }
def CachedirModesCardSaid : Prop := Claim7.holds Tryd.pinned (.plain (OpenSpec.ofChange cachedirModesSpec)) cachedirModesCard

/-- THE TIED CARD OF 'boulterlaw41.NetstrScripts'. -/
def netstrScriptsCard : Claim7 := { stood := { row := netstrScriptsRow, standIns := [], harness := (true, "11b4e3ae935aba6fcc53aa3c4bcfd837b90d34a63e2fc722f33bc904709be672"), looks := false }, kinds := [], alts := [], laidByText := true, laidKinds := [.data, .data, .data], laidTests := true, laidLooks := .later }
def NetstrScriptsCardSaid : Prop := Claim7.holds Tryd.pinned (.plain (OpenSpec.ofChange netstrScriptsSpec)) netstrScriptsCard

/-- THE TIED CARD OF 'boulterlaw41.NetstrFull'. -/
def netstrFullCard : Claim7 := { stood := { row := netstrFullRow, standIns := [], harness := (true, "11b4e3ae935aba6fcc53aa3c4bcfd837b90d34a63e2fc722f33bc904709be672"), looks := false }, kinds := [], alts := [], laidByText := true, laidKinds := [.data, .data, .data], laidTests := true, laidLooks := .later }
def NetstrFullCardSaid : Prop := Claim7.holds Tryd.pinned (.plain (OpenSpec.ofChange netstrFullSpec)) netstrFullCard

/-- THE TIED CARD OF 'boulterlaw26.StripTells'. -/
def stripTellsCard : Claim7 := { stood := { row := stripTellsRow, standIns := [], harness := (true, "11b4e3ae935aba6fcc53aa3c4bcfd837b90d34a63e2fc722f33bc904709be672"), looks := false }, kinds := [], alts := [], laidByText := true, laidKinds := [.data, .pinned], laidTests := true, laidLooks := .later }
def StripTellsCardSaid : Prop := Claim7.holds Tryd.pinned (.plain (OpenSpec.ofChange stripTellsSpec)) stripTellsCard

/-- THE TIED CARD OF 'boulterlaw26.StripTwice'. -/
def stripTwiceCard : Claim7 := { stood := { row := stripTwiceRow, standIns := [], harness := (true, "11b4e3ae935aba6fcc53aa3c4bcfd837b90d34a63e2fc722f33bc904709be672"), looks := false }, kinds := [], alts := [], laidByText := true, laidKinds := [.data, .pinned], laidTests := true, laidLooks := .later }
def StripTwiceCardSaid : Prop := Claim7.holds Tryd.pinned (.plain (OpenSpec.ofChange stripTwiceSpec)) stripTwiceCard

/-- THE TIED CARD OF 'boulterlaw02.TextFields'. -/
def textFieldsCard : Claim7 := { stood := { row := textFieldsRow, standIns := [], harness := (true, "11b4e3ae935aba6fcc53aa3c4bcfd837b90d34a63e2fc722f33bc904709be672"), looks := false }, kinds := [], alts := [], laidByText := true, laidKinds := [.data, .pinned], laidTests := true, laidLooks := .later }
def TextFieldsCardSaid : Prop := Claim7.holds Tryd.pinned (.plain (OpenSpec.ofChange textFieldsSpec)) textFieldsCard

/-- THE SECOND FORM's CARD OF 'boulterlaw41.NetstrPuts'. -/
def netstrPutsUptoCard : Claim7 := { stood := { row := netstrPutsUptoRow, standIns := [], harness := (true, "11b4e3ae935aba6fcc53aa3c4bcfd837b90d34a63e2fc722f33bc904709be672"), looks := false }, kinds := [], alts := [], laidByText := true, laidKinds := [.data, .data, .data], laidTests := true, laidLooks := .later }
def NetstrPutsUptoCardSaid : Prop := Claim7.holds Tryd.pinned (.plain (OpenSpec.upto netstrPutsSpec)) netstrPutsUptoCard

/-- THE SECOND FORM's CARD OF 'boulterlaw41.NetstrTakes'. -/
def netstrTakesUptoCard : Claim7 := { stood := { row := netstrTakesUptoRow, standIns := [], harness := (true, "11b4e3ae935aba6fcc53aa3c4bcfd837b90d34a63e2fc722f33bc904709be672"), looks := false }, kinds := [], alts := [], laidByText := true, laidKinds := [.data, .data, .data], laidTests := true, laidLooks := .later }
def NetstrTakesUptoCardSaid : Prop := Claim7.holds Tryd.pinned (.plain (OpenSpec.upto netstrTakesSpec)) netstrTakesUptoCard

/-- THE SECOND FORM's CARD OF 'boulterlaw28.CachedirModes'. -/
def cachedirModesUptoCard : Claim7 := { stood := { row := cachedirModesUptoRow, standIns := [], harness := (true, "11b4e3ae935aba6fcc53aa3c4bcfd837b90d34a63e2fc722f33bc904709be672"), looks := false }, kinds := [], alts := [], laidByText := true, laidKinds := [.data, .pinned], laidTests := true, laidLooks := .later }
def CachedirModesUptoCardSaid : Prop := Claim7.holds Tryd.pinned (.plain (OpenSpec.upto cachedirModesSpec)) cachedirModesUptoCard

/-- THE SECOND FORM's CARD OF 'boulterlaw41.NetstrScripts'. -/
def netstrScriptsUptoCard : Claim7 := { stood := { row := netstrScriptsUptoRow, standIns := [], harness := (true, "11b4e3ae935aba6fcc53aa3c4bcfd837b90d34a63e2fc722f33bc904709be672"), looks := false }, kinds := [], alts := [], laidByText := true, laidKinds := [.data, .data, .data], laidTests := true, laidLooks := .later }
def NetstrScriptsUptoCardSaid : Prop := Claim7.holds Tryd.pinned (.plain (OpenSpec.upto netstrScriptsSpec)) netstrScriptsUptoCard

/-- THE SECOND FORM's CARD OF 'boulterlaw41.NetstrFull'. -/
def netstrFullUptoCard : Claim7 := { stood := { row := netstrFullUptoRow, standIns := [], harness := (true, "11b4e3ae935aba6fcc53aa3c4bcfd837b90d34a63e2fc722f33bc904709be672"), looks := false }, kinds := [], alts := [], laidByText := true, laidKinds := [.data, .data, .data], laidTests := true, laidLooks := .later }
def NetstrFullUptoCardSaid : Prop := Claim7.holds Tryd.pinned (.plain (OpenSpec.upto netstrFullSpec)) netstrFullUptoCard

/-- THE SECOND FORM's CARD OF 'boulterlaw26.StripTells'. -/
def stripTellsUptoCard : Claim7 := { stood := { row := stripTellsUptoRow, standIns := [], harness := (true, "11b4e3ae935aba6fcc53aa3c4bcfd837b90d34a63e2fc722f33bc904709be672"), looks := false }, kinds := [], alts := [], laidByText := true, laidKinds := [.data, .pinned], laidTests := true, laidLooks := .later }
def StripTellsUptoCardSaid : Prop := Claim7.holds Tryd.pinned (.plain (OpenSpec.upto stripTellsSpec)) stripTellsUptoCard

/-- THE SECOND FORM's CARD OF 'boulterlaw26.StripTwice'. -/
def stripTwiceUptoCard : Claim7 := { stood := { row := stripTwiceUptoRow, standIns := [], harness := (true, "11b4e3ae935aba6fcc53aa3c4bcfd837b90d34a63e2fc722f33bc904709be672"), looks := false }, kinds := [], alts := [], laidByText := true, laidKinds := [.data, .pinned], laidTests := true, laidLooks := .later }
def StripTwiceUptoCardSaid : Prop := Claim7.holds Tryd.pinned (.plain (OpenSpec.upto stripTwiceSpec)) stripTwiceUptoCard

/-- THE SECOND FORM's CARD OF 'boulterlaw02.TextFields'. -/
def textFieldsUptoCard : Claim7 := { stood := { row := textFieldsUptoRow, standIns := [], harness := (true, "11b4e3ae935aba6fcc53aa3c4bcfd837b90d34a63e2fc722f33bc904709be672"), looks := false }, kinds := [], alts := [], laidByText := true, laidKinds := [.data, .pinned], laidTests := true, laidLooks := .later }
def TextFieldsUptoCardSaid : Prop := Claim7.holds Tryd.pinned (.plain (OpenSpec.upto textFieldsSpec)) textFieldsUptoCard
end Rows
end Go.Proofs.YtpfblnegaipgdaaDoor
