/-
  DERIVED. GIVEN WITH THE SEED: THE CARDS: each row of YtjldphpdfckjnaaDoorRows.lean that lists a variable, with what it lists TIED to the program's text (the seventh form; the later family's looks); each row that meets fmt, with fmt's text TOLD by the authors' own Lean function (tested against real Go, not proved from fmt's source: count such statements apart). THE CARD IS WHAT COUNTS. Prove the row's statement (the work); the ties are given (YtjldphpdfckjnaaDoorTie.lean); close each card by the builder's one call (the guide's Derived/Test/ToyasCard.lean, 'card_holds'). Laid BY PROGRAM, IN A SANDBOX (cutbox-door.mjs). By AI agents, Wed Nov 11 2026. No macro, syntax, notation, axiom, sorry.
-/
import Derived.Test.YtjldphpdfckjnaaDoorRows
import GoSem.ClaimSeven
namespace Go.Proofs.YtjldphpdfckjnaaDoor
namespace Rows

/-- THE TIED CARD OF 'boulterlaw39.VolumeReads'. -/
def volumeReadsCard : Claim7 := { stood := { row := volumeReadsRow, standIns := [], harness := (true, "f455568516e3e47c39e21440d46b2c8365bbcab8ce8d4895365a1d255c4be7da"), looks := false }, kinds := [], alts := [], laidByText := true, laidKinds := [.data, .pinned], laidTests := true, laidLooks := .later }
def VolumeReadsCardSaid : Prop := Claim7.holds Tryd.pinned (.plain (OpenSpec.ofChange volumeReadsSpec)) volumeReadsCard

/-- THE TIED CARD OF 'boulterlaw39.VolumeParts'. -/
def volumePartsCard : Claim7 := { stood := { row := volumePartsRow, standIns := [], harness := (true, "f455568516e3e47c39e21440d46b2c8365bbcab8ce8d4895365a1d255c4be7da"), looks := false }, kinds := [], alts := [], laidByText := true, laidKinds := [.data, .pinned], laidTests := true, laidLooks := .later }
def VolumePartsCardSaid : Prop := Claim7.holds Tryd.pinned (.plain (OpenSpec.ofChange volumePartsSpec)) volumePartsCard

/-- THE TIED CARD OF 'boulterlaw39.VolumeJoins'. -/
def volumeJoinsCard : Claim7 := { stood := { row := volumeJoinsRow, standIns := [], harness := (true, "f455568516e3e47c39e21440d46b2c8365bbcab8ce8d4895365a1d255c4be7da"), looks := false }, kinds := [], alts := [], laidByText := true, laidKinds := [.data, .pinned], laidTests := true, laidLooks := .later }
def VolumeJoinsCardSaid : Prop := Claim7.holds Tryd.pinned (.plain (OpenSpec.ofChange volumeJoinsSpec)) volumeJoinsCard

/-- THE TIED CARD OF 'boulterlaw36.ListingAll'. -/
def listingAllCard : Claim7 := { stood := { row := listingAllRow, standIns := [], harness := (true, "f455568516e3e47c39e21440d46b2c8365bbcab8ce8d4895365a1d255c4be7da"), looks := false }, kinds := [], alts := [], laidByText := true, laidKinds := [.data, .data, .data, .data, .pinned], laidTests := true, laidLooks := .later }
def ListingAllCardSaid : Prop := Claim7.holds Tryd.pinned (.plain (OpenSpec.ofChange listingAllSpec)) listingAllCard

/-- THE TIED CARD OF 'boulterlaw36.ListingLines'. -/
def listingLinesCard : Claim7 := { stood := { row := listingLinesRow, standIns := [], harness := (true, "f455568516e3e47c39e21440d46b2c8365bbcab8ce8d4895365a1d255c4be7da"), looks := false }, kinds := [], alts := [], laidByText := true, laidKinds := [.data, .data, .data, .data, .pinned], laidTests := true, laidLooks := .later }
def ListingLinesCardSaid : Prop := Claim7.holds Tryd.pinned (.plain (OpenSpec.ofChange listingLinesSpec)) listingLinesCard

/-- THE SECOND FORM's CARD OF 'boulterlaw39.VolumeReads'. -/
def volumeReadsUptoCard : Claim7 := { stood := { row := volumeReadsUptoRow, standIns := [], harness := (true, "f455568516e3e47c39e21440d46b2c8365bbcab8ce8d4895365a1d255c4be7da"), looks := false }, kinds := [], alts := [], laidByText := true, laidKinds := [.data, .pinned], laidTests := true, laidLooks := .later }
def VolumeReadsUptoCardSaid : Prop := Claim7.holds Tryd.pinned (.plain (OpenSpec.upto volumeReadsSpec)) volumeReadsUptoCard

/-- THE SECOND FORM's CARD OF 'boulterlaw39.VolumeParts'. -/
def volumePartsUptoCard : Claim7 := { stood := { row := volumePartsUptoRow, standIns := [], harness := (true, "f455568516e3e47c39e21440d46b2c8365bbcab8ce8d4895365a1d255c4be7da"), looks := false }, kinds := [], alts := [], laidByText := true, laidKinds := [.data, .pinned], laidTests := true, laidLooks := .later }
def VolumePartsUptoCardSaid : Prop := Claim7.holds Tryd.pinned (.plain (OpenSpec.upto volumePartsSpec)) volumePartsUptoCard

/-- THE SECOND FORM's CARD OF 'boulterlaw39.VolumeJoins'. -/
def volumeJoinsUptoCard : Claim7 := { stood := { row := volumeJoinsUptoRow, standIns := [], harness := (true, "f455568516e3e47c39e21440d46b2c8365bbcab8ce8d4895365a1d255c4be7da"), looks := false }, kinds := [], alts := [], laidByText := true, laidKinds := [.data, .pinned], laidTests := true, laidLooks := .later }
def VolumeJoinsUptoCardSaid : Prop := Claim7.holds Tryd.pinned (.plain (OpenSpec.upto volumeJoinsSpec)) volumeJoinsUptoCard

/-- THE SECOND FORM's CARD OF 'boulterlaw36.ListingAll'. -/
def listingAllUptoCard : Claim7 := { stood := { row := listingAllUptoRow, standIns := [], harness := (true, "f455568516e3e47c39e21440d46b2c8365bbcab8ce8d4895365a1d255c4be7da"), looks := false }, kinds := [], alts := [], laidByText := true, laidKinds := [.data, .data, .data, .data, .pinned], laidTests := true, laidLooks := .later }
def ListingAllUptoCardSaid : Prop := Claim7.holds Tryd.pinned (.plain (OpenSpec.upto listingAllSpec)) listingAllUptoCard

/-- THE SECOND FORM's CARD OF 'boulterlaw36.ListingLines'. -/
def listingLinesUptoCard : Claim7 := { stood := { row := listingLinesUptoRow, standIns := [], harness := (true, "f455568516e3e47c39e21440d46b2c8365bbcab8ce8d4895365a1d255c4be7da"), looks := false }, kinds := [], alts := [], laidByText := true, laidKinds := [.data, .data, .data, .data, .pinned], laidTests := true, laidLooks := .later }
def ListingLinesUptoCardSaid : Prop := Claim7.holds Tryd.pinned (.plain (OpenSpec.upto listingLinesSpec)) listingLinesUptoCard
end Rows
end Go.Proofs.YtjldphpdfckjnaaDoor
