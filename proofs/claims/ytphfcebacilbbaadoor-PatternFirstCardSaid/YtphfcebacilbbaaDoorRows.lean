/-
  NARROWER THAN 'FOR EVERY INPUT', by the rows' own cells (each row's printed sentence says how): GtableCounts: laid · GtableTokens: laid · PatternBelow: laid · PatternFirst: laid.
  DERIVED. THE GIVEN ROWS OF THIS SEAT. 4 by the template 'for every input the law returns true; each argument reads behind the call as it read before'; 0 by the template 'total and deterministic' (their statements: YtphfcebacilbbaaDoorTotals.lean).
  GIVEN WITH THE SEED: the statements are not yours to turn. If you find one false, say at which input.
  Laid BY PROGRAM, IN A SANDBOX (cutbox-rows.mjs): the forced cells as the released guide's own fill.sh prints them over the translation eed3286a384941a6… (all of the seat's roots in one cut). By AI agents, Wed Nov 11 2026. No macro, syntax, notation, axiom, sorry.
-/
import Derived.Test.YtphfcebacilbbaaDoorChecked
import GoSem.PinnedTables
import GoSem.Claim
import GoSem.ClaimJoined
import GoSem.ClaimMapViews
import Derived.JoinedTies
import Derived.KernelRfl
namespace Go.Proofs.YtphfcebacilbbaaDoor
/- THE CELL 'sum', in the pinned program and in every row, IS THE sha256 OF THE DUMP (.gsa) THAT YtphfcebacilbbaaDoorProg.lean LOADS. Nothing in Lean hashes anything: it is a label: what it is worth is what the hold of that sum in a sandbox is worth. -/
noncomputable def Tryd.pinned : Pinned := { name := "ytphfcebacilbbaadoor", sum := "eed3286a384941a634ae634666afa1e062cb0ea83c6f910bd8d767f63b0b1db1", checked := Tryd.checked }
namespace Rows
def none {H : Type} : Left H := { results := [], args := [] }

/- WHAT THE LISTED PACKAGE-LEVEL VARIABLES READ AS WHEN THE CALL BEGINS. Each datum BY PROGRAM (the guide's laid-datum.mjs) off the statement by which the dump's own 'gosem.cut.vars' lays the variable. In a bare row this is a premise. The card (YtphfcebacilbbaaDoorCards.lean) ties it to the program's text. -/
def laid_unicode_utf8_acceptRanges {H : Type} : DataW H := .agg [.agg [.lit (.int .u8 128), .lit (.int .u8 191)], .agg [.lit (.int .u8 160), .lit (.int .u8 191)], .agg [.lit (.int .u8 128), .lit (.int .u8 159)], .agg [.lit (.int .u8 144), .lit (.int .u8 191)], .agg [.lit (.int .u8 128), .lit (.int .u8 143)], .agg [.lit (.int .u8 0), .lit (.int .u8 0)], .agg [.lit (.int .u8 0), .lit (.int .u8 0)], .agg [.lit (.int .u8 0), .lit (.int .u8 0)], .agg [.lit (.int .u8 0), .lit (.int .u8 0)], .agg [.lit (.int .u8 0), .lit (.int .u8 0)], .agg [.lit (.int .u8 0), .lit (.int .u8 0)], .agg [.lit (.int .u8 0), .lit (.int .u8 0)], .agg [.lit (.int .u8 0), .lit (.int .u8 0)], .agg [.lit (.int .u8 0), .lit (.int .u8 0)], .agg [.lit (.int .u8 0), .lit (.int .u8 0)], .agg [.lit (.int .u8 0), .lit (.int .u8 0)]]
/-- One of Go's own tables, pinned by name: the form's constant. -/
def laid_unicode_utf8_first : DataW Unit := Go.Pinned.utf8First

/-- 'boulterlaw16.GtableCounts': WHATEVER THE INPUT: true; the input reads as it did. -/
def gtableCountsSpec : ChangeSpec := { name := "gtableCounts", fn := fun _ => fun
  | [d1, d2, d3] => { results := [.lit (.bool true)], args := [d1, d2, d3] }
  | _ => none }
def gtableCountsRow : OpenClaim := { program := "ytphfcebacilbbaadoor", sum := "eed3286a384941a634ae634666afa1e062cb0ea83c6f910bd8d767f63b0b1db1", func := "boulter/boulterlaw16.GtableCounts", spec := "gtableCounts", inPlace := ["internal/bytealg.IndexByteString", "internal/bytealg.IndexString"], unfollowed := true, recurses := true, named := ["internal/bytealg.MaxLen", "unicode/utf8.first", "unicode/utf8.acceptRanges"], apart := false, laid := [("unicode/utf8.acceptRanges", laid_unicode_utf8_acceptRanges), ("unicode/utf8.first", laid_unicode_utf8_first)] }
def GtableCountsSaid : Prop := gtableCountsRow.holds Tryd.pinned (OpenSpec.ofChange gtableCountsSpec)

/-- ITS FALSE NEIGHBOUR: 'it returns false'. Refute it at one input. -/
def gtableCountsWrong : ChangeSpec := { name := "gtableCounts", fn := fun _ => fun
  | [d1, d2, d3] => { results := [.lit (.bool false)], args := [d1, d2, d3] }
  | _ => none }
def GtableCountsWrongFalsely : Prop := gtableCountsRow.holds Tryd.pinned (OpenSpec.ofChange gtableCountsWrong)

/-- 'boulterlaw16.GtableTokens': WHATEVER THE INPUT: true; the input reads as it did. -/
def gtableTokensSpec : ChangeSpec := { name := "gtableTokens", fn := fun _ => fun
  | [d1, d2, d3, d4] => { results := [.lit (.bool true)], args := [d1, d2, d3, d4] }
  | _ => none }
def gtableTokensRow : OpenClaim := { program := "ytphfcebacilbbaadoor", sum := "eed3286a384941a634ae634666afa1e062cb0ea83c6f910bd8d767f63b0b1db1", func := "boulter/boulterlaw16.GtableTokens", spec := "gtableTokens", inPlace := ["internal/bytealg.IndexByteString", "internal/bytealg.IndexString"], unfollowed := true, recurses := true, named := ["internal/bytealg.MaxLen", "unicode/utf8.first", "unicode/utf8.acceptRanges"], apart := false, laid := [("unicode/utf8.acceptRanges", laid_unicode_utf8_acceptRanges), ("unicode/utf8.first", laid_unicode_utf8_first)] }
def GtableTokensSaid : Prop := gtableTokensRow.holds Tryd.pinned (OpenSpec.ofChange gtableTokensSpec)

/-- ITS FALSE NEIGHBOUR: 'it returns false'. Refute it at one input. -/
def gtableTokensWrong : ChangeSpec := { name := "gtableTokens", fn := fun _ => fun
  | [d1, d2, d3, d4] => { results := [.lit (.bool false)], args := [d1, d2, d3, d4] }
  | _ => none }
def GtableTokensWrongFalsely : Prop := gtableTokensRow.holds Tryd.pinned (OpenSpec.ofChange gtableTokensWrong)

/-- 'boulterlaw17.PatternBelow': WHATEVER THE INPUT: true; the input reads as it did. -/
def patternBelowSpec : ChangeSpec := { name := "patternBelow", fn := fun _ => fun
  | [d1, d2, d3] => { results := [.lit (.bool true)], args := [d1, d2, d3] }
  | _ => none }
def patternBelowRow : OpenClaim := { program := "ytphfcebacilbbaadoor", sum := "eed3286a384941a634ae634666afa1e062cb0ea83c6f910bd8d767f63b0b1db1", func := "boulter/boulterlaw17.PatternBelow", spec := "patternBelow", inPlace := ["internal/bytealg.IndexByteString", "internal/bytealg.IndexString"], unfollowed := true, recurses := true, named := ["internal/bytealg.MaxLen", "unicode/utf8.first", "unicode/utf8.acceptRanges"], apart := false, laid := [("unicode/utf8.acceptRanges", laid_unicode_utf8_acceptRanges), ("unicode/utf8.first", laid_unicode_utf8_first)] }
def PatternBelowSaid : Prop := patternBelowRow.holds Tryd.pinned (OpenSpec.ofChange patternBelowSpec)

/-- ITS FALSE NEIGHBOUR: 'it returns false'. Refute it at one input. -/
def patternBelowWrong : ChangeSpec := { name := "patternBelow", fn := fun _ => fun
  | [d1, d2, d3] => { results := [.lit (.bool false)], args := [d1, d2, d3] }
  | _ => none }
def PatternBelowWrongFalsely : Prop := patternBelowRow.holds Tryd.pinned (OpenSpec.ofChange patternBelowWrong)

/-- 'boulterlaw17.PatternFirst': WHATEVER THE INPUT: true; the input reads as it did. -/
def patternFirstSpec : ChangeSpec := { name := "patternFirst", fn := fun _ => fun
  | [d1, d2] => { results := [.lit (.bool true)], args := [d1, d2] }
  | _ => none }
def patternFirstRow : OpenClaim := { program := "ytphfcebacilbbaadoor", sum := "eed3286a384941a634ae634666afa1e062cb0ea83c6f910bd8d767f63b0b1db1", func := "boulter/boulterlaw17.PatternFirst", spec := "patternFirst", inPlace := ["internal/bytealg.IndexByteString", "internal/bytealg.IndexString"], unfollowed := true, recurses := true, named := ["internal/bytealg.MaxLen", "unicode/utf8.first", "unicode/utf8.acceptRanges"], apart := false, laid := [("unicode/utf8.acceptRanges", laid_unicode_utf8_acceptRanges), ("unicode/utf8.first", laid_unicode_utf8_first)] }
def PatternFirstSaid : Prop := patternFirstRow.holds Tryd.pinned (OpenSpec.ofChange patternFirstSpec)

/-- ITS FALSE NEIGHBOUR: 'it returns false'. Refute it at one input. -/
def patternFirstWrong : ChangeSpec := { name := "patternFirst", fn := fun _ => fun
  | [d1, d2] => { results := [.lit (.bool false)], args := [d1, d2] }
  | _ => none }
def PatternFirstWrongFalsely : Prop := patternFirstRow.holds Tryd.pinned (OpenSpec.ofChange patternFirstWrong)

/- THE SECOND FORM. 'bulk': how many values and letters a reading holds, each counted each time it is reached (what is shared counts as often as it is met; a slice's spare places count too). A statement '..UptoSaid' is the law's where the arguments, and the package variables that the reading takes, are together of bulk at most 1048576: NARROWER than '..Said'. Prove '..Said' where nothing that the law and all that it calls make is longer than what came in: it says more and counts as full. Else prove '..UptoSaid'. A law counts once. -/
mutual
def uptoBulk {H : Type} : DataW H → Nat
  | .lit (.string bytes) => bytes.length + 1
  | .lit _ => 1
  | .nil => 1
  | .ptr d => uptoBulk d + 1
  | .slice elems spare => uptoBulkAll elems + uptoBulkAll spare + 1
  | .agg parts => uptoBulkAll parts + 1
  | .iface _ d => uptoBulk d + 1
  | .map entries => uptoBulkEntries entries + 1
  | .held _ => 1
def uptoBulkAll {H : Type} : List (DataW H) → Nat
  | [] => 0
  | d :: r => uptoBulk d + uptoBulkAll r
def uptoBulkEntries {H : Type} : List (Lit × DataW H) → Nat
  | [] => 0
  | x :: r => uptoBulkEntry x + uptoBulkEntries r
def uptoBulkEntry {H : Type} : Lit × DataW H → Nat
  | (.string bytes, d) => bytes.length + uptoBulk d + 1
  | (_, d) => uptoBulk d + 1
 end
def uptoSmall : (H : Type) → List (DataW H) → Bool := fun _ ds => decide (uptoBulkAll ds ≤ 1048576)
def OpenSpec.upto (s : _root_.Go.ChangeSpec) : _root_.Go.OpenSpec := { _root_.Go.OpenSpec.ofChange s with cond := some uptoSmall }

/-- 'boulterlaw16.GtableCounts', WHERE WHAT IT READS IS OF BULK AT MOST 1048576: true; the input reads as it did. -/
def gtableCountsUptoRow : OpenClaim := { program := "ytphfcebacilbbaadoor", sum := "eed3286a384941a634ae634666afa1e062cb0ea83c6f910bd8d767f63b0b1db1", func := "boulter/boulterlaw16.GtableCounts", spec := "gtableCounts", inPlace := ["internal/bytealg.IndexByteString", "internal/bytealg.IndexString"], unfollowed := true, recurses := true, named := ["internal/bytealg.MaxLen", "unicode/utf8.first", "unicode/utf8.acceptRanges"], apart := false, laid := [("unicode/utf8.acceptRanges", laid_unicode_utf8_acceptRanges), ("unicode/utf8.first", laid_unicode_utf8_first)], narrowed := true }
def GtableCountsUptoSaid : Prop := gtableCountsUptoRow.holds Tryd.pinned (OpenSpec.upto gtableCountsSpec)

/-- 'boulterlaw16.GtableTokens', WHERE WHAT IT READS IS OF BULK AT MOST 1048576: true; the input reads as it did. -/
def gtableTokensUptoRow : OpenClaim := { program := "ytphfcebacilbbaadoor", sum := "eed3286a384941a634ae634666afa1e062cb0ea83c6f910bd8d767f63b0b1db1", func := "boulter/boulterlaw16.GtableTokens", spec := "gtableTokens", inPlace := ["internal/bytealg.IndexByteString", "internal/bytealg.IndexString"], unfollowed := true, recurses := true, named := ["internal/bytealg.MaxLen", "unicode/utf8.first", "unicode/utf8.acceptRanges"], apart := false, laid := [("unicode/utf8.acceptRanges", laid_unicode_utf8_acceptRanges), ("unicode/utf8.first", laid_unicode_utf8_first)], narrowed := true }
def GtableTokensUptoSaid : Prop := gtableTokensUptoRow.holds Tryd.pinned (OpenSpec.upto gtableTokensSpec)

/-- 'boulterlaw17.PatternBelow', WHERE WHAT IT READS IS OF BULK AT MOST 1048576: true; the input reads as it did. -/
def patternBelowUptoRow : OpenClaim := { program := "ytphfcebacilbbaadoor", sum := "eed3286a384941a634ae634666afa1e062cb0ea83c6f910bd8d767f63b0b1db1", func := "boulter/boulterlaw17.PatternBelow", spec := "patternBelow", inPlace := ["internal/bytealg.IndexByteString", "internal/bytealg.IndexString"], unfollowed := true, recurses := true, named := ["internal/bytealg.MaxLen", "unicode/utf8.first", "unicode/utf8.acceptRanges"], apart := false, laid := [("unicode/utf8.acceptRanges", laid_unicode_utf8_acceptRanges), ("unicode/utf8.first", laid_unicode_utf8_first)], narrowed := true }
def PatternBelowUptoSaid : Prop := patternBelowUptoRow.holds Tryd.pinned (OpenSpec.upto patternBelowSpec)

/-- 'boulterlaw17.PatternFirst', WHERE WHAT IT READS IS OF BULK AT MOST 1048576: true; the input reads as it did. -/
def patternFirstUptoRow : OpenClaim := { program := "ytphfcebacilbbaadoor", sum := "eed3286a384941a634ae634666afa1e062cb0ea83c6f910bd8d767f63b0b1db1", func := "boulter/boulterlaw17.PatternFirst", spec := "patternFirst", inPlace := ["internal/bytealg.IndexByteString", "internal/bytealg.IndexString"], unfollowed := true, recurses := true, named := ["internal/bytealg.MaxLen", "unicode/utf8.first", "unicode/utf8.acceptRanges"], apart := false, laid := [("unicode/utf8.acceptRanges", laid_unicode_utf8_acceptRanges), ("unicode/utf8.first", laid_unicode_utf8_first)], narrowed := true }
def PatternFirstUptoSaid : Prop := patternFirstUptoRow.holds Tryd.pinned (OpenSpec.upto patternFirstSpec)

end Rows
end Go.Proofs.YtphfcebacilbbaaDoor
