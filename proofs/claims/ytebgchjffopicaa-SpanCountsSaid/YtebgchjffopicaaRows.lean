/-
  No cell of these rows narrows 'for every input' (looked for: loops, veiled, ifaces, maps, wideKeys, modest, calm, conditions, laid).
  DERIVED. THE GIVEN ROWS OF THIS SEAT. 8 by the template 'for every input the law returns true; each argument reads behind the call as it read before'; 0 by the template 'total and deterministic' (their statements: YtebgchjffopicaaTotals.lean).
  GIVEN WITH THE SEED: the statements are not yours to turn. If you find one false, say at which input.
  Laid BY PROGRAM, IN A SANDBOX (cutbox-rows.mjs): the forced cells as the released guide's own fill.sh prints them over the translation f6f0bd3a71c95611… (all of the seat's roots in one cut). By AI agents, Wed Nov 11 2026. No macro, syntax, notation, axiom, sorry.
-/
import Derived.Test.YtebgchjffopicaaChecked
import GoSem.Claim
import GoSem.ClaimJoined
import GoSem.ClaimMapViews
import Derived.JoinedTies
import Derived.KernelRfl
namespace Go.Proofs.Ytebgchjffopicaa
/- THE CELL 'sum', in the pinned program and in every row, IS THE sha256 OF THE DUMP (.gsa) THAT YtebgchjffopicaaProg.lean LOADS. Nothing in Lean hashes anything: it is a label: what it is worth is what the hold of that sum in a sandbox is worth. -/
noncomputable def Try.pinned : Pinned := { name := "ytebgchjffopicaa", sum := "f6f0bd3a71c956115be3c744e3eea52990dcc1ff20cba7bdacd1ba3f0e7524b1", checked := Try.checked }
namespace Rows
def none {H : Type} : Left H := { results := [], args := [] }

/-- 'boulterlaw36.ListingQuotes': WHATEVER THE INPUT: true; the input reads as it did. -/
def listingQuotesSpec : ChangeSpec := { name := "listingQuotes", fn := fun _ => fun
  | [d1, d2, d3] => { results := [.lit (.bool true)], args := [d1, d2, d3] }
  | _ => none }
def listingQuotesRow : OpenClaim := { program := "ytebgchjffopicaa", sum := "f6f0bd3a71c956115be3c744e3eea52990dcc1ff20cba7bdacd1ba3f0e7524b1", func := "boulter/boulterlaw36.ListingQuotes", spec := "listingQuotes", apart := false }
def ListingQuotesSaid : Prop := listingQuotesRow.holds Try.pinned (OpenSpec.ofChange listingQuotesSpec)

/-- ITS FALSE NEIGHBOUR: 'it returns false'. Refute it at one input. -/
def listingQuotesWrong : ChangeSpec := { name := "listingQuotes", fn := fun _ => fun
  | [d1, d2, d3] => { results := [.lit (.bool false)], args := [d1, d2, d3] }
  | _ => none }
def ListingQuotesWrongFalsely : Prop := listingQuotesRow.holds Try.pinned (OpenSpec.ofChange listingQuotesWrong)

/-- 'boulterlaw36.ListingRights': WHATEVER THE INPUT: true; the input reads as it did. -/
def listingRightsSpec : ChangeSpec := { name := "listingRights", fn := fun _ => fun
  | [d1, d2] => { results := [.lit (.bool true)], args := [d1, d2] }
  | _ => none }
def listingRightsRow : OpenClaim := { program := "ytebgchjffopicaa", sum := "f6f0bd3a71c956115be3c744e3eea52990dcc1ff20cba7bdacd1ba3f0e7524b1", func := "boulter/boulterlaw36.ListingRights", spec := "listingRights", inPlace := ["internal/bytealg.IndexByteString"], apart := false }
def ListingRightsSaid : Prop := listingRightsRow.holds Try.pinned (OpenSpec.ofChange listingRightsSpec)

/-- ITS FALSE NEIGHBOUR: 'it returns false'. Refute it at one input. -/
def listingRightsWrong : ChangeSpec := { name := "listingRights", fn := fun _ => fun
  | [d1, d2] => { results := [.lit (.bool false)], args := [d1, d2] }
  | _ => none }
def ListingRightsWrongFalsely : Prop := listingRightsRow.holds Try.pinned (OpenSpec.ofChange listingRightsWrong)

/-- 'boulterlaw36.ListingSigns': WHATEVER THE INPUT: true; the input reads as it did. -/
def listingSignsSpec : ChangeSpec := { name := "listingSigns", fn := fun _ => fun
  | [d] => { results := [.lit (.bool true)], args := [d] }
  | _ => none }
def listingSignsRow : OpenClaim := { program := "ytebgchjffopicaa", sum := "f6f0bd3a71c956115be3c744e3eea52990dcc1ff20cba7bdacd1ba3f0e7524b1", func := "boulter/boulterlaw36.ListingSigns", spec := "listingSigns", inPlace := ["internal/bytealg.IndexByteString"], apart := false }
def ListingSignsSaid : Prop := listingSignsRow.holds Try.pinned (OpenSpec.ofChange listingSignsSpec)

/-- ITS FALSE NEIGHBOUR: 'it returns false'. Refute it at one input. -/
def listingSignsWrong : ChangeSpec := { name := "listingSigns", fn := fun _ => fun
  | [d] => { results := [.lit (.bool false)], args := [d] }
  | _ => none }
def ListingSignsWrongFalsely : Prop := listingSignsRow.holds Try.pinned (OpenSpec.ofChange listingSignsWrong)

/-- 'boulterlaw13.ClassSets': WHATEVER THE INPUT: true; the input reads as it did. -/
def classSetsSpec : ChangeSpec := { name := "classSets", fn := fun _ => fun
  | [d1, d2, d3] => { results := [.lit (.bool true)], args := [d1, d2, d3] }
  | _ => none }
def classSetsRow : OpenClaim := { program := "ytebgchjffopicaa", sum := "f6f0bd3a71c956115be3c744e3eea52990dcc1ff20cba7bdacd1ba3f0e7524b1", func := "boulter/boulterlaw13.ClassSets", spec := "classSets", apart := false }
def ClassSetsSaid : Prop := classSetsRow.holds Try.pinned (OpenSpec.ofChange classSetsSpec)

/-- ITS FALSE NEIGHBOUR: 'it returns false'. Refute it at one input. -/
def classSetsWrong : ChangeSpec := { name := "classSets", fn := fun _ => fun
  | [d1, d2, d3] => { results := [.lit (.bool false)], args := [d1, d2, d3] }
  | _ => none }
def ClassSetsWrongFalsely : Prop := classSetsRow.holds Try.pinned (OpenSpec.ofChange classSetsWrong)

/-- 'boulterlaw13.ClassNames': WHATEVER THE INPUT: true; the input reads as it did. -/
def classNamesSpec : ChangeSpec := { name := "classNames", fn := fun _ => fun
  | [d1, d2, d3] => { results := [.lit (.bool true)], args := [d1, d2, d3] }
  | _ => none }
def classNamesRow : OpenClaim := { program := "ytebgchjffopicaa", sum := "f6f0bd3a71c956115be3c744e3eea52990dcc1ff20cba7bdacd1ba3f0e7524b1", func := "boulter/boulterlaw13.ClassNames", spec := "classNames", apart := false }
def ClassNamesSaid : Prop := classNamesRow.holds Try.pinned (OpenSpec.ofChange classNamesSpec)

/-- ITS FALSE NEIGHBOUR: 'it returns false'. Refute it at one input. -/
def classNamesWrong : ChangeSpec := { name := "classNames", fn := fun _ => fun
  | [d1, d2, d3] => { results := [.lit (.bool false)], args := [d1, d2, d3] }
  | _ => none }
def ClassNamesWrongFalsely : Prop := classNamesRow.holds Try.pinned (OpenSpec.ofChange classNamesWrong)

/-- 'boulterlaw13.ClassSame': WHATEVER THE INPUT: true; the input reads as it did. -/
def classSameSpec : ChangeSpec := { name := "classSame", fn := fun _ => fun
  | [d1, d2] => { results := [.lit (.bool true)], args := [d1, d2] }
  | _ => none }
def classSameRow : OpenClaim := { program := "ytebgchjffopicaa", sum := "f6f0bd3a71c956115be3c744e3eea52990dcc1ff20cba7bdacd1ba3f0e7524b1", func := "boulter/boulterlaw13.ClassSame", spec := "classSame", apart := false }
def ClassSameSaid : Prop := classSameRow.holds Try.pinned (OpenSpec.ofChange classSameSpec)

/-- ITS FALSE NEIGHBOUR: 'it returns false'. Refute it at one input. -/
def classSameWrong : ChangeSpec := { name := "classSame", fn := fun _ => fun
  | [d1, d2] => { results := [.lit (.bool false)], args := [d1, d2] }
  | _ => none }
def ClassSameWrongFalsely : Prop := classSameRow.holds Try.pinned (OpenSpec.ofChange classSameWrong)

/-- 'boulterlaw13.ClassFolds': WHATEVER THE INPUT: true; the input reads as it did. -/
def classFoldsSpec : ChangeSpec := { name := "classFolds", fn := fun _ => fun
  | [d1, d2] => { results := [.lit (.bool true)], args := [d1, d2] }
  | _ => none }
def classFoldsRow : OpenClaim := { program := "ytebgchjffopicaa", sum := "f6f0bd3a71c956115be3c744e3eea52990dcc1ff20cba7bdacd1ba3f0e7524b1", func := "boulter/boulterlaw13.ClassFolds", spec := "classFolds", apart := false }
def ClassFoldsSaid : Prop := classFoldsRow.holds Try.pinned (OpenSpec.ofChange classFoldsSpec)

/-- ITS FALSE NEIGHBOUR: 'it returns false'. Refute it at one input. -/
def classFoldsWrong : ChangeSpec := { name := "classFolds", fn := fun _ => fun
  | [d1, d2] => { results := [.lit (.bool false)], args := [d1, d2] }
  | _ => none }
def ClassFoldsWrongFalsely : Prop := classFoldsRow.holds Try.pinned (OpenSpec.ofChange classFoldsWrong)

/-- 'boulterlaw09.SpanCounts': WHATEVER THE INPUT: true; the input reads as it did. -/
def spanCountsSpec : ChangeSpec := { name := "spanCounts", fn := fun _ => fun
  | [d1, d2] => { results := [.lit (.bool true)], args := [d1, d2] }
  | _ => none }
def spanCountsRow : OpenClaim := { program := "ytebgchjffopicaa", sum := "f6f0bd3a71c956115be3c744e3eea52990dcc1ff20cba7bdacd1ba3f0e7524b1", func := "boulter/boulterlaw09.SpanCounts", spec := "spanCounts", inPlace := ["internal/abi.NoEscape", "internal/bytealg.MakeNoZero"], apart := false }
def SpanCountsSaid : Prop := spanCountsRow.holds Try.pinned (OpenSpec.ofChange spanCountsSpec)

/-- ITS FALSE NEIGHBOUR: 'it returns false'. Refute it at one input. -/
def spanCountsWrong : ChangeSpec := { name := "spanCounts", fn := fun _ => fun
  | [d1, d2] => { results := [.lit (.bool false)], args := [d1, d2] }
  | _ => none }
def SpanCountsWrongFalsely : Prop := spanCountsRow.holds Try.pinned (OpenSpec.ofChange spanCountsWrong)

/- THE SECOND FORM. 'bulk': how many values and letters a reading holds, each counted each time it is reached (what is shared counts as often as it is met; a slice's spare places count too). A statement '..UptoSaid' is the law's where the arguments, and the package variables that the reading takes, are together of bulk at most 1048576: NARROWER than '..Said'. Prove '..Said' where nothing that the law and all that it calls make is longer than what came in: it says more and counts as full. Else prove '..UptoSaid'. A law counts once. -/
mutual
def uptoBulk {H : Type} : DataW H → Nat
  | .lit (.string bytes) => bytes.length + 1
  | .lit _ => 1
  | .nil => 1
  | .ptr d => uptoBulk d + 1
  | .slice elems spare => uptoBulkAll elems + uptoBulkAll spare + 1
  | .agg parts => uptoBulkAll parts + 1
  | .iface _ d => uptoBulk d + 1
  | .map entries => uptoBulkEntries entries + 1
  | .held _ => 1
def uptoBulkAll {H : Type} : List (DataW H) → Nat
  | [] => 0
  | d :: r => uptoBulk d + uptoBulkAll r
def uptoBulkEntries {H : Type} : List (Lit × DataW H) → Nat
  | [] => 0
  | x :: r => uptoBulkEntry x + uptoBulkEntries r
def uptoBulkEntry {H : Type} : Lit × DataW H → Nat
  | (.string bytes, d) => bytes.length + uptoBulk d + 1
  | (_, d) => uptoBulk d + 1
 end
def uptoSmall : (H : Type) → List (DataW H) → Bool := fun _ ds => decide (uptoBulkAll ds ≤ 1048576)
def OpenSpec.upto (s : _root_.Go.ChangeSpec) : _root_.Go.OpenSpec := { _root_.Go.OpenSpec.ofChange s with cond := some uptoSmall }

/-- 'boulterlaw36.ListingQuotes', WHERE WHAT IT READS IS OF BULK AT MOST 1048576: true; the input reads as it did. -/
def listingQuotesUptoRow : OpenClaim := { program := "ytebgchjffopicaa", sum := "f6f0bd3a71c956115be3c744e3eea52990dcc1ff20cba7bdacd1ba3f0e7524b1", func := "boulter/boulterlaw36.ListingQuotes", spec := "listingQuotes", apart := false, narrowed := true }
def ListingQuotesUptoSaid : Prop := listingQuotesUptoRow.holds Try.pinned (OpenSpec.upto listingQuotesSpec)

/-- 'boulterlaw36.ListingRights', WHERE WHAT IT READS IS OF BULK AT MOST 1048576: true; the input reads as it did. -/
def listingRightsUptoRow : OpenClaim := { program := "ytebgchjffopicaa", sum := "f6f0bd3a71c956115be3c744e3eea52990dcc1ff20cba7bdacd1ba3f0e7524b1", func := "boulter/boulterlaw36.ListingRights", spec := "listingRights", inPlace := ["internal/bytealg.IndexByteString"], apart := false, narrowed := true }
def ListingRightsUptoSaid : Prop := listingRightsUptoRow.holds Try.pinned (OpenSpec.upto listingRightsSpec)

/-- 'boulterlaw36.ListingSigns', WHERE WHAT IT READS IS OF BULK AT MOST 1048576: true; the input reads as it did. -/
def listingSignsUptoRow : OpenClaim := { program := "ytebgchjffopicaa", sum := "f6f0bd3a71c956115be3c744e3eea52990dcc1ff20cba7bdacd1ba3f0e7524b1", func := "boulter/boulterlaw36.ListingSigns", spec := "listingSigns", inPlace := ["internal/bytealg.IndexByteString"], apart := false, narrowed := true }
def ListingSignsUptoSaid : Prop := listingSignsUptoRow.holds Try.pinned (OpenSpec.upto listingSignsSpec)

/-- 'boulterlaw13.ClassSets', WHERE WHAT IT READS IS OF BULK AT MOST 1048576: true; the input reads as it did. -/
def classSetsUptoRow : OpenClaim := { program := "ytebgchjffopicaa", sum := "f6f0bd3a71c956115be3c744e3eea52990dcc1ff20cba7bdacd1ba3f0e7524b1", func := "boulter/boulterlaw13.ClassSets", spec := "classSets", apart := false, narrowed := true }
def ClassSetsUptoSaid : Prop := classSetsUptoRow.holds Try.pinned (OpenSpec.upto classSetsSpec)

/-- 'boulterlaw13.ClassNames', WHERE WHAT IT READS IS OF BULK AT MOST 1048576: true; the input reads as it did. -/
def classNamesUptoRow : OpenClaim := { program := "ytebgchjffopicaa", sum := "f6f0bd3a71c956115be3c744e3eea52990dcc1ff20cba7bdacd1ba3f0e7524b1", func := "boulter/boulterlaw13.ClassNames", spec := "classNames", apart := false, narrowed := true }
def ClassNamesUptoSaid : Prop := classNamesUptoRow.holds Try.pinned (OpenSpec.upto classNamesSpec)

/-- 'boulterlaw13.ClassSame', WHERE WHAT IT READS IS OF BULK AT MOST 1048576: true; the input reads as it did. -/
def classSameUptoRow : OpenClaim := { program := "ytebgchjffopicaa", sum := "f6f0bd3a71c956115be3c744e3eea52990dcc1ff20cba7bdacd1ba3f0e7524b1", func := "boulter/boulterlaw13.ClassSame", spec := "classSame", apart := false, narrowed := true }
def ClassSameUptoSaid : Prop := classSameUptoRow.holds Try.pinned (OpenSpec.upto classSameSpec)

/-- 'boulterlaw13.ClassFolds', WHERE WHAT IT READS IS OF BULK AT MOST 1048576: true; the input reads as it did. -/
def classFoldsUptoRow : OpenClaim := { program := "ytebgchjffopicaa", sum := "f6f0bd3a71c956115be3c744e3eea52990dcc1ff20cba7bdacd1ba3f0e7524b1", func := "boulter/boulterlaw13.ClassFolds", spec := "classFolds", apart := false, narrowed := true }
def ClassFoldsUptoSaid : Prop := classFoldsUptoRow.holds Try.pinned (OpenSpec.upto classFoldsSpec)

/-- 'boulterlaw09.SpanCounts', WHERE WHAT IT READS IS OF BULK AT MOST 1048576: true; the input reads as it did. -/
def spanCountsUptoRow : OpenClaim := { program := "ytebgchjffopicaa", sum := "f6f0bd3a71c956115be3c744e3eea52990dcc1ff20cba7bdacd1ba3f0e7524b1", func := "boulter/boulterlaw09.SpanCounts", spec := "spanCounts", inPlace := ["internal/abi.NoEscape", "internal/bytealg.MakeNoZero"], apart := false, narrowed := true }
def SpanCountsUptoSaid : Prop := spanCountsUptoRow.holds Try.pinned (OpenSpec.upto spanCountsSpec)

end Rows
end Go.Proofs.Ytebgchjffopicaa
