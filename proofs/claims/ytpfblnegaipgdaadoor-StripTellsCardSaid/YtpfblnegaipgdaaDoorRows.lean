/-
  NARROWER THAN 'FOR EVERY INPUT', by the rows' own cells (each row's printed sentence says how): NetstrPuts: laid · NetstrTakes: laid · CachedirModes: laid · NetstrScripts: laid · NetstrFull: laid · StripTells: laid · StripTwice: laid · TextFields: laid.
  DERIVED. THE GIVEN ROWS OF THIS SEAT. 8 by the template 'for every input the law returns true; each argument reads behind the call as it read before'; 0 by the template 'total and deterministic' (their statements: YtpfblnegaipgdaaDoorTotals.lean).
  GIVEN WITH THE SEED: the statements are not yours to turn. If you find one false, say at which input.
  Laid BY PROGRAM, IN A SANDBOX (cutbox-rows.mjs): the forced cells as the released guide's own fill.sh prints them over the translation a1c04033dac4a823… (all of the seat's roots in one cut). By AI agents, Wed Nov 11 2026. No macro, syntax, notation, axiom, sorry.
-/
import Derived.Test.YtpfblnegaipgdaaDoorChecked
import GoSem.PinnedTables
import GoSem.Claim
import GoSem.ClaimJoined
import GoSem.ClaimMapViews
import Derived.JoinedTies
import Derived.KernelRfl
namespace Go.Proofs.YtpfblnegaipgdaaDoor
/- THE CELL 'sum', in the pinned program and in every row, IS THE sha256 OF THE DUMP (.gsa) THAT YtpfblnegaipgdaaDoorProg.lean LOADS. Nothing in Lean hashes anything: it is a label: what it is worth is what the hold of that sum in a sandbox is worth. -/
noncomputable def Tryd.pinned : Pinned := { name := "ytpfblnegaipgdaadoor", sum := "a1c04033dac4a823c862f34eb4d4e6b1ce1f7029efacb3bcc5a5a62623750d87", checked := Tryd.checked }
namespace Rows
def none {H : Type} : Left H := { results := [], args := [] }

/- WHAT THE LISTED PACKAGE-LEVEL VARIABLES READ AS WHEN THE CALL BEGINS. Each datum BY PROGRAM (the guide's laid-datum.mjs) off the statement by which the dump's own 'gosem.cut.vars' lays the variable. In a bare row this is a premise. The card (YtpfblnegaipgdaaDoorCards.lean) ties it to the program's text. -/
def laid_math_bits_deBruijn32tab {H : Type} : DataW H := .agg [.lit (.int .u8 0), .lit (.int .u8 1), .lit (.int .u8 28), .lit (.int .u8 2), .lit (.int .u8 29), .lit (.int .u8 14), .lit (.int .u8 24), .lit (.int .u8 3), .lit (.int .u8 30), .lit (.int .u8 22), .lit (.int .u8 20), .lit (.int .u8 15), .lit (.int .u8 25), .lit (.int .u8 17), .lit (.int .u8 4), .lit (.int .u8 8), .lit (.int .u8 31), .lit (.int .u8 27), .lit (.int .u8 13), .lit (.int .u8 23), .lit (.int .u8 21), .lit (.int .u8 19), .lit (.int .u8 16), .lit (.int .u8 7), .lit (.int .u8 26), .lit (.int .u8 12), .lit (.int .u8 18), .lit (.int .u8 6), .lit (.int .u8 11), .lit (.int .u8 5), .lit (.int .u8 10), .lit (.int .u8 9)]
def laid_math_bits_deBruijn64tab {H : Type} : DataW H := .agg [.lit (.int .u8 0), .lit (.int .u8 1), .lit (.int .u8 56), .lit (.int .u8 2), .lit (.int .u8 57), .lit (.int .u8 49), .lit (.int .u8 28), .lit (.int .u8 3), .lit (.int .u8 61), .lit (.int .u8 58), .lit (.int .u8 42), .lit (.int .u8 50), .lit (.int .u8 38), .lit (.int .u8 29), .lit (.int .u8 17), .lit (.int .u8 4), .lit (.int .u8 62), .lit (.int .u8 47), .lit (.int .u8 59), .lit (.int .u8 36), .lit (.int .u8 45), .lit (.int .u8 43), .lit (.int .u8 51), .lit (.int .u8 22), .lit (.int .u8 53), .lit (.int .u8 39), .lit (.int .u8 33), .lit (.int .u8 30), .lit (.int .u8 24), .lit (.int .u8 18), .lit (.int .u8 12), .lit (.int .u8 5), .lit (.int .u8 63), .lit (.int .u8 55), .lit (.int .u8 48), .lit (.int .u8 27), .lit (.int .u8 60), .lit (.int .u8 41), .lit (.int .u8 37), .lit (.int .u8 16), .lit (.int .u8 46), .lit (.int .u8 35), .lit (.int .u8 44), .lit (.int .u8 21), .lit (.int .u8 52), .lit (.int .u8 32), .lit (.int .u8 23), .lit (.int .u8 11), .lit (.int .u8 54), .lit (.int .u8 26), .lit (.int .u8 40), .lit (.int .u8 15), .lit (.int .u8 34), .lit (.int .u8 20), .lit (.int .u8 31), .lit (.int .u8 10), .lit (.int .u8 25), .lit (.int .u8 14), .lit (.int .u8 19), .lit (.int .u8 9), .lit (.int .u8 13), .lit (.int .u8 8), .lit (.int .u8 7), .lit (.int .u8 6)]
def laid_internal_strconv_uint64pow10 {H : Type} : DataW H := .agg [.lit (.int .u64 1), .lit (.int .u64 10), .lit (.int .u64 100), .lit (.int .u64 1000), .lit (.int .u64 10000), .lit (.int .u64 100000), .lit (.int .u64 1000000), .lit (.int .u64 10000000), .lit (.int .u64 100000000), .lit (.int .u64 1000000000), .lit (.int .u64 10000000000), .lit (.int .u64 100000000000), .lit (.int .u64 1000000000000), .lit (.int .u64 10000000000000), .lit (.int .u64 100000000000000), .lit (.int .u64 1000000000000000), .lit (.int .u64 10000000000000000), .lit (.int .u64 100000000000000000), .lit (.int .u64 1000000000000000000), .lit (.int .u64 10000000000000000000)]
def laid_unicode_utf8_acceptRanges {H : Type} : DataW H := .agg [.agg [.lit (.int .u8 128), .lit (.int .u8 191)], .agg [.lit (.int .u8 160), .lit (.int .u8 191)], .agg [.lit (.int .u8 128), .lit (.int .u8 159)], .agg [.lit (.int .u8 144), .lit (.int .u8 191)], .agg [.lit (.int .u8 128), .lit (.int .u8 143)], .agg [.lit (.int .u8 0), .lit (.int .u8 0)], .agg [.lit (.int .u8 0), .lit (.int .u8 0)], .agg [.lit (.int .u8 0), .lit (.int .u8 0)], .agg [.lit (.int .u8 0), .lit (.int .u8 0)], .agg [.lit (.int .u8 0), .lit (.int .u8 0)], .agg [.lit (.int .u8 0), .lit (.int .u8 0)], .agg [.lit (.int .u8 0), .lit (.int .u8 0)], .agg [.lit (.int .u8 0), .lit (.int .u8 0)], .agg [.lit (.int .u8 0), .lit (.int .u8 0)], .agg [.lit (.int .u8 0), .lit (.int .u8 0)], .agg [.lit (.int .u8 0), .lit (.int .u8 0)]]
/-- One of Go's own tables, pinned by name: the form's constant. -/
def laid_unicode_utf8_first : DataW Unit := Go.Pinned.utf8First

/-- 'boulterlaw41.NetstrPuts': WHATEVER THE INPUT: true; the input reads as it did. -/
def netstrPutsSpec : ChangeSpec := { name := "netstrPuts", fn := fun _ => fun
  | [d1, d2] => { results := [.lit (.bool true)], args := [d1, d2] }
  | _ => none }
def netstrPutsRow : OpenClaim := { program := "ytpfblnegaipgdaadoor", sum := "a1c04033dac4a823c862f34eb4d4e6b1ce1f7029efacb3bcc5a5a62623750d87", func := "boulter/boulterlaw41.NetstrPuts", spec := "netstrPuts", recurses := true, named := ["internal/strconv.uint64pow10", "math/bits.deBruijn32tab", "math/bits.deBruijn64tab"], apart := false, laid := [("math/bits.deBruijn32tab", laid_math_bits_deBruijn32tab), ("math/bits.deBruijn64tab", laid_math_bits_deBruijn64tab), ("internal/strconv.uint64pow10", laid_internal_strconv_uint64pow10)] }
def NetstrPutsSaid : Prop := netstrPutsRow.holds Tryd.pinned (OpenSpec.ofChange netstrPutsSpec)

/-- ITS FALSE NEIGHBOUR: 'it returns false'. Refute it at one input. -/
def netstrPutsWrong : ChangeSpec := { name := "netstrPuts", fn := fun _ => fun
  | [d1, d2] => { results := [.lit (.bool false)], args := [d1, d2] }
  | _ => none }
def NetstrPutsWrongFalsely : Prop := netstrPutsRow.holds Tryd.pinned (OpenSpec.ofChange netstrPutsWrong)

/-- 'boulterlaw41.NetstrTakes': WHATEVER THE INPUT: true; the input reads as it did. -/
def netstrTakesSpec : ChangeSpec := { name := "netstrTakes", fn := fun _ => fun
  | [d] => { results := [.lit (.bool true)], args := [d] }
  | _ => none }
def netstrTakesRow : OpenClaim := { program := "ytpfblnegaipgdaadoor", sum := "a1c04033dac4a823c862f34eb4d4e6b1ce1f7029efacb3bcc5a5a62623750d87", func := "boulter/boulterlaw41.NetstrTakes", spec := "netstrTakes", named := ["internal/strconv.uint64pow10", "math/bits.deBruijn32tab", "math/bits.deBruijn64tab"], apart := false, laid := [("math/bits.deBruijn32tab", laid_math_bits_deBruijn32tab), ("math/bits.deBruijn64tab", laid_math_bits_deBruijn64tab), ("internal/strconv.uint64pow10", laid_internal_strconv_uint64pow10)] }
def NetstrTakesSaid : Prop := netstrTakesRow.holds Tryd.pinned (OpenSpec.ofChange netstrTakesSpec)

/-- ITS FALSE NEIGHBOUR: 'it returns false'. Refute it at one input. -/
def netstrTakesWrong : ChangeSpec := { name := "netstrTakes", fn := fun _ => fun
  | [d] => { results := [.lit (.bool false)], args := [d] }
  | _ => none }
def NetstrTakesWrongFalsely : Prop := netstrTakesRow.holds Tryd.pinned (OpenSpec.ofChange netstrTakesWrong)

/-- 'boulterlaw28.CachedirModes': WHATEVER THE INPUT: true; the input reads as it did. -/
def cachedirModesSpec : ChangeSpec := { name := "cachedirModes", fn := fun _ => fun
  | [d1, d2, d3] => { results := [.lit (.bool true)], args := [d1, d2, d3] }
  | _ => none }
def cachedirModesRow : OpenClaim := { program := "ytpfblnegaipgdaadoor", sum := "a1c04033dac4a823c862f34eb4d4e6b1ce1f7029efacb3bcc5a5a62623750d87", func := "boulter/boulterlaw28.CachedirModes", spec := "cachedirModes", inPlace := ["internal/bytealg.IndexByteString", "internal/bytealg.IndexString", "internal/abi.NoEscape", "internal/bytealg.MakeNoZero"], unfollowed := true, recurses := true, named := ["unicode/utf8.first", "unicode/utf8.acceptRanges", "internal/bytealg.MaxLen"], apart := false, laid := [("unicode/utf8.acceptRanges", laid_unicode_utf8_acceptRanges), ("unicode/utf8.first", laid_unicode_utf8_first)] }
def CachedirModesSaid : Prop := cachedirModesRow.holds Tryd.pinned (OpenSpec.ofChange cachedirModesSpec)

/-- ITS FALSE NEIGHBOUR: 'it returns false'. Refute it at one input. -/
def cachedirModesWrong : ChangeSpec := { name := "cachedirModes", fn := fun _ => fun
  | [d1, d2, d3] => { results := [.lit (.bool false)], args := [d1, d2, d3] }
  | _ => none }
def CachedirModesWrongFalsely : Prop := cachedirModesRow.holds Tryd.pinned (OpenSpec.ofChange cachedirModesWrong)

/-- 'boulterlaw41.NetstrScripts': WHATEVER THE INPUT: true; the input reads as it did. -/
def netstrScriptsSpec : ChangeSpec := { name := "netstrScripts", fn := fun _ => fun
  | [d] => { results := [.lit (.bool true)], args := [d] }
  | _ => none }
def netstrScriptsRow : OpenClaim := { program := "ytpfblnegaipgdaadoor", sum := "a1c04033dac4a823c862f34eb4d4e6b1ce1f7029efacb3bcc5a5a62623750d87", func := "boulter/boulterlaw41.NetstrScripts", spec := "netstrScripts", named := ["internal/strconv.uint64pow10", "math/bits.deBruijn32tab", "math/bits.deBruijn64tab"], apart := false, laid := [("math/bits.deBruijn32tab", laid_math_bits_deBruijn32tab), ("math/bits.deBruijn64tab", laid_math_bits_deBruijn64tab), ("internal/strconv.uint64pow10", laid_internal_strconv_uint64pow10)] }
def NetstrScriptsSaid : Prop := netstrScriptsRow.holds Tryd.pinned (OpenSpec.ofChange netstrScriptsSpec)

/-- ITS FALSE NEIGHBOUR: 'it returns false'. Refute it at one input. -/
def netstrScriptsWrong : ChangeSpec := { name := "netstrScripts", fn := fun _ => fun
  | [d] => { results := [.lit (.bool false)], args := [d] }
  | _ => none }
def NetstrScriptsWrongFalsely : Prop := netstrScriptsRow.holds Tryd.pinned (OpenSpec.ofChange netstrScriptsWrong)

/-- 'boulterlaw41.NetstrFull': WHATEVER THE INPUT: true; the input reads as it did. -/
def netstrFullSpec : ChangeSpec := { name := "netstrFull", fn := fun _ => fun
  | [d1, d2] => { results := [.lit (.bool true)], args := [d1, d2] }
  | _ => none }
def netstrFullRow : OpenClaim := { program := "ytpfblnegaipgdaadoor", sum := "a1c04033dac4a823c862f34eb4d4e6b1ce1f7029efacb3bcc5a5a62623750d87", func := "boulter/boulterlaw41.NetstrFull", spec := "netstrFull", recurses := true, named := ["internal/strconv.uint64pow10", "math/bits.deBruijn32tab", "math/bits.deBruijn64tab"], apart := false, laid := [("math/bits.deBruijn32tab", laid_math_bits_deBruijn32tab), ("math/bits.deBruijn64tab", laid_math_bits_deBruijn64tab), ("internal/strconv.uint64pow10", laid_internal_strconv_uint64pow10)] }
def NetstrFullSaid : Prop := netstrFullRow.holds Tryd.pinned (OpenSpec.ofChange netstrFullSpec)

/-- ITS FALSE NEIGHBOUR: 'it returns false'. Refute it at one input. -/
def netstrFullWrong : ChangeSpec := { name := "netstrFull", fn := fun _ => fun
  | [d1, d2] => { results := [.lit (.bool false)], args := [d1, d2] }
  | _ => none }
def NetstrFullWrongFalsely : Prop := netstrFullRow.holds Tryd.pinned (OpenSpec.ofChange netstrFullWrong)

/-- 'boulterlaw26.StripTells': WHATEVER THE INPUT: true; the input reads as it did. -/
def stripTellsSpec : ChangeSpec := { name := "stripTells", fn := fun _ => fun
  | [d1, d2] => { results := [.lit (.bool true)], args := [d1, d2] }
  | _ => none }
def stripTellsRow : OpenClaim := { program := "ytpfblnegaipgdaadoor", sum := "a1c04033dac4a823c862f34eb4d4e6b1ce1f7029efacb3bcc5a5a62623750d87", func := "boulter/boulterlaw26.StripTells", spec := "stripTells", inPlace := ["internal/bytealg.IndexByteString", "internal/bytealg.IndexString"], unfollowed := true, recurses := true, named := ["unicode/utf8.first", "unicode/utf8.acceptRanges", "internal/bytealg.MaxLen"], apart := false, laid := [("unicode/utf8.acceptRanges", laid_unicode_utf8_acceptRanges), ("unicode/utf8.first", laid_unicode_utf8_first)] }
def StripTellsSaid : Prop := stripTellsRow.holds Tryd.pinned (OpenSpec.ofChange stripTellsSpec)

/-- ITS FALSE NEIGHBOUR: 'it returns false'. Refute it at one input. -/
def stripTellsWrong : ChangeSpec := { name := "stripTells", fn := fun _ => fun
  | [d1, d2] => { results := [.lit (.bool false)], args := [d1, d2] }
  | _ => none }
def StripTellsWrongFalsely : Prop := stripTellsRow.holds Tryd.pinned (OpenSpec.ofChange stripTellsWrong)

/-- 'boulterlaw26.StripTwice': WHATEVER THE INPUT: true; the input reads as it did. -/
def stripTwiceSpec : ChangeSpec := { name := "stripTwice", fn := fun _ => fun
  | [d1, d2, d3] => { results := [.lit (.bool true)], args := [d1, d2, d3] }
  | _ => none }
def stripTwiceRow : OpenClaim := { program := "ytpfblnegaipgdaadoor", sum := "a1c04033dac4a823c862f34eb4d4e6b1ce1f7029efacb3bcc5a5a62623750d87", func := "boulter/boulterlaw26.StripTwice", spec := "stripTwice", inPlace := ["internal/bytealg.IndexByteString", "internal/bytealg.IndexString"], unfollowed := true, recurses := true, named := ["unicode/utf8.first", "unicode/utf8.acceptRanges", "internal/bytealg.MaxLen"], apart := false, laid := [("unicode/utf8.acceptRanges", laid_unicode_utf8_acceptRanges), ("unicode/utf8.first", laid_unicode_utf8_first)] }
def StripTwiceSaid : Prop := stripTwiceRow.holds Tryd.pinned (OpenSpec.ofChange stripTwiceSpec)

/-- ITS FALSE NEIGHBOUR: 'it returns false'. Refute it at one input. -/
def stripTwiceWrong : ChangeSpec := { name := "stripTwice", fn := fun _ => fun
  | [d1, d2, d3] => { results := [.lit (.bool false)], args := [d1, d2, d3] }
  | _ => none }
def StripTwiceWrongFalsely : Prop := stripTwiceRow.holds Tryd.pinned (OpenSpec.ofChange stripTwiceWrong)

/-- 'boulterlaw02.TextFields': WHATEVER THE INPUT: true; the input reads as it did. -/
def textFieldsSpec : ChangeSpec := { name := "textFields", fn := fun _ => fun
  | [d1, d2, d3] => { results := [.lit (.bool true)], args := [d1, d2, d3] }
  | _ => none }
def textFieldsRow : OpenClaim := { program := "ytpfblnegaipgdaadoor", sum := "a1c04033dac4a823c862f34eb4d4e6b1ce1f7029efacb3bcc5a5a62623750d87", func := "boulter/boulterlaw02.TextFields", spec := "textFields", inPlace := ["internal/bytealg.IndexByteString", "internal/abi.NoEscape", "internal/bytealg.MakeNoZero", "internal/bytealg.IndexString"], named := ["internal/bytealg.MaxLen", "unicode/utf8.first", "unicode/utf8.acceptRanges"], apart := false, laid := [("unicode/utf8.acceptRanges", laid_unicode_utf8_acceptRanges), ("unicode/utf8.first", laid_unicode_utf8_first)] }
def TextFieldsSaid : Prop := textFieldsRow.holds Tryd.pinned (OpenSpec.ofChange textFieldsSpec)

/-- ITS FALSE NEIGHBOUR: 'it returns false'. Refute it at one input. -/
def textFieldsWrong : ChangeSpec := { name := "textFields", fn := fun _ => fun
  | [d1, d2, d3] => { results := [.lit (.bool false)], args := [d1, d2, d3] }
  | _ => none }
def TextFieldsWrongFalsely : Prop := textFieldsRow.holds Tryd.pinned (OpenSpec.ofChange textFieldsWrong)

/- THE SECOND FORM. 'bulk': how many values and letters a reading holds, each counted each time it is reached (what is shared counts as often as it is met; a slice's spare places count too). A statement '..UptoSaid' is the law's where the arguments, and the package variables that the reading takes, are together of bulk at most 1048576: NARROWER than '..Said'. Prove '..Said' where nothing that the law and all that it calls make is longer than what came in: it says more and counts as full. Else prove '..UptoSaid'. A law counts once. -/
mutual
def uptoBulk {H : Type} : DataW H → Nat
  | .lit (.string bytes) => bytes.length + 1
  | .lit _ => 1
  | .nil => 1
  | .ptr d => uptoBulk d + 1
  | .slice elems spare => uptoBulkAll elems + uptoBulkAll spare + 1
  | .agg parts => uptoBulkAll parts + 1
  | .iface _ d => uptoBulk d + 1
  | .map entries => uptoBulkEntries entries + 1
  | .held _ => 1
def uptoBulkAll {H : Type} : List (DataW H) → Nat
  | [] => 0
  | d :: r => uptoBulk d + uptoBulkAll r
def uptoBulkEntries {H : Type} : List (Lit × DataW H) → Nat
  | [] => 0
  | x :: r => uptoBulkEntry x + uptoBulkEntries r
def uptoBulkEntry {H : Type} : Lit × DataW H → Nat
  | (.string bytes, d) => bytes.length + uptoBulk d + 1
  | (_, d) => uptoBulk d + 1
 end
def uptoSmall : (H : Type) → List (DataW H) → Bool := fun _ ds => decide (uptoBulkAll ds ≤ 1048576)
def OpenSpec.upto (s : _root_.Go.ChangeSpec) : _root_.Go.OpenSpec := { _root_.Go.OpenSpec.ofChange s with cond := some uptoSmall }

/-- 'boulterlaw41.NetstrPuts', WHERE WHAT IT READS IS OF BULK AT MOST 1048576: true; the input reads as it did. -/
def netstrPutsUptoRow : OpenClaim := { program := "ytpfblnegaipgdaadoor", sum := "a1c04033dac4a823c862f34eb4d4e6b1ce1f7029efacb3bcc5a5a62623750d87", func := "boulter/boulterlaw41.NetstrPuts", spec := "netstrPuts", recurses := true, named := ["internal/strconv.uint64pow10", "math/bits.deBruijn32tab", "math/bits.deBruijn64tab"], apart := false, laid := [("math/bits.deBruijn32tab", laid_math_bits_deBruijn32tab), ("math/bits.deBruijn64tab", laid_math_bits_deBruijn64tab), ("internal/strconv.uint64pow10", laid_internal_strconv_uint64pow10)], narrowed := true }
def NetstrPutsUptoSaid : Prop := netstrPutsUptoRow.holds Tryd.pinned (OpenSpec.upto netstrPutsSpec)

/-- 'boulterlaw41.NetstrTakes', WHERE WHAT IT READS IS OF BULK AT MOST 1048576: true; the input reads as it did. -/
def netstrTakesUptoRow : OpenClaim := { program := "ytpfblnegaipgdaadoor", sum := "a1c04033dac4a823c862f34eb4d4e6b1ce1f7029efacb3bcc5a5a62623750d87", func := "boulter/boulterlaw41.NetstrTakes", spec := "netstrTakes", named := ["internal/strconv.uint64pow10", "math/bits.deBruijn32tab", "math/bits.deBruijn64tab"], apart := false, laid := [("math/bits.deBruijn32tab", laid_math_bits_deBruijn32tab), ("math/bits.deBruijn64tab", laid_math_bits_deBruijn64tab), ("internal/strconv.uint64pow10", laid_internal_strconv_uint64pow10)], narrowed := true }
def NetstrTakesUptoSaid : Prop := netstrTakesUptoRow.holds Tryd.pinned (OpenSpec.upto netstrTakesSpec)

/-- 'boulterlaw28.CachedirModes', WHERE WHAT IT READS IS OF BULK AT MOST 1048576: true; the input reads as it did. -/
def cachedirModesUptoRow : OpenClaim := { program := "ytpfblnegaipgdaadoor", sum := "a1c04033dac4a823c862f34eb4d4e6b1ce1f7029efacb3bcc5a5a62623750d87", func := "boulter/boulterlaw28.CachedirModes", spec := "cachedirModes", inPlace := ["internal/bytealg.IndexByteString", "internal/bytealg.IndexString", "internal/abi.NoEscape", "internal/bytealg.MakeNoZero"], unfollowed := true, recurses := true, named := ["unicode/utf8.first", "unicode/utf8.acceptRanges", "internal/bytealg.MaxLen"], apart := false, laid := [("unicode/utf8.acceptRanges", laid_unicode_utf8_acceptRanges), ("unicode/utf8.first", laid_unicode_utf8_first)], narrowed := true }
def CachedirModesUptoSaid : Prop := cachedirModesUptoRow.holds Tryd.pinned (OpenSpec.upto cachedirModesSpec)

/-- 'boulterlaw41.NetstrScripts', WHERE WHAT IT READS IS OF BULK AT MOST 1048576: true; the input reads as it did. -/
def netstrScriptsUptoRow : OpenClaim := { program := "ytpfblnegaipgdaadoor", sum := "a1c04033dac4a823c862f34eb4d4e6b1ce1f7029efacb3bcc5a5a62623750d87", func := "boulter/boulterlaw41.NetstrScripts", spec := "netstrScripts", named := ["internal/strconv.uint64pow10", "math/bits.deBruijn32tab", "math/bits.deBruijn64tab"], apart := false, laid := [("math/bits.deBruijn32tab", laid_math_bits_deBruijn32tab), ("math/bits.deBruijn64tab", laid_math_bits_deBruijn64tab), ("internal/strconv.uint64pow10", laid_internal_strconv_uint64pow10)], narrowed := true }
def NetstrScriptsUptoSaid : Prop := netstrScriptsUptoRow.holds Tryd.pinned (OpenSpec.upto netstrScriptsSpec)

/-- 'boulterlaw41.NetstrFull', WHERE WHAT IT READS IS OF BULK AT MOST 1048576: true; the input reads as it did. -/
def netstrFullUptoRow : OpenClaim := { program := "ytpfblnegaipgdaadoor", sum := "a1c04033dac4a823c862f34eb4d4e6b1ce1f7029efacb3bcc5a5a62623750d87", func := "boulter/boulterlaw41.NetstrFull", spec := "netstrFull", recurses := true, named := ["internal/strconv.uint64pow10", "math/bits.deBruijn32tab", "math/bits.deBruijn64tab"], apart := false, laid := [("math/bits.deBruijn32tab", laid_math_bits_deBruijn32tab), ("math/bits.deBruijn64tab", laid_math_bits_deBruijn64tab), ("internal/strconv.uint64pow10", laid_internal_strconv_uint64pow10)], narrowed := true }
def NetstrFullUptoSaid : Prop := netstrFullUptoRow.holds Tryd.pinned (OpenSpec.upto netstrFullSpec)

/-- 'boulterlaw26.StripTells', WHERE WHAT IT READS IS OF BULK AT MOST 1048576: true; the input reads as it did. -/
def stripTellsUptoRow : OpenClaim := { program := "ytpfblnegaipgdaadoor", sum := "a1c04033dac4a823c862f34eb4d4e6b1ce1f7029efacb3bcc5a5a62623750d87", func := "boulter/boulterlaw26.StripTells", spec := "stripTells", inPlace := ["internal/bytealg.IndexByteString", "internal/bytealg.IndexString"], unfollowed := true, recurses := true, named := ["unicode/utf8.first", "unicode/utf8.acceptRanges", "internal/bytealg.MaxLen"], apart := false, laid := [("unicode/utf8.acceptRanges", laid_unicode_utf8_acceptRanges), ("unicode/utf8.first", laid_unicode_utf8_first)], narrowed := true }
def StripTellsUptoSaid : Prop := stripTellsUptoRow.holds Tryd.pinned (OpenSpec.upto stripTellsSpec)

/-- 'boulterlaw26.StripTwice', WHERE WHAT IT READS IS OF BULK AT MOST 1048576: true; the input reads as it did. -/
def stripTwiceUptoRow : OpenClaim := { program := "ytpfblnegaipgdaadoor", sum := "a1c04033dac4a823c862f34eb4d4e6b1ce1f7029efacb3bcc5a5a62623750d87", func := "boulter/boulterlaw26.StripTwice", spec := "stripTwice", inPlace := ["internal/bytealg.IndexByteString", "internal/bytealg.IndexString"], unfollowed := true, recurses := true, named := ["unicode/utf8.first", "unicode/utf8.acceptRanges", "internal/bytealg.MaxLen"], apart := false, laid := [("unicode/utf8.acceptRanges", laid_unicode_utf8_acceptRanges), ("unicode/utf8.first", laid_unicode_utf8_first)], narrowed := true }
def StripTwiceUptoSaid : Prop := stripTwiceUptoRow.holds Tryd.pinned (OpenSpec.upto stripTwiceSpec)

/-- 'boulterlaw02.TextFields', WHERE WHAT IT READS IS OF BULK AT MOST 1048576: true; the input reads as it did. -/
def textFieldsUptoRow : OpenClaim := { program := "ytpfblnegaipgdaadoor", sum := "a1c04033dac4a823c862f34eb4d4e6b1ce1f7029efacb3bcc5a5a62623750d87", func := "boulter/boulterlaw02.TextFields", spec := "textFields", inPlace := ["internal/bytealg.IndexByteString", "internal/abi.NoEscape", "internal/bytealg.MakeNoZero", "internal/bytealg.IndexString"], named := ["internal/bytealg.MaxLen", "unicode/utf8.first", "unicode/utf8.acceptRanges"], apart := false, laid := [("unicode/utf8.acceptRanges", laid_unicode_utf8_acceptRanges), ("unicode/utf8.first", laid_unicode_utf8_first)], narrowed := true }
def TextFieldsUptoSaid : Prop := textFieldsUptoRow.holds Tryd.pinned (OpenSpec.upto textFieldsSpec)

end Rows
end Go.Proofs.YtpfblnegaipgdaaDoor
