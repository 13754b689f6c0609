/-
  No cell of these rows narrows 'for every input' (looked for: loops, veiled, ifaces, maps, wideKeys, modest, calm, conditions, laid).
  DERIVED. THE GIVEN ROWS OF THIS SEAT. 3 by the template 'for every input the law returns true; each argument reads behind the call as it read before'; 0 by the template 'total and deterministic' (their statements: YtjoalambgckchaaTotals.lean).
  GIVEN WITH THE SEED: the statements are not yours to turn. If you find one false, say at which input.
  Laid BY PROGRAM, IN A SANDBOX (cutbox-rows.mjs): the forced cells as the released guide's own fill.sh prints them over the translation 8f7fd1bf98cb1b36… (all of the seat's roots in one cut). By AI agents, Wed Nov 11 2026. No macro, syntax, notation, axiom, sorry.
-/
import Derived.Test.YtjoalambgckchaaChecked
import GoSem.Claim
import GoSem.ClaimJoined
import GoSem.ClaimMapViews
import Derived.JoinedTies
import Derived.KernelRfl
namespace Go.Proofs.Ytjoalambgckchaa
/- THE CELL 'sum', in the pinned program and in every row, IS THE sha256 OF THE DUMP (.gsa) THAT YtjoalambgckchaaProg.lean LOADS. Nothing in Lean hashes anything: it is a label: what it is worth is what the hold of that sum in a sandbox is worth. -/
noncomputable def Try.pinned : Pinned := { name := "ytjoalambgckchaa", sum := "8f7fd1bf98cb1b366f4134d2a5b2ebed6af88ab78e66adfe789b2d5e00ccc5f4", checked := Try.checked }
namespace Rows
def none {H : Type} : Left H := { results := [], args := [] }

/-- 'boulterlaw14.BracketParses': WHATEVER THE INPUT: true; the input reads as it did. -/
def bracketParsesSpec : ChangeSpec := { name := "bracketParses", fn := fun _ => fun
  | [d1, d2, d3] => { results := [.lit (.bool true)], args := [d1, d2, d3] }
  | _ => none }
def bracketParsesRow : OpenClaim := { program := "ytjoalambgckchaa", sum := "8f7fd1bf98cb1b366f4134d2a5b2ebed6af88ab78e66adfe789b2d5e00ccc5f4", func := "boulter/boulterlaw14.BracketParses", spec := "bracketParses", inPlace := ["internal/bytealg.IndexByteString", "internal/bytealg.IndexString"], named := ["internal/bytealg.MaxLen"], apart := false }
def BracketParsesSaid : Prop := bracketParsesRow.holds Try.pinned (OpenSpec.ofChange bracketParsesSpec)

/-- ITS FALSE NEIGHBOUR: 'it returns false'. Refute it at one input. -/
def bracketParsesWrong : ChangeSpec := { name := "bracketParses", fn := fun _ => fun
  | [d1, d2, d3] => { results := [.lit (.bool false)], args := [d1, d2, d3] }
  | _ => none }
def BracketParsesWrongFalsely : Prop := bracketParsesRow.holds Try.pinned (OpenSpec.ofChange bracketParsesWrong)

/-- 'boulterlaw14.BracketTurned': WHATEVER THE INPUT: true; the input reads as it did. -/
def bracketTurnedSpec : ChangeSpec := { name := "bracketTurned", fn := fun _ => fun
  | [d1, d2] => { results := [.lit (.bool true)], args := [d1, d2] }
  | _ => none }
def bracketTurnedRow : OpenClaim := { program := "ytjoalambgckchaa", sum := "8f7fd1bf98cb1b366f4134d2a5b2ebed6af88ab78e66adfe789b2d5e00ccc5f4", func := "boulter/boulterlaw14.BracketTurned", spec := "bracketTurned", inPlace := ["internal/bytealg.IndexByteString", "internal/bytealg.IndexString"], named := ["internal/bytealg.MaxLen"], apart := false }
def BracketTurnedSaid : Prop := bracketTurnedRow.holds Try.pinned (OpenSpec.ofChange bracketTurnedSpec)

/-- ITS FALSE NEIGHBOUR: 'it returns false'. Refute it at one input. -/
def bracketTurnedWrong : ChangeSpec := { name := "bracketTurned", fn := fun _ => fun
  | [d1, d2] => { results := [.lit (.bool false)], args := [d1, d2] }
  | _ => none }
def BracketTurnedWrongFalsely : Prop := bracketTurnedRow.holds Try.pinned (OpenSpec.ofChange bracketTurnedWrong)

/-- 'boulterlaw14.BracketTexts': WHATEVER THE INPUT: true; the input reads as it did. -/
def bracketTextsSpec : ChangeSpec := { name := "bracketTexts", fn := fun _ => fun
  | [d1, d2, d3] => { results := [.lit (.bool true)], args := [d1, d2, d3] }
  | _ => none }
def bracketTextsRow : OpenClaim := { program := "ytjoalambgckchaa", sum := "8f7fd1bf98cb1b366f4134d2a5b2ebed6af88ab78e66adfe789b2d5e00ccc5f4", func := "boulter/boulterlaw14.BracketTexts", spec := "bracketTexts", inPlace := ["internal/bytealg.IndexByteString", "internal/bytealg.IndexString"], named := ["internal/bytealg.MaxLen"], apart := false }
def BracketTextsSaid : Prop := bracketTextsRow.holds Try.pinned (OpenSpec.ofChange bracketTextsSpec)

/-- ITS FALSE NEIGHBOUR: 'it returns false'. Refute it at one input. -/
def bracketTextsWrong : ChangeSpec := { name := "bracketTexts", fn := fun _ => fun
  | [d1, d2, d3] => { results := [.lit (.bool false)], args := [d1, d2, d3] }
  | _ => none }
def BracketTextsWrongFalsely : Prop := bracketTextsRow.holds Try.pinned (OpenSpec.ofChange bracketTextsWrong)

/- THE SECOND FORM. 'bulk': how many values and letters a reading holds, each counted each time it is reached (what is shared counts as often as it is met; a slice's spare places count too). A statement '..UptoSaid' is the law's where the arguments, and the package variables that the reading takes, are together of bulk at most 1048576: NARROWER than '..Said'. Prove '..Said' where nothing that the law and all that it calls make is longer than what came in: it says more and counts as full. Else prove '..UptoSaid'. A law counts once. -/
mutual
def uptoBulk {H : Type} : DataW H → Nat
  | .lit (.string bytes) => bytes.length + 1
  | .lit _ => 1
  | .nil => 1
  | .ptr d => uptoBulk d + 1
  | .slice elems spare => uptoBulkAll elems + uptoBulkAll spare + 1
  | .agg parts => uptoBulkAll parts + 1
  | .iface _ d => uptoBulk d + 1
  | .map entries => uptoBulkEntries entries + 1
  | .held _ => 1
def uptoBulkAll {H : Type} : List (DataW H) → Nat
  | [] => 0
  | d :: r => uptoBulk d + uptoBulkAll r
def uptoBulkEntries {H : Type} : List (Lit × DataW H) → Nat
  | [] => 0
  | x :: r => uptoBulkEntry x + uptoBulkEntries r
def uptoBulkEntry {H : Type} : Lit × DataW H → Nat
  | (.string bytes, d) => bytes.length + uptoBulk d + 1
  | (_, d) => uptoBulk d + 1
 end
def uptoSmall : (H : Type) → List (DataW H) → Bool := fun _ ds => decide (uptoBulkAll ds ≤ 1048576)
def OpenSpec.upto (s : _root_.Go.ChangeSpec) : _root_.Go.OpenSpec := { _root_.Go.OpenSpec.ofChange s with cond := some uptoSmall }

/-- 'boulterlaw14.BracketParses', WHERE WHAT IT READS IS OF BULK AT MOST 1048576: true; the input reads as it did. -/
def bracketParsesUptoRow : OpenClaim := { program := "ytjoalambgckchaa", sum := "8f7fd1bf98cb1b366f4134d2a5b2ebed6af88ab78e66adfe789b2d5e00ccc5f4", func := "boulter/boulterlaw14.BracketParses", spec := "bracketParses", inPlace := ["internal/bytealg.IndexByteString", "internal/bytealg.IndexString"], named := ["internal/bytealg.MaxLen"], apart := false, narrowed := true }
def BracketParsesUptoSaid : Prop := bracketParsesUptoRow.holds Try.pinned (OpenSpec.upto bracketParsesSpec)

/-- 'boulterlaw14.BracketTurned', WHERE WHAT IT READS IS OF BULK AT MOST 1048576: true; the input reads as it did. -/
def bracketTurnedUptoRow : OpenClaim := { program := "ytjoalambgckchaa", sum := "8f7fd1bf98cb1b366f4134d2a5b2ebed6af88ab78e66adfe789b2d5e00ccc5f4", func := "boulter/boulterlaw14.BracketTurned", spec := "bracketTurned", inPlace := ["internal/bytealg.IndexByteString", "internal/bytealg.IndexString"], named := ["internal/bytealg.MaxLen"], apart := false, narrowed := true }
def BracketTurnedUptoSaid : Prop := bracketTurnedUptoRow.holds Try.pinned (OpenSpec.upto bracketTurnedSpec)

/-- 'boulterlaw14.BracketTexts', WHERE WHAT IT READS IS OF BULK AT MOST 1048576: true; the input reads as it did. -/
def bracketTextsUptoRow : OpenClaim := { program := "ytjoalambgckchaa", sum := "8f7fd1bf98cb1b366f4134d2a5b2ebed6af88ab78e66adfe789b2d5e00ccc5f4", func := "boulter/boulterlaw14.BracketTexts", spec := "bracketTexts", inPlace := ["internal/bytealg.IndexByteString", "internal/bytealg.IndexString"], named := ["internal/bytealg.MaxLen"], apart := false, narrowed := true }
def BracketTextsUptoSaid : Prop := bracketTextsUptoRow.holds Try.pinned (OpenSpec.upto bracketTextsSpec)

end Rows
end Go.Proofs.Ytjoalambgckchaa
