/-
  No cell of these rows narrows 'for every input' (looked for: loops, veiled, ifaces, maps, wideKeys, modest, calm, conditions, laid).
  DERIVED. THE GIVEN ROWS OF THIS SEAT. 3 by the template 'for every input the law returns true; each argument reads behind the call as it read before'; 0 by the template 'total and deterministic' (their statements: YtidnckcgclfaoaaTotals.lean).
  GIVEN WITH THE SEED: the statements are not yours to turn. If you find one false, say at which input.
  Laid BY PROGRAM, IN A SANDBOX (cutbox-rows.mjs): the forced cells as the released guide's own fill.sh prints them over the translation 9f0f4afcd33e999d… (all of the seat's roots in one cut). By AI agents, Wed Nov 11 2026. No macro, syntax, notation, axiom, sorry.
-/
import Derived.Test.YtidnckcgclfaoaaChecked
import GoSem.Claim
import GoSem.ClaimJoined
import GoSem.ClaimMapViews
import Derived.JoinedTies
import Derived.KernelRfl
namespace Go.Proofs.Ytidnckcgclfaoaa
/- THE CELL 'sum', in the pinned program and in every row, IS THE sha256 OF THE DUMP (.gsa) THAT YtidnckcgclfaoaaProg.lean LOADS. Nothing in Lean hashes anything: it is a label: what it is worth is what the hold of that sum in a sandbox is worth. -/
noncomputable def Try.pinned : Pinned := { name := "ytidnckcgclfaoaa", sum := "9f0f4afcd33e999dcfde97f001743fe6ca20baf8c3338e948a24a19b6816f7e5", checked := Try.checked }
namespace Rows
def none {H : Type} : Left H := { results := [], args := [] }

/-- 'boulterlaw05.HeaderParses': WHATEVER THE INPUT: true; the input reads as it did. -/
def headerParsesSpec : ChangeSpec := { name := "headerParses", fn := fun _ => fun
  | [d1, d2, d3, d4] => { results := [.lit (.bool true)], args := [d1, d2, d3, d4] }
  | _ => none }
def headerParsesRow : OpenClaim := { program := "ytidnckcgclfaoaa", sum := "9f0f4afcd33e999dcfde97f001743fe6ca20baf8c3338e948a24a19b6816f7e5", func := "boulter/boulterlaw05.HeaderParses", spec := "headerParses", inPlace := ["internal/bytealg.IndexByteString", "internal/bytealg.IndexString"], named := ["internal/bytealg.MaxLen"], apart := false }
def HeaderParsesSaid : Prop := headerParsesRow.holds Try.pinned (OpenSpec.ofChange headerParsesSpec)

/-- ITS FALSE NEIGHBOUR: 'it returns false'. Refute it at one input. -/
def headerParsesWrong : ChangeSpec := { name := "headerParses", fn := fun _ => fun
  | [d1, d2, d3, d4] => { results := [.lit (.bool false)], args := [d1, d2, d3, d4] }
  | _ => none }
def HeaderParsesWrongFalsely : Prop := headerParsesRow.holds Try.pinned (OpenSpec.ofChange headerParsesWrong)

/-- 'boulterlaw05.HeaderBuilds': WHATEVER THE INPUT: true; the input reads as it did. -/
def headerBuildsSpec : ChangeSpec := { name := "headerBuilds", fn := fun _ => fun
  | [d] => { results := [.lit (.bool true)], args := [d] }
  | _ => none }
def headerBuildsRow : OpenClaim := { program := "ytidnckcgclfaoaa", sum := "9f0f4afcd33e999dcfde97f001743fe6ca20baf8c3338e948a24a19b6816f7e5", func := "boulter/boulterlaw05.HeaderBuilds", spec := "headerBuilds", inPlace := ["internal/bytealg.IndexByteString", "internal/bytealg.IndexString"], named := ["internal/bytealg.MaxLen"], apart := false }
def HeaderBuildsSaid : Prop := headerBuildsRow.holds Try.pinned (OpenSpec.ofChange headerBuildsSpec)

/-- ITS FALSE NEIGHBOUR: 'it returns false'. Refute it at one input. -/
def headerBuildsWrong : ChangeSpec := { name := "headerBuilds", fn := fun _ => fun
  | [d] => { results := [.lit (.bool false)], args := [d] }
  | _ => none }
def HeaderBuildsWrongFalsely : Prop := headerBuildsRow.holds Try.pinned (OpenSpec.ofChange headerBuildsWrong)

/-- 'boulterlaw05.HeaderOld': WHATEVER THE INPUT: true; the input reads as it did. -/
def headerOldSpec : ChangeSpec := { name := "headerOld", fn := fun _ => fun
  | [d1, d2] => { results := [.lit (.bool true)], args := [d1, d2] }
  | _ => none }
def headerOldRow : OpenClaim := { program := "ytidnckcgclfaoaa", sum := "9f0f4afcd33e999dcfde97f001743fe6ca20baf8c3338e948a24a19b6816f7e5", func := "boulter/boulterlaw05.HeaderOld", spec := "headerOld", inPlace := ["internal/bytealg.IndexByteString", "internal/bytealg.IndexString"], named := ["internal/bytealg.MaxLen"], apart := false }
def HeaderOldSaid : Prop := headerOldRow.holds Try.pinned (OpenSpec.ofChange headerOldSpec)

/-- ITS FALSE NEIGHBOUR: 'it returns false'. Refute it at one input. -/
def headerOldWrong : ChangeSpec := { name := "headerOld", fn := fun _ => fun
  | [d1, d2] => { results := [.lit (.bool false)], args := [d1, d2] }
  | _ => none }
def HeaderOldWrongFalsely : Prop := headerOldRow.holds Try.pinned (OpenSpec.ofChange headerOldWrong)

/- THE SECOND FORM. 'bulk': how many values and letters a reading holds, each counted each time it is reached (what is shared counts as often as it is met; a slice's spare places count too). A statement '..UptoSaid' is the law's where the arguments, and the package variables that the reading takes, are together of bulk at most 1048576: NARROWER than '..Said'. Prove '..Said' where nothing that the law and all that it calls make is longer than what came in: it says more and counts as full. Else prove '..UptoSaid'. A law counts once. -/
mutual
def uptoBulk {H : Type} : DataW H → Nat
  | .lit (.string bytes) => bytes.length + 1
  | .lit _ => 1
  | .nil => 1
  | .ptr d => uptoBulk d + 1
  | .slice elems spare => uptoBulkAll elems + uptoBulkAll spare + 1
  | .agg parts => uptoBulkAll parts + 1
  | .iface _ d => uptoBulk d + 1
  | .map entries => uptoBulkEntries entries + 1
  | .held _ => 1
def uptoBulkAll {H : Type} : List (DataW H) → Nat
  | [] => 0
  | d :: r => uptoBulk d + uptoBulkAll r
def uptoBulkEntries {H : Type} : List (Lit × DataW H) → Nat
  | [] => 0
  | x :: r => uptoBulkEntry x + uptoBulkEntries r
def uptoBulkEntry {H : Type} : Lit × DataW H → Nat
  | (.string bytes, d) => bytes.length + uptoBulk d + 1
  | (_, d) => uptoBulk d + 1
 end
def uptoSmall : (H : Type) → List (DataW H) → Bool := fun _ ds => decide (uptoBulkAll ds ≤ 1048576)
def OpenSpec.upto (s : _root_.Go.ChangeSpec) : _root_.Go.OpenSpec := { _root_.Go.OpenSpec.ofChange s with cond := some uptoSmall }

/-- 'boulterlaw05.HeaderParses', WHERE WHAT IT READS IS OF BULK AT MOST 1048576: true; the input reads as it did. -/
def headerParsesUptoRow : OpenClaim := { program := "ytidnckcgclfaoaa", sum := "9f0f4afcd33e999dcfde97f001743fe6ca20baf8c3338e948a24a19b6816f7e5", func := "boulter/boulterlaw05.HeaderParses", spec := "headerParses", inPlace := ["internal/bytealg.IndexByteString", "internal/bytealg.IndexString"], named := ["internal/bytealg.MaxLen"], apart := false, narrowed := true }
def HeaderParsesUptoSaid : Prop := headerParsesUptoRow.holds Try.pinned (OpenSpec.upto headerParsesSpec)

/-- 'boulterlaw05.HeaderBuilds', WHERE WHAT IT READS IS OF BULK AT MOST 1048576: true; the input reads as it did. -/
def headerBuildsUptoRow : OpenClaim := { program := "ytidnckcgclfaoaa", sum := "9f0f4afcd33e999dcfde97f001743fe6ca20baf8c3338e948a24a19b6816f7e5", func := "boulter/boulterlaw05.HeaderBuilds", spec := "headerBuilds", inPlace := ["internal/bytealg.IndexByteString", "internal/bytealg.IndexString"], named := ["internal/bytealg.MaxLen"], apart := false, narrowed := true }
def HeaderBuildsUptoSaid : Prop := headerBuildsUptoRow.holds Try.pinned (OpenSpec.upto headerBuildsSpec)

/-- 'boulterlaw05.HeaderOld', WHERE WHAT IT READS IS OF BULK AT MOST 1048576: true; the input reads as it did. -/
def headerOldUptoRow : OpenClaim := { program := "ytidnckcgclfaoaa", sum := "9f0f4afcd33e999dcfde97f001743fe6ca20baf8c3338e948a24a19b6816f7e5", func := "boulter/boulterlaw05.HeaderOld", spec := "headerOld", inPlace := ["internal/bytealg.IndexByteString", "internal/bytealg.IndexString"], named := ["internal/bytealg.MaxLen"], apart := false, narrowed := true }
def HeaderOldUptoSaid : Prop := headerOldUptoRow.holds Try.pinned (OpenSpec.upto headerOldSpec)

end Rows
end Go.Proofs.Ytidnckcgclfaoaa
