/-
  No cell of these rows narrows 'for every input' (looked for: loops, veiled, ifaces, maps, wideKeys, modest, calm, conditions, laid).
  DERIVED. THE GIVEN ROWS OF THIS SEAT. 6 by the template 'for every input the law returns true; each argument reads behind the call as it read before'; 0 by the template 'total and deterministic' (their statements: YtaebcalnodgpnaaTotals.lean).
  GIVEN WITH THE SEED: the statements are not yours to turn. If you find one false, say at which input.
  Laid BY PROGRAM, IN A SANDBOX (cutbox-rows.mjs): the forced cells as the released guide's own fill.sh prints them over the translation aee738c388cf1374… (all of the seat's roots in one cut). By AI agents, Wed Nov 11 2026. No macro, syntax, notation, axiom, sorry.
-/
import Derived.Test.YtaebcalnodgpnaaChecked
import GoSem.Claim
import GoSem.ClaimJoined
import GoSem.ClaimMapViews
import Derived.JoinedTies
import Derived.KernelRfl
namespace Go.Proofs.Ytaebcalnodgpnaa
/- THE CELL 'sum', in the pinned program and in every row, IS THE sha256 OF THE DUMP (.gsa) THAT YtaebcalnodgpnaaProg.lean LOADS. Nothing in Lean hashes anything: it is a label: what it is worth is what the hold of that sum in a sandbox is worth. -/
noncomputable def Try.pinned : Pinned := { name := "ytaebcalnodgpnaa", sum := "aee738c388cf1374f00dfefc306bc74fab49ae6e52fdf7079c869cd3ca6b8784", checked := Try.checked }
namespace Rows
def none {H : Type} : Left H := { results := [], args := [] }

/-- 'haruspexlaw33.TwinRuns': WHATEVER THE INPUT: true; the input reads as it did. -/
def twinRunsSpec : ChangeSpec := { name := "twinRuns", fn := fun _ => fun
  | [d1, d2, d3, d4, d5, d6, d7] => { results := [.lit (.bool true)], args := [d1, d2, d3, d4, d5, d6, d7] }
  | _ => none }
def twinRunsRow : OpenClaim := { program := "ytaebcalnodgpnaa", sum := "aee738c388cf1374f00dfefc306bc74fab49ae6e52fdf7079c869cd3ca6b8784", func := "haruspex/haruspexlaw33.TwinRuns", spec := "twinRuns", unfollowed := true, recurses := true, apart := false }
def TwinRunsSaid : Prop := twinRunsRow.holds Try.pinned (OpenSpec.ofChange twinRunsSpec)

/-- ITS FALSE NEIGHBOUR: 'it returns false'. Refute it at one input. -/
def twinRunsWrong : ChangeSpec := { name := "twinRuns", fn := fun _ => fun
  | [d1, d2, d3, d4, d5, d6, d7] => { results := [.lit (.bool false)], args := [d1, d2, d3, d4, d5, d6, d7] }
  | _ => none }
def TwinRunsWrongFalsely : Prop := twinRunsRow.holds Try.pinned (OpenSpec.ofChange twinRunsWrong)

/-- 'haruspexlaw33.TwinCounters': WHATEVER THE INPUT: true; the input reads as it did. -/
def twinCountersSpec : ChangeSpec := { name := "twinCounters", fn := fun _ => fun
  | [d1, d2, d3, d4] => { results := [.lit (.bool true)], args := [d1, d2, d3, d4] }
  | _ => none }
def twinCountersRow : OpenClaim := { program := "ytaebcalnodgpnaa", sum := "aee738c388cf1374f00dfefc306bc74fab49ae6e52fdf7079c869cd3ca6b8784", func := "haruspex/haruspexlaw33.TwinCounters", spec := "twinCounters", unfollowed := true, recurses := true, apart := false }
def TwinCountersSaid : Prop := twinCountersRow.holds Try.pinned (OpenSpec.ofChange twinCountersSpec)

/-- ITS FALSE NEIGHBOUR: 'it returns false'. Refute it at one input. -/
def twinCountersWrong : ChangeSpec := { name := "twinCounters", fn := fun _ => fun
  | [d1, d2, d3, d4] => { results := [.lit (.bool false)], args := [d1, d2, d3, d4] }
  | _ => none }
def TwinCountersWrongFalsely : Prop := twinCountersRow.holds Try.pinned (OpenSpec.ofChange twinCountersWrong)

/-- 'haruspexlaw33.TwinNets': WHATEVER THE INPUT: true; the input reads as it did. -/
def twinNetsSpec : ChangeSpec := { name := "twinNets", fn := fun _ => fun
  | [d1, d2, d3, d4, d5] => { results := [.lit (.bool true)], args := [d1, d2, d3, d4, d5] }
  | _ => none }
def twinNetsRow : OpenClaim := { program := "ytaebcalnodgpnaa", sum := "aee738c388cf1374f00dfefc306bc74fab49ae6e52fdf7079c869cd3ca6b8784", func := "haruspex/haruspexlaw33.TwinNets", spec := "twinNets", unfollowed := true, recurses := true, apart := false }
def TwinNetsSaid : Prop := twinNetsRow.holds Try.pinned (OpenSpec.ofChange twinNetsSpec)

/-- ITS FALSE NEIGHBOUR: 'it returns false'. Refute it at one input. -/
def twinNetsWrong : ChangeSpec := { name := "twinNets", fn := fun _ => fun
  | [d1, d2, d3, d4, d5] => { results := [.lit (.bool false)], args := [d1, d2, d3, d4, d5] }
  | _ => none }
def TwinNetsWrongFalsely : Prop := twinNetsRow.holds Try.pinned (OpenSpec.ofChange twinNetsWrong)

/-- 'haruspexlaw33.TwinKnown': WHATEVER THE INPUT: true; the input reads as it did. -/
def twinKnownSpec : ChangeSpec := { name := "twinKnown", fn := fun _ => fun
  | [] => { results := [.lit (.bool true)], args := [] }
  | _ => none }
def twinKnownRow : OpenClaim := { program := "ytaebcalnodgpnaa", sum := "aee738c388cf1374f00dfefc306bc74fab49ae6e52fdf7079c869cd3ca6b8784", func := "haruspex/haruspexlaw33.TwinKnown", spec := "twinKnown", unfollowed := true, recurses := true, apart := false }
def TwinKnownSaid : Prop := twinKnownRow.holds Try.pinned (OpenSpec.ofChange twinKnownSpec)

/-- ITS FALSE NEIGHBOUR: 'it returns false'. Refute it at one input. -/
def twinKnownWrong : ChangeSpec := { name := "twinKnown", fn := fun _ => fun
  | [] => { results := [.lit (.bool false)], args := [] }
  | _ => none }
def TwinKnownWrongFalsely : Prop := twinKnownRow.holds Try.pinned (OpenSpec.ofChange twinKnownWrong)

/-- 'haruspexlaw33.TwinKnows': WHATEVER THE INPUT: true; the input reads as it did. -/
def twinKnowsSpec : ChangeSpec := { name := "twinKnows", fn := fun _ => fun
  | [d1, d2] => { results := [.lit (.bool true)], args := [d1, d2] }
  | _ => none }
def twinKnowsRow : OpenClaim := { program := "ytaebcalnodgpnaa", sum := "aee738c388cf1374f00dfefc306bc74fab49ae6e52fdf7079c869cd3ca6b8784", func := "haruspex/haruspexlaw33.TwinKnows", spec := "twinKnows", unfollowed := true, recurses := true, apart := false }
def TwinKnowsSaid : Prop := twinKnowsRow.holds Try.pinned (OpenSpec.ofChange twinKnowsSpec)

/-- ITS FALSE NEIGHBOUR: 'it returns false'. Refute it at one input. -/
def twinKnowsWrong : ChangeSpec := { name := "twinKnows", fn := fun _ => fun
  | [d1, d2] => { results := [.lit (.bool false)], args := [d1, d2] }
  | _ => none }
def TwinKnowsWrongFalsely : Prop := twinKnowsRow.holds Try.pinned (OpenSpec.ofChange twinKnowsWrong)

/-- 'haruspexlaw33.TwinSets': WHATEVER THE INPUT: true; the input reads as it did. -/
def twinSetsSpec : ChangeSpec := { name := "twinSets", fn := fun _ => fun
  | [d1, d2, d3] => { results := [.lit (.bool true)], args := [d1, d2, d3] }
  | _ => none }
def twinSetsRow : OpenClaim := { program := "ytaebcalnodgpnaa", sum := "aee738c388cf1374f00dfefc306bc74fab49ae6e52fdf7079c869cd3ca6b8784", func := "haruspex/haruspexlaw33.TwinSets", spec := "twinSets", inPlace := ["math/bits.Add64", "math/bits.Sub64"], unfollowed := true, recurses := true, named := ["math/bits.divideError", "math/bits.overflowError"], apart := false }
def TwinSetsSaid : Prop := twinSetsRow.holds Try.pinned (OpenSpec.ofChange twinSetsSpec)

/-- ITS FALSE NEIGHBOUR: 'it returns false'. Refute it at one input. -/
def twinSetsWrong : ChangeSpec := { name := "twinSets", fn := fun _ => fun
  | [d1, d2, d3] => { results := [.lit (.bool false)], args := [d1, d2, d3] }
  | _ => none }
def TwinSetsWrongFalsely : Prop := twinSetsRow.holds Try.pinned (OpenSpec.ofChange twinSetsWrong)

/- THE SECOND FORM. 'bulk': how many values and letters a reading holds, each counted each time it is reached (what is shared counts as often as it is met; a slice's spare places count too). A statement '..UptoSaid' is the law's where the arguments, and the package variables that the reading takes, are together of bulk at most 1048576: NARROWER than '..Said'. Prove '..Said' where nothing that the law and all that it calls make is longer than what came in: it says more and counts as full. Else prove '..UptoSaid'. A law counts once. -/
mutual
def uptoBulk {H : Type} : DataW H → Nat
  | .lit (.string bytes) => bytes.length + 1
  | .lit _ => 1
  | .nil => 1
  | .ptr d => uptoBulk d + 1
  | .slice elems spare => uptoBulkAll elems + uptoBulkAll spare + 1
  | .agg parts => uptoBulkAll parts + 1
  | .iface _ d => uptoBulk d + 1
  | .map entries => uptoBulkEntries entries + 1
  | .held _ => 1
def uptoBulkAll {H : Type} : List (DataW H) → Nat
  | [] => 0
  | d :: r => uptoBulk d + uptoBulkAll r
def uptoBulkEntries {H : Type} : List (Lit × DataW H) → Nat
  | [] => 0
  | x :: r => uptoBulkEntry x + uptoBulkEntries r
def uptoBulkEntry {H : Type} : Lit × DataW H → Nat
  | (.string bytes, d) => bytes.length + uptoBulk d + 1
  | (_, d) => uptoBulk d + 1
 end
def uptoSmall : (H : Type) → List (DataW H) → Bool := fun _ ds => decide (uptoBulkAll ds ≤ 1048576)
def OpenSpec.upto (s : _root_.Go.ChangeSpec) : _root_.Go.OpenSpec := { _root_.Go.OpenSpec.ofChange s with cond := some uptoSmall }

/-- 'haruspexlaw33.TwinRuns', WHERE WHAT IT READS IS OF BULK AT MOST 1048576: true; the input reads as it did. -/
def twinRunsUptoRow : OpenClaim := { program := "ytaebcalnodgpnaa", sum := "aee738c388cf1374f00dfefc306bc74fab49ae6e52fdf7079c869cd3ca6b8784", func := "haruspex/haruspexlaw33.TwinRuns", spec := "twinRuns", unfollowed := true, recurses := true, apart := false, narrowed := true }
def TwinRunsUptoSaid : Prop := twinRunsUptoRow.holds Try.pinned (OpenSpec.upto twinRunsSpec)

/-- 'haruspexlaw33.TwinCounters', WHERE WHAT IT READS IS OF BULK AT MOST 1048576: true; the input reads as it did. -/
def twinCountersUptoRow : OpenClaim := { program := "ytaebcalnodgpnaa", sum := "aee738c388cf1374f00dfefc306bc74fab49ae6e52fdf7079c869cd3ca6b8784", func := "haruspex/haruspexlaw33.TwinCounters", spec := "twinCounters", unfollowed := true, recurses := true, apart := false, narrowed := true }
def TwinCountersUptoSaid : Prop := twinCountersUptoRow.holds Try.pinned (OpenSpec.upto twinCountersSpec)

/-- 'haruspexlaw33.TwinNets', WHERE WHAT IT READS IS OF BULK AT MOST 1048576: true; the input reads as it did. -/
def twinNetsUptoRow : OpenClaim := { program := "ytaebcalnodgpnaa", sum := "aee738c388cf1374f00dfefc306bc74fab49ae6e52fdf7079c869cd3ca6b8784", func := "haruspex/haruspexlaw33.TwinNets", spec := "twinNets", unfollowed := true, recurses := true, apart := false, narrowed := true }
def TwinNetsUptoSaid : Prop := twinNetsUptoRow.holds Try.pinned (OpenSpec.upto twinNetsSpec)

/-- 'haruspexlaw33.TwinKnown', WHERE WHAT IT READS IS OF BULK AT MOST 1048576: true; the input reads as it did. -/
def twinKnownUptoRow : OpenClaim := { program := "ytaebcalnodgpnaa", sum := "aee738c388cf1374f00dfefc306bc74fab49ae6e52fdf7079c869cd3ca6b8784", func := "haruspex/haruspexlaw33.TwinKnown", spec := "twinKnown", unfollowed := true, recurses := true, apart := false, narrowed := true }
def TwinKnownUptoSaid : Prop := twinKnownUptoRow.holds Try.pinned (OpenSpec.upto twinKnownSpec)

/-- 'haruspexlaw33.TwinKnows', WHERE WHAT IT READS IS OF BULK AT MOST 1048576: true; the input reads as it did. -/
def twinKnowsUptoRow : OpenClaim := { program := "ytaebcalnodgpnaa", sum := "aee738c388cf1374f00dfefc306bc74fab49ae6e52fdf7079c869cd3ca6b8784", func := "haruspex/haruspexlaw33.TwinKnows", spec := "twinKnows", unfollowed := true, recurses := true, apart := false, narrowed := true }
def TwinKnowsUptoSaid : Prop := twinKnowsUptoRow.holds Try.pinned (OpenSpec.upto twinKnowsSpec)

/-- 'haruspexlaw33.TwinSets', WHERE WHAT IT READS IS OF BULK AT MOST 1048576: true; the input reads as it did. -/
def twinSetsUptoRow : OpenClaim := { program := "ytaebcalnodgpnaa", sum := "aee738c388cf1374f00dfefc306bc74fab49ae6e52fdf7079c869cd3ca6b8784", func := "haruspex/haruspexlaw33.TwinSets", spec := "twinSets", inPlace := ["math/bits.Add64", "math/bits.Sub64"], unfollowed := true, recurses := true, named := ["math/bits.divideError", "math/bits.overflowError"], apart := false, narrowed := true }
def TwinSetsUptoSaid : Prop := twinSetsUptoRow.holds Try.pinned (OpenSpec.upto twinSetsSpec)

end Rows
end Go.Proofs.Ytaebcalnodgpnaa
