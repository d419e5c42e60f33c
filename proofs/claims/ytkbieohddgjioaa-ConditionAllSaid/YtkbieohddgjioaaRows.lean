/-
  No cell of these rows narrows 'for every input' (looked for: loops, veiled, ifaces, maps, wideKeys, modest, calm, conditions, laid).
  DERIVED. THE GIVEN ROWS OF THIS SEAT. 4 by the template 'for every input the law returns true; each argument reads behind the call as it read before'; 0 by the template 'total and deterministic' (their statements: YtkbieohddgjioaaTotals.lean).
  GIVEN WITH THE SEED: the statements are not yours to turn. If you find one false, say at which input.
  Laid BY PROGRAM, IN A SANDBOX (cutbox-rows.mjs): the forced cells as the released guide's own fill.sh prints them over the translation 80a884582b20a1f6… (all of the seat's roots in one cut). By AI agents, Wed Nov 11 2026. No macro, syntax, notation, axiom, sorry.
-/
import Derived.Test.YtkbieohddgjioaaChecked
import GoSem.Claim
import GoSem.ClaimJoined
import GoSem.ClaimMapViews
import Derived.JoinedTies
import Derived.KernelRfl
namespace Go.Proofs.Ytkbieohddgjioaa
/- THE CELL 'sum', in the pinned program and in every row, IS THE sha256 OF THE DUMP (.gsa) THAT YtkbieohddgjioaaProg.lean LOADS. Nothing in Lean hashes anything: it is a label: what it is worth is what the hold of that sum in a sandbox is worth. -/
noncomputable def Try.pinned : Pinned := { name := "ytkbieohddgjioaa", sum := "80a884582b20a1f6f9c46ea54fc6b7f8b1aed17928cdfd6a6c4cd5f0ac7c284e", checked := Try.checked }
namespace Rows
def none {H : Type} : Left H := { results := [], args := [] }

/-- 'haruspexlaw13.ConditionChecks': WHATEVER THE INPUT: true; the input reads as it did. -/
def conditionChecksSpec : ChangeSpec := { name := "conditionChecks", fn := fun _ => fun
  | [d1, d2, d3, d4, d5, d6] => { results := [.lit (.bool true)], args := [d1, d2, d3, d4, d5, d6] }
  | _ => none }
def conditionChecksRow : OpenClaim := { program := "ytkbieohddgjioaa", sum := "80a884582b20a1f6f9c46ea54fc6b7f8b1aed17928cdfd6a6c4cd5f0ac7c284e", func := "haruspex/haruspexlaw13.ConditionChecks", spec := "conditionChecks", unfollowed := true, recurses := true, plainKeys := false, apart := false }
def ConditionChecksSaid : Prop := conditionChecksRow.holds Try.pinned (OpenSpec.ofChange conditionChecksSpec)

/-- ITS FALSE NEIGHBOUR: 'it returns false'. Refute it at one input. -/
def conditionChecksWrong : ChangeSpec := { name := "conditionChecks", fn := fun _ => fun
  | [d1, d2, d3, d4, d5, d6] => { results := [.lit (.bool false)], args := [d1, d2, d3, d4, d5, d6] }
  | _ => none }
def ConditionChecksWrongFalsely : Prop := conditionChecksRow.holds Try.pinned (OpenSpec.ofChange conditionChecksWrong)

/-- 'haruspexlaw13.ConditionLists': WHATEVER THE INPUT: true; the input reads as it did. -/
def conditionListsSpec : ChangeSpec := { name := "conditionLists", fn := fun _ => fun
  | [d1, d2, d3, d4] => { results := [.lit (.bool true)], args := [d1, d2, d3, d4] }
  | _ => none }
def conditionListsRow : OpenClaim := { program := "ytkbieohddgjioaa", sum := "80a884582b20a1f6f9c46ea54fc6b7f8b1aed17928cdfd6a6c4cd5f0ac7c284e", func := "haruspex/haruspexlaw13.ConditionLists", spec := "conditionLists", unfollowed := true, recurses := true, plainKeys := false, apart := false }
def ConditionListsSaid : Prop := conditionListsRow.holds Try.pinned (OpenSpec.ofChange conditionListsSpec)

/-- ITS FALSE NEIGHBOUR: 'it returns false'. Refute it at one input. -/
def conditionListsWrong : ChangeSpec := { name := "conditionLists", fn := fun _ => fun
  | [d1, d2, d3, d4] => { results := [.lit (.bool false)], args := [d1, d2, d3, d4] }
  | _ => none }
def ConditionListsWrongFalsely : Prop := conditionListsRow.holds Try.pinned (OpenSpec.ofChange conditionListsWrong)

/-- 'haruspexlaw13.ConditionAll': WHATEVER THE INPUT: true; the input reads as it did. -/
def conditionAllSpec : ChangeSpec := { name := "conditionAll", fn := fun _ => fun
  | [d1, d2, d3, d4] => { results := [.lit (.bool true)], args := [d1, d2, d3, d4] }
  | _ => none }
def conditionAllRow : OpenClaim := { program := "ytkbieohddgjioaa", sum := "80a884582b20a1f6f9c46ea54fc6b7f8b1aed17928cdfd6a6c4cd5f0ac7c284e", func := "haruspex/haruspexlaw13.ConditionAll", spec := "conditionAll", unfollowed := true, recurses := true, plainKeys := false, apart := false }
def ConditionAllSaid : Prop := conditionAllRow.holds Try.pinned (OpenSpec.ofChange conditionAllSpec)

/-- ITS FALSE NEIGHBOUR: 'it returns false'. Refute it at one input. -/
def conditionAllWrong : ChangeSpec := { name := "conditionAll", fn := fun _ => fun
  | [d1, d2, d3, d4] => { results := [.lit (.bool false)], args := [d1, d2, d3, d4] }
  | _ => none }
def ConditionAllWrongFalsely : Prop := conditionAllRow.holds Try.pinned (OpenSpec.ofChange conditionAllWrong)

/-- 'haruspexlaw13.ConditionKnown': WHATEVER THE INPUT: true; the input reads as it did. -/
def conditionKnownSpec : ChangeSpec := { name := "conditionKnown", fn := fun _ => fun
  | [] => { results := [.lit (.bool true)], args := [] }
  | _ => none }
def conditionKnownRow : OpenClaim := { program := "ytkbieohddgjioaa", sum := "80a884582b20a1f6f9c46ea54fc6b7f8b1aed17928cdfd6a6c4cd5f0ac7c284e", func := "haruspex/haruspexlaw13.ConditionKnown", spec := "conditionKnown", unfollowed := true, recurses := true, plainKeys := false, apart := false }
def ConditionKnownSaid : Prop := conditionKnownRow.holds Try.pinned (OpenSpec.ofChange conditionKnownSpec)

/-- ITS FALSE NEIGHBOUR: 'it returns false'. Refute it at one input. -/
def conditionKnownWrong : ChangeSpec := { name := "conditionKnown", fn := fun _ => fun
  | [] => { results := [.lit (.bool false)], args := [] }
  | _ => none }
def ConditionKnownWrongFalsely : Prop := conditionKnownRow.holds Try.pinned (OpenSpec.ofChange conditionKnownWrong)

/- THE SECOND FORM. 'bulk': how many values and letters a reading holds, each counted each time it is reached (what is shared counts as often as it is met; a slice's spare places count too). A statement '..UptoSaid' is the law's where the arguments, and the package variables that the reading takes, are together of bulk at most 1048576: NARROWER than '..Said'. Prove '..Said' where nothing that the law and all that it calls make is longer than what came in: it says more and counts as full. Else prove '..UptoSaid'. A law counts once. -/
mutual
def uptoBulk {H : Type} : DataW H → Nat
  | .lit (.string bytes) => bytes.length + 1
  | .lit _ => 1
  | .nil => 1
  | .ptr d => uptoBulk d + 1
  | .slice elems spare => uptoBulkAll elems + uptoBulkAll spare + 1
  | .agg parts => uptoBulkAll parts + 1
  | .iface _ d => uptoBulk d + 1
  | .map entries => uptoBulkEntries entries + 1
  | .held _ => 1
def uptoBulkAll {H : Type} : List (DataW H) → Nat
  | [] => 0
  | d :: r => uptoBulk d + uptoBulkAll r
def uptoBulkEntries {H : Type} : List (Lit × DataW H) → Nat
  | [] => 0
  | x :: r => uptoBulkEntry x + uptoBulkEntries r
def uptoBulkEntry {H : Type} : Lit × DataW H → Nat
  | (.string bytes, d) => bytes.length + uptoBulk d + 1
  | (_, d) => uptoBulk d + 1
 end
def uptoSmall : (H : Type) → List (DataW H) → Bool := fun _ ds => decide (uptoBulkAll ds ≤ 1048576)
def OpenSpec.upto (s : _root_.Go.ChangeSpec) : _root_.Go.OpenSpec := { _root_.Go.OpenSpec.ofChange s with cond := some uptoSmall }

/-- 'haruspexlaw13.ConditionChecks', WHERE WHAT IT READS IS OF BULK AT MOST 1048576: true; the input reads as it did. -/
def conditionChecksUptoRow : OpenClaim := { program := "ytkbieohddgjioaa", sum := "80a884582b20a1f6f9c46ea54fc6b7f8b1aed17928cdfd6a6c4cd5f0ac7c284e", func := "haruspex/haruspexlaw13.ConditionChecks", spec := "conditionChecks", unfollowed := true, recurses := true, plainKeys := false, apart := false, narrowed := true }
def ConditionChecksUptoSaid : Prop := conditionChecksUptoRow.holds Try.pinned (OpenSpec.upto conditionChecksSpec)

/-- 'haruspexlaw13.ConditionLists', WHERE WHAT IT READS IS OF BULK AT MOST 1048576: true; the input reads as it did. -/
def conditionListsUptoRow : OpenClaim := { program := "ytkbieohddgjioaa", sum := "80a884582b20a1f6f9c46ea54fc6b7f8b1aed17928cdfd6a6c4cd5f0ac7c284e", func := "haruspex/haruspexlaw13.ConditionLists", spec := "conditionLists", unfollowed := true, recurses := true, plainKeys := false, apart := false, narrowed := true }
def ConditionListsUptoSaid : Prop := conditionListsUptoRow.holds Try.pinned (OpenSpec.upto conditionListsSpec)

/-- 'haruspexlaw13.ConditionAll', WHERE WHAT IT READS IS OF BULK AT MOST 1048576: true; the input reads as it did. -/
def conditionAllUptoRow : OpenClaim := { program := "ytkbieohddgjioaa", sum := "80a884582b20a1f6f9c46ea54fc6b7f8b1aed17928cdfd6a6c4cd5f0ac7c284e", func := "haruspex/haruspexlaw13.ConditionAll", spec := "conditionAll", unfollowed := true, recurses := true, plainKeys := false, apart := false, narrowed := true }
def ConditionAllUptoSaid : Prop := conditionAllUptoRow.holds Try.pinned (OpenSpec.upto conditionAllSpec)

/-- 'haruspexlaw13.ConditionKnown', WHERE WHAT IT READS IS OF BULK AT MOST 1048576: true; the input reads as it did. -/
def conditionKnownUptoRow : OpenClaim := { program := "ytkbieohddgjioaa", sum := "80a884582b20a1f6f9c46ea54fc6b7f8b1aed17928cdfd6a6c4cd5f0ac7c284e", func := "haruspex/haruspexlaw13.ConditionKnown", spec := "conditionKnown", unfollowed := true, recurses := true, plainKeys := false, apart := false, narrowed := true }
def ConditionKnownUptoSaid : Prop := conditionKnownUptoRow.holds Try.pinned (OpenSpec.upto conditionKnownSpec)

end Rows
end Go.Proofs.Ytkbieohddgjioaa
