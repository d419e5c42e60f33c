/-
  No cell of these rows narrows 'for every input' (looked for: loops, veiled, ifaces, maps, wideKeys, modest, calm, conditions, laid).
  DERIVED. THE GIVEN ROWS OF THIS SEAT. 3 by the template 'for every input the law returns true; each argument reads behind the call as it read before'; 0 by the template 'total and deterministic' (their statements: YtjddchnjpobmkaaGreatTotals.lean).
  GIVEN WITH THE SEED: the statements are not yours to turn. If you find one false, say at which input.
  Laid BY PROGRAM, IN A SANDBOX (cutbox-rows.mjs): the forced cells as the released guide's own fill.sh prints them over the translation 0499f530f866573b… (all of the seat's roots in one cut). By AI agents, Wed Nov 11 2026. No macro, syntax, notation, axiom, sorry.
-/
import Derived.Test.YtjddchnjpobmkaaGreatChecked
import GoSem.Claim
import GoSem.ClaimJoined
import GoSem.ClaimMapViews
import Derived.JoinedTies
import Derived.KernelRfl
namespace Go.Proofs.YtjddchnjpobmkaaGreat
/- THE CELL 'sum', in the pinned program and in every row, IS THE sha256 OF THE DUMP (.gsa) THAT YtjddchnjpobmkaaGreatProg.lean LOADS. Nothing in Lean hashes anything: it is a label: what it is worth is what the hold of that sum in a sandbox is worth. -/
noncomputable def Tryz.pinned : Pinned := { name := "ytjddchnjpobmkaagreat", sum := "0499f530f866573bfb3163a3cccb9ae436d0d7d2333b4bdf59ef654f2085dd1d", checked := Tryz.checked }
namespace Rows
def none {H : Type} : Left H := { results := [], args := [] }

/-- 'haruspexlaw06.JointMasses': WHATEVER THE INPUT: true; the input reads as it did. -/
def jointMassesSpec : ChangeSpec := { name := "jointMasses", fn := fun _ => fun
  | [d1, d2, d3, d4, d5] => { results := [.lit (.bool true)], args := [d1, d2, d3, d4, d5] }
  | _ => none }
def jointMassesRow : OpenClaim := { program := "ytjddchnjpobmkaagreat", sum := "0499f530f866573bfb3163a3cccb9ae436d0d7d2333b4bdf59ef654f2085dd1d", func := "haruspex/haruspexlaw06.JointMasses", spec := "jointMasses", inPlace := ["slices.overlaps[int]"], unfollowed := true, recurses := true, plainKeys := false, apart := false }
def JointMassesSaid : Prop := jointMassesRow.holds Tryz.pinned (OpenSpec.ofChange jointMassesSpec)

/-- ITS FALSE NEIGHBOUR: 'it returns false'. Refute it at one input. -/
def jointMassesWrong : ChangeSpec := { name := "jointMasses", fn := fun _ => fun
  | [d1, d2, d3, d4, d5] => { results := [.lit (.bool false)], args := [d1, d2, d3, d4, d5] }
  | _ => none }
def JointMassesWrongFalsely : Prop := jointMassesRow.holds Tryz.pinned (OpenSpec.ofChange jointMassesWrong)

/-- 'haruspexlaw06.JointTables': WHATEVER THE INPUT: true; the input reads as it did. -/
def jointTablesSpec : ChangeSpec := { name := "jointTables", fn := fun _ => fun
  | [d1, d2, d3, d4, d5, d6] => { results := [.lit (.bool true)], args := [d1, d2, d3, d4, d5, d6] }
  | _ => none }
def jointTablesRow : OpenClaim := { program := "ytjddchnjpobmkaagreat", sum := "0499f530f866573bfb3163a3cccb9ae436d0d7d2333b4bdf59ef654f2085dd1d", func := "haruspex/haruspexlaw06.JointTables", spec := "jointTables", inPlace := ["slices.overlaps[int]"], unfollowed := true, recurses := true, plainKeys := false, apart := false }
def JointTablesSaid : Prop := jointTablesRow.holds Tryz.pinned (OpenSpec.ofChange jointTablesSpec)

/-- ITS FALSE NEIGHBOUR: 'it returns false'. Refute it at one input. -/
def jointTablesWrong : ChangeSpec := { name := "jointTables", fn := fun _ => fun
  | [d1, d2, d3, d4, d5, d6] => { results := [.lit (.bool false)], args := [d1, d2, d3, d4, d5, d6] }
  | _ => none }
def JointTablesWrongFalsely : Prop := jointTablesRow.holds Tryz.pinned (OpenSpec.ofChange jointTablesWrong)

/-- 'haruspexlaw06.JointPosteriors': WHATEVER THE INPUT: true; the input reads as it did. -/
def jointPosteriorsSpec : ChangeSpec := { name := "jointPosteriors", fn := fun _ => fun
  | [d1, d2, d3, d4, d5, d6] => { results := [.lit (.bool true)], args := [d1, d2, d3, d4, d5, d6] }
  | _ => none }
def jointPosteriorsRow : OpenClaim := { program := "ytjddchnjpobmkaagreat", sum := "0499f530f866573bfb3163a3cccb9ae436d0d7d2333b4bdf59ef654f2085dd1d", func := "haruspex/haruspexlaw06.JointPosteriors", spec := "jointPosteriors", inPlace := ["slices.overlaps[int]"], unfollowed := true, recurses := true, plainKeys := false, apart := false }
def JointPosteriorsSaid : Prop := jointPosteriorsRow.holds Tryz.pinned (OpenSpec.ofChange jointPosteriorsSpec)

/-- ITS FALSE NEIGHBOUR: 'it returns false'. Refute it at one input. -/
def jointPosteriorsWrong : ChangeSpec := { name := "jointPosteriors", fn := fun _ => fun
  | [d1, d2, d3, d4, d5, d6] => { results := [.lit (.bool false)], args := [d1, d2, d3, d4, d5, d6] }
  | _ => none }
def JointPosteriorsWrongFalsely : Prop := jointPosteriorsRow.holds Tryz.pinned (OpenSpec.ofChange jointPosteriorsWrong)

/- THE SECOND FORM. 'bulk': how many values and letters a reading holds, each counted each time it is reached (what is shared counts as often as it is met; a slice's spare places count too). A statement '..UptoSaid' is the law's where the arguments, and the package variables that the reading takes, are together of bulk at most 1048576: NARROWER than '..Said'. Prove '..Said' where nothing that the law and all that it calls make is longer than what came in: it says more and counts as full. Else prove '..UptoSaid'. A law counts once. -/
mutual
def uptoBulk {H : Type} : DataW H → Nat
  | .lit (.string bytes) => bytes.length + 1
  | .lit _ => 1
  | .nil => 1
  | .ptr d => uptoBulk d + 1
  | .slice elems spare => uptoBulkAll elems + uptoBulkAll spare + 1
  | .agg parts => uptoBulkAll parts + 1
  | .iface _ d => uptoBulk d + 1
  | .map entries => uptoBulkEntries entries + 1
  | .held _ => 1
def uptoBulkAll {H : Type} : List (DataW H) → Nat
  | [] => 0
  | d :: r => uptoBulk d + uptoBulkAll r
def uptoBulkEntries {H : Type} : List (Lit × DataW H) → Nat
  | [] => 0
  | x :: r => uptoBulkEntry x + uptoBulkEntries r
def uptoBulkEntry {H : Type} : Lit × DataW H → Nat
  | (.string bytes, d) => bytes.length + uptoBulk d + 1
  | (_, d) => uptoBulk d + 1
 end
def uptoSmall : (H : Type) → List (DataW H) → Bool := fun _ ds => decide (uptoBulkAll ds ≤ 1048576)
def OpenSpec.upto (s : _root_.Go.ChangeSpec) : _root_.Go.OpenSpec := { _root_.Go.OpenSpec.ofChange s with cond := some uptoSmall }

/-- 'haruspexlaw06.JointMasses', WHERE WHAT IT READS IS OF BULK AT MOST 1048576: true; the input reads as it did. -/
def jointMassesUptoRow : OpenClaim := { program := "ytjddchnjpobmkaagreat", sum := "0499f530f866573bfb3163a3cccb9ae436d0d7d2333b4bdf59ef654f2085dd1d", func := "haruspex/haruspexlaw06.JointMasses", spec := "jointMasses", inPlace := ["slices.overlaps[int]"], unfollowed := true, recurses := true, plainKeys := false, apart := false, narrowed := true }
def JointMassesUptoSaid : Prop := jointMassesUptoRow.holds Tryz.pinned (OpenSpec.upto jointMassesSpec)

/-- 'haruspexlaw06.JointTables', WHERE WHAT IT READS IS OF BULK AT MOST 1048576: true; the input reads as it did. -/
def jointTablesUptoRow : OpenClaim := { program := "ytjddchnjpobmkaagreat", sum := "0499f530f866573bfb3163a3cccb9ae436d0d7d2333b4bdf59ef654f2085dd1d", func := "haruspex/haruspexlaw06.JointTables", spec := "jointTables", inPlace := ["slices.overlaps[int]"], unfollowed := true, recurses := true, plainKeys := false, apart := false, narrowed := true }
def JointTablesUptoSaid : Prop := jointTablesUptoRow.holds Tryz.pinned (OpenSpec.upto jointTablesSpec)

/-- 'haruspexlaw06.JointPosteriors', WHERE WHAT IT READS IS OF BULK AT MOST 1048576: true; the input reads as it did. -/
def jointPosteriorsUptoRow : OpenClaim := { program := "ytjddchnjpobmkaagreat", sum := "0499f530f866573bfb3163a3cccb9ae436d0d7d2333b4bdf59ef654f2085dd1d", func := "haruspex/haruspexlaw06.JointPosteriors", spec := "jointPosteriors", inPlace := ["slices.overlaps[int]"], unfollowed := true, recurses := true, plainKeys := false, apart := false, narrowed := true }
def JointPosteriorsUptoSaid : Prop := jointPosteriorsUptoRow.holds Tryz.pinned (OpenSpec.upto jointPosteriorsSpec)

end Rows
end Go.Proofs.YtjddchnjpobmkaaGreat
