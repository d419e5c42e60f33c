/-
  No cell of these rows narrows 'for every input' (looked for: loops, veiled, ifaces, maps, wideKeys, modest, calm, conditions, laid).
  DERIVED. THE GIVEN ROWS OF THIS SEAT. 6 by the template 'for every input the law returns true; each argument reads behind the call as it read before'; 0 by the template 'total and deterministic' (their statements: YtjddchnjpobmkaaTotals.lean).
  GIVEN WITH THE SEED: the statements are not yours to turn. If you find one false, say at which input.
  Laid BY PROGRAM, IN A SANDBOX (cutbox-rows.mjs): the forced cells as the released guide's own fill.sh prints them over the translation d2ee487cf6bc25ac… (all of the seat's roots in one cut). By AI agents, Wed Nov 11 2026. No macro, syntax, notation, axiom, sorry.
-/
import Derived.Test.YtjddchnjpobmkaaChecked
import GoSem.Claim
import GoSem.ClaimJoined
import GoSem.ClaimMapViews
import Derived.JoinedTies
import Derived.KernelRfl
namespace Go.Proofs.Ytjddchnjpobmkaa
/- THE CELL 'sum', in the pinned program and in every row, IS THE sha256 OF THE DUMP (.gsa) THAT YtjddchnjpobmkaaProg.lean LOADS. Nothing in Lean hashes anything: it is a label: what it is worth is what the hold of that sum in a sandbox is worth. -/
noncomputable def Try.pinned : Pinned := { name := "ytjddchnjpobmkaa", sum := "d2ee487cf6bc25ac6322795a8c169b6636a5297bfef0626f77d540c97dc2a397", checked := Try.checked }
namespace Rows
def none {H : Type} : Left H := { results := [], args := [] }

/-- 'haruspexlaw06.JointDepends': WHATEVER THE INPUT: true; the input reads as it did. -/
def jointDependsSpec : ChangeSpec := { name := "jointDepends", fn := fun _ => fun
  | [d1, d2, d3] => { results := [.lit (.bool true)], args := [d1, d2, d3] }
  | _ => none }
def jointDependsRow : OpenClaim := { program := "ytjddchnjpobmkaa", sum := "d2ee487cf6bc25ac6322795a8c169b6636a5297bfef0626f77d540c97dc2a397", func := "haruspex/haruspexlaw06.JointDepends", spec := "jointDepends", inPlace := ["slices.overlaps[int]"], unfollowed := true, recurses := true, plainKeys := false, apart := false }
def JointDependsSaid : Prop := jointDependsRow.holds Try.pinned (OpenSpec.ofChange jointDependsSpec)

/-- ITS FALSE NEIGHBOUR: 'it returns false'. Refute it at one input. -/
def jointDependsWrong : ChangeSpec := { name := "jointDepends", fn := fun _ => fun
  | [d1, d2, d3] => { results := [.lit (.bool false)], args := [d1, d2, d3] }
  | _ => none }
def JointDependsWrongFalsely : Prop := jointDependsRow.holds Try.pinned (OpenSpec.ofChange jointDependsWrong)

/-- 'haruspexlaw06.JointKnown': WHATEVER THE INPUT: true; the input reads as it did. -/
def jointKnownSpec : ChangeSpec := { name := "jointKnown", fn := fun _ => fun
  | [] => { results := [.lit (.bool true)], args := [] }
  | _ => none }
def jointKnownRow : OpenClaim := { program := "ytjddchnjpobmkaa", sum := "d2ee487cf6bc25ac6322795a8c169b6636a5297bfef0626f77d540c97dc2a397", func := "haruspex/haruspexlaw06.JointKnown", spec := "jointKnown", inPlace := ["slices.overlaps[int]"], unfollowed := true, recurses := true, plainKeys := false, apart := false }
def JointKnownSaid : Prop := jointKnownRow.holds Try.pinned (OpenSpec.ofChange jointKnownSpec)

/-- ITS FALSE NEIGHBOUR: 'it returns false'. Refute it at one input. -/
def jointKnownWrong : ChangeSpec := { name := "jointKnown", fn := fun _ => fun
  | [] => { results := [.lit (.bool false)], args := [] }
  | _ => none }
def JointKnownWrongFalsely : Prop := jointKnownRow.holds Try.pinned (OpenSpec.ofChange jointKnownWrong)

/-- 'haruspexlaw06.JointChain': WHATEVER THE INPUT: true; the input reads as it did. -/
def jointChainSpec : ChangeSpec := { name := "jointChain", fn := fun _ => fun
  | [d1, d2, d3] => { results := [.lit (.bool true)], args := [d1, d2, d3] }
  | _ => none }
def jointChainRow : OpenClaim := { program := "ytjddchnjpobmkaa", sum := "d2ee487cf6bc25ac6322795a8c169b6636a5297bfef0626f77d540c97dc2a397", func := "haruspex/haruspexlaw06.JointChain", spec := "jointChain", inPlace := ["slices.overlaps[int]"], unfollowed := true, recurses := true, plainKeys := false, apart := false }
def JointChainSaid : Prop := jointChainRow.holds Try.pinned (OpenSpec.ofChange jointChainSpec)

/-- ITS FALSE NEIGHBOUR: 'it returns false'. Refute it at one input. -/
def jointChainWrong : ChangeSpec := { name := "jointChain", fn := fun _ => fun
  | [d1, d2, d3] => { results := [.lit (.bool false)], args := [d1, d2, d3] }
  | _ => none }
def JointChainWrongFalsely : Prop := jointChainRow.holds Try.pinned (OpenSpec.ofChange jointChainWrong)

/-- 'haruspexlaw06.JointGreatest': WHATEVER THE INPUT: true; the input reads as it did. -/
def jointGreatestSpec : ChangeSpec := { name := "jointGreatest", fn := fun _ => fun
  | [d1, d2] => { results := [.lit (.bool true)], args := [d1, d2] }
  | _ => none }
def jointGreatestRow : OpenClaim := { program := "ytjddchnjpobmkaa", sum := "d2ee487cf6bc25ac6322795a8c169b6636a5297bfef0626f77d540c97dc2a397", func := "haruspex/haruspexlaw06.JointGreatest", spec := "jointGreatest", inPlace := ["slices.overlaps[int]"], unfollowed := true, recurses := true, plainKeys := false, apart := false }
def JointGreatestSaid : Prop := jointGreatestRow.holds Try.pinned (OpenSpec.ofChange jointGreatestSpec)

/-- ITS FALSE NEIGHBOUR: 'it returns false'. Refute it at one input. -/
def jointGreatestWrong : ChangeSpec := { name := "jointGreatest", fn := fun _ => fun
  | [d1, d2] => { results := [.lit (.bool false)], args := [d1, d2] }
  | _ => none }
def JointGreatestWrongFalsely : Prop := jointGreatestRow.holds Try.pinned (OpenSpec.ofChange jointGreatestWrong)

/-- 'haruspexlaw06.JointOne': WHATEVER THE INPUT: true; the input reads as it did. -/
def jointOneSpec : ChangeSpec := { name := "jointOne", fn := fun _ => fun
  | [d1, d2] => { results := [.lit (.bool true)], args := [d1, d2] }
  | _ => none }
def jointOneRow : OpenClaim := { program := "ytjddchnjpobmkaa", sum := "d2ee487cf6bc25ac6322795a8c169b6636a5297bfef0626f77d540c97dc2a397", func := "haruspex/haruspexlaw06.JointOne", spec := "jointOne", inPlace := ["slices.overlaps[int]", "math/bits.Add64", "math/bits.Sub64"], unfollowed := true, recurses := true, named := ["math/bits.divideError", "math/bits.overflowError"], plainKeys := false, apart := false }
def JointOneSaid : Prop := jointOneRow.holds Try.pinned (OpenSpec.ofChange jointOneSpec)

/-- ITS FALSE NEIGHBOUR: 'it returns false'. Refute it at one input. -/
def jointOneWrong : ChangeSpec := { name := "jointOne", fn := fun _ => fun
  | [d1, d2] => { results := [.lit (.bool false)], args := [d1, d2] }
  | _ => none }
def JointOneWrongFalsely : Prop := jointOneRow.holds Try.pinned (OpenSpec.ofChange jointOneWrong)

/-- 'haruspexlaw06.JointSums': WHATEVER THE INPUT: true; the input reads as it did. -/
def jointSumsSpec : ChangeSpec := { name := "jointSums", fn := fun _ => fun
  | [d1, d2, d3] => { results := [.lit (.bool true)], args := [d1, d2, d3] }
  | _ => none }
def jointSumsRow : OpenClaim := { program := "ytjddchnjpobmkaa", sum := "d2ee487cf6bc25ac6322795a8c169b6636a5297bfef0626f77d540c97dc2a397", func := "haruspex/haruspexlaw06.JointSums", spec := "jointSums", inPlace := ["slices.overlaps[int]"], unfollowed := true, recurses := true, plainKeys := false, apart := false }
def JointSumsSaid : Prop := jointSumsRow.holds Try.pinned (OpenSpec.ofChange jointSumsSpec)

/-- ITS FALSE NEIGHBOUR: 'it returns false'. Refute it at one input. -/
def jointSumsWrong : ChangeSpec := { name := "jointSums", fn := fun _ => fun
  | [d1, d2, d3] => { results := [.lit (.bool false)], args := [d1, d2, d3] }
  | _ => none }
def JointSumsWrongFalsely : Prop := jointSumsRow.holds Try.pinned (OpenSpec.ofChange jointSumsWrong)

/- THE SECOND FORM. 'bulk': how many values and letters a reading holds, each counted each time it is reached (what is shared counts as often as it is met; a slice's spare places count too). A statement '..UptoSaid' is the law's where the arguments, and the package variables that the reading takes, are together of bulk at most 1048576: NARROWER than '..Said'. Prove '..Said' where nothing that the law and all that it calls make is longer than what came in: it says more and counts as full. Else prove '..UptoSaid'. A law counts once. -/
mutual
def uptoBulk {H : Type} : DataW H → Nat
  | .lit (.string bytes) => bytes.length + 1
  | .lit _ => 1
  | .nil => 1
  | .ptr d => uptoBulk d + 1
  | .slice elems spare => uptoBulkAll elems + uptoBulkAll spare + 1
  | .agg parts => uptoBulkAll parts + 1
  | .iface _ d => uptoBulk d + 1
  | .map entries => uptoBulkEntries entries + 1
  | .held _ => 1
def uptoBulkAll {H : Type} : List (DataW H) → Nat
  | [] => 0
  | d :: r => uptoBulk d + uptoBulkAll r
def uptoBulkEntries {H : Type} : List (Lit × DataW H) → Nat
  | [] => 0
  | x :: r => uptoBulkEntry x + uptoBulkEntries r
def uptoBulkEntry {H : Type} : Lit × DataW H → Nat
  | (.string bytes, d) => bytes.length + uptoBulk d + 1
  | (_, d) => uptoBulk d + 1
 end
def uptoSmall : (H : Type) → List (DataW H) → Bool := fun _ ds => decide (uptoBulkAll ds ≤ 1048576)
def OpenSpec.upto (s : _root_.Go.ChangeSpec) : _root_.Go.OpenSpec := { _root_.Go.OpenSpec.ofChange s with cond := some uptoSmall }

/-- 'haruspexlaw06.JointDepends', WHERE WHAT IT READS IS OF BULK AT MOST 1048576: true; the input reads as it did. -/
def jointDependsUptoRow : OpenClaim := { program := "ytjddchnjpobmkaa", sum := "d2ee487cf6bc25ac6322795a8c169b6636a5297bfef0626f77d540c97dc2a397", func := "haruspex/haruspexlaw06.JointDepends", spec := "jointDepends", inPlace := ["slices.overlaps[int]"], unfollowed := true, recurses := true, plainKeys := false, apart := false, narrowed := true }
def JointDependsUptoSaid : Prop := jointDependsUptoRow.holds Try.pinned (OpenSpec.upto jointDependsSpec)

/-- 'haruspexlaw06.JointKnown', WHERE WHAT IT READS IS OF BULK AT MOST 1048576: true; the input reads as it did. -/
def jointKnownUptoRow : OpenClaim := { program := "ytjddchnjpobmkaa", sum := "d2ee487cf6bc25ac6322795a8c169b6636a5297bfef0626f77d540c97dc2a397", func := "haruspex/haruspexlaw06.JointKnown", spec := "jointKnown", inPlace := ["slices.overlaps[int]"], unfollowed := true, recurses := true, plainKeys := false, apart := false, narrowed := true }
def JointKnownUptoSaid : Prop := jointKnownUptoRow.holds Try.pinned (OpenSpec.upto jointKnownSpec)

/-- 'haruspexlaw06.JointChain', WHERE WHAT IT READS IS OF BULK AT MOST 1048576: true; the input reads as it did. -/
def jointChainUptoRow : OpenClaim := { program := "ytjddchnjpobmkaa", sum := "d2ee487cf6bc25ac6322795a8c169b6636a5297bfef0626f77d540c97dc2a397", func := "haruspex/haruspexlaw06.JointChain", spec := "jointChain", inPlace := ["slices.overlaps[int]"], unfollowed := true, recurses := true, plainKeys := false, apart := false, narrowed := true }
def JointChainUptoSaid : Prop := jointChainUptoRow.holds Try.pinned (OpenSpec.upto jointChainSpec)

/-- 'haruspexlaw06.JointGreatest', WHERE WHAT IT READS IS OF BULK AT MOST 1048576: true; the input reads as it did. -/
def jointGreatestUptoRow : OpenClaim := { program := "ytjddchnjpobmkaa", sum := "d2ee487cf6bc25ac6322795a8c169b6636a5297bfef0626f77d540c97dc2a397", func := "haruspex/haruspexlaw06.JointGreatest", spec := "jointGreatest", inPlace := ["slices.overlaps[int]"], unfollowed := true, recurses := true, plainKeys := false, apart := false, narrowed := true }
def JointGreatestUptoSaid : Prop := jointGreatestUptoRow.holds Try.pinned (OpenSpec.upto jointGreatestSpec)

/-- 'haruspexlaw06.JointOne', WHERE WHAT IT READS IS OF BULK AT MOST 1048576: true; the input reads as it did. -/
def jointOneUptoRow : OpenClaim := { program := "ytjddchnjpobmkaa", sum := "d2ee487cf6bc25ac6322795a8c169b6636a5297bfef0626f77d540c97dc2a397", func := "haruspex/haruspexlaw06.JointOne", spec := "jointOne", inPlace := ["slices.overlaps[int]", "math/bits.Add64", "math/bits.Sub64"], unfollowed := true, recurses := true, named := ["math/bits.divideError", "math/bits.overflowError"], plainKeys := false, apart := false, narrowed := true }
def JointOneUptoSaid : Prop := jointOneUptoRow.holds Try.pinned (OpenSpec.upto jointOneSpec)

/-- 'haruspexlaw06.JointSums', WHERE WHAT IT READS IS OF BULK AT MOST 1048576: true; the input reads as it did. -/
def jointSumsUptoRow : OpenClaim := { program := "ytjddchnjpobmkaa", sum := "d2ee487cf6bc25ac6322795a8c169b6636a5297bfef0626f77d540c97dc2a397", func := "haruspex/haruspexlaw06.JointSums", spec := "jointSums", inPlace := ["slices.overlaps[int]"], unfollowed := true, recurses := true, plainKeys := false, apart := false, narrowed := true }
def JointSumsUptoSaid : Prop := jointSumsUptoRow.holds Try.pinned (OpenSpec.upto jointSumsSpec)

end Rows
end Go.Proofs.Ytjddchnjpobmkaa
