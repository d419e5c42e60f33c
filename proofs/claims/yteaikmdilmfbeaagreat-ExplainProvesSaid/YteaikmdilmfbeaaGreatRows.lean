/-
  No cell of these rows narrows 'for every input' (looked for: loops, veiled, ifaces, maps, wideKeys, modest, calm, conditions, laid).
  DERIVED. THE GIVEN ROWS OF THIS SEAT. 9 by the template 'for every input the law returns true; each argument reads behind the call as it read before'; 0 by the template 'total and deterministic' (their statements: YteaikmdilmfbeaaGreatTotals.lean).
  GIVEN WITH THE SEED: the statements are not yours to turn. If you find one false, say at which input.
  Laid BY PROGRAM, IN A SANDBOX (cutbox-rows.mjs): the forced cells as the released guide's own fill.sh prints them over the translation e41115d02a40c50f… (all of the seat's roots in one cut). By AI agents, Wed Nov 11 2026. No macro, syntax, notation, axiom, sorry.
-/
import Derived.Test.YteaikmdilmfbeaaGreatChecked
import GoSem.Claim
import GoSem.ClaimJoined
import GoSem.ClaimMapViews
import Derived.JoinedTies
import Derived.KernelRfl
namespace Go.Proofs.YteaikmdilmfbeaaGreat
/- THE CELL 'sum', in the pinned program and in every row, IS THE sha256 OF THE DUMP (.gsa) THAT YteaikmdilmfbeaaGreatProg.lean LOADS. Nothing in Lean hashes anything: it is a label: what it is worth is what the hold of that sum in a sandbox is worth. -/
noncomputable def Tryz.pinned : Pinned := { name := "yteaikmdilmfbeaagreat", sum := "e41115d02a40c50fba95da56d69bf16aec4d1b2a9a1ace066499883488ae0b3c", checked := Tryz.checked }
namespace Rows
def none {H : Type} : Left H := { results := [], args := [] }

/-- 'haruspexlaw19.ExplainMaps': WHATEVER THE INPUT: true; the input reads as it did. -/
def explainMapsSpec : ChangeSpec := { name := "explainMaps", fn := fun _ => fun
  | [d1, d2, d3] => { results := [.lit (.bool true)], args := [d1, d2, d3] }
  | _ => none }
def explainMapsRow : OpenClaim := { program := "yteaikmdilmfbeaagreat", sum := "e41115d02a40c50fba95da56d69bf16aec4d1b2a9a1ace066499883488ae0b3c", func := "haruspex/haruspexlaw19.ExplainMaps", spec := "explainMaps", unfollowed := true, recurses := true, apart := false }
def ExplainMapsSaid : Prop := explainMapsRow.holds Tryz.pinned (OpenSpec.ofChange explainMapsSpec)

/-- ITS FALSE NEIGHBOUR: 'it returns false'. Refute it at one input. -/
def explainMapsWrong : ChangeSpec := { name := "explainMaps", fn := fun _ => fun
  | [d1, d2, d3] => { results := [.lit (.bool false)], args := [d1, d2, d3] }
  | _ => none }
def ExplainMapsWrongFalsely : Prop := explainMapsRow.holds Tryz.pinned (OpenSpec.ofChange explainMapsWrong)

/-- 'haruspexlaw19.ExplainBounds': WHATEVER THE INPUT: true; the input reads as it did. -/
def explainBoundsSpec : ChangeSpec := { name := "explainBounds", fn := fun _ => fun
  | [d1, d2, d3, d4, d5] => { results := [.lit (.bool true)], args := [d1, d2, d3, d4, d5] }
  | _ => none }
def explainBoundsRow : OpenClaim := { program := "yteaikmdilmfbeaagreat", sum := "e41115d02a40c50fba95da56d69bf16aec4d1b2a9a1ace066499883488ae0b3c", func := "haruspex/haruspexlaw19.ExplainBounds", spec := "explainBounds", unfollowed := true, recurses := true, apart := false }
def ExplainBoundsSaid : Prop := explainBoundsRow.holds Tryz.pinned (OpenSpec.ofChange explainBoundsSpec)

/-- ITS FALSE NEIGHBOUR: 'it returns false'. Refute it at one input. -/
def explainBoundsWrong : ChangeSpec := { name := "explainBounds", fn := fun _ => fun
  | [d1, d2, d3, d4, d5] => { results := [.lit (.bool false)], args := [d1, d2, d3, d4, d5] }
  | _ => none }
def ExplainBoundsWrongFalsely : Prop := explainBoundsRow.holds Tryz.pinned (OpenSpec.ofChange explainBoundsWrong)

/-- 'haruspexlaw19.ExplainProves': WHATEVER THE INPUT: true; the input reads as it did. -/
def explainProvesSpec : ChangeSpec := { name := "explainProves", fn := fun _ => fun
  | [d1, d2, d3, d4, d5, d6, d7] => { results := [.lit (.bool true)], args := [d1, d2, d3, d4, d5, d6, d7] }
  | _ => none }
def explainProvesRow : OpenClaim := { program := "yteaikmdilmfbeaagreat", sum := "e41115d02a40c50fba95da56d69bf16aec4d1b2a9a1ace066499883488ae0b3c", func := "haruspex/haruspexlaw19.ExplainProves", spec := "explainProves", unfollowed := true, recurses := true, apart := false }
def ExplainProvesSaid : Prop := explainProvesRow.holds Tryz.pinned (OpenSpec.ofChange explainProvesSpec)

/-- ITS FALSE NEIGHBOUR: 'it returns false'. Refute it at one input. -/
def explainProvesWrong : ChangeSpec := { name := "explainProves", fn := fun _ => fun
  | [d1, d2, d3, d4, d5, d6, d7] => { results := [.lit (.bool false)], args := [d1, d2, d3, d4, d5, d6, d7] }
  | _ => none }
def ExplainProvesWrongFalsely : Prop := explainProvesRow.holds Tryz.pinned (OpenSpec.ofChange explainProvesWrong)

/-- 'haruspexlaw19.ExplainWorlds': WHATEVER THE INPUT: true; the input reads as it did. -/
def explainWorldsSpec : ChangeSpec := { name := "explainWorlds", fn := fun _ => fun
  | [d1, d2, d3, d4] => { results := [.lit (.bool true)], args := [d1, d2, d3, d4] }
  | _ => none }
def explainWorldsRow : OpenClaim := { program := "yteaikmdilmfbeaagreat", sum := "e41115d02a40c50fba95da56d69bf16aec4d1b2a9a1ace066499883488ae0b3c", func := "haruspex/haruspexlaw19.ExplainWorlds", spec := "explainWorlds", unfollowed := true, recurses := true, apart := false }
def ExplainWorldsSaid : Prop := explainWorldsRow.holds Tryz.pinned (OpenSpec.ofChange explainWorldsSpec)

/-- ITS FALSE NEIGHBOUR: 'it returns false'. Refute it at one input. -/
def explainWorldsWrong : ChangeSpec := { name := "explainWorlds", fn := fun _ => fun
  | [d1, d2, d3, d4] => { results := [.lit (.bool false)], args := [d1, d2, d3, d4] }
  | _ => none }
def ExplainWorldsWrongFalsely : Prop := explainWorldsRow.holds Tryz.pinned (OpenSpec.ofChange explainWorldsWrong)

/-- 'haruspexlaw19.ExplainSound': WHATEVER THE INPUT: true; the input reads as it did. -/
def explainSoundSpec : ChangeSpec := { name := "explainSound", fn := fun _ => fun
  | [d1, d2, d3, d4, d5] => { results := [.lit (.bool true)], args := [d1, d2, d3, d4, d5] }
  | _ => none }
def explainSoundRow : OpenClaim := { program := "yteaikmdilmfbeaagreat", sum := "e41115d02a40c50fba95da56d69bf16aec4d1b2a9a1ace066499883488ae0b3c", func := "haruspex/haruspexlaw19.ExplainSound", spec := "explainSound", unfollowed := true, recurses := true, apart := false }
def ExplainSoundSaid : Prop := explainSoundRow.holds Tryz.pinned (OpenSpec.ofChange explainSoundSpec)

/-- ITS FALSE NEIGHBOUR: 'it returns false'. Refute it at one input. -/
def explainSoundWrong : ChangeSpec := { name := "explainSound", fn := fun _ => fun
  | [d1, d2, d3, d4, d5] => { results := [.lit (.bool false)], args := [d1, d2, d3, d4, d5] }
  | _ => none }
def ExplainSoundWrongFalsely : Prop := explainSoundRow.holds Tryz.pinned (OpenSpec.ofChange explainSoundWrong)

/-- 'haruspexlaw19.ExplainKnown': WHATEVER THE INPUT: true; the input reads as it did. -/
def explainKnownSpec : ChangeSpec := { name := "explainKnown", fn := fun _ => fun
  | [] => { results := [.lit (.bool true)], args := [] }
  | _ => none }
def explainKnownRow : OpenClaim := { program := "yteaikmdilmfbeaagreat", sum := "e41115d02a40c50fba95da56d69bf16aec4d1b2a9a1ace066499883488ae0b3c", func := "haruspex/haruspexlaw19.ExplainKnown", spec := "explainKnown", unfollowed := true, recurses := true, apart := false }
def ExplainKnownSaid : Prop := explainKnownRow.holds Tryz.pinned (OpenSpec.ofChange explainKnownSpec)

/-- ITS FALSE NEIGHBOUR: 'it returns false'. Refute it at one input. -/
def explainKnownWrong : ChangeSpec := { name := "explainKnown", fn := fun _ => fun
  | [] => { results := [.lit (.bool false)], args := [] }
  | _ => none }
def ExplainKnownWrongFalsely : Prop := explainKnownRow.holds Tryz.pinned (OpenSpec.ofChange explainKnownWrong)

/-- 'haruspexlaw19.ExplainFalls': WHATEVER THE INPUT: true; the input reads as it did. -/
def explainFallsSpec : ChangeSpec := { name := "explainFalls", fn := fun _ => fun
  | [d1, d2, d3] => { results := [.lit (.bool true)], args := [d1, d2, d3] }
  | _ => none }
def explainFallsRow : OpenClaim := { program := "yteaikmdilmfbeaagreat", sum := "e41115d02a40c50fba95da56d69bf16aec4d1b2a9a1ace066499883488ae0b3c", func := "haruspex/haruspexlaw19.ExplainFalls", spec := "explainFalls", inPlace := ["slices.overlaps[int]"], unfollowed := true, recurses := true, apart := false }
def ExplainFallsSaid : Prop := explainFallsRow.holds Tryz.pinned (OpenSpec.ofChange explainFallsSpec)

/-- ITS FALSE NEIGHBOUR: 'it returns false'. Refute it at one input. -/
def explainFallsWrong : ChangeSpec := { name := "explainFalls", fn := fun _ => fun
  | [d1, d2, d3] => { results := [.lit (.bool false)], args := [d1, d2, d3] }
  | _ => none }
def ExplainFallsWrongFalsely : Prop := explainFallsRow.holds Tryz.pinned (OpenSpec.ofChange explainFallsWrong)

/-- 'haruspexlaw19.ExplainGreatest': WHATEVER THE INPUT: true; the input reads as it did. -/
def explainGreatestSpec : ChangeSpec := { name := "explainGreatest", fn := fun _ => fun
  | [d1, d2] => { results := [.lit (.bool true)], args := [d1, d2] }
  | _ => none }
def explainGreatestRow : OpenClaim := { program := "yteaikmdilmfbeaagreat", sum := "e41115d02a40c50fba95da56d69bf16aec4d1b2a9a1ace066499883488ae0b3c", func := "haruspex/haruspexlaw19.ExplainGreatest", spec := "explainGreatest", inPlace := ["slices.overlaps[int]"], unfollowed := true, recurses := true, apart := false }
def ExplainGreatestSaid : Prop := explainGreatestRow.holds Tryz.pinned (OpenSpec.ofChange explainGreatestSpec)

/-- ITS FALSE NEIGHBOUR: 'it returns false'. Refute it at one input. -/
def explainGreatestWrong : ChangeSpec := { name := "explainGreatest", fn := fun _ => fun
  | [d1, d2] => { results := [.lit (.bool false)], args := [d1, d2] }
  | _ => none }
def ExplainGreatestWrongFalsely : Prop := explainGreatestRow.holds Tryz.pinned (OpenSpec.ofChange explainGreatestWrong)

/-- 'haruspexlaw19.ExplainOrder': WHATEVER THE INPUT: true; the input reads as it did. -/
def explainOrderSpec : ChangeSpec := { name := "explainOrder", fn := fun _ => fun
  | [d1, d2, d3] => { results := [.lit (.bool true)], args := [d1, d2, d3] }
  | _ => none }
def explainOrderRow : OpenClaim := { program := "yteaikmdilmfbeaagreat", sum := "e41115d02a40c50fba95da56d69bf16aec4d1b2a9a1ace066499883488ae0b3c", func := "haruspex/haruspexlaw19.ExplainOrder", spec := "explainOrder", inPlace := ["slices.overlaps[int]"], unfollowed := true, recurses := true, apart := false }
def ExplainOrderSaid : Prop := explainOrderRow.holds Tryz.pinned (OpenSpec.ofChange explainOrderSpec)

/-- ITS FALSE NEIGHBOUR: 'it returns false'. Refute it at one input. -/
def explainOrderWrong : ChangeSpec := { name := "explainOrder", fn := fun _ => fun
  | [d1, d2, d3] => { results := [.lit (.bool false)], args := [d1, d2, d3] }
  | _ => none }
def ExplainOrderWrongFalsely : Prop := explainOrderRow.holds Tryz.pinned (OpenSpec.ofChange explainOrderWrong)

/- THE SECOND FORM. 'bulk': how many values and letters a reading holds, each counted each time it is reached (what is shared counts as often as it is met; a slice's spare places count too). A statement '..UptoSaid' is the law's where the arguments, and the package variables that the reading takes, are together of bulk at most 1048576: NARROWER than '..Said'. Prove '..Said' where nothing that the law and all that it calls make is longer than what came in: it says more and counts as full. Else prove '..UptoSaid'. A law counts once. -/
mutual
def uptoBulk {H : Type} : DataW H → Nat
  | .lit (.string bytes) => bytes.length + 1
  | .lit _ => 1
  | .nil => 1
  | .ptr d => uptoBulk d + 1
  | .slice elems spare => uptoBulkAll elems + uptoBulkAll spare + 1
  | .agg parts => uptoBulkAll parts + 1
  | .iface _ d => uptoBulk d + 1
  | .map entries => uptoBulkEntries entries + 1
  | .held _ => 1
def uptoBulkAll {H : Type} : List (DataW H) → Nat
  | [] => 0
  | d :: r => uptoBulk d + uptoBulkAll r
def uptoBulkEntries {H : Type} : List (Lit × DataW H) → Nat
  | [] => 0
  | x :: r => uptoBulkEntry x + uptoBulkEntries r
def uptoBulkEntry {H : Type} : Lit × DataW H → Nat
  | (.string bytes, d) => bytes.length + uptoBulk d + 1
  | (_, d) => uptoBulk d + 1
 end
def uptoSmall : (H : Type) → List (DataW H) → Bool := fun _ ds => decide (uptoBulkAll ds ≤ 1048576)
def OpenSpec.upto (s : _root_.Go.ChangeSpec) : _root_.Go.OpenSpec := { _root_.Go.OpenSpec.ofChange s with cond := some uptoSmall }

/-- 'haruspexlaw19.ExplainMaps', WHERE WHAT IT READS IS OF BULK AT MOST 1048576: true; the input reads as it did. -/
def explainMapsUptoRow : OpenClaim := { program := "yteaikmdilmfbeaagreat", sum := "e41115d02a40c50fba95da56d69bf16aec4d1b2a9a1ace066499883488ae0b3c", func := "haruspex/haruspexlaw19.ExplainMaps", spec := "explainMaps", unfollowed := true, recurses := true, apart := false, narrowed := true }
def ExplainMapsUptoSaid : Prop := explainMapsUptoRow.holds Tryz.pinned (OpenSpec.upto explainMapsSpec)

/-- 'haruspexlaw19.ExplainBounds', WHERE WHAT IT READS IS OF BULK AT MOST 1048576: true; the input reads as it did. -/
def explainBoundsUptoRow : OpenClaim := { program := "yteaikmdilmfbeaagreat", sum := "e41115d02a40c50fba95da56d69bf16aec4d1b2a9a1ace066499883488ae0b3c", func := "haruspex/haruspexlaw19.ExplainBounds", spec := "explainBounds", unfollowed := true, recurses := true, apart := false, narrowed := true }
def ExplainBoundsUptoSaid : Prop := explainBoundsUptoRow.holds Tryz.pinned (OpenSpec.upto explainBoundsSpec)

/-- 'haruspexlaw19.ExplainProves', WHERE WHAT IT READS IS OF BULK AT MOST 1048576: true; the input reads as it did. -/
def explainProvesUptoRow : OpenClaim := { program := "yteaikmdilmfbeaagreat", sum := "e41115d02a40c50fba95da56d69bf16aec4d1b2a9a1ace066499883488ae0b3c", func := "haruspex/haruspexlaw19.ExplainProves", spec := "explainProves", unfollowed := true, recurses := true, apart := false, narrowed := true }
def ExplainProvesUptoSaid : Prop := explainProvesUptoRow.holds Tryz.pinned (OpenSpec.upto explainProvesSpec)

/-- 'haruspexlaw19.ExplainWorlds', WHERE WHAT IT READS IS OF BULK AT MOST 1048576: true; the input reads as it did. -/
def explainWorldsUptoRow : OpenClaim := { program := "yteaikmdilmfbeaagreat", sum := "e41115d02a40c50fba95da56d69bf16aec4d1b2a9a1ace066499883488ae0b3c", func := "haruspex/haruspexlaw19.ExplainWorlds", spec := "explainWorlds", unfollowed := true, recurses := true, apart := false, narrowed := true }
def ExplainWorldsUptoSaid : Prop := explainWorldsUptoRow.holds Tryz.pinned (OpenSpec.upto explainWorldsSpec)

/-- 'haruspexlaw19.ExplainSound', WHERE WHAT IT READS IS OF BULK AT MOST 1048576: true; the input reads as it did. -/
def explainSoundUptoRow : OpenClaim := { program := "yteaikmdilmfbeaagreat", sum := "e41115d02a40c50fba95da56d69bf16aec4d1b2a9a1ace066499883488ae0b3c", func := "haruspex/haruspexlaw19.ExplainSound", spec := "explainSound", unfollowed := true, recurses := true, apart := false, narrowed := true }
def ExplainSoundUptoSaid : Prop := explainSoundUptoRow.holds Tryz.pinned (OpenSpec.upto explainSoundSpec)

/-- 'haruspexlaw19.ExplainKnown', WHERE WHAT IT READS IS OF BULK AT MOST 1048576: true; the input reads as it did. -/
def explainKnownUptoRow : OpenClaim := { program := "yteaikmdilmfbeaagreat", sum := "e41115d02a40c50fba95da56d69bf16aec4d1b2a9a1ace066499883488ae0b3c", func := "haruspex/haruspexlaw19.ExplainKnown", spec := "explainKnown", unfollowed := true, recurses := true, apart := false, narrowed := true }
def ExplainKnownUptoSaid : Prop := explainKnownUptoRow.holds Tryz.pinned (OpenSpec.upto explainKnownSpec)

/-- 'haruspexlaw19.ExplainFalls', WHERE WHAT IT READS IS OF BULK AT MOST 1048576: true; the input reads as it did. -/
def explainFallsUptoRow : OpenClaim := { program := "yteaikmdilmfbeaagreat", sum := "e41115d02a40c50fba95da56d69bf16aec4d1b2a9a1ace066499883488ae0b3c", func := "haruspex/haruspexlaw19.ExplainFalls", spec := "explainFalls", inPlace := ["slices.overlaps[int]"], unfollowed := true, recurses := true, apart := false, narrowed := true }
def ExplainFallsUptoSaid : Prop := explainFallsUptoRow.holds Tryz.pinned (OpenSpec.upto explainFallsSpec)

/-- 'haruspexlaw19.ExplainGreatest', WHERE WHAT IT READS IS OF BULK AT MOST 1048576: true; the input reads as it did. -/
def explainGreatestUptoRow : OpenClaim := { program := "yteaikmdilmfbeaagreat", sum := "e41115d02a40c50fba95da56d69bf16aec4d1b2a9a1ace066499883488ae0b3c", func := "haruspex/haruspexlaw19.ExplainGreatest", spec := "explainGreatest", inPlace := ["slices.overlaps[int]"], unfollowed := true, recurses := true, apart := false, narrowed := true }
def ExplainGreatestUptoSaid : Prop := explainGreatestUptoRow.holds Tryz.pinned (OpenSpec.upto explainGreatestSpec)

/-- 'haruspexlaw19.ExplainOrder', WHERE WHAT IT READS IS OF BULK AT MOST 1048576: true; the input reads as it did. -/
def explainOrderUptoRow : OpenClaim := { program := "yteaikmdilmfbeaagreat", sum := "e41115d02a40c50fba95da56d69bf16aec4d1b2a9a1ace066499883488ae0b3c", func := "haruspex/haruspexlaw19.ExplainOrder", spec := "explainOrder", inPlace := ["slices.overlaps[int]"], unfollowed := true, recurses := true, apart := false, narrowed := true }
def ExplainOrderUptoSaid : Prop := explainOrderUptoRow.holds Tryz.pinned (OpenSpec.upto explainOrderSpec)

end Rows
end Go.Proofs.YteaikmdilmfbeaaGreat
