/-
  No cell of these rows narrows 'for every input' (looked for: loops, veiled, ifaces, maps, wideKeys, modest, calm, conditions, laid).
  DERIVED. THE GIVEN ROWS OF THIS SEAT. 4 by the template 'for every input the law returns true; each argument reads behind the call as it read before'; 0 by the template 'total and deterministic' (their statements: YtikpmbiklokdiaaGreatTotals.lean).
  GIVEN WITH THE SEED: the statements are not yours to turn. If you find one false, say at which input.
  Laid BY PROGRAM, IN A SANDBOX (cutbox-rows.mjs): the forced cells as the released guide's own fill.sh prints them over the translation 2c28e8fd3d1e222b… (all of the seat's roots in one cut). By AI agents, Wed Nov 11 2026. No macro, syntax, notation, axiom, sorry.
-/
import Derived.Test.YtikpmbiklokdiaaGreatChecked
import GoSem.Claim
import GoSem.ClaimJoined
import GoSem.ClaimMapViews
import Derived.JoinedTies
import Derived.KernelRfl
namespace Go.Proofs.YtikpmbiklokdiaaGreat
/- THE CELL 'sum', in the pinned program and in every row, IS THE sha256 OF THE DUMP (.gsa) THAT YtikpmbiklokdiaaGreatProg.lean LOADS. Nothing in Lean hashes anything: it is a label: what it is worth is what the hold of that sum in a sandbox is worth. -/
noncomputable def Tryz.pinned : Pinned := { name := "ytikpmbiklokdiaagreat", sum := "2c28e8fd3d1e222bfad048d4c40f81dc7792b59bc50532b56ba4fbcebc3d3b17", checked := Tryz.checked }
namespace Rows
def none {H : Type} : Left H := { results := [], args := [] }

/-- 'haruspexlaw43.ReasonFinds': WHATEVER THE INPUT: true; the input reads as it did. -/
def reasonFindsSpec : ChangeSpec := { name := "reasonFinds", fn := fun _ => fun
  | [d1, d2, d3, d4, d5, d6] => { results := [.lit (.bool true)], args := [d1, d2, d3, d4, d5, d6] }
  | _ => none }
def reasonFindsRow : OpenClaim := { program := "ytikpmbiklokdiaagreat", sum := "2c28e8fd3d1e222bfad048d4c40f81dc7792b59bc50532b56ba4fbcebc3d3b17", func := "haruspex/haruspexlaw43.ReasonFinds", spec := "reasonFinds", inPlace := ["slices.overlaps[int]"], unfollowed := true, recurses := true, plainKeys := false, apart := false }
def ReasonFindsSaid : Prop := reasonFindsRow.holds Tryz.pinned (OpenSpec.ofChange reasonFindsSpec)

/-- ITS FALSE NEIGHBOUR: 'it returns false'. Refute it at one input. -/
def reasonFindsWrong : ChangeSpec := { name := "reasonFinds", fn := fun _ => fun
  | [d1, d2, d3, d4, d5, d6] => { results := [.lit (.bool false)], args := [d1, d2, d3, d4, d5, d6] }
  | _ => none }
def ReasonFindsWrongFalsely : Prop := reasonFindsRow.holds Tryz.pinned (OpenSpec.ofChange reasonFindsWrong)

/-- 'haruspexlaw43.ReasonSpeaks': WHATEVER THE INPUT: true; the input reads as it did. -/
def reasonSpeaksSpec : ChangeSpec := { name := "reasonSpeaks", fn := fun _ => fun
  | [d1, d2, d3, d4, d5, d6] => { results := [.lit (.bool true)], args := [d1, d2, d3, d4, d5, d6] }
  | _ => none }
def reasonSpeaksRow : OpenClaim := { program := "ytikpmbiklokdiaagreat", sum := "2c28e8fd3d1e222bfad048d4c40f81dc7792b59bc50532b56ba4fbcebc3d3b17", func := "haruspex/haruspexlaw43.ReasonSpeaks", spec := "reasonSpeaks", inPlace := ["slices.overlaps[int]"], unfollowed := true, recurses := true, plainKeys := false, apart := false }
def ReasonSpeaksSaid : Prop := reasonSpeaksRow.holds Tryz.pinned (OpenSpec.ofChange reasonSpeaksSpec)

/-- ITS FALSE NEIGHBOUR: 'it returns false'. Refute it at one input. -/
def reasonSpeaksWrong : ChangeSpec := { name := "reasonSpeaks", fn := fun _ => fun
  | [d1, d2, d3, d4, d5, d6] => { results := [.lit (.bool false)], args := [d1, d2, d3, d4, d5, d6] }
  | _ => none }
def ReasonSpeaksWrongFalsely : Prop := reasonSpeaksRow.holds Tryz.pinned (OpenSpec.ofChange reasonSpeaksWrong)

/-- 'haruspexlaw43.ReasonKnown': WHATEVER THE INPUT: true; the input reads as it did. -/
def reasonKnownSpec : ChangeSpec := { name := "reasonKnown", fn := fun _ => fun
  | [] => { results := [.lit (.bool true)], args := [] }
  | _ => none }
def reasonKnownRow : OpenClaim := { program := "ytikpmbiklokdiaagreat", sum := "2c28e8fd3d1e222bfad048d4c40f81dc7792b59bc50532b56ba4fbcebc3d3b17", func := "haruspex/haruspexlaw43.ReasonKnown", spec := "reasonKnown", inPlace := ["slices.overlaps[int]"], unfollowed := true, recurses := true, plainKeys := false, apart := false }
def ReasonKnownSaid : Prop := reasonKnownRow.holds Tryz.pinned (OpenSpec.ofChange reasonKnownSpec)

/-- ITS FALSE NEIGHBOUR: 'it returns false'. Refute it at one input. -/
def reasonKnownWrong : ChangeSpec := { name := "reasonKnown", fn := fun _ => fun
  | [] => { results := [.lit (.bool false)], args := [] }
  | _ => none }
def ReasonKnownWrongFalsely : Prop := reasonKnownRow.holds Tryz.pinned (OpenSpec.ofChange reasonKnownWrong)

/-- 'haruspexlaw43.ReasonLeast': WHATEVER THE INPUT: true; the input reads as it did. -/
def reasonLeastSpec : ChangeSpec := { name := "reasonLeast", fn := fun _ => fun
  | [d1, d2, d3] => { results := [.lit (.bool true)], args := [d1, d2, d3] }
  | _ => none }
def reasonLeastRow : OpenClaim := { program := "ytikpmbiklokdiaagreat", sum := "2c28e8fd3d1e222bfad048d4c40f81dc7792b59bc50532b56ba4fbcebc3d3b17", func := "haruspex/haruspexlaw43.ReasonLeast", spec := "reasonLeast", inPlace := ["slices.overlaps[int]"], unfollowed := true, recurses := true, plainKeys := false, apart := false }
def ReasonLeastSaid : Prop := reasonLeastRow.holds Tryz.pinned (OpenSpec.ofChange reasonLeastSpec)

/-- ITS FALSE NEIGHBOUR: 'it returns false'. Refute it at one input. -/
def reasonLeastWrong : ChangeSpec := { name := "reasonLeast", fn := fun _ => fun
  | [d1, d2, d3] => { results := [.lit (.bool false)], args := [d1, d2, d3] }
  | _ => none }
def ReasonLeastWrongFalsely : Prop := reasonLeastRow.holds Tryz.pinned (OpenSpec.ofChange reasonLeastWrong)

/- THE SECOND FORM. 'bulk': how many values and letters a reading holds, each counted each time it is reached (what is shared counts as often as it is met; a slice's spare places count too). A statement '..UptoSaid' is the law's where the arguments, and the package variables that the reading takes, are together of bulk at most 1048576: NARROWER than '..Said'. Prove '..Said' where nothing that the law and all that it calls make is longer than what came in: it says more and counts as full. Else prove '..UptoSaid'. A law counts once. -/
mutual
def uptoBulk {H : Type} : DataW H → Nat
  | .lit (.string bytes) => bytes.length + 1
  | .lit _ => 1
  | .nil => 1
  | .ptr d => uptoBulk d + 1
  | .slice elems spare => uptoBulkAll elems + uptoBulkAll spare + 1
  | .agg parts => uptoBulkAll parts + 1
  | .iface _ d => uptoBulk d + 1
  | .map entries => uptoBulkEntries entries + 1
  | .held _ => 1
def uptoBulkAll {H : Type} : List (DataW H) → Nat
  | [] => 0
  | d :: r => uptoBulk d + uptoBulkAll r
def uptoBulkEntries {H : Type} : List (Lit × DataW H) → Nat
  | [] => 0
  | x :: r => uptoBulkEntry x + uptoBulkEntries r
def uptoBulkEntry {H : Type} : Lit × DataW H → Nat
  | (.string bytes, d) => bytes.length + uptoBulk d + 1
  | (_, d) => uptoBulk d + 1
 end
def uptoSmall : (H : Type) → List (DataW H) → Bool := fun _ ds => decide (uptoBulkAll ds ≤ 1048576)
def OpenSpec.upto (s : _root_.Go.ChangeSpec) : _root_.Go.OpenSpec := { _root_.Go.OpenSpec.ofChange s with cond := some uptoSmall }

/-- 'haruspexlaw43.ReasonFinds', WHERE WHAT IT READS IS OF BULK AT MOST 1048576: true; the input reads as it did. -/
def reasonFindsUptoRow : OpenClaim := { program := "ytikpmbiklokdiaagreat", sum := "2c28e8fd3d1e222bfad048d4c40f81dc7792b59bc50532b56ba4fbcebc3d3b17", func := "haruspex/haruspexlaw43.ReasonFinds", spec := "reasonFinds", inPlace := ["slices.overlaps[int]"], unfollowed := true, recurses := true, plainKeys := false, apart := false, narrowed := true }
def ReasonFindsUptoSaid : Prop := reasonFindsUptoRow.holds Tryz.pinned (OpenSpec.upto reasonFindsSpec)

/-- 'haruspexlaw43.ReasonSpeaks', WHERE WHAT IT READS IS OF BULK AT MOST 1048576: true; the input reads as it did. -/
def reasonSpeaksUptoRow : OpenClaim := { program := "ytikpmbiklokdiaagreat", sum := "2c28e8fd3d1e222bfad048d4c40f81dc7792b59bc50532b56ba4fbcebc3d3b17", func := "haruspex/haruspexlaw43.ReasonSpeaks", spec := "reasonSpeaks", inPlace := ["slices.overlaps[int]"], unfollowed := true, recurses := true, plainKeys := false, apart := false, narrowed := true }
def ReasonSpeaksUptoSaid : Prop := reasonSpeaksUptoRow.holds Tryz.pinned (OpenSpec.upto reasonSpeaksSpec)

/-- 'haruspexlaw43.ReasonKnown', WHERE WHAT IT READS IS OF BULK AT MOST 1048576: true; the input reads as it did. -/
def reasonKnownUptoRow : OpenClaim := { program := "ytikpmbiklokdiaagreat", sum := "2c28e8fd3d1e222bfad048d4c40f81dc7792b59bc50532b56ba4fbcebc3d3b17", func := "haruspex/haruspexlaw43.ReasonKnown", spec := "reasonKnown", inPlace := ["slices.overlaps[int]"], unfollowed := true, recurses := true, plainKeys := false, apart := false, narrowed := true }
def ReasonKnownUptoSaid : Prop := reasonKnownUptoRow.holds Tryz.pinned (OpenSpec.upto reasonKnownSpec)

/-- 'haruspexlaw43.ReasonLeast', WHERE WHAT IT READS IS OF BULK AT MOST 1048576: true; the input reads as it did. -/
def reasonLeastUptoRow : OpenClaim := { program := "ytikpmbiklokdiaagreat", sum := "2c28e8fd3d1e222bfad048d4c40f81dc7792b59bc50532b56ba4fbcebc3d3b17", func := "haruspex/haruspexlaw43.ReasonLeast", spec := "reasonLeast", inPlace := ["slices.overlaps[int]"], unfollowed := true, recurses := true, plainKeys := false, apart := false, narrowed := true }
def ReasonLeastUptoSaid : Prop := reasonLeastUptoRow.holds Tryz.pinned (OpenSpec.upto reasonLeastSpec)

end Rows
end Go.Proofs.YtikpmbiklokdiaaGreat
