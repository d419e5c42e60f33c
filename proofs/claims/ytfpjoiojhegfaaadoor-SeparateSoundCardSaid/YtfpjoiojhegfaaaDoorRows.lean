/-
  NARROWER THAN 'FOR EVERY INPUT', by the rows' own cells (each row's printed sentence says how): SeparateReaches: laid · SeparateLeast: laid · SeparateWitnesses: laid · SeparateSound: laid · SeparateShows: laid · SeparateGraphoid: laid · SeparateLocal: laid · SeparateKnown: laid.
  DERIVED. THE GIVEN ROWS OF THIS SEAT. 8 by the template 'for every input the law returns true; each argument reads behind the call as it read before'; 0 by the template 'total and deterministic' (their statements: YtfpjoiojhegfaaaDoorTotals.lean).
  GIVEN WITH THE SEED: the statements are not yours to turn. If you find one false, say at which input.
  Laid BY PROGRAM, IN A SANDBOX (cutbox-rows.mjs): the forced cells as the released guide's own fill.sh prints them over the translation 15060bf6157a78fb… (all of the seat's roots in one cut). By AI agents, Wed Nov 11 2026. No macro, syntax, notation, axiom, sorry.
-/
import Derived.Test.YtfpjoiojhegfaaaDoorChecked
import GoSem.Claim
import GoSem.ClaimJoined
import GoSem.ClaimMapViews
import Derived.JoinedTies
import Derived.KernelRfl
namespace Go.Proofs.YtfpjoiojhegfaaaDoor
/- THE CELL 'sum', in the pinned program and in every row, IS THE sha256 OF THE DUMP (.gsa) THAT YtfpjoiojhegfaaaDoorProg.lean LOADS. Nothing in Lean hashes anything: it is a label: what it is worth is what the hold of that sum in a sandbox is worth. -/
noncomputable def Tryd.pinned : Pinned := { name := "ytfpjoiojhegfaaadoor", sum := "15060bf6157a78fb78fa9a794dcef96d7f3f0aa367cd68ad873fa203390b6169", checked := Tryd.checked }
namespace Rows
def none {H : Type} : Left H := { results := [], args := [] }

/- WHAT THE LISTED PACKAGE-LEVEL VARIABLES READ AS WHEN THE CALL BEGINS. Each datum BY PROGRAM (the guide's laid-datum.mjs) off the statement by which the dump's own 'gosem.cut.vars' lays the variable. In a bare row this is a premise. The card (YtfpjoiojhegfaaaDoorCards.lean) ties it to the program's text. -/
def laid_math_bits_deBruijn32tab {H : Type} : DataW H := .agg [.lit (.int .u8 0), .lit (.int .u8 1), .lit (.int .u8 28), .lit (.int .u8 2), .lit (.int .u8 29), .lit (.int .u8 14), .lit (.int .u8 24), .lit (.int .u8 3), .lit (.int .u8 30), .lit (.int .u8 22), .lit (.int .u8 20), .lit (.int .u8 15), .lit (.int .u8 25), .lit (.int .u8 17), .lit (.int .u8 4), .lit (.int .u8 8), .lit (.int .u8 31), .lit (.int .u8 27), .lit (.int .u8 13), .lit (.int .u8 23), .lit (.int .u8 21), .lit (.int .u8 19), .lit (.int .u8 16), .lit (.int .u8 7), .lit (.int .u8 26), .lit (.int .u8 12), .lit (.int .u8 18), .lit (.int .u8 6), .lit (.int .u8 11), .lit (.int .u8 5), .lit (.int .u8 10), .lit (.int .u8 9)]
def laid_math_bits_deBruijn64tab {H : Type} : DataW H := .agg [.lit (.int .u8 0), .lit (.int .u8 1), .lit (.int .u8 56), .lit (.int .u8 2), .lit (.int .u8 57), .lit (.int .u8 49), .lit (.int .u8 28), .lit (.int .u8 3), .lit (.int .u8 61), .lit (.int .u8 58), .lit (.int .u8 42), .lit (.int .u8 50), .lit (.int .u8 38), .lit (.int .u8 29), .lit (.int .u8 17), .lit (.int .u8 4), .lit (.int .u8 62), .lit (.int .u8 47), .lit (.int .u8 59), .lit (.int .u8 36), .lit (.int .u8 45), .lit (.int .u8 43), .lit (.int .u8 51), .lit (.int .u8 22), .lit (.int .u8 53), .lit (.int .u8 39), .lit (.int .u8 33), .lit (.int .u8 30), .lit (.int .u8 24), .lit (.int .u8 18), .lit (.int .u8 12), .lit (.int .u8 5), .lit (.int .u8 63), .lit (.int .u8 55), .lit (.int .u8 48), .lit (.int .u8 27), .lit (.int .u8 60), .lit (.int .u8 41), .lit (.int .u8 37), .lit (.int .u8 16), .lit (.int .u8 46), .lit (.int .u8 35), .lit (.int .u8 44), .lit (.int .u8 21), .lit (.int .u8 52), .lit (.int .u8 32), .lit (.int .u8 23), .lit (.int .u8 11), .lit (.int .u8 54), .lit (.int .u8 26), .lit (.int .u8 40), .lit (.int .u8 15), .lit (.int .u8 34), .lit (.int .u8 20), .lit (.int .u8 31), .lit (.int .u8 10), .lit (.int .u8 25), .lit (.int .u8 14), .lit (.int .u8 19), .lit (.int .u8 9), .lit (.int .u8 13), .lit (.int .u8 8), .lit (.int .u8 7), .lit (.int .u8 6)]

/-- 'haruspexlaw07.SeparateReaches': WHATEVER THE INPUT: true; the input reads as it did. -/
def separateReachesSpec : ChangeSpec := { name := "separateReaches", fn := fun _ => fun
  | [d1, d2, d3] => { results := [.lit (.bool true)], args := [d1, d2, d3] }
  | _ => none }
def separateReachesRow : OpenClaim := { program := "ytfpjoiojhegfaaadoor", sum := "15060bf6157a78fb78fa9a794dcef96d7f3f0aa367cd68ad873fa203390b6169", func := "haruspex/haruspexlaw07.SeparateReaches", spec := "separateReaches", inPlace := ["slices.overlaps[int]"], unfollowed := true, recurses := true, named := ["math/bits.deBruijn32tab", "math/bits.deBruijn64tab"], plainKeys := false, apart := false, laid := [("math/bits.deBruijn32tab", laid_math_bits_deBruijn32tab), ("math/bits.deBruijn64tab", laid_math_bits_deBruijn64tab)] }
def SeparateReachesSaid : Prop := separateReachesRow.holds Tryd.pinned (OpenSpec.ofChange separateReachesSpec)

/-- ITS FALSE NEIGHBOUR: 'it returns false'. Refute it at one input. -/
def separateReachesWrong : ChangeSpec := { name := "separateReaches", fn := fun _ => fun
  | [d1, d2, d3] => { results := [.lit (.bool false)], args := [d1, d2, d3] }
  | _ => none }
def SeparateReachesWrongFalsely : Prop := separateReachesRow.holds Tryd.pinned (OpenSpec.ofChange separateReachesWrong)

/-- 'haruspexlaw07.SeparateLeast': WHATEVER THE INPUT: true; the input reads as it did. -/
def separateLeastSpec : ChangeSpec := { name := "separateLeast", fn := fun _ => fun
  | [d1, d2, d3, d4, d5] => { results := [.lit (.bool true)], args := [d1, d2, d3, d4, d5] }
  | _ => none }
def separateLeastRow : OpenClaim := { program := "ytfpjoiojhegfaaadoor", sum := "15060bf6157a78fb78fa9a794dcef96d7f3f0aa367cd68ad873fa203390b6169", func := "haruspex/haruspexlaw07.SeparateLeast", spec := "separateLeast", inPlace := ["slices.overlaps[int]"], unfollowed := true, recurses := true, named := ["math/bits.deBruijn32tab", "math/bits.deBruijn64tab"], plainKeys := false, apart := false, laid := [("math/bits.deBruijn32tab", laid_math_bits_deBruijn32tab), ("math/bits.deBruijn64tab", laid_math_bits_deBruijn64tab)] }
def SeparateLeastSaid : Prop := separateLeastRow.holds Tryd.pinned (OpenSpec.ofChange separateLeastSpec)

/-- ITS FALSE NEIGHBOUR: 'it returns false'. Refute it at one input. -/
def separateLeastWrong : ChangeSpec := { name := "separateLeast", fn := fun _ => fun
  | [d1, d2, d3, d4, d5] => { results := [.lit (.bool false)], args := [d1, d2, d3, d4, d5] }
  | _ => none }
def SeparateLeastWrongFalsely : Prop := separateLeastRow.holds Tryd.pinned (OpenSpec.ofChange separateLeastWrong)

/-- 'haruspexlaw07.SeparateWitnesses': WHATEVER THE INPUT: true; the input reads as it did. -/
def separateWitnessesSpec : ChangeSpec := { name := "separateWitnesses", fn := fun _ => fun
  | [d1, d2, d3, d4, d5, d6, d7, d8] => { results := [.lit (.bool true)], args := [d1, d2, d3, d4, d5, d6, d7, d8] }
  | _ => none }
def separateWitnessesRow : OpenClaim := { program := "ytfpjoiojhegfaaadoor", sum := "15060bf6157a78fb78fa9a794dcef96d7f3f0aa367cd68ad873fa203390b6169", func := "haruspex/haruspexlaw07.SeparateWitnesses", spec := "separateWitnesses", inPlace := ["slices.overlaps[int]"], unfollowed := true, recurses := true, named := ["math/bits.deBruijn32tab", "math/bits.deBruijn64tab"], plainKeys := false, apart := false, laid := [("math/bits.deBruijn32tab", laid_math_bits_deBruijn32tab), ("math/bits.deBruijn64tab", laid_math_bits_deBruijn64tab)] }
def SeparateWitnessesSaid : Prop := separateWitnessesRow.holds Tryd.pinned (OpenSpec.ofChange separateWitnessesSpec)

/-- ITS FALSE NEIGHBOUR: 'it returns false'. Refute it at one input. -/
def separateWitnessesWrong : ChangeSpec := { name := "separateWitnesses", fn := fun _ => fun
  | [d1, d2, d3, d4, d5, d6, d7, d8] => { results := [.lit (.bool false)], args := [d1, d2, d3, d4, d5, d6, d7, d8] }
  | _ => none }
def SeparateWitnessesWrongFalsely : Prop := separateWitnessesRow.holds Tryd.pinned (OpenSpec.ofChange separateWitnessesWrong)

/-- 'haruspexlaw07.SeparateSound': WHATEVER THE INPUT: true; the input reads as it did. -/
def separateSoundSpec : ChangeSpec := { name := "separateSound", fn := fun _ => fun
  | [d1, d2] => { results := [.lit (.bool true)], args := [d1, d2] }
  | _ => none }
def separateSoundRow : OpenClaim := { program := "ytfpjoiojhegfaaadoor", sum := "15060bf6157a78fb78fa9a794dcef96d7f3f0aa367cd68ad873fa203390b6169", func := "haruspex/haruspexlaw07.SeparateSound", spec := "separateSound", inPlace := ["slices.overlaps[int]"], unfollowed := true, recurses := true, named := ["math/bits.deBruijn32tab", "math/bits.deBruijn64tab"], plainKeys := false, apart := false, laid := [("math/bits.deBruijn32tab", laid_math_bits_deBruijn32tab), ("math/bits.deBruijn64tab", laid_math_bits_deBruijn64tab)] }
def SeparateSoundSaid : Prop := separateSoundRow.holds Tryd.pinned (OpenSpec.ofChange separateSoundSpec)

/-- ITS FALSE NEIGHBOUR: 'it returns false'. Refute it at one input. -/
def separateSoundWrong : ChangeSpec := { name := "separateSound", fn := fun _ => fun
  | [d1, d2] => { results := [.lit (.bool false)], args := [d1, d2] }
  | _ => none }
def SeparateSoundWrongFalsely : Prop := separateSoundRow.holds Tryd.pinned (OpenSpec.ofChange separateSoundWrong)

/-- 'haruspexlaw07.SeparateShows': WHATEVER THE INPUT: true; the input reads as it did. -/
def separateShowsSpec : ChangeSpec := { name := "separateShows", fn := fun _ => fun
  | [d1, d2, d3, d4] => { results := [.lit (.bool true)], args := [d1, d2, d3, d4] }
  | _ => none }
def separateShowsRow : OpenClaim := { program := "ytfpjoiojhegfaaadoor", sum := "15060bf6157a78fb78fa9a794dcef96d7f3f0aa367cd68ad873fa203390b6169", func := "haruspex/haruspexlaw07.SeparateShows", spec := "separateShows", inPlace := ["slices.overlaps[int]"], unfollowed := true, recurses := true, named := ["math/bits.deBruijn32tab", "math/bits.deBruijn64tab"], plainKeys := false, apart := false, laid := [("math/bits.deBruijn32tab", laid_math_bits_deBruijn32tab), ("math/bits.deBruijn64tab", laid_math_bits_deBruijn64tab)] }
def SeparateShowsSaid : Prop := separateShowsRow.holds Tryd.pinned (OpenSpec.ofChange separateShowsSpec)

/-- ITS FALSE NEIGHBOUR: 'it returns false'. Refute it at one input. -/
def separateShowsWrong : ChangeSpec := { name := "separateShows", fn := fun _ => fun
  | [d1, d2, d3, d4] => { results := [.lit (.bool false)], args := [d1, d2, d3, d4] }
  | _ => none }
def SeparateShowsWrongFalsely : Prop := separateShowsRow.holds Tryd.pinned (OpenSpec.ofChange separateShowsWrong)

/-- 'haruspexlaw07.SeparateGraphoid': WHATEVER THE INPUT: true; the input reads as it did. -/
def separateGraphoidSpec : ChangeSpec := { name := "separateGraphoid", fn := fun _ => fun
  | [d1, d2] => { results := [.lit (.bool true)], args := [d1, d2] }
  | _ => none }
def separateGraphoidRow : OpenClaim := { program := "ytfpjoiojhegfaaadoor", sum := "15060bf6157a78fb78fa9a794dcef96d7f3f0aa367cd68ad873fa203390b6169", func := "haruspex/haruspexlaw07.SeparateGraphoid", spec := "separateGraphoid", inPlace := ["slices.overlaps[int]"], unfollowed := true, recurses := true, named := ["math/bits.deBruijn32tab", "math/bits.deBruijn64tab"], plainKeys := false, apart := false, laid := [("math/bits.deBruijn32tab", laid_math_bits_deBruijn32tab), ("math/bits.deBruijn64tab", laid_math_bits_deBruijn64tab)] }
def SeparateGraphoidSaid : Prop := separateGraphoidRow.holds Tryd.pinned (OpenSpec.ofChange separateGraphoidSpec)

/-- ITS FALSE NEIGHBOUR: 'it returns false'. Refute it at one input. -/
def separateGraphoidWrong : ChangeSpec := { name := "separateGraphoid", fn := fun _ => fun
  | [d1, d2] => { results := [.lit (.bool false)], args := [d1, d2] }
  | _ => none }
def SeparateGraphoidWrongFalsely : Prop := separateGraphoidRow.holds Tryd.pinned (OpenSpec.ofChange separateGraphoidWrong)

/-- 'haruspexlaw07.SeparateLocal': WHATEVER THE INPUT: true; the input reads as it did. -/
def separateLocalSpec : ChangeSpec := { name := "separateLocal", fn := fun _ => fun
  | [d1, d2] => { results := [.lit (.bool true)], args := [d1, d2] }
  | _ => none }
def separateLocalRow : OpenClaim := { program := "ytfpjoiojhegfaaadoor", sum := "15060bf6157a78fb78fa9a794dcef96d7f3f0aa367cd68ad873fa203390b6169", func := "haruspex/haruspexlaw07.SeparateLocal", spec := "separateLocal", inPlace := ["slices.overlaps[int]"], unfollowed := true, recurses := true, named := ["math/bits.deBruijn32tab", "math/bits.deBruijn64tab"], plainKeys := false, apart := false, laid := [("math/bits.deBruijn32tab", laid_math_bits_deBruijn32tab), ("math/bits.deBruijn64tab", laid_math_bits_deBruijn64tab)] }
def SeparateLocalSaid : Prop := separateLocalRow.holds Tryd.pinned (OpenSpec.ofChange separateLocalSpec)

/-- ITS FALSE NEIGHBOUR: 'it returns false'. Refute it at one input. -/
def separateLocalWrong : ChangeSpec := { name := "separateLocal", fn := fun _ => fun
  | [d1, d2] => { results := [.lit (.bool false)], args := [d1, d2] }
  | _ => none }
def SeparateLocalWrongFalsely : Prop := separateLocalRow.holds Tryd.pinned (OpenSpec.ofChange separateLocalWrong)

/-- 'haruspexlaw07.SeparateKnown': WHATEVER THE INPUT: true; the input reads as it did. -/
def separateKnownSpec : ChangeSpec := { name := "separateKnown", fn := fun _ => fun
  | [] => { results := [.lit (.bool true)], args := [] }
  | _ => none }
def separateKnownRow : OpenClaim := { program := "ytfpjoiojhegfaaadoor", sum := "15060bf6157a78fb78fa9a794dcef96d7f3f0aa367cd68ad873fa203390b6169", func := "haruspex/haruspexlaw07.SeparateKnown", spec := "separateKnown", inPlace := ["slices.overlaps[int]"], unfollowed := true, recurses := true, named := ["math/bits.deBruijn32tab", "math/bits.deBruijn64tab"], plainKeys := false, apart := false, laid := [("math/bits.deBruijn32tab", laid_math_bits_deBruijn32tab), ("math/bits.deBruijn64tab", laid_math_bits_deBruijn64tab)] }
def SeparateKnownSaid : Prop := separateKnownRow.holds Tryd.pinned (OpenSpec.ofChange separateKnownSpec)

/-- ITS FALSE NEIGHBOUR: 'it returns false'. Refute it at one input. -/
def separateKnownWrong : ChangeSpec := { name := "separateKnown", fn := fun _ => fun
  | [] => { results := [.lit (.bool false)], args := [] }
  | _ => none }
def SeparateKnownWrongFalsely : Prop := separateKnownRow.holds Tryd.pinned (OpenSpec.ofChange separateKnownWrong)

/- THE SECOND FORM. 'bulk': how many values and letters a reading holds, each counted each time it is reached (what is shared counts as often as it is met; a slice's spare places count too). A statement '..UptoSaid' is the law's where the arguments, and the package variables that the reading takes, are together of bulk at most 1048576: NARROWER than '..Said'. Prove '..Said' where nothing that the law and all that it calls make is longer than what came in: it says more and counts as full. Else prove '..UptoSaid'. A law counts once. -/
mutual
def uptoBulk {H : Type} : DataW H → Nat
  | .lit (.string bytes) => bytes.length + 1
  | .lit _ => 1
  | .nil => 1
  | .ptr d => uptoBulk d + 1
  | .slice elems spare => uptoBulkAll elems + uptoBulkAll spare + 1
  | .agg parts => uptoBulkAll parts + 1
  | .iface _ d => uptoBulk d + 1
  | .map entries => uptoBulkEntries entries + 1
  | .held _ => 1
def uptoBulkAll {H : Type} : List (DataW H) → Nat
  | [] => 0
  | d :: r => uptoBulk d + uptoBulkAll r
def uptoBulkEntries {H : Type} : List (Lit × DataW H) → Nat
  | [] => 0
  | x :: r => uptoBulkEntry x + uptoBulkEntries r
def uptoBulkEntry {H : Type} : Lit × DataW H → Nat
  | (.string bytes, d) => bytes.length + uptoBulk d + 1
  | (_, d) => uptoBulk d + 1
 end
def uptoSmall : (H : Type) → List (DataW H) → Bool := fun _ ds => decide (uptoBulkAll ds ≤ 1048576)
def OpenSpec.upto (s : _root_.Go.ChangeSpec) : _root_.Go.OpenSpec := { _root_.Go.OpenSpec.ofChange s with cond := some uptoSmall }

/-- 'haruspexlaw07.SeparateReaches', WHERE WHAT IT READS IS OF BULK AT MOST 1048576: true; the input reads as it did. -/
def separateReachesUptoRow : OpenClaim := { program := "ytfpjoiojhegfaaadoor", sum := "15060bf6157a78fb78fa9a794dcef96d7f3f0aa367cd68ad873fa203390b6169", func := "haruspex/haruspexlaw07.SeparateReaches", spec := "separateReaches", inPlace := ["slices.overlaps[int]"], unfollowed := true, recurses := true, named := ["math/bits.deBruijn32tab", "math/bits.deBruijn64tab"], plainKeys := false, apart := false, laid := [("math/bits.deBruijn32tab", laid_math_bits_deBruijn32tab), ("math/bits.deBruijn64tab", laid_math_bits_deBruijn64tab)], narrowed := true }
def SeparateReachesUptoSaid : Prop := separateReachesUptoRow.holds Tryd.pinned (OpenSpec.upto separateReachesSpec)

/-- 'haruspexlaw07.SeparateLeast', WHERE WHAT IT READS IS OF BULK AT MOST 1048576: true; the input reads as it did. -/
def separateLeastUptoRow : OpenClaim := { program := "ytfpjoiojhegfaaadoor", sum := "15060bf6157a78fb78fa9a794dcef96d7f3f0aa367cd68ad873fa203390b6169", func := "haruspex/haruspexlaw07.SeparateLeast", spec := "separateLeast", inPlace := ["slices.overlaps[int]"], unfollowed := true, recurses := true, named := ["math/bits.deBruijn32tab", "math/bits.deBruijn64tab"], plainKeys := false, apart := false, laid := [("math/bits.deBruijn32tab", laid_math_bits_deBruijn32tab), ("math/bits.deBruijn64tab", laid_math_bits_deBruijn64tab)], narrowed := true }
def SeparateLeastUptoSaid : Prop := separateLeastUptoRow.holds Tryd.pinned (OpenSpec.upto separateLeastSpec)

/-- 'haruspexlaw07.SeparateWitnesses', WHERE WHAT IT READS IS OF BULK AT MOST 1048576: true; the input reads as it did. -/
def separateWitnessesUptoRow : OpenClaim := { program := "ytfpjoiojhegfaaadoor", sum := "15060bf6157a78fb78fa9a794dcef96d7f3f0aa367cd68ad873fa203390b6169", func := "haruspex/haruspexlaw07.SeparateWitnesses", spec := "separateWitnesses", inPlace := ["slices.overlaps[int]"], unfollowed := true, recurses := true, named := ["math/bits.deBruijn32tab", "math/bits.deBruijn64tab"], plainKeys := false, apart := false, laid := [("math/bits.deBruijn32tab", laid_math_bits_deBruijn32tab), ("math/bits.deBruijn64tab", laid_math_bits_deBruijn64tab)], narrowed := true }
def SeparateWitnessesUptoSaid : Prop := separateWitnessesUptoRow.holds Tryd.pinned (OpenSpec.upto separateWitnessesSpec)

/-- 'haruspexlaw07.SeparateSound', WHERE WHAT IT READS IS OF BULK AT MOST 1048576: true; the input reads as it did. -/
def separateSoundUptoRow : OpenClaim := { program := "ytfpjoiojhegfaaadoor", sum := "15060bf6157a78fb78fa9a794dcef96d7f3f0aa367cd68ad873fa203390b6169", func := "haruspex/haruspexlaw07.SeparateSound", spec := "separateSound", inPlace := ["slices.overlaps[int]"], unfollowed := true, recurses := true, named := ["math/bits.deBruijn32tab", "math/bits.deBruijn64tab"], plainKeys := false, apart := false, laid := [("math/bits.deBruijn32tab", laid_math_bits_deBruijn32tab), ("math/bits.deBruijn64tab", laid_math_bits_deBruijn64tab)], narrowed := true }
def SeparateSoundUptoSaid : Prop := separateSoundUptoRow.holds Tryd.pinned (OpenSpec.upto separateSoundSpec)

/-- 'haruspexlaw07.SeparateShows', WHERE WHAT IT READS IS OF BULK AT MOST 1048576: true; the input reads as it did. -/
def separateShowsUptoRow : OpenClaim := { program := "ytfpjoiojhegfaaadoor", sum := "15060bf6157a78fb78fa9a794dcef96d7f3f0aa367cd68ad873fa203390b6169", func := "haruspex/haruspexlaw07.SeparateShows", spec := "separateShows", inPlace := ["slices.overlaps[int]"], unfollowed := true, recurses := true, named := ["math/bits.deBruijn32tab", "math/bits.deBruijn64tab"], plainKeys := false, apart := false, laid := [("math/bits.deBruijn32tab", laid_math_bits_deBruijn32tab), ("math/bits.deBruijn64tab", laid_math_bits_deBruijn64tab)], narrowed := true }
def SeparateShowsUptoSaid : Prop := separateShowsUptoRow.holds Tryd.pinned (OpenSpec.upto separateShowsSpec)

/-- 'haruspexlaw07.SeparateGraphoid', WHERE WHAT IT READS IS OF BULK AT MOST 1048576: true; the input reads as it did. -/
def separateGraphoidUptoRow : OpenClaim := { program := "ytfpjoiojhegfaaadoor", sum := "15060bf6157a78fb78fa9a794dcef96d7f3f0aa367cd68ad873fa203390b6169", func := "haruspex/haruspexlaw07.SeparateGraphoid", spec := "separateGraphoid", inPlace := ["slices.overlaps[int]"], unfollowed := true, recurses := true, named := ["math/bits.deBruijn32tab", "math/bits.deBruijn64tab"], plainKeys := false, apart := false, laid := [("math/bits.deBruijn32tab", laid_math_bits_deBruijn32tab), ("math/bits.deBruijn64tab", laid_math_bits_deBruijn64tab)], narrowed := true }
def SeparateGraphoidUptoSaid : Prop := separateGraphoidUptoRow.holds Tryd.pinned (OpenSpec.upto separateGraphoidSpec)

/-- 'haruspexlaw07.SeparateLocal', WHERE WHAT IT READS IS OF BULK AT MOST 1048576: true; the input reads as it did. -/
def separateLocalUptoRow : OpenClaim := { program := "ytfpjoiojhegfaaadoor", sum := "15060bf6157a78fb78fa9a794dcef96d7f3f0aa367cd68ad873fa203390b6169", func := "haruspex/haruspexlaw07.SeparateLocal", spec := "separateLocal", inPlace := ["slices.overlaps[int]"], unfollowed := true, recurses := true, named := ["math/bits.deBruijn32tab", "math/bits.deBruijn64tab"], plainKeys := false, apart := false, laid := [("math/bits.deBruijn32tab", laid_math_bits_deBruijn32tab), ("math/bits.deBruijn64tab", laid_math_bits_deBruijn64tab)], narrowed := true }
def SeparateLocalUptoSaid : Prop := separateLocalUptoRow.holds Tryd.pinned (OpenSpec.upto separateLocalSpec)

/-- 'haruspexlaw07.SeparateKnown', WHERE WHAT IT READS IS OF BULK AT MOST 1048576: true; the input reads as it did. -/
def separateKnownUptoRow : OpenClaim := { program := "ytfpjoiojhegfaaadoor", sum := "15060bf6157a78fb78fa9a794dcef96d7f3f0aa367cd68ad873fa203390b6169", func := "haruspex/haruspexlaw07.SeparateKnown", spec := "separateKnown", inPlace := ["slices.overlaps[int]"], unfollowed := true, recurses := true, named := ["math/bits.deBruijn32tab", "math/bits.deBruijn64tab"], plainKeys := false, apart := false, laid := [("math/bits.deBruijn32tab", laid_math_bits_deBruijn32tab), ("math/bits.deBruijn64tab", laid_math_bits_deBruijn64tab)], narrowed := true }
def SeparateKnownUptoSaid : Prop := separateKnownUptoRow.holds Tryd.pinned (OpenSpec.upto separateKnownSpec)

end Rows
end Go.Proofs.YtfpjoiojhegfaaaDoor
