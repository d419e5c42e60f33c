/-
  DERIVED. GIVEN WITH THE SEED: THE CARDS: each row of YtfpjoiojhegfaaaDoorRows.lean that lists a variable, with what it lists TIED to the program's text (the seventh form; the later family's looks); each row that meets fmt, with fmt's text TOLD by the authors' own Lean function (tested against real Go, not proved from fmt's source: count such statements apart). THE CARD IS WHAT COUNTS. Prove the row's statement (the work); the ties are given (YtfpjoiojhegfaaaDoorTie.lean); close each card by the builder's one call (the guide's Derived/Test/ToyasCard.lean, 'card_holds'). Laid BY PROGRAM, IN A SANDBOX (cutbox-door.mjs). By AI agents, Wed Nov 11 2026. No macro, syntax, notation, axiom, sorry.
-/
import Derived.Test.YtfpjoiojhegfaaaDoorRows
import GoSem.ClaimSeven
namespace Go.Proofs.YtfpjoiojhegfaaaDoor
namespace Rows

/-- THE TIED CARD OF 'haruspexlaw07.SeparateReaches'. -/
def separateReachesCard : Claim7 := { stood := { row := separateReachesRow, standIns := [], harness := (true, "0353bdefa27e2ca713febb09e06a753014fee220d7c2ea6a16ac40993791688a"), looks := false }, kinds := [], alts := [], laidByText := true, laidKinds := [.data, .data], laidTests := true, laidLooks := .later }
def SeparateReachesCardSaid : Prop := Claim7.holds Tryd.pinned (.plain (OpenSpec.ofChange separateReachesSpec)) separateReachesCard

/-- THE TIED CARD OF 'haruspexlaw07.SeparateLeast'. -/
def separateLeastCard : Claim7 := { stood := { row := separateLeastRow, standIns := [], harness := (true, "0353bdefa27e2ca713febb09e06a753014fee220d7c2ea6a16ac40993791688a"), looks := false }, kinds := [], alts := [], laidByText := true, laidKinds := [.data, .data], laidTests := true, laidLooks := .later }
def SeparateLeastCardSaid : Prop := Claim7.holds Tryd.pinned (.plain (OpenSpec.ofChange separateLeastSpec)) separateLeastCard

/-- THE TIED CARD OF 'haruspexlaw07.SeparateWitnesses'. -/
def separateWitnessesCard : Claim7 := { stood := { row := separateWitnessesRow, standIns := [], harness := (true, "0353bdefa27e2ca713febb09e06a753014fee220d7c2ea6a16ac40993791688a"), looks := false }, kinds := [], alts := [], laidByText := true, laidKinds := [.data, .data], laidTests := true, laidLooks := .later }
def SeparateWitnessesCardSaid : Prop := Claim7.holds Tryd.pinned (.plain (OpenSpec.ofChange separateWitnessesSpec)) separateWitnessesCard

/-- THE TIED CARD OF 'haruspexlaw07.SeparateSound'. -/
def separateSoundCard : Claim7 := { stood := { row := separateSoundRow, standIns := [], harness := (true, "0353bdefa27e2ca713febb09e06a753014fee220d7c2ea6a16ac40993791688a"), looks := false }, kinds := [], alts := [], laidByText := true, laidKinds := [.data, .data], laidTests := true, laidLooks := .later }
def SeparateSoundCardSaid : Prop := Claim7.holds Tryd.pinned (.plain (OpenSpec.ofChange separateSoundSpec)) separateSoundCard

/-- THE TIED CARD OF 'haruspexlaw07.SeparateShows'. -/
def separateShowsCard : Claim7 := { stood := { row := separateShowsRow, standIns := [], harness := (true, "0353bdefa27e2ca713febb09e06a753014fee220d7c2ea6a16ac40993791688a"), looks := false }, kinds := [], alts := [], laidByText := true, laidKinds := [.data, .data], laidTests := true, laidLooks := .later }
def SeparateShowsCardSaid : Prop := Claim7.holds Tryd.pinned (.plain (OpenSpec.ofChange separateShowsSpec)) separateShowsCard

/-- THE TIED CARD OF 'haruspexlaw07.SeparateGraphoid'. -/
def separateGraphoidCard : Claim7 := { stood := { row := separateGraphoidRow, standIns := [], harness := (true, "0353bdefa27e2ca713febb09e06a753014fee220d7c2ea6a16ac40993791688a"), looks := false }, kinds := [], alts := [], laidByText := true, laidKinds := [.data, .data], laidTests := true, laidLooks := .later }
def SeparateGraphoidCardSaid : Prop := Claim7.holds Tryd.pinned (.plain (OpenSpec.ofChange separateGraphoidSpec)) separateGraphoidCard

/-- THE TIED CARD OF 'haruspexlaw07.SeparateLocal'. -/
def separateLocalCard : Claim7 := { stood := { row := separateLocalRow, standIns := [], harness := (true, "0353bdefa27e2ca713febb09e06a753014fee220d7c2ea6a16ac40993791688a"), looks := false }, kinds := [], alts := [], laidByText := true, laidKinds := [.data, .data], laidTests := true, laidLooks := .later }
def SeparateLocalCardSaid : Prop := Claim7.holds Tryd.pinned (.plain (OpenSpec.ofChange separateLocalSpec)) separateLocalCard

/-- THE TIED CARD OF 'haruspexlaw07.SeparateKnown'. -/
def separateKnownCard : Claim7 := { stood := { row := separateKnownRow, standIns := [], harness := (true, "0353bdefa27e2ca713febb09e06a753014fee220d7c2ea6a16ac40993791688a"), looks := false }, kinds := [], alts := [], laidByText := true, laidKinds := [.data, .data], laidTests := true, laidLooks := .later }
def SeparateKnownCardSaid : Prop := Claim7.holds Tryd.pinned (.plain (OpenSpec.ofChange separateKnownSpec)) separateKnownCard

/-- THE SECOND FORM's CARD OF 'haruspexlaw07.SeparateReaches'. -/
def separateReachesUptoCard : Claim7 := { stood := { row := separateReachesUptoRow, standIns := [], harness := (true, "0353bdefa27e2ca713febb09e06a753014fee220d7c2ea6a16ac40993791688a"), looks := false }, kinds := [], alts := [], laidByText := true, laidKinds := [.data, .data], laidTests := true, laidLooks := .later }
def SeparateReachesUptoCardSaid : Prop := Claim7.holds Tryd.pinned (.plain (OpenSpec.upto separateReachesSpec)) separateReachesUptoCard

/-- THE SECOND FORM's CARD OF 'haruspexlaw07.SeparateLeast'. -/
def separateLeastUptoCard : Claim7 := { stood := { row := separateLeastUptoRow, standIns := [], harness := (true, "0353bdefa27e2ca713febb09e06a753014fee220d7c2ea6a16ac40993791688a"), looks := false }, kinds := [], alts := [], laidByText := true, laidKinds := [.data, .data], laidTests := true, laidLooks := .later }
def SeparateLeastUptoCardSaid : Prop := Claim7.holds Tryd.pinned (.plain (OpenSpec.upto separateLeastSpec)) separateLeastUptoCard

/-- THE SECOND FORM's CARD OF 'haruspexlaw07.SeparateWitnesses'. -/
def separateWitnessesUptoCard : Claim7 := { stood := { row := separateWitnessesUptoRow, standIns := [], harness := (true, "0353bdefa27e2ca713febb09e06a753014fee220d7c2ea6a16ac40993791688a"), looks := false }, kinds := [], alts := [], laidByText := true, laidKinds := [.data, .data], laidTests := true, laidLooks := .later }
def SeparateWitnessesUptoCardSaid : Prop := Claim7.holds Tryd.pinned (.plain (OpenSpec.upto separateWitnessesSpec)) separateWitnessesUptoCard

/-- THE SECOND FORM's CARD OF 'haruspexlaw07.SeparateSound'. -/
def separateSoundUptoCard : Claim7 := { stood := { row := separateSoundUptoRow, standIns := [], harness := (true, "0353bdefa27e2ca713febb09e06a753014fee220d7c2ea6a16ac40993791688a"), looks := false }, kinds := [], alts := [], laidByText := true, laidKinds := [.data, .data], laidTests := true, laidLooks := .later }
def SeparateSoundUptoCardSaid : Prop := Claim7.holds Tryd.pinned (.plain (OpenSpec.upto separateSoundSpec)) separateSoundUptoCard

/-- THE SECOND FORM's CARD OF 'haruspexlaw07.SeparateShows'. -/
def separateShowsUptoCard : Claim7 := { stood := { row := separateShowsUptoRow, standIns := [], harness := (true, "0353bdefa27e2ca713febb09e06a753014fee220d7c2ea6a16ac40993791688a"), looks := false }, kinds := [], alts := [], laidByText := true, laidKinds := [.data, .data], laidTests := true, laidLooks := .later }
def SeparateShowsUptoCardSaid : Prop := Claim7.holds Tryd.pinned (.plain (OpenSpec.upto separateShowsSpec)) separateShowsUptoCard

/-- THE SECOND FORM's CARD OF 'haruspexlaw07.SeparateGraphoid'. -/
def separateGraphoidUptoCard : Claim7 := { stood := { row := separateGraphoidUptoRow, standIns := [], harness := (true, "0353bdefa27e2ca713febb09e06a753014fee220d7c2ea6a16ac40993791688a"), looks := false }, kinds := [], alts := [], laidByText := true, laidKinds := [.data, .data], laidTests := true, laidLooks := .later }
def SeparateGraphoidUptoCardSaid : Prop := Claim7.holds Tryd.pinned (.plain (OpenSpec.upto separateGraphoidSpec)) separateGraphoidUptoCard

/-- THE SECOND FORM's CARD OF 'haruspexlaw07.SeparateLocal'. -/
def separateLocalUptoCard : Claim7 := { stood := { row := separateLocalUptoRow, standIns := [], harness := (true, "0353bdefa27e2ca713febb09e06a753014fee220d7c2ea6a16ac40993791688a"), looks := false }, kinds := [], alts := [], laidByText := true, laidKinds := [.data, .data], laidTests := true, laidLooks := .later }
def SeparateLocalUptoCardSaid : Prop := Claim7.holds Tryd.pinned (.plain (OpenSpec.upto separateLocalSpec)) separateLocalUptoCard

/-- THE SECOND FORM's CARD OF 'haruspexlaw07.SeparateKnown'. -/
def separateKnownUptoCard : Claim7 := { stood := { row := separateKnownUptoRow, standIns := [], harness := (true, "0353bdefa27e2ca713febb09e06a753014fee220d7c2ea6a16ac40993791688a"), looks := false }, kinds := [], alts := [], laidByText := true, laidKinds := [.data, .data], laidTests := true, laidLooks := .later }
def SeparateKnownUptoCardSaid : Prop := Claim7.holds Tryd.pinned (.plain (OpenSpec.upto separateKnownSpec)) separateKnownUptoCard
end Rows
end Go.Proofs.YtfpjoiojhegfaaaDoor
