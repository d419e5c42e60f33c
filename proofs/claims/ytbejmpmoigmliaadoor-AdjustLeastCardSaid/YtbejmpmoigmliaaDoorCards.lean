/-
  DERIVED. GIVEN WITH THE SEED: THE CARDS: each row of YtbejmpmoigmliaaDoorRows.lean that lists a variable, with what it lists TIED to the program's text (the seventh form; the later family's looks); each row that meets fmt, with fmt's text TOLD by the authors' own Lean function (tested against real Go, not proved from fmt's source: count such statements apart). THE CARD IS WHAT COUNTS. Prove the row's statement (the work); the ties are given (YtbejmpmoigmliaaDoorTie.lean); close each card by the builder's one call (the guide's Derived/Test/ToyasCard.lean, 'card_holds'). Laid BY PROGRAM, IN A SANDBOX (cutbox-door.mjs). By AI agents, Wed Nov 11 2026. No macro, syntax, notation, axiom, sorry.
-/
import Derived.Test.YtbejmpmoigmliaaDoorRows
import GoSem.ClaimSeven
namespace Go.Proofs.YtbejmpmoigmliaaDoor
namespace Rows

/-- THE TIED CARD OF 'haruspexlaw34.AdjustLeast'. -/
def adjustLeastCard : Claim7 := { stood := { row := adjustLeastRow, standIns := [], harness := (true, "db17036fbc4eb22914a0925a50cab321355850335a719656e8b29297df563021"), looks := false }, kinds := [], alts := [], laidByText := true, laidKinds := [.data, .data], laidTests := true, laidLooks := .later }
def AdjustLeastCardSaid : Prop := Claim7.holds Tryd.pinned (.plain (OpenSpec.ofChange adjustLeastSpec)) adjustLeastCard

/-- THE TIED CARD OF 'haruspexlaw34.AdjustKnown'. -/
def adjustKnownCard : Claim7 := { stood := { row := adjustKnownRow, standIns := [], harness := (true, "db17036fbc4eb22914a0925a50cab321355850335a719656e8b29297df563021"), looks := false }, kinds := [], alts := [], laidByText := true, laidKinds := [.data, .data], laidTests := true, laidLooks := .later }
def AdjustKnownCardSaid : Prop := Claim7.holds Tryd.pinned (.plain (OpenSpec.ofChange adjustKnownSpec)) adjustKnownCard

/-- THE SECOND FORM's CARD OF 'haruspexlaw34.AdjustLeast'. -/
def adjustLeastUptoCard : Claim7 := { stood := { row := adjustLeastUptoRow, standIns := [], harness := (true, "db17036fbc4eb22914a0925a50cab321355850335a719656e8b29297df563021"), looks := false }, kinds := [], alts := [], laidByText := true, laidKinds := [.data, .data], laidTests := true, laidLooks := .later }
def AdjustLeastUptoCardSaid : Prop := Claim7.holds Tryd.pinned (.plain (OpenSpec.upto adjustLeastSpec)) adjustLeastUptoCard

/-- THE SECOND FORM's CARD OF 'haruspexlaw34.AdjustKnown'. -/
def adjustKnownUptoCard : Claim7 := { stood := { row := adjustKnownUptoRow, standIns := [], harness := (true, "db17036fbc4eb22914a0925a50cab321355850335a719656e8b29297df563021"), looks := false }, kinds := [], alts := [], laidByText := true, laidKinds := [.data, .data], laidTests := true, laidLooks := .later }
def AdjustKnownUptoCardSaid : Prop := Claim7.holds Tryd.pinned (.plain (OpenSpec.upto adjustKnownSpec)) adjustKnownUptoCard
end Rows
end Go.Proofs.YtbejmpmoigmliaaDoor
