/-
  DERIVED. GIVEN WITH THE SEED: THE CARDS: each row of YtbejmpmoigmliaaGreatDoorRows.lean that lists a variable, with what it lists TIED to the program's text (the seventh form; the later family's looks); each row that meets fmt, with fmt's text TOLD by the authors' own Lean function (tested against real Go, not proved from fmt's source: count such statements apart). THE CARD IS WHAT COUNTS. Prove the row's statement (the work); the ties are given (YtbejmpmoigmliaaGreatDoorTie.lean); close each card by the builder's one call (the guide's Derived/Test/ToyasCard.lean, 'card_holds'). Laid BY PROGRAM, IN A SANDBOX (cutbox-door.mjs). By AI agents, Wed Nov 11 2026. No macro, syntax, notation, axiom, sorry.
-/
import Derived.Test.YtbejmpmoigmliaaGreatDoorRows
import GoSem.ClaimSeven
namespace Go.Proofs.YtbejmpmoigmliaaGreatDoor
namespace Rows

/-- THE TIED CARD OF 'haruspexlaw34.AdjustCriteria'. -/
def adjustCriteriaCard : Claim7 := { stood := { row := adjustCriteriaRow, standIns := [], harness := (true, "29e066dee225d03e4ce63be97e17d0a8bf981a5319f44c396cee9491aca03bb5"), looks := false }, kinds := [], alts := [], laidByText := true, laidKinds := [.data, .data], laidTests := true, laidLooks := .later }
def AdjustCriteriaCardSaid : Prop := Claim7.holds Tryz.pinned (.plain (OpenSpec.ofChange adjustCriteriaSpec)) adjustCriteriaCard

/-- THE TIED CARD OF 'haruspexlaw34.AdjustSets'. -/
def adjustSetsCard : Claim7 := { stood := { row := adjustSetsRow, standIns := [], harness := (true, "29e066dee225d03e4ce63be97e17d0a8bf981a5319f44c396cee9491aca03bb5"), looks := false }, kinds := [], alts := [], laidByText := true, laidKinds := [.data, .data], laidTests := true, laidLooks := .later }
def AdjustSetsCardSaid : Prop := Claim7.holds Tryz.pinned (.plain (OpenSpec.ofChange adjustSetsSpec)) adjustSetsCard

/-- THE TIED CARD OF 'haruspexlaw34.AdjustFormulas'. -/
def adjustFormulasCard : Claim7 := { stood := { row := adjustFormulasRow, standIns := [], harness := (true, "29e066dee225d03e4ce63be97e17d0a8bf981a5319f44c396cee9491aca03bb5"), looks := false }, kinds := [], alts := [], laidByText := true, laidKinds := [.data, .data], laidTests := true, laidLooks := .later }
def AdjustFormulasCardSaid : Prop := Claim7.holds Tryz.pinned (.plain (OpenSpec.ofChange adjustFormulasSpec)) adjustFormulasCard

/-- THE TIED CARD OF 'haruspexlaw34.AdjustTrue'. -/
def adjustTrueCard : Claim7 := { stood := { row := adjustTrueRow, standIns := [], harness := (true, "29e066dee225d03e4ce63be97e17d0a8bf981a5319f44c396cee9491aca03bb5"), looks := false }, kinds := [], alts := [], laidByText := true, laidKinds := [.data, .data], laidTests := true, laidLooks := .later }
def AdjustTrueCardSaid : Prop := Claim7.holds Tryz.pinned (.plain (OpenSpec.ofChange adjustTrueSpec)) adjustTrueCard

/-- THE SECOND FORM's CARD OF 'haruspexlaw34.AdjustCriteria'. -/
def adjustCriteriaUptoCard : Claim7 := { stood := { row := adjustCriteriaUptoRow, standIns := [], harness := (true, "29e066dee225d03e4ce63be97e17d0a8bf981a5319f44c396cee9491aca03bb5"), looks := false }, kinds := [], alts := [], laidByText := true, laidKinds := [.data, .data], laidTests := true, laidLooks := .later }
def AdjustCriteriaUptoCardSaid : Prop := Claim7.holds Tryz.pinned (.plain (OpenSpec.upto adjustCriteriaSpec)) adjustCriteriaUptoCard

/-- THE SECOND FORM's CARD OF 'haruspexlaw34.AdjustSets'. -/
def adjustSetsUptoCard : Claim7 := { stood := { row := adjustSetsUptoRow, standIns := [], harness := (true, "29e066dee225d03e4ce63be97e17d0a8bf981a5319f44c396cee9491aca03bb5"), looks := false }, kinds := [], alts := [], laidByText := true, laidKinds := [.data, .data], laidTests := true, laidLooks := .later }
def AdjustSetsUptoCardSaid : Prop := Claim7.holds Tryz.pinned (.plain (OpenSpec.upto adjustSetsSpec)) adjustSetsUptoCard

/-- THE SECOND FORM's CARD OF 'haruspexlaw34.AdjustFormulas'. -/
def adjustFormulasUptoCard : Claim7 := { stood := { row := adjustFormulasUptoRow, standIns := [], harness := (true, "29e066dee225d03e4ce63be97e17d0a8bf981a5319f44c396cee9491aca03bb5"), looks := false }, kinds := [], alts := [], laidByText := true, laidKinds := [.data, .data], laidTests := true, laidLooks := .later }
def AdjustFormulasUptoCardSaid : Prop := Claim7.holds Tryz.pinned (.plain (OpenSpec.upto adjustFormulasSpec)) adjustFormulasUptoCard

/-- THE SECOND FORM's CARD OF 'haruspexlaw34.AdjustTrue'. -/
def adjustTrueUptoCard : Claim7 := { stood := { row := adjustTrueUptoRow, standIns := [], harness := (true, "29e066dee225d03e4ce63be97e17d0a8bf981a5319f44c396cee9491aca03bb5"), looks := false }, kinds := [], alts := [], laidByText := true, laidKinds := [.data, .data], laidTests := true, laidLooks := .later }
def AdjustTrueUptoCardSaid : Prop := Claim7.holds Tryz.pinned (.plain (OpenSpec.upto adjustTrueSpec)) adjustTrueUptoCard
end Rows
end Go.Proofs.YtbejmpmoigmliaaGreatDoor
