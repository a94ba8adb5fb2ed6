/-
  DERIVED. GIVEN WITH THE SEED: THE CARDS: each row of YtefeeifdndoggaaDoorRows.lean that lists a variable, with what it lists TIED to the program's text (the seventh form; the later family's looks); each row that meets fmt, with fmt's text TOLD by the authors' own Lean function (tested against real Go, not proved from fmt's source: count such statements apart). THE CARD IS WHAT COUNTS. Prove the row's statement (the work); the ties are given (YtefeeifdndoggaaDoorTie.lean); close each card by the builder's one call (the guide's Derived/Test/ToyasCard.lean, 'card_holds'). Laid BY PROGRAM, IN A SANDBOX (cutbox-door.mjs). By AI agents, Wed Nov 11 2026. No macro, syntax, notation, axiom, sorry.
-/
import Derived.Test.YtefeeifdndoggaaDoorRows
import GoSem.ClaimSeven
namespace Go.Proofs.YtefeeifdndoggaaDoor
namespace Rows

/-- THE TIED CARD OF 'squelchlaw23.TraceFloor'. -/
def traceFloorCard : Claim7 := { stood := { row := traceFloorRow, standIns := [], harness := (true, "dadd8f87afcc80a89b2fd6d0c94c81f8e89424775a33d41b7c42157ad94beee3"), looks := true }, kinds := [], alts := [], laidByText := true, laidKinds := [.data, .data, .data], laidTests := true, laidLooks := .later }
def TraceFloorCardSaid : Prop := Claim7.holds Tryd.pinned (.plain (OpenSpec.ofChange traceFloorSpec)) traceFloorCard

/-- THE SECOND FORM's CARD OF 'squelchlaw23.TraceFloor'. -/
def traceFloorUptoCard : Claim7 := { stood := { row := traceFloorUptoRow, standIns := [], harness := (true, "dadd8f87afcc80a89b2fd6d0c94c81f8e89424775a33d41b7c42157ad94beee3"), looks := true }, kinds := [], alts := [], laidByText := true, laidKinds := [.data, .data, .data], laidTests := true, laidLooks := .later }
def TraceFloorUptoCardSaid : Prop := Claim7.holds Tryd.pinned (.plain (OpenSpec.upto traceFloorSpec)) traceFloorUptoCard
end Rows
end Go.Proofs.YtefeeifdndoggaaDoor
