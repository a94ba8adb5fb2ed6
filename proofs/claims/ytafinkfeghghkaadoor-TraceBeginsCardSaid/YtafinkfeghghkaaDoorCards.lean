/-
  DERIVED. GIVEN WITH THE SEED: THE CARDS: each row of YtafinkfeghghkaaDoorRows.lean that lists a variable, with what it lists TIED to the program's text (the seventh form; the later family's looks); each row that meets fmt, with fmt's text TOLD by the authors' own Lean function (tested against real Go, not proved from fmt's source: count such statements apart). THE CARD IS WHAT COUNTS. Prove the row's statement (the work); the ties are given (YtafinkfeghghkaaDoorTie.lean); close each card by the builder's one call (the guide's Derived/Test/ToyasCard.lean, 'card_holds'). Laid BY PROGRAM, IN A SANDBOX (cutbox-door.mjs). By AI agents, Wed Nov 11 2026. No macro, syntax, notation, axiom, sorry.
-/
import Derived.Test.YtafinkfeghghkaaDoorRows
import GoSem.ClaimSeven
namespace Go.Proofs.YtafinkfeghghkaaDoor
namespace Rows

/-- THE TIED CARD OF 'squelchlaw23.TraceWords'. -/
def traceWordsCard : Claim7 := { stood := { row := traceWordsRow, standIns := [], harness := (true, "52bd0762163b0a68801882e82a97ecfe5cf6aba8ee68075312b468cb5d28df1d"), looks := true }, kinds := [], alts := [], laidByText := true, laidKinds := [.data, .data, .data], laidTests := true, laidLooks := .later }
def TraceWordsCardSaid : Prop := Claim7.holds Tryd.pinned (.plain (OpenSpec.ofChange traceWordsSpec)) traceWordsCard

/-- THE TIED CARD OF 'squelchlaw23.TraceBegins'. -/
def traceBeginsCard : Claim7 := { stood := { row := traceBeginsRow, standIns := [], harness := (true, "52bd0762163b0a68801882e82a97ecfe5cf6aba8ee68075312b468cb5d28df1d"), looks := true }, kinds := [], alts := [], laidByText := true, laidKinds := [.data, .data, .data], laidTests := true, laidLooks := .later }
def TraceBeginsCardSaid : Prop := Claim7.holds Tryd.pinned (.plain (OpenSpec.ofChange traceBeginsSpec)) traceBeginsCard

/-- THE TIED CARD OF 'squelchlaw23.TraceJoins'. -/
def traceJoinsCard : Claim7 := { stood := { row := traceJoinsRow, standIns := [], harness := (true, "52bd0762163b0a68801882e82a97ecfe5cf6aba8ee68075312b468cb5d28df1d"), looks := true }, kinds := [], alts := [], laidByText := true, laidKinds := [.data, .data, .data], laidTests := true, laidLooks := .later }
def TraceJoinsCardSaid : Prop := Claim7.holds Tryd.pinned (.plain (OpenSpec.ofChange traceJoinsSpec)) traceJoinsCard

/-- THE TIED CARD OF 'squelchlaw23.TraceTells'. -/
def traceTellsCard : Claim7 := { stood := { row := traceTellsRow, standIns := [], harness := (true, "52bd0762163b0a68801882e82a97ecfe5cf6aba8ee68075312b468cb5d28df1d"), looks := true }, kinds := [], alts := [], laidByText := true, laidKinds := [.data, .data, .data], laidTests := true, laidLooks := .later }
def TraceTellsCardSaid : Prop := Claim7.holds Tryd.pinned (.plain (OpenSpec.ofChange traceTellsSpec)) traceTellsCard

/-- THE SECOND FORM's CARD OF 'squelchlaw23.TraceWords'. -/
def traceWordsUptoCard : Claim7 := { stood := { row := traceWordsUptoRow, standIns := [], harness := (true, "52bd0762163b0a68801882e82a97ecfe5cf6aba8ee68075312b468cb5d28df1d"), looks := true }, kinds := [], alts := [], laidByText := true, laidKinds := [.data, .data, .data], laidTests := true, laidLooks := .later }
def TraceWordsUptoCardSaid : Prop := Claim7.holds Tryd.pinned (.plain (OpenSpec.upto traceWordsSpec)) traceWordsUptoCard

/-- THE SECOND FORM's CARD OF 'squelchlaw23.TraceBegins'. -/
def traceBeginsUptoCard : Claim7 := { stood := { row := traceBeginsUptoRow, standIns := [], harness := (true, "52bd0762163b0a68801882e82a97ecfe5cf6aba8ee68075312b468cb5d28df1d"), looks := true }, kinds := [], alts := [], laidByText := true, laidKinds := [.data, .data, .data], laidTests := true, laidLooks := .later }
def TraceBeginsUptoCardSaid : Prop := Claim7.holds Tryd.pinned (.plain (OpenSpec.upto traceBeginsSpec)) traceBeginsUptoCard

/-- THE SECOND FORM's CARD OF 'squelchlaw23.TraceJoins'. -/
def traceJoinsUptoCard : Claim7 := { stood := { row := traceJoinsUptoRow, standIns := [], harness := (true, "52bd0762163b0a68801882e82a97ecfe5cf6aba8ee68075312b468cb5d28df1d"), looks := true }, kinds := [], alts := [], laidByText := true, laidKinds := [.data, .data, .data], laidTests := true, laidLooks := .later }
def TraceJoinsUptoCardSaid : Prop := Claim7.holds Tryd.pinned (.plain (OpenSpec.upto traceJoinsSpec)) traceJoinsUptoCard

/-- THE SECOND FORM's CARD OF 'squelchlaw23.TraceTells'. -/
def traceTellsUptoCard : Claim7 := { stood := { row := traceTellsUptoRow, standIns := [], harness := (true, "52bd0762163b0a68801882e82a97ecfe5cf6aba8ee68075312b468cb5d28df1d"), looks := true }, kinds := [], alts := [], laidByText := true, laidKinds := [.data, .data, .data], laidTests := true, laidLooks := .later }
def TraceTellsUptoCardSaid : Prop := Claim7.holds Tryd.pinned (.plain (OpenSpec.upto traceTellsSpec)) traceTellsUptoCard
end Rows
end Go.Proofs.YtafinkfeghghkaaDoor
