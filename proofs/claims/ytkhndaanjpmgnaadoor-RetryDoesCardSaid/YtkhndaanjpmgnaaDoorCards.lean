/-
  DERIVED. GIVEN WITH THE SEED: THE CARDS: each row of YtkhndaanjpmgnaaDoorRows.lean that lists a variable, with what it lists TIED to the program's text (the seventh form; the later family's looks); each row that meets fmt, with fmt's text TOLD by the authors' own Lean function (tested against real Go, not proved from fmt's source: count such statements apart). THE CARD IS WHAT COUNTS. Prove the row's statement (the work); the ties are given (YtkhndaanjpmgnaaDoorTie.lean); close each card by the builder's one call (the guide's Derived/Test/ToyasCard.lean, 'card_holds'). Laid BY PROGRAM, IN A SANDBOX (cutbox-door.mjs). By AI agents, Wed Nov 11 2026. No macro, syntax, notation, axiom, sorry.
-/
import Derived.Test.YtkhndaanjpmgnaaDoorRows
import GoSem.ClaimSeven
namespace Go.Proofs.YtkhndaanjpmgnaaDoor
namespace Rows

/-- THE TIED CARD OF 'squelchlaw17.RetryAnswers'. -/
def retryAnswersCard : Claim7 := { stood := { row := retryAnswersRow, standIns := [], harness := (true, "1d214063ad4c81de106e852533125123440377025d04954878b433ab008d251e"), looks := false }, kinds := [], alts := [], laidByText := true, laidKinds := [.data, .pinned], laidTests := true, laidLooks := .later }
def RetryAnswersCardSaid : Prop := Claim7.holds Tryd.pinned (.plain (OpenSpec.ofChange retryAnswersSpec)) retryAnswersCard

/-- THE TIED CARD OF 'squelchlaw17.RetryKinds'. -/
def retryKindsCard : Claim7 := { stood := { row := retryKindsRow, standIns := [], harness := (true, "1d214063ad4c81de106e852533125123440377025d04954878b433ab008d251e"), looks := false }, kinds := [], alts := [], laidByText := true, laidKinds := [.data, .pinned], laidTests := true, laidLooks := .later }
def RetryKindsCardSaid : Prop := Claim7.holds Tryd.pinned (.plain (OpenSpec.ofChange retryKindsSpec)) retryKindsCard

/-- THE TIED CARD OF 'squelchlaw17.RetryTries'. -/
def retryTriesCard : Claim7 := { stood := { row := retryTriesRow, standIns := [], harness := (true, "1d214063ad4c81de106e852533125123440377025d04954878b433ab008d251e"), looks := false }, kinds := [], alts := [], laidByText := true, laidKinds := [.data, .pinned], laidTests := true, laidLooks := .later }
def RetryTriesCardSaid : Prop := Claim7.holds Tryd.pinned (.plain (OpenSpec.ofChange retryTriesSpec)) retryTriesCard

/-- THE TIED CARD OF 'squelchlaw17.RetryOnce'. -/
def retryOnceCard : Claim7 := { stood := { row := retryOnceRow, standIns := [], harness := (true, "1d214063ad4c81de106e852533125123440377025d04954878b433ab008d251e"), looks := false }, kinds := [], alts := [], laidByText := true, laidKinds := [.data, .pinned], laidTests := true, laidLooks := .later }
def RetryOnceCardSaid : Prop := Claim7.holds Tryd.pinned (.plain (OpenSpec.ofChange retryOnceSpec)) retryOnceCard

/-- THE TIED CARD OF 'squelchlaw17.RetryDoes'. -/
def retryDoesCard : Claim7 := { stood := { row := retryDoesRow, standIns := [], harness := (true, "1d214063ad4c81de106e852533125123440377025d04954878b433ab008d251e"), looks := false }, kinds := [], alts := [], laidByText := true, laidKinds := [.data, .pinned], laidTests := true, laidLooks := .later }
def RetryDoesCardSaid : Prop := Claim7.holds Tryd.pinned (.plain (OpenSpec.ofChange retryDoesSpec)) retryDoesCard

/-- THE SECOND FORM's CARD OF 'squelchlaw17.RetryAnswers'. -/
def retryAnswersUptoCard : Claim7 := { stood := { row := retryAnswersUptoRow, standIns := [], harness := (true, "1d214063ad4c81de106e852533125123440377025d04954878b433ab008d251e"), looks := false }, kinds := [], alts := [], laidByText := true, laidKinds := [.data, .pinned], laidTests := true, laidLooks := .later }
def RetryAnswersUptoCardSaid : Prop := Claim7.holds Tryd.pinned (.plain (OpenSpec.upto retryAnswersSpec)) retryAnswersUptoCard

/-- THE SECOND FORM's CARD OF 'squelchlaw17.RetryKinds'. -/
def retryKindsUptoCard : Claim7 := { stood := { row := retryKindsUptoRow, standIns := [], harness := (true, "1d214063ad4c81de106e852533125123440377025d04954878b433ab008d251e"), looks := false }, kinds := [], alts := [], laidByText := true, laidKinds := [.data, .pinned], laidTests := true, laidLooks := .later }
def RetryKindsUptoCardSaid : Prop := Claim7.holds Tryd.pinned (.plain (OpenSpec.upto retryKindsSpec)) retryKindsUptoCard

/-- THE SECOND FORM's CARD OF 'squelchlaw17.RetryTries'. -/
def retryTriesUptoCard : Claim7 := { stood := { row := retryTriesUptoRow, standIns := [], harness := (true, "1d214063ad4c81de106e852533125123440377025d04954878b433ab008d251e"), looks := false }, kinds := [], alts := [], laidByText := true, laidKinds := [.data, .pinned], laidTests := true, laidLooks := .later }
def RetryTriesUptoCardSaid : Prop := Claim7.holds Tryd.pinned (.plain (OpenSpec.upto retryTriesSpec)) retryTriesUptoCard

/-- THE SECOND FORM's CARD OF 'squelchlaw17.RetryOnce'. -/
def retryOnceUptoCard : Claim7 := { stood := { row := retryOnceUptoRow, standIns := [], harness := (true, "1d214063ad4c81de106e852533125123440377025d04954878b433ab008d251e"), looks := false }, kinds := [], alts := [], laidByText := true, laidKinds := [.data, .pinned], laidTests := true, laidLooks := .later }
def RetryOnceUptoCardSaid : Prop := Claim7.holds Tryd.pinned (.plain (OpenSpec.upto retryOnceSpec)) retryOnceUptoCard

/-- THE SECOND FORM's CARD OF 'squelchlaw17.RetryDoes'. -/
def retryDoesUptoCard : Claim7 := { stood := { row := retryDoesUptoRow, standIns := [], harness := (true, "1d214063ad4c81de106e852533125123440377025d04954878b433ab008d251e"), looks := false }, kinds := [], alts := [], laidByText := true, laidKinds := [.data, .pinned], laidTests := true, laidLooks := .later }
def RetryDoesUptoCardSaid : Prop := Claim7.holds Tryd.pinned (.plain (OpenSpec.upto retryDoesSpec)) retryDoesUptoCard
end Rows
end Go.Proofs.YtkhndaanjpmgnaaDoor
