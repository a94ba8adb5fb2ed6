/-
  DERIVED. GIVEN WITH THE SEED: THE CARDS: each row of YtjbbjnjcjjomgaaGreatDoorRows.lean that lists a variable, with what it lists TIED to the program's text (the seventh form; the later family's looks); each row that meets fmt, with fmt's text TOLD by the authors' own Lean function (tested against real Go, not proved from fmt's source: count such statements apart). THE CARD IS WHAT COUNTS. Prove the row's statement (the work); the ties are given (YtjbbjnjcjjomgaaGreatDoorTie.lean); close each card by the builder's one call (the guide's Derived/Test/ToyasCard.lean, 'card_holds'). Laid BY PROGRAM, IN A SANDBOX (cutbox-door.mjs). By AI agents, Wed Nov 11 2026. No macro, syntax, notation, axiom, sorry.
-/
import Derived.Test.YtjbbjnjcjjomgaaGreatDoorRows
import GoSem.ClaimSeven
namespace Go.Proofs.YtjbbjnjcjjomgaaGreatDoor
namespace Rows

/-- THE TIED CARD OF 'squelchlaw20.ServerArbiter'. -/
def serverArbiterCard : Claim7 := { stood := { row := serverArbiterRow, standIns := [], harness := (true, "7c77e80c73a0bce4e2b50694a9d937e946f04748307ddf1e2557f1e3ca796cdc"), looks := false }, kinds := [], alts := [], laidByText := true, laidKinds := [.data, .pinned], laidTests := true, laidLooks := .later }
def ServerArbiterCardSaid : Prop := Claim7.holds Tryz.pinned (.plain (OpenSpec.ofChange serverArbiterSpec)) serverArbiterCard

/-- THE TIED CARD OF 'squelchlaw20.ServerGroups'. -/
def serverGroupsCard : Claim7 := { stood := { row := serverGroupsRow, standIns := [], harness := (true, "7c77e80c73a0bce4e2b50694a9d937e946f04748307ddf1e2557f1e3ca796cdc"), looks := false }, kinds := [], alts := [], laidByText := true, laidKinds := [.data, .pinned], laidTests := true, laidLooks := .later }
def ServerGroupsCardSaid : Prop := Claim7.holds Tryz.pinned (.plain (OpenSpec.ofChange serverGroupsSpec)) serverGroupsCard

/-- THE TIED CARD OF 'squelchlaw20.ServerAcks'. -/
def serverAcksCard : Claim7 := { stood := { row := serverAcksRow, standIns := [], harness := (true, "7c77e80c73a0bce4e2b50694a9d937e946f04748307ddf1e2557f1e3ca796cdc"), looks := false }, kinds := [], alts := [], laidByText := true, laidKinds := [.data, .pinned], laidTests := true, laidLooks := .later }
def ServerAcksCardSaid : Prop := Claim7.holds Tryz.pinned (.plain (OpenSpec.ofChange serverAcksSpec)) serverAcksCard

/-- THE TIED CARD OF 'squelchlaw20.ServerForwards'. -/
def serverForwardsCard : Claim7 := { stood := { row := serverForwardsRow, standIns := [], harness := (true, "7c77e80c73a0bce4e2b50694a9d937e946f04748307ddf1e2557f1e3ca796cdc"), looks := false }, kinds := [], alts := [], laidByText := true, laidKinds := [.data, .pinned], laidTests := true, laidLooks := .later }
def ServerForwardsCardSaid : Prop := Claim7.holds Tryz.pinned (.plain (OpenSpec.ofChange serverForwardsSpec)) serverForwardsCard

/-- THE TIED CARD OF 'squelchlaw20.ServerOnce'. -/
def serverOnceCard : Claim7 := { stood := { row := serverOnceRow, standIns := [], harness := (true, "7c77e80c73a0bce4e2b50694a9d937e946f04748307ddf1e2557f1e3ca796cdc"), looks := false }, kinds := [], alts := [], laidByText := true, laidKinds := [.data, .pinned], laidTests := true, laidLooks := .later }
def ServerOnceCardSaid : Prop := Claim7.holds Tryz.pinned (.plain (OpenSpec.ofChange serverOnceSpec)) serverOnceCard

/-- THE SECOND FORM's CARD OF 'squelchlaw20.ServerArbiter'. -/
def serverArbiterUptoCard : Claim7 := { stood := { row := serverArbiterUptoRow, standIns := [], harness := (true, "7c77e80c73a0bce4e2b50694a9d937e946f04748307ddf1e2557f1e3ca796cdc"), looks := false }, kinds := [], alts := [], laidByText := true, laidKinds := [.data, .pinned], laidTests := true, laidLooks := .later }
def ServerArbiterUptoCardSaid : Prop := Claim7.holds Tryz.pinned (.plain (OpenSpec.upto serverArbiterSpec)) serverArbiterUptoCard

/-- THE SECOND FORM's CARD OF 'squelchlaw20.ServerGroups'. -/
def serverGroupsUptoCard : Claim7 := { stood := { row := serverGroupsUptoRow, standIns := [], harness := (true, "7c77e80c73a0bce4e2b50694a9d937e946f04748307ddf1e2557f1e3ca796cdc"), looks := false }, kinds := [], alts := [], laidByText := true, laidKinds := [.data, .pinned], laidTests := true, laidLooks := .later }
def ServerGroupsUptoCardSaid : Prop := Claim7.holds Tryz.pinned (.plain (OpenSpec.upto serverGroupsSpec)) serverGroupsUptoCard

/-- THE SECOND FORM's CARD OF 'squelchlaw20.ServerAcks'. -/
def serverAcksUptoCard : Claim7 := { stood := { row := serverAcksUptoRow, standIns := [], harness := (true, "7c77e80c73a0bce4e2b50694a9d937e946f04748307ddf1e2557f1e3ca796cdc"), looks := false }, kinds := [], alts := [], laidByText := true, laidKinds := [.data, .pinned], laidTests := true, laidLooks := .later }
def ServerAcksUptoCardSaid : Prop := Claim7.holds Tryz.pinned (.plain (OpenSpec.upto serverAcksSpec)) serverAcksUptoCard

/-- THE SECOND FORM's CARD OF 'squelchlaw20.ServerForwards'. -/
def serverForwardsUptoCard : Claim7 := { stood := { row := serverForwardsUptoRow, standIns := [], harness := (true, "7c77e80c73a0bce4e2b50694a9d937e946f04748307ddf1e2557f1e3ca796cdc"), looks := false }, kinds := [], alts := [], laidByText := true, laidKinds := [.data, .pinned], laidTests := true, laidLooks := .later }
def ServerForwardsUptoCardSaid : Prop := Claim7.holds Tryz.pinned (.plain (OpenSpec.upto serverForwardsSpec)) serverForwardsUptoCard

/-- THE SECOND FORM's CARD OF 'squelchlaw20.ServerOnce'. -/
def serverOnceUptoCard : Claim7 := { stood := { row := serverOnceUptoRow, standIns := [], harness := (true, "7c77e80c73a0bce4e2b50694a9d937e946f04748307ddf1e2557f1e3ca796cdc"), looks := false }, kinds := [], alts := [], laidByText := true, laidKinds := [.data, .pinned], laidTests := true, laidLooks := .later }
def ServerOnceUptoCardSaid : Prop := Claim7.holds Tryz.pinned (.plain (OpenSpec.upto serverOnceSpec)) serverOnceUptoCard
end Rows
end Go.Proofs.YtjbbjnjcjjomgaaGreatDoor
