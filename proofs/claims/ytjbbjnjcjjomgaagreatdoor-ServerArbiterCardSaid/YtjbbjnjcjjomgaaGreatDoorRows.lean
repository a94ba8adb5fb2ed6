/-
  NARROWER THAN 'FOR EVERY INPUT', by the rows' own cells (each row's printed sentence says how): ServerArbiter: laid · ServerGroups: laid · ServerAcks: laid · ServerForwards: laid · ServerOnce: laid.
  DERIVED. THE GIVEN ROWS OF THIS SEAT. 5 by the template 'for every input the law returns true; each argument reads behind the call as it read before'; 0 by the template 'total and deterministic' (their statements: YtjbbjnjcjjomgaaGreatDoorTotals.lean).
  GIVEN WITH THE SEED: the statements are not yours to turn. If you find one false, say at which input.
  Laid BY PROGRAM, IN A SANDBOX (cutbox-rows.mjs): the forced cells as the released guide's own fill.sh prints them over the translation 947ed080cc5e9ab3… (all of the seat's roots in one cut). By AI agents, Wed Nov 11 2026. No macro, syntax, notation, axiom, sorry.
-/
import Derived.Test.YtjbbjnjcjjomgaaGreatDoorChecked
import GoSem.PinnedTables
import GoSem.Claim
import GoSem.ClaimJoined
import GoSem.ClaimMapViews
import Derived.JoinedTies
import Derived.KernelRfl
namespace Go.Proofs.YtjbbjnjcjjomgaaGreatDoor
/- THE CELL 'sum', in the pinned program and in every row, IS THE sha256 OF THE DUMP (.gsa) THAT YtjbbjnjcjjomgaaGreatDoorProg.lean LOADS. Nothing in Lean hashes anything: it is a label: what it is worth is what the hold of that sum in a sandbox is worth. -/
noncomputable def Tryz.pinned : Pinned := { name := "ytjbbjnjcjjomgaagreatdoor", sum := "947ed080cc5e9ab3d2bb7ba00d0c211c09b32c1bd36fc8b6f4bf04ff029ac658", checked := Tryz.checked }
namespace Rows
def none {H : Type} : Left H := { results := [], args := [] }

/- WHAT THE LISTED PACKAGE-LEVEL VARIABLES READ AS WHEN THE CALL BEGINS. Each datum BY PROGRAM (the guide's laid-datum.mjs) off the statement by which the dump's own 'gosem.cut.vars' lays the variable. In a bare row this is a premise. The card (YtjbbjnjcjjomgaaGreatDoorCards.lean) ties it to the program's text. -/
def laid_unicode_utf8_acceptRanges {H : Type} : DataW H := .agg [.agg [.lit (.int .u8 128), .lit (.int .u8 191)], .agg [.lit (.int .u8 160), .lit (.int .u8 191)], .agg [.lit (.int .u8 128), .lit (.int .u8 159)], .agg [.lit (.int .u8 144), .lit (.int .u8 191)], .agg [.lit (.int .u8 128), .lit (.int .u8 143)], .agg [.lit (.int .u8 0), .lit (.int .u8 0)], .agg [.lit (.int .u8 0), .lit (.int .u8 0)], .agg [.lit (.int .u8 0), .lit (.int .u8 0)], .agg [.lit (.int .u8 0), .lit (.int .u8 0)], .agg [.lit (.int .u8 0), .lit (.int .u8 0)], .agg [.lit (.int .u8 0), .lit (.int .u8 0)], .agg [.lit (.int .u8 0), .lit (.int .u8 0)], .agg [.lit (.int .u8 0), .lit (.int .u8 0)], .agg [.lit (.int .u8 0), .lit (.int .u8 0)], .agg [.lit (.int .u8 0), .lit (.int .u8 0)], .agg [.lit (.int .u8 0), .lit (.int .u8 0)]]
/-- One of Go's own tables, pinned by name: the form's constant. -/
def laid_unicode_utf8_first : DataW Unit := Go.Pinned.utf8First

/-- 'squelchlaw20.ServerArbiter': WHATEVER THE INPUT: true; the input reads as it did. -/
def serverArbiterSpec : ChangeSpec := { name := "serverArbiter", fn := fun _ => fun
  | [d] => { results := [.lit (.bool true)], args := [d] }
  | _ => none }
def serverArbiterRow : OpenClaim := { program := "ytjbbjnjcjjomgaagreatdoor", sum := "947ed080cc5e9ab3d2bb7ba00d0c211c09b32c1bd36fc8b6f4bf04ff029ac658", func := "squelch/squelchlaw20.ServerArbiter", spec := "serverArbiter", inPlace := ["slices.overlaps[squelch/api.Heard]", "slices.overlaps[int]", "slices.overlaps[squelch/api.Waiter]", "slices.overlaps[squelch/api.Peer]", "slices.overlaps[squelch/api.Group]"], unfollowed := true, recurses := true, named := ["unicode/utf8.first", "unicode/utf8.acceptRanges"], plainKeys := false, apart := false, laid := [("unicode/utf8.acceptRanges", laid_unicode_utf8_acceptRanges), ("unicode/utf8.first", laid_unicode_utf8_first)] }
def ServerArbiterSaid : Prop := serverArbiterRow.holds Tryz.pinned (OpenSpec.ofChange serverArbiterSpec)

/-- ITS FALSE NEIGHBOUR: 'it returns false'. Refute it at one input. -/
def serverArbiterWrong : ChangeSpec := { name := "serverArbiter", fn := fun _ => fun
  | [d] => { results := [.lit (.bool false)], args := [d] }
  | _ => none }
def ServerArbiterWrongFalsely : Prop := serverArbiterRow.holds Tryz.pinned (OpenSpec.ofChange serverArbiterWrong)

/-- 'squelchlaw20.ServerGroups': WHATEVER THE INPUT: true; the input reads as it did. -/
def serverGroupsSpec : ChangeSpec := { name := "serverGroups", fn := fun _ => fun
  | [d1, d2] => { results := [.lit (.bool true)], args := [d1, d2] }
  | _ => none }
def serverGroupsRow : OpenClaim := { program := "ytjbbjnjcjjomgaagreatdoor", sum := "947ed080cc5e9ab3d2bb7ba00d0c211c09b32c1bd36fc8b6f4bf04ff029ac658", func := "squelch/squelchlaw20.ServerGroups", spec := "serverGroups", inPlace := ["slices.overlaps[squelch/api.Heard]", "slices.overlaps[int]", "slices.overlaps[squelch/api.Waiter]", "slices.overlaps[squelch/api.Peer]", "slices.overlaps[squelch/api.Group]"], unfollowed := true, recurses := true, named := ["unicode/utf8.first", "unicode/utf8.acceptRanges"], plainKeys := false, apart := false, laid := [("unicode/utf8.acceptRanges", laid_unicode_utf8_acceptRanges), ("unicode/utf8.first", laid_unicode_utf8_first)] }
def ServerGroupsSaid : Prop := serverGroupsRow.holds Tryz.pinned (OpenSpec.ofChange serverGroupsSpec)

/-- ITS FALSE NEIGHBOUR: 'it returns false'. Refute it at one input. -/
def serverGroupsWrong : ChangeSpec := { name := "serverGroups", fn := fun _ => fun
  | [d1, d2] => { results := [.lit (.bool false)], args := [d1, d2] }
  | _ => none }
def ServerGroupsWrongFalsely : Prop := serverGroupsRow.holds Tryz.pinned (OpenSpec.ofChange serverGroupsWrong)

/-- 'squelchlaw20.ServerAcks': WHATEVER THE INPUT: true; the input reads as it did. -/
def serverAcksSpec : ChangeSpec := { name := "serverAcks", fn := fun _ => fun
  | [d] => { results := [.lit (.bool true)], args := [d] }
  | _ => none }
def serverAcksRow : OpenClaim := { program := "ytjbbjnjcjjomgaagreatdoor", sum := "947ed080cc5e9ab3d2bb7ba00d0c211c09b32c1bd36fc8b6f4bf04ff029ac658", func := "squelch/squelchlaw20.ServerAcks", spec := "serverAcks", inPlace := ["slices.overlaps[squelch/api.Heard]", "slices.overlaps[int]", "slices.overlaps[squelch/api.Waiter]", "slices.overlaps[squelch/api.Peer]", "slices.overlaps[squelch/api.Group]"], unfollowed := true, recurses := true, named := ["unicode/utf8.first", "unicode/utf8.acceptRanges"], plainKeys := false, apart := false, laid := [("unicode/utf8.acceptRanges", laid_unicode_utf8_acceptRanges), ("unicode/utf8.first", laid_unicode_utf8_first)] }
def ServerAcksSaid : Prop := serverAcksRow.holds Tryz.pinned (OpenSpec.ofChange serverAcksSpec)

/-- ITS FALSE NEIGHBOUR: 'it returns false'. Refute it at one input. -/
def serverAcksWrong : ChangeSpec := { name := "serverAcks", fn := fun _ => fun
  | [d] => { results := [.lit (.bool false)], args := [d] }
  | _ => none }
def ServerAcksWrongFalsely : Prop := serverAcksRow.holds Tryz.pinned (OpenSpec.ofChange serverAcksWrong)

/-- 'squelchlaw20.ServerForwards': WHATEVER THE INPUT: true; the input reads as it did. -/
def serverForwardsSpec : ChangeSpec := { name := "serverForwards", fn := fun _ => fun
  | [d] => { results := [.lit (.bool true)], args := [d] }
  | _ => none }
def serverForwardsRow : OpenClaim := { program := "ytjbbjnjcjjomgaagreatdoor", sum := "947ed080cc5e9ab3d2bb7ba00d0c211c09b32c1bd36fc8b6f4bf04ff029ac658", func := "squelch/squelchlaw20.ServerForwards", spec := "serverForwards", inPlace := ["slices.overlaps[squelch/api.Heard]", "slices.overlaps[int]", "slices.overlaps[squelch/api.Waiter]", "slices.overlaps[squelch/api.Peer]", "slices.overlaps[squelch/api.Group]"], unfollowed := true, recurses := true, named := ["unicode/utf8.first", "unicode/utf8.acceptRanges"], plainKeys := false, apart := false, laid := [("unicode/utf8.acceptRanges", laid_unicode_utf8_acceptRanges), ("unicode/utf8.first", laid_unicode_utf8_first)] }
def ServerForwardsSaid : Prop := serverForwardsRow.holds Tryz.pinned (OpenSpec.ofChange serverForwardsSpec)

/-- ITS FALSE NEIGHBOUR: 'it returns false'. Refute it at one input. -/
def serverForwardsWrong : ChangeSpec := { name := "serverForwards", fn := fun _ => fun
  | [d] => { results := [.lit (.bool false)], args := [d] }
  | _ => none }
def ServerForwardsWrongFalsely : Prop := serverForwardsRow.holds Tryz.pinned (OpenSpec.ofChange serverForwardsWrong)

/-- 'squelchlaw20.ServerOnce': WHATEVER THE INPUT: true; the input reads as it did. -/
def serverOnceSpec : ChangeSpec := { name := "serverOnce", fn := fun _ => fun
  | [d] => { results := [.lit (.bool true)], args := [d] }
  | _ => none }
def serverOnceRow : OpenClaim := { program := "ytjbbjnjcjjomgaagreatdoor", sum := "947ed080cc5e9ab3d2bb7ba00d0c211c09b32c1bd36fc8b6f4bf04ff029ac658", func := "squelch/squelchlaw20.ServerOnce", spec := "serverOnce", inPlace := ["slices.overlaps[squelch/api.Heard]", "slices.overlaps[int]", "slices.overlaps[squelch/api.Waiter]", "slices.overlaps[squelch/api.Peer]", "slices.overlaps[squelch/api.Group]"], unfollowed := true, recurses := true, named := ["unicode/utf8.first", "unicode/utf8.acceptRanges"], plainKeys := false, apart := false, laid := [("unicode/utf8.acceptRanges", laid_unicode_utf8_acceptRanges), ("unicode/utf8.first", laid_unicode_utf8_first)] }
def ServerOnceSaid : Prop := serverOnceRow.holds Tryz.pinned (OpenSpec.ofChange serverOnceSpec)

/-- ITS FALSE NEIGHBOUR: 'it returns false'. Refute it at one input. -/
def serverOnceWrong : ChangeSpec := { name := "serverOnce", fn := fun _ => fun
  | [d] => { results := [.lit (.bool false)], args := [d] }
  | _ => none }
def ServerOnceWrongFalsely : Prop := serverOnceRow.holds Tryz.pinned (OpenSpec.ofChange serverOnceWrong)

/- THE SECOND FORM. 'bulk': how many values and letters a reading holds, each counted each time it is reached (what is shared counts as often as it is met; a slice's spare places count too). A statement '..UptoSaid' is the law's where the arguments, and the package variables that the reading takes, are together of bulk at most 1048576: NARROWER than '..Said'. Prove '..Said' where nothing that the law and all that it calls make is longer than what came in: it says more and counts as full. Else prove '..UptoSaid'. A law counts once. -/
mutual
def uptoBulk {H : Type} : DataW H → Nat
  | .lit (.string bytes) => bytes.length + 1
  | .lit _ => 1
  | .nil => 1
  | .ptr d => uptoBulk d + 1
  | .slice elems spare => uptoBulkAll elems + uptoBulkAll spare + 1
  | .agg parts => uptoBulkAll parts + 1
  | .iface _ d => uptoBulk d + 1
  | .map entries => uptoBulkEntries entries + 1
  | .held _ => 1
def uptoBulkAll {H : Type} : List (DataW H) → Nat
  | [] => 0
  | d :: r => uptoBulk d + uptoBulkAll r
def uptoBulkEntries {H : Type} : List (Lit × DataW H) → Nat
  | [] => 0
  | x :: r => uptoBulkEntry x + uptoBulkEntries r
def uptoBulkEntry {H : Type} : Lit × DataW H → Nat
  | (.string bytes, d) => bytes.length + uptoBulk d + 1
  | (_, d) => uptoBulk d + 1
 end
def uptoSmall : (H : Type) → List (DataW H) → Bool := fun _ ds => decide (uptoBulkAll ds ≤ 1048576)
def OpenSpec.upto (s : _root_.Go.ChangeSpec) : _root_.Go.OpenSpec := { _root_.Go.OpenSpec.ofChange s with cond := some uptoSmall }

/-- 'squelchlaw20.ServerArbiter', WHERE WHAT IT READS IS OF BULK AT MOST 1048576: true; the input reads as it did. -/
def serverArbiterUptoRow : OpenClaim := { program := "ytjbbjnjcjjomgaagreatdoor", sum := "947ed080cc5e9ab3d2bb7ba00d0c211c09b32c1bd36fc8b6f4bf04ff029ac658", func := "squelch/squelchlaw20.ServerArbiter", spec := "serverArbiter", inPlace := ["slices.overlaps[squelch/api.Heard]", "slices.overlaps[int]", "slices.overlaps[squelch/api.Waiter]", "slices.overlaps[squelch/api.Peer]", "slices.overlaps[squelch/api.Group]"], unfollowed := true, recurses := true, named := ["unicode/utf8.first", "unicode/utf8.acceptRanges"], plainKeys := false, apart := false, laid := [("unicode/utf8.acceptRanges", laid_unicode_utf8_acceptRanges), ("unicode/utf8.first", laid_unicode_utf8_first)], narrowed := true }
def ServerArbiterUptoSaid : Prop := serverArbiterUptoRow.holds Tryz.pinned (OpenSpec.upto serverArbiterSpec)

/-- 'squelchlaw20.ServerGroups', WHERE WHAT IT READS IS OF BULK AT MOST 1048576: true; the input reads as it did. -/
def serverGroupsUptoRow : OpenClaim := { program := "ytjbbjnjcjjomgaagreatdoor", sum := "947ed080cc5e9ab3d2bb7ba00d0c211c09b32c1bd36fc8b6f4bf04ff029ac658", func := "squelch/squelchlaw20.ServerGroups", spec := "serverGroups", inPlace := ["slices.overlaps[squelch/api.Heard]", "slices.overlaps[int]", "slices.overlaps[squelch/api.Waiter]", "slices.overlaps[squelch/api.Peer]", "slices.overlaps[squelch/api.Group]"], unfollowed := true, recurses := true, named := ["unicode/utf8.first", "unicode/utf8.acceptRanges"], plainKeys := false, apart := false, laid := [("unicode/utf8.acceptRanges", laid_unicode_utf8_acceptRanges), ("unicode/utf8.first", laid_unicode_utf8_first)], narrowed := true }
def ServerGroupsUptoSaid : Prop := serverGroupsUptoRow.holds Tryz.pinned (OpenSpec.upto serverGroupsSpec)

/-- 'squelchlaw20.ServerAcks', WHERE WHAT IT READS IS OF BULK AT MOST 1048576: true; the input reads as it did. -/
def serverAcksUptoRow : OpenClaim := { program := "ytjbbjnjcjjomgaagreatdoor", sum := "947ed080cc5e9ab3d2bb7ba00d0c211c09b32c1bd36fc8b6f4bf04ff029ac658", func := "squelch/squelchlaw20.ServerAcks", spec := "serverAcks", inPlace := ["slices.overlaps[squelch/api.Heard]", "slices.overlaps[int]", "slices.overlaps[squelch/api.Waiter]", "slices.overlaps[squelch/api.Peer]", "slices.overlaps[squelch/api.Group]"], unfollowed := true, recurses := true, named := ["unicode/utf8.first", "unicode/utf8.acceptRanges"], plainKeys := false, apart := false, laid := [("unicode/utf8.acceptRanges", laid_unicode_utf8_acceptRanges), ("unicode/utf8.first", laid_unicode_utf8_first)], narrowed := true }
def ServerAcksUptoSaid : Prop := serverAcksUptoRow.holds Tryz.pinned (OpenSpec.upto serverAcksSpec)

/-- 'squelchlaw20.ServerForwards', WHERE WHAT IT READS IS OF BULK AT MOST 1048576: true; the input reads as it did. -/
def serverForwardsUptoRow : OpenClaim := { program := "ytjbbjnjcjjomgaagreatdoor", sum := "947ed080cc5e9ab3d2bb7ba00d0c211c09b32c1bd36fc8b6f4bf04ff029ac658", func := "squelch/squelchlaw20.ServerForwards", spec := "serverForwards", inPlace := ["slices.overlaps[squelch/api.Heard]", "slices.overlaps[int]", "slices.overlaps[squelch/api.Waiter]", "slices.overlaps[squelch/api.Peer]", "slices.overlaps[squelch/api.Group]"], unfollowed := true, recurses := true, named := ["unicode/utf8.first", "unicode/utf8.acceptRanges"], plainKeys := false, apart := false, laid := [("unicode/utf8.acceptRanges", laid_unicode_utf8_acceptRanges), ("unicode/utf8.first", laid_unicode_utf8_first)], narrowed := true }
def ServerForwardsUptoSaid : Prop := serverForwardsUptoRow.holds Tryz.pinned (OpenSpec.upto serverForwardsSpec)

/-- 'squelchlaw20.ServerOnce', WHERE WHAT IT READS IS OF BULK AT MOST 1048576: true; the input reads as it did. -/
def serverOnceUptoRow : OpenClaim := { program := "ytjbbjnjcjjomgaagreatdoor", sum := "947ed080cc5e9ab3d2bb7ba00d0c211c09b32c1bd36fc8b6f4bf04ff029ac658", func := "squelch/squelchlaw20.ServerOnce", spec := "serverOnce", inPlace := ["slices.overlaps[squelch/api.Heard]", "slices.overlaps[int]", "slices.overlaps[squelch/api.Waiter]", "slices.overlaps[squelch/api.Peer]", "slices.overlaps[squelch/api.Group]"], unfollowed := true, recurses := true, named := ["unicode/utf8.first", "unicode/utf8.acceptRanges"], plainKeys := false, apart := false, laid := [("unicode/utf8.acceptRanges", laid_unicode_utf8_acceptRanges), ("unicode/utf8.first", laid_unicode_utf8_first)], narrowed := true }
def ServerOnceUptoSaid : Prop := serverOnceUptoRow.holds Tryz.pinned (OpenSpec.upto serverOnceSpec)

end Rows
end Go.Proofs.YtjbbjnjcjjomgaaGreatDoor
