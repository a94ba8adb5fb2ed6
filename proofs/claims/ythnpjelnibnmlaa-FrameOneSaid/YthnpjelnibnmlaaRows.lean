/-
  No cell of these rows narrows 'for every input' (looked for: loops, veiled, ifaces, maps, wideKeys, modest, calm, conditions, laid).
  DERIVED. THE GIVEN ROWS OF THIS SEAT. 5 by the template 'for every input the law returns true; each argument reads behind the call as it read before'; 0 by the template 'total and deterministic' (their statements: YthnpjelnibnmlaaTotals.lean).
  GIVEN WITH THE SEED: the statements are not yours to turn. If you find one false, say at which input.
  Laid BY PROGRAM, IN A SANDBOX (cutbox-rows.mjs): the forced cells as the released guide's own fill.sh prints them over the translation 027054b52922089e… (all of the seat's roots in one cut). By AI agents, Wed Nov 11 2026. No macro, syntax, notation, axiom, sorry.
-/
import Derived.Test.YthnpjelnibnmlaaChecked
import GoSem.Claim
import GoSem.ClaimJoined
import GoSem.ClaimMapViews
import Derived.JoinedTies
import Derived.KernelRfl
namespace Go.Proofs.Ythnpjelnibnmlaa
/- THE CELL 'sum', in the pinned program and in every row, IS THE sha256 OF THE DUMP (.gsa) THAT YthnpjelnibnmlaaProg.lean LOADS. Nothing in Lean hashes anything: it is a label: what it is worth is what the hold of that sum in a sandbox is worth. -/
noncomputable def Try.pinned : Pinned := { name := "ythnpjelnibnmlaa", sum := "027054b52922089e588322d9586441d2c2e6903ed17bc20a7295e1d5205a3556", checked := Try.checked }
namespace Rows
def none {H : Type} : Left H := { results := [], args := [] }

/-- 'squelchlaw10.FrameOne': WHATEVER THE INPUT: true; the input reads as it did. -/
def frameOneSpec : ChangeSpec := { name := "frameOne", fn := fun _ => fun
  | [d1, d2] => { results := [.lit (.bool true)], args := [d1, d2] }
  | _ => none }
def frameOneRow : OpenClaim := { program := "ythnpjelnibnmlaa", sum := "027054b52922089e588322d9586441d2c2e6903ed17bc20a7295e1d5205a3556", func := "squelch/squelchlaw10.FrameOne", spec := "frameOne", unfollowed := true, recurses := true, apart := false }
def FrameOneSaid : Prop := frameOneRow.holds Try.pinned (OpenSpec.ofChange frameOneSpec)

/-- ITS FALSE NEIGHBOUR: 'it returns false'. Refute it at one input. -/
def frameOneWrong : ChangeSpec := { name := "frameOne", fn := fun _ => fun
  | [d1, d2] => { results := [.lit (.bool false)], args := [d1, d2] }
  | _ => none }
def FrameOneWrongFalsely : Prop := frameOneRow.holds Try.pinned (OpenSpec.ofChange frameOneWrong)

/-- 'squelchlaw10.FrameApart': WHATEVER THE INPUT: true; the input reads as it did. -/
def frameApartSpec : ChangeSpec := { name := "frameApart", fn := fun _ => fun
  | [d1, d2, d3] => { results := [.lit (.bool true)], args := [d1, d2, d3] }
  | _ => none }
def frameApartRow : OpenClaim := { program := "ythnpjelnibnmlaa", sum := "027054b52922089e588322d9586441d2c2e6903ed17bc20a7295e1d5205a3556", func := "squelch/squelchlaw10.FrameApart", spec := "frameApart", unfollowed := true, recurses := true, apart := false }
def FrameApartSaid : Prop := frameApartRow.holds Try.pinned (OpenSpec.ofChange frameApartSpec)

/-- ITS FALSE NEIGHBOUR: 'it returns false'. Refute it at one input. -/
def frameApartWrong : ChangeSpec := { name := "frameApart", fn := fun _ => fun
  | [d1, d2, d3] => { results := [.lit (.bool false)], args := [d1, d2, d3] }
  | _ => none }
def FrameApartWrongFalsely : Prop := frameApartRow.holds Try.pinned (OpenSpec.ofChange frameApartWrong)

/-- 'squelchlaw10.FrameDeltas': WHATEVER THE INPUT: true; the input reads as it did. -/
def frameDeltasSpec : ChangeSpec := { name := "frameDeltas", fn := fun _ => fun
  | [d1, d2, d3] => { results := [.lit (.bool true)], args := [d1, d2, d3] }
  | _ => none }
def frameDeltasRow : OpenClaim := { program := "ythnpjelnibnmlaa", sum := "027054b52922089e588322d9586441d2c2e6903ed17bc20a7295e1d5205a3556", func := "squelch/squelchlaw10.FrameDeltas", spec := "frameDeltas", unfollowed := true, recurses := true, apart := false }
def FrameDeltasSaid : Prop := frameDeltasRow.holds Try.pinned (OpenSpec.ofChange frameDeltasSpec)

/-- ITS FALSE NEIGHBOUR: 'it returns false'. Refute it at one input. -/
def frameDeltasWrong : ChangeSpec := { name := "frameDeltas", fn := fun _ => fun
  | [d1, d2, d3] => { results := [.lit (.bool false)], args := [d1, d2, d3] }
  | _ => none }
def FrameDeltasWrongFalsely : Prop := frameDeltasRow.holds Try.pinned (OpenSpec.ofChange frameDeltasWrong)

/-- 'squelchlaw10.FrameBack': WHATEVER THE INPUT: true; the input reads as it did. -/
def frameBackSpec : ChangeSpec := { name := "frameBack", fn := fun _ => fun
  | [d1, d2, d3] => { results := [.lit (.bool true)], args := [d1, d2, d3] }
  | _ => none }
def frameBackRow : OpenClaim := { program := "ythnpjelnibnmlaa", sum := "027054b52922089e588322d9586441d2c2e6903ed17bc20a7295e1d5205a3556", func := "squelch/squelchlaw10.FrameBack", spec := "frameBack", unfollowed := true, recurses := true, apart := false }
def FrameBackSaid : Prop := frameBackRow.holds Try.pinned (OpenSpec.ofChange frameBackSpec)

/-- ITS FALSE NEIGHBOUR: 'it returns false'. Refute it at one input. -/
def frameBackWrong : ChangeSpec := { name := "frameBack", fn := fun _ => fun
  | [d1, d2, d3] => { results := [.lit (.bool false)], args := [d1, d2, d3] }
  | _ => none }
def FrameBackWrongFalsely : Prop := frameBackRow.holds Try.pinned (OpenSpec.ofChange frameBackWrong)

/-- 'squelchlaw10.FrameTables': WHATEVER THE INPUT: true; the input reads as it did. -/
def frameTablesSpec : ChangeSpec := { name := "frameTables", fn := fun _ => fun
  | [d] => { results := [.lit (.bool true)], args := [d] }
  | _ => none }
def frameTablesRow : OpenClaim := { program := "ythnpjelnibnmlaa", sum := "027054b52922089e588322d9586441d2c2e6903ed17bc20a7295e1d5205a3556", func := "squelch/squelchlaw10.FrameTables", spec := "frameTables", unfollowed := true, recurses := true, apart := false }
def FrameTablesSaid : Prop := frameTablesRow.holds Try.pinned (OpenSpec.ofChange frameTablesSpec)

/-- ITS FALSE NEIGHBOUR: 'it returns false'. Refute it at one input. -/
def frameTablesWrong : ChangeSpec := { name := "frameTables", fn := fun _ => fun
  | [d] => { results := [.lit (.bool false)], args := [d] }
  | _ => none }
def FrameTablesWrongFalsely : Prop := frameTablesRow.holds Try.pinned (OpenSpec.ofChange frameTablesWrong)

/- THE SECOND FORM. 'bulk': how many values and letters a reading holds, each counted each time it is reached (what is shared counts as often as it is met; a slice's spare places count too). A statement '..UptoSaid' is the law's where the arguments, and the package variables that the reading takes, are together of bulk at most 1048576: NARROWER than '..Said'. Prove '..Said' where nothing that the law and all that it calls make is longer than what came in: it says more and counts as full. Else prove '..UptoSaid'. A law counts once. -/
mutual
def uptoBulk {H : Type} : DataW H → Nat
  | .lit (.string bytes) => bytes.length + 1
  | .lit _ => 1
  | .nil => 1
  | .ptr d => uptoBulk d + 1
  | .slice elems spare => uptoBulkAll elems + uptoBulkAll spare + 1
  | .agg parts => uptoBulkAll parts + 1
  | .iface _ d => uptoBulk d + 1
  | .map entries => uptoBulkEntries entries + 1
  | .held _ => 1
def uptoBulkAll {H : Type} : List (DataW H) → Nat
  | [] => 0
  | d :: r => uptoBulk d + uptoBulkAll r
def uptoBulkEntries {H : Type} : List (Lit × DataW H) → Nat
  | [] => 0
  | x :: r => uptoBulkEntry x + uptoBulkEntries r
def uptoBulkEntry {H : Type} : Lit × DataW H → Nat
  | (.string bytes, d) => bytes.length + uptoBulk d + 1
  | (_, d) => uptoBulk d + 1
 end
def uptoSmall : (H : Type) → List (DataW H) → Bool := fun _ ds => decide (uptoBulkAll ds ≤ 1048576)
def OpenSpec.upto (s : _root_.Go.ChangeSpec) : _root_.Go.OpenSpec := { _root_.Go.OpenSpec.ofChange s with cond := some uptoSmall }

/-- 'squelchlaw10.FrameOne', WHERE WHAT IT READS IS OF BULK AT MOST 1048576: true; the input reads as it did. -/
def frameOneUptoRow : OpenClaim := { program := "ythnpjelnibnmlaa", sum := "027054b52922089e588322d9586441d2c2e6903ed17bc20a7295e1d5205a3556", func := "squelch/squelchlaw10.FrameOne", spec := "frameOne", unfollowed := true, recurses := true, apart := false, narrowed := true }
def FrameOneUptoSaid : Prop := frameOneUptoRow.holds Try.pinned (OpenSpec.upto frameOneSpec)

/-- 'squelchlaw10.FrameApart', WHERE WHAT IT READS IS OF BULK AT MOST 1048576: true; the input reads as it did. -/
def frameApartUptoRow : OpenClaim := { program := "ythnpjelnibnmlaa", sum := "027054b52922089e588322d9586441d2c2e6903ed17bc20a7295e1d5205a3556", func := "squelch/squelchlaw10.FrameApart", spec := "frameApart", unfollowed := true, recurses := true, apart := false, narrowed := true }
def FrameApartUptoSaid : Prop := frameApartUptoRow.holds Try.pinned (OpenSpec.upto frameApartSpec)

/-- 'squelchlaw10.FrameDeltas', WHERE WHAT IT READS IS OF BULK AT MOST 1048576: true; the input reads as it did. -/
def frameDeltasUptoRow : OpenClaim := { program := "ythnpjelnibnmlaa", sum := "027054b52922089e588322d9586441d2c2e6903ed17bc20a7295e1d5205a3556", func := "squelch/squelchlaw10.FrameDeltas", spec := "frameDeltas", unfollowed := true, recurses := true, apart := false, narrowed := true }
def FrameDeltasUptoSaid : Prop := frameDeltasUptoRow.holds Try.pinned (OpenSpec.upto frameDeltasSpec)

/-- 'squelchlaw10.FrameBack', WHERE WHAT IT READS IS OF BULK AT MOST 1048576: true; the input reads as it did. -/
def frameBackUptoRow : OpenClaim := { program := "ythnpjelnibnmlaa", sum := "027054b52922089e588322d9586441d2c2e6903ed17bc20a7295e1d5205a3556", func := "squelch/squelchlaw10.FrameBack", spec := "frameBack", unfollowed := true, recurses := true, apart := false, narrowed := true }
def FrameBackUptoSaid : Prop := frameBackUptoRow.holds Try.pinned (OpenSpec.upto frameBackSpec)

/-- 'squelchlaw10.FrameTables', WHERE WHAT IT READS IS OF BULK AT MOST 1048576: true; the input reads as it did. -/
def frameTablesUptoRow : OpenClaim := { program := "ythnpjelnibnmlaa", sum := "027054b52922089e588322d9586441d2c2e6903ed17bc20a7295e1d5205a3556", func := "squelch/squelchlaw10.FrameTables", spec := "frameTables", unfollowed := true, recurses := true, apart := false, narrowed := true }
def FrameTablesUptoSaid : Prop := frameTablesUptoRow.holds Try.pinned (OpenSpec.upto frameTablesSpec)

end Rows
end Go.Proofs.Ythnpjelnibnmlaa
