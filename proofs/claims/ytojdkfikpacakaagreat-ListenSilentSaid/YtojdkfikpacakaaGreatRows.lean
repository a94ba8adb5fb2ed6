/-
  No cell of these rows narrows 'for every input' (looked for: loops, veiled, ifaces, maps, wideKeys, modest, calm, conditions, laid).
  DERIVED. THE GIVEN ROWS OF THIS SEAT. 5 by the template 'for every input the law returns true; each argument reads behind the call as it read before'; 0 by the template 'total and deterministic' (their statements: YtojdkfikpacakaaGreatTotals.lean).
  GIVEN WITH THE SEED: the statements are not yours to turn. If you find one false, say at which input.
  Laid BY PROGRAM, IN A SANDBOX (cutbox-rows.mjs): the forced cells as the released guide's own fill.sh prints them over the translation 51e8bf3c37f7e7df… (all of the seat's roots in one cut). By AI agents, Wed Nov 11 2026. No macro, syntax, notation, axiom, sorry.
-/
import Derived.Test.YtojdkfikpacakaaGreatChecked
import GoSem.Claim
import GoSem.ClaimJoined
import GoSem.ClaimMapViews
import Derived.JoinedTies
import Derived.KernelRfl
namespace Go.Proofs.YtojdkfikpacakaaGreat
/- THE CELL 'sum', in the pinned program and in every row, IS THE sha256 OF THE DUMP (.gsa) THAT YtojdkfikpacakaaGreatProg.lean LOADS. Nothing in Lean hashes anything: it is a label: what it is worth is what the hold of that sum in a sandbox is worth. -/
noncomputable def Tryz.pinned : Pinned := { name := "ytojdkfikpacakaagreat", sum := "51e8bf3c37f7e7df98b087723638214416b2766efec3491a3ee3e1ff1e90516c", checked := Tryz.checked }
namespace Rows
def none {H : Type} : Left H := { results := [], args := [] }

/-- 'squelchlaw14.ListenGoes': WHATEVER THE INPUT: true; the input reads as it did. -/
def listenGoesSpec : ChangeSpec := { name := "listenGoes", fn := fun _ => fun
  | [d1, d2, d3] => { results := [.lit (.bool true)], args := [d1, d2, d3] }
  | _ => none }
def listenGoesRow : OpenClaim := { program := "ytojdkfikpacakaagreat", sum := "51e8bf3c37f7e7df98b087723638214416b2766efec3491a3ee3e1ff1e90516c", func := "squelch/squelchlaw14.ListenGoes", spec := "listenGoes", inPlace := ["slices.overlaps[squelch/api.Packet]"], unfollowed := true, recurses := true, apart := false }
def ListenGoesSaid : Prop := listenGoesRow.holds Tryz.pinned (OpenSpec.ofChange listenGoesSpec)

/-- ITS FALSE NEIGHBOUR: 'it returns false'. Refute it at one input. -/
def listenGoesWrong : ChangeSpec := { name := "listenGoes", fn := fun _ => fun
  | [d1, d2, d3] => { results := [.lit (.bool false)], args := [d1, d2, d3] }
  | _ => none }
def ListenGoesWrongFalsely : Prop := listenGoesRow.holds Tryz.pinned (OpenSpec.ofChange listenGoesWrong)

/-- 'squelchlaw14.ListenSilent': WHATEVER THE INPUT: true; the input reads as it did. -/
def listenSilentSpec : ChangeSpec := { name := "listenSilent", fn := fun _ => fun
  | [d] => { results := [.lit (.bool true)], args := [d] }
  | _ => none }
def listenSilentRow : OpenClaim := { program := "ytojdkfikpacakaagreat", sum := "51e8bf3c37f7e7df98b087723638214416b2766efec3491a3ee3e1ff1e90516c", func := "squelch/squelchlaw14.ListenSilent", spec := "listenSilent", inPlace := ["slices.overlaps[squelch/api.Packet]"], unfollowed := true, recurses := true, apart := false }
def ListenSilentSaid : Prop := listenSilentRow.holds Tryz.pinned (OpenSpec.ofChange listenSilentSpec)

/-- ITS FALSE NEIGHBOUR: 'it returns false'. Refute it at one input. -/
def listenSilentWrong : ChangeSpec := { name := "listenSilent", fn := fun _ => fun
  | [d] => { results := [.lit (.bool false)], args := [d] }
  | _ => none }
def ListenSilentWrongFalsely : Prop := listenSilentRow.holds Tryz.pinned (OpenSpec.ofChange listenSilentWrong)

/-- 'squelchlaw14.ListenApart': WHATEVER THE INPUT: true; the input reads as it did. -/
def listenApartSpec : ChangeSpec := { name := "listenApart", fn := fun _ => fun
  | [d1, d2, d3, d4] => { results := [.lit (.bool true)], args := [d1, d2, d3, d4] }
  | _ => none }
def listenApartRow : OpenClaim := { program := "ytojdkfikpacakaagreat", sum := "51e8bf3c37f7e7df98b087723638214416b2766efec3491a3ee3e1ff1e90516c", func := "squelch/squelchlaw14.ListenApart", spec := "listenApart", inPlace := ["slices.overlaps[squelch/api.Packet]"], unfollowed := true, recurses := true, apart := false }
def ListenApartSaid : Prop := listenApartRow.holds Tryz.pinned (OpenSpec.ofChange listenApartSpec)

/-- ITS FALSE NEIGHBOUR: 'it returns false'. Refute it at one input. -/
def listenApartWrong : ChangeSpec := { name := "listenApart", fn := fun _ => fun
  | [d1, d2, d3, d4] => { results := [.lit (.bool false)], args := [d1, d2, d3, d4] }
  | _ => none }
def ListenApartWrongFalsely : Prop := listenApartRow.holds Tryz.pinned (OpenSpec.ofChange listenApartWrong)

/-- 'squelchlaw14.ListenDies': WHATEVER THE INPUT: true; the input reads as it did. -/
def listenDiesSpec : ChangeSpec := { name := "listenDies", fn := fun _ => fun
  | [d] => { results := [.lit (.bool true)], args := [d] }
  | _ => none }
def listenDiesRow : OpenClaim := { program := "ytojdkfikpacakaagreat", sum := "51e8bf3c37f7e7df98b087723638214416b2766efec3491a3ee3e1ff1e90516c", func := "squelch/squelchlaw14.ListenDies", spec := "listenDies", inPlace := ["slices.overlaps[squelch/api.Packet]", "math/bits.Add64"], unfollowed := true, recurses := true, apart := false }
def ListenDiesSaid : Prop := listenDiesRow.holds Tryz.pinned (OpenSpec.ofChange listenDiesSpec)

/-- ITS FALSE NEIGHBOUR: 'it returns false'. Refute it at one input. -/
def listenDiesWrong : ChangeSpec := { name := "listenDies", fn := fun _ => fun
  | [d] => { results := [.lit (.bool false)], args := [d] }
  | _ => none }
def ListenDiesWrongFalsely : Prop := listenDiesRow.holds Tryz.pinned (OpenSpec.ofChange listenDiesWrong)

/-- 'squelchlaw14.ListenMasked': WHATEVER THE INPUT: true; the input reads as it did. -/
def listenMaskedSpec : ChangeSpec := { name := "listenMasked", fn := fun _ => fun
  | [d1, d2, d3, d4] => { results := [.lit (.bool true)], args := [d1, d2, d3, d4] }
  | _ => none }
def listenMaskedRow : OpenClaim := { program := "ytojdkfikpacakaagreat", sum := "51e8bf3c37f7e7df98b087723638214416b2766efec3491a3ee3e1ff1e90516c", func := "squelch/squelchlaw14.ListenMasked", spec := "listenMasked", inPlace := ["slices.overlaps[squelch/api.Packet]", "math/bits.Add64"], unfollowed := true, recurses := true, apart := false }
def ListenMaskedSaid : Prop := listenMaskedRow.holds Tryz.pinned (OpenSpec.ofChange listenMaskedSpec)

/-- ITS FALSE NEIGHBOUR: 'it returns false'. Refute it at one input. -/
def listenMaskedWrong : ChangeSpec := { name := "listenMasked", fn := fun _ => fun
  | [d1, d2, d3, d4] => { results := [.lit (.bool false)], args := [d1, d2, d3, d4] }
  | _ => none }
def ListenMaskedWrongFalsely : Prop := listenMaskedRow.holds Tryz.pinned (OpenSpec.ofChange listenMaskedWrong)

/- THE SECOND FORM. 'bulk': how many values and letters a reading holds, each counted each time it is reached (what is shared counts as often as it is met; a slice's spare places count too). A statement '..UptoSaid' is the law's where the arguments, and the package variables that the reading takes, are together of bulk at most 1048576: NARROWER than '..Said'. Prove '..Said' where nothing that the law and all that it calls make is longer than what came in: it says more and counts as full. Else prove '..UptoSaid'. A law counts once. -/
mutual
def uptoBulk {H : Type} : DataW H → Nat
  | .lit (.string bytes) => bytes.length + 1
  | .lit _ => 1
  | .nil => 1
  | .ptr d => uptoBulk d + 1
  | .slice elems spare => uptoBulkAll elems + uptoBulkAll spare + 1
  | .agg parts => uptoBulkAll parts + 1
  | .iface _ d => uptoBulk d + 1
  | .map entries => uptoBulkEntries entries + 1
  | .held _ => 1
def uptoBulkAll {H : Type} : List (DataW H) → Nat
  | [] => 0
  | d :: r => uptoBulk d + uptoBulkAll r
def uptoBulkEntries {H : Type} : List (Lit × DataW H) → Nat
  | [] => 0
  | x :: r => uptoBulkEntry x + uptoBulkEntries r
def uptoBulkEntry {H : Type} : Lit × DataW H → Nat
  | (.string bytes, d) => bytes.length + uptoBulk d + 1
  | (_, d) => uptoBulk d + 1
 end
def uptoSmall : (H : Type) → List (DataW H) → Bool := fun _ ds => decide (uptoBulkAll ds ≤ 1048576)
def OpenSpec.upto (s : _root_.Go.ChangeSpec) : _root_.Go.OpenSpec := { _root_.Go.OpenSpec.ofChange s with cond := some uptoSmall }

/-- 'squelchlaw14.ListenGoes', WHERE WHAT IT READS IS OF BULK AT MOST 1048576: true; the input reads as it did. -/
def listenGoesUptoRow : OpenClaim := { program := "ytojdkfikpacakaagreat", sum := "51e8bf3c37f7e7df98b087723638214416b2766efec3491a3ee3e1ff1e90516c", func := "squelch/squelchlaw14.ListenGoes", spec := "listenGoes", inPlace := ["slices.overlaps[squelch/api.Packet]"], unfollowed := true, recurses := true, apart := false, narrowed := true }
def ListenGoesUptoSaid : Prop := listenGoesUptoRow.holds Tryz.pinned (OpenSpec.upto listenGoesSpec)

/-- 'squelchlaw14.ListenSilent', WHERE WHAT IT READS IS OF BULK AT MOST 1048576: true; the input reads as it did. -/
def listenSilentUptoRow : OpenClaim := { program := "ytojdkfikpacakaagreat", sum := "51e8bf3c37f7e7df98b087723638214416b2766efec3491a3ee3e1ff1e90516c", func := "squelch/squelchlaw14.ListenSilent", spec := "listenSilent", inPlace := ["slices.overlaps[squelch/api.Packet]"], unfollowed := true, recurses := true, apart := false, narrowed := true }
def ListenSilentUptoSaid : Prop := listenSilentUptoRow.holds Tryz.pinned (OpenSpec.upto listenSilentSpec)

/-- 'squelchlaw14.ListenApart', WHERE WHAT IT READS IS OF BULK AT MOST 1048576: true; the input reads as it did. -/
def listenApartUptoRow : OpenClaim := { program := "ytojdkfikpacakaagreat", sum := "51e8bf3c37f7e7df98b087723638214416b2766efec3491a3ee3e1ff1e90516c", func := "squelch/squelchlaw14.ListenApart", spec := "listenApart", inPlace := ["slices.overlaps[squelch/api.Packet]"], unfollowed := true, recurses := true, apart := false, narrowed := true }
def ListenApartUptoSaid : Prop := listenApartUptoRow.holds Tryz.pinned (OpenSpec.upto listenApartSpec)

/-- 'squelchlaw14.ListenDies', WHERE WHAT IT READS IS OF BULK AT MOST 1048576: true; the input reads as it did. -/
def listenDiesUptoRow : OpenClaim := { program := "ytojdkfikpacakaagreat", sum := "51e8bf3c37f7e7df98b087723638214416b2766efec3491a3ee3e1ff1e90516c", func := "squelch/squelchlaw14.ListenDies", spec := "listenDies", inPlace := ["slices.overlaps[squelch/api.Packet]", "math/bits.Add64"], unfollowed := true, recurses := true, apart := false, narrowed := true }
def ListenDiesUptoSaid : Prop := listenDiesUptoRow.holds Tryz.pinned (OpenSpec.upto listenDiesSpec)

/-- 'squelchlaw14.ListenMasked', WHERE WHAT IT READS IS OF BULK AT MOST 1048576: true; the input reads as it did. -/
def listenMaskedUptoRow : OpenClaim := { program := "ytojdkfikpacakaagreat", sum := "51e8bf3c37f7e7df98b087723638214416b2766efec3491a3ee3e1ff1e90516c", func := "squelch/squelchlaw14.ListenMasked", spec := "listenMasked", inPlace := ["slices.overlaps[squelch/api.Packet]", "math/bits.Add64"], unfollowed := true, recurses := true, apart := false, narrowed := true }
def ListenMaskedUptoSaid : Prop := listenMaskedUptoRow.holds Tryz.pinned (OpenSpec.upto listenMaskedSpec)

end Rows
end Go.Proofs.YtojdkfikpacakaaGreat
