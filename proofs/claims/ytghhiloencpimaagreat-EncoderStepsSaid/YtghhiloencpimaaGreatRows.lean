/-
  No cell of these rows narrows 'for every input' (looked for: loops, veiled, ifaces, maps, wideKeys, modest, calm, conditions, laid).
  DERIVED. THE GIVEN ROWS OF THIS SEAT. 6 by the template 'for every input the law returns true; each argument reads behind the call as it read before'; 0 by the template 'total and deterministic' (their statements: YtghhiloencpimaaGreatTotals.lean).
  GIVEN WITH THE SEED: the statements are not yours to turn. If you find one false, say at which input.
  Laid BY PROGRAM, IN A SANDBOX (cutbox-rows.mjs): the forced cells as the released guide's own fill.sh prints them over the translation d72db66829165f38… (all of the seat's roots in one cut). By AI agents, Wed Nov 11 2026. No macro, syntax, notation, axiom, sorry.
-/
import Derived.Test.YtghhiloencpimaaGreatChecked
import GoSem.Claim
import GoSem.ClaimJoined
import GoSem.ClaimMapViews
import Derived.JoinedTies
import Derived.KernelRfl
namespace Go.Proofs.YtghhiloencpimaaGreat
/- THE CELL 'sum', in the pinned program and in every row, IS THE sha256 OF THE DUMP (.gsa) THAT YtghhiloencpimaaGreatProg.lean LOADS. Nothing in Lean hashes anything: it is a label: what it is worth is what the hold of that sum in a sandbox is worth. -/
noncomputable def Tryz.pinned : Pinned := { name := "ytghhiloencpimaagreat", sum := "d72db66829165f384b732779ced6603519cf087bb7765a7198a19bac7054d08f", checked := Tryz.checked }
namespace Rows
def none {H : Type} : Left H := { results := [], args := [] }

/-- 'squelchlaw12.EncoderQuiet': WHATEVER THE INPUT: true; the input reads as it did. -/
def encoderQuietSpec : ChangeSpec := { name := "encoderQuiet", fn := fun _ => fun
  | [d] => { results := [.lit (.bool true)], args := [d] }
  | _ => none }
def encoderQuietRow : OpenClaim := { program := "ytghhiloencpimaagreat", sum := "d72db66829165f384b732779ced6603519cf087bb7765a7198a19bac7054d08f", func := "squelch/squelchlaw12.EncoderQuiet", spec := "encoderQuiet", inPlace := ["math/bits.Add64"], unfollowed := true, recurses := true, apart := false }
def EncoderQuietSaid : Prop := encoderQuietRow.holds Tryz.pinned (OpenSpec.ofChange encoderQuietSpec)

/-- ITS FALSE NEIGHBOUR: 'it returns false'. Refute it at one input. -/
def encoderQuietWrong : ChangeSpec := { name := "encoderQuiet", fn := fun _ => fun
  | [d] => { results := [.lit (.bool false)], args := [d] }
  | _ => none }
def EncoderQuietWrongFalsely : Prop := encoderQuietRow.holds Tryz.pinned (OpenSpec.ofChange encoderQuietWrong)

/-- 'squelchlaw12.EncoderCounts': WHATEVER THE INPUT: true; the input reads as it did. -/
def encoderCountsSpec : ChangeSpec := { name := "encoderCounts", fn := fun _ => fun
  | [d] => { results := [.lit (.bool true)], args := [d] }
  | _ => none }
def encoderCountsRow : OpenClaim := { program := "ytghhiloencpimaagreat", sum := "d72db66829165f384b732779ced6603519cf087bb7765a7198a19bac7054d08f", func := "squelch/squelchlaw12.EncoderCounts", spec := "encoderCounts", inPlace := ["math/bits.Add64"], unfollowed := true, recurses := true, apart := false }
def EncoderCountsSaid : Prop := encoderCountsRow.holds Tryz.pinned (OpenSpec.ofChange encoderCountsSpec)

/-- ITS FALSE NEIGHBOUR: 'it returns false'. Refute it at one input. -/
def encoderCountsWrong : ChangeSpec := { name := "encoderCounts", fn := fun _ => fun
  | [d] => { results := [.lit (.bool false)], args := [d] }
  | _ => none }
def EncoderCountsWrongFalsely : Prop := encoderCountsRow.holds Tryz.pinned (OpenSpec.ofChange encoderCountsWrong)

/-- 'squelchlaw12.EncoderLocal': WHATEVER THE INPUT: true; the input reads as it did. -/
def encoderLocalSpec : ChangeSpec := { name := "encoderLocal", fn := fun _ => fun
  | [d] => { results := [.lit (.bool true)], args := [d] }
  | _ => none }
def encoderLocalRow : OpenClaim := { program := "ytghhiloencpimaagreat", sum := "d72db66829165f384b732779ced6603519cf087bb7765a7198a19bac7054d08f", func := "squelch/squelchlaw12.EncoderLocal", spec := "encoderLocal", inPlace := ["math/bits.Add64"], unfollowed := true, recurses := true, apart := false }
def EncoderLocalSaid : Prop := encoderLocalRow.holds Tryz.pinned (OpenSpec.ofChange encoderLocalSpec)

/-- ITS FALSE NEIGHBOUR: 'it returns false'. Refute it at one input. -/
def encoderLocalWrong : ChangeSpec := { name := "encoderLocal", fn := fun _ => fun
  | [d] => { results := [.lit (.bool false)], args := [d] }
  | _ => none }
def EncoderLocalWrongFalsely : Prop := encoderLocalRow.holds Tryz.pinned (OpenSpec.ofChange encoderLocalWrong)

/-- 'squelchlaw12.EncoderSteps': WHATEVER THE INPUT: true; the input reads as it did. -/
def encoderStepsSpec : ChangeSpec := { name := "encoderSteps", fn := fun _ => fun
  | [d1, d2] => { results := [.lit (.bool true)], args := [d1, d2] }
  | _ => none }
def encoderStepsRow : OpenClaim := { program := "ytghhiloencpimaagreat", sum := "d72db66829165f384b732779ced6603519cf087bb7765a7198a19bac7054d08f", func := "squelch/squelchlaw12.EncoderSteps", spec := "encoderSteps", inPlace := ["math/bits.Add64"], unfollowed := true, recurses := true, apart := false }
def EncoderStepsSaid : Prop := encoderStepsRow.holds Tryz.pinned (OpenSpec.ofChange encoderStepsSpec)

/-- ITS FALSE NEIGHBOUR: 'it returns false'. Refute it at one input. -/
def encoderStepsWrong : ChangeSpec := { name := "encoderSteps", fn := fun _ => fun
  | [d1, d2] => { results := [.lit (.bool false)], args := [d1, d2] }
  | _ => none }
def EncoderStepsWrongFalsely : Prop := encoderStepsRow.holds Tryz.pinned (OpenSpec.ofChange encoderStepsWrong)

/-- 'squelchlaw12.EncoderFresh': WHATEVER THE INPUT: true; the input reads as it did. -/
def encoderFreshSpec : ChangeSpec := { name := "encoderFresh", fn := fun _ => fun
  | [d] => { results := [.lit (.bool true)], args := [d] }
  | _ => none }
def encoderFreshRow : OpenClaim := { program := "ytghhiloencpimaagreat", sum := "d72db66829165f384b732779ced6603519cf087bb7765a7198a19bac7054d08f", func := "squelch/squelchlaw12.EncoderFresh", spec := "encoderFresh", inPlace := ["math/bits.Add64"], unfollowed := true, recurses := true, apart := false }
def EncoderFreshSaid : Prop := encoderFreshRow.holds Tryz.pinned (OpenSpec.ofChange encoderFreshSpec)

/-- ITS FALSE NEIGHBOUR: 'it returns false'. Refute it at one input. -/
def encoderFreshWrong : ChangeSpec := { name := "encoderFresh", fn := fun _ => fun
  | [d] => { results := [.lit (.bool false)], args := [d] }
  | _ => none }
def EncoderFreshWrongFalsely : Prop := encoderFreshRow.holds Tryz.pinned (OpenSpec.ofChange encoderFreshWrong)

/-- 'squelchlaw12.EncoderGoes': WHATEVER THE INPUT: true; the input reads as it did. -/
def encoderGoesSpec : ChangeSpec := { name := "encoderGoes", fn := fun _ => fun
  | [d1, d2] => { results := [.lit (.bool true)], args := [d1, d2] }
  | _ => none }
def encoderGoesRow : OpenClaim := { program := "ytghhiloencpimaagreat", sum := "d72db66829165f384b732779ced6603519cf087bb7765a7198a19bac7054d08f", func := "squelch/squelchlaw12.EncoderGoes", spec := "encoderGoes", inPlace := ["math/bits.Add64"], unfollowed := true, recurses := true, apart := false }
def EncoderGoesSaid : Prop := encoderGoesRow.holds Tryz.pinned (OpenSpec.ofChange encoderGoesSpec)

/-- ITS FALSE NEIGHBOUR: 'it returns false'. Refute it at one input. -/
def encoderGoesWrong : ChangeSpec := { name := "encoderGoes", fn := fun _ => fun
  | [d1, d2] => { results := [.lit (.bool false)], args := [d1, d2] }
  | _ => none }
def EncoderGoesWrongFalsely : Prop := encoderGoesRow.holds Tryz.pinned (OpenSpec.ofChange encoderGoesWrong)

/- THE SECOND FORM. 'bulk': how many values and letters a reading holds, each counted each time it is reached (what is shared counts as often as it is met; a slice's spare places count too). A statement '..UptoSaid' is the law's where the arguments, and the package variables that the reading takes, are together of bulk at most 1048576: NARROWER than '..Said'. Prove '..Said' where nothing that the law and all that it calls make is longer than what came in: it says more and counts as full. Else prove '..UptoSaid'. A law counts once. -/
mutual
def uptoBulk {H : Type} : DataW H → Nat
  | .lit (.string bytes) => bytes.length + 1
  | .lit _ => 1
  | .nil => 1
  | .ptr d => uptoBulk d + 1
  | .slice elems spare => uptoBulkAll elems + uptoBulkAll spare + 1
  | .agg parts => uptoBulkAll parts + 1
  | .iface _ d => uptoBulk d + 1
  | .map entries => uptoBulkEntries entries + 1
  | .held _ => 1
def uptoBulkAll {H : Type} : List (DataW H) → Nat
  | [] => 0
  | d :: r => uptoBulk d + uptoBulkAll r
def uptoBulkEntries {H : Type} : List (Lit × DataW H) → Nat
  | [] => 0
  | x :: r => uptoBulkEntry x + uptoBulkEntries r
def uptoBulkEntry {H : Type} : Lit × DataW H → Nat
  | (.string bytes, d) => bytes.length + uptoBulk d + 1
  | (_, d) => uptoBulk d + 1
 end
def uptoSmall : (H : Type) → List (DataW H) → Bool := fun _ ds => decide (uptoBulkAll ds ≤ 1048576)
def OpenSpec.upto (s : _root_.Go.ChangeSpec) : _root_.Go.OpenSpec := { _root_.Go.OpenSpec.ofChange s with cond := some uptoSmall }

/-- 'squelchlaw12.EncoderQuiet', WHERE WHAT IT READS IS OF BULK AT MOST 1048576: true; the input reads as it did. -/
def encoderQuietUptoRow : OpenClaim := { program := "ytghhiloencpimaagreat", sum := "d72db66829165f384b732779ced6603519cf087bb7765a7198a19bac7054d08f", func := "squelch/squelchlaw12.EncoderQuiet", spec := "encoderQuiet", inPlace := ["math/bits.Add64"], unfollowed := true, recurses := true, apart := false, narrowed := true }
def EncoderQuietUptoSaid : Prop := encoderQuietUptoRow.holds Tryz.pinned (OpenSpec.upto encoderQuietSpec)

/-- 'squelchlaw12.EncoderCounts', WHERE WHAT IT READS IS OF BULK AT MOST 1048576: true; the input reads as it did. -/
def encoderCountsUptoRow : OpenClaim := { program := "ytghhiloencpimaagreat", sum := "d72db66829165f384b732779ced6603519cf087bb7765a7198a19bac7054d08f", func := "squelch/squelchlaw12.EncoderCounts", spec := "encoderCounts", inPlace := ["math/bits.Add64"], unfollowed := true, recurses := true, apart := false, narrowed := true }
def EncoderCountsUptoSaid : Prop := encoderCountsUptoRow.holds Tryz.pinned (OpenSpec.upto encoderCountsSpec)

/-- 'squelchlaw12.EncoderLocal', WHERE WHAT IT READS IS OF BULK AT MOST 1048576: true; the input reads as it did. -/
def encoderLocalUptoRow : OpenClaim := { program := "ytghhiloencpimaagreat", sum := "d72db66829165f384b732779ced6603519cf087bb7765a7198a19bac7054d08f", func := "squelch/squelchlaw12.EncoderLocal", spec := "encoderLocal", inPlace := ["math/bits.Add64"], unfollowed := true, recurses := true, apart := false, narrowed := true }
def EncoderLocalUptoSaid : Prop := encoderLocalUptoRow.holds Tryz.pinned (OpenSpec.upto encoderLocalSpec)

/-- 'squelchlaw12.EncoderSteps', WHERE WHAT IT READS IS OF BULK AT MOST 1048576: true; the input reads as it did. -/
def encoderStepsUptoRow : OpenClaim := { program := "ytghhiloencpimaagreat", sum := "d72db66829165f384b732779ced6603519cf087bb7765a7198a19bac7054d08f", func := "squelch/squelchlaw12.EncoderSteps", spec := "encoderSteps", inPlace := ["math/bits.Add64"], unfollowed := true, recurses := true, apart := false, narrowed := true }
def EncoderStepsUptoSaid : Prop := encoderStepsUptoRow.holds Tryz.pinned (OpenSpec.upto encoderStepsSpec)

/-- 'squelchlaw12.EncoderFresh', WHERE WHAT IT READS IS OF BULK AT MOST 1048576: true; the input reads as it did. -/
def encoderFreshUptoRow : OpenClaim := { program := "ytghhiloencpimaagreat", sum := "d72db66829165f384b732779ced6603519cf087bb7765a7198a19bac7054d08f", func := "squelch/squelchlaw12.EncoderFresh", spec := "encoderFresh", inPlace := ["math/bits.Add64"], unfollowed := true, recurses := true, apart := false, narrowed := true }
def EncoderFreshUptoSaid : Prop := encoderFreshUptoRow.holds Tryz.pinned (OpenSpec.upto encoderFreshSpec)

/-- 'squelchlaw12.EncoderGoes', WHERE WHAT IT READS IS OF BULK AT MOST 1048576: true; the input reads as it did. -/
def encoderGoesUptoRow : OpenClaim := { program := "ytghhiloencpimaagreat", sum := "d72db66829165f384b732779ced6603519cf087bb7765a7198a19bac7054d08f", func := "squelch/squelchlaw12.EncoderGoes", spec := "encoderGoes", inPlace := ["math/bits.Add64"], unfollowed := true, recurses := true, apart := false, narrowed := true }
def EncoderGoesUptoSaid : Prop := encoderGoesUptoRow.holds Tryz.pinned (OpenSpec.upto encoderGoesSpec)

end Rows
end Go.Proofs.YtghhiloencpimaaGreat
