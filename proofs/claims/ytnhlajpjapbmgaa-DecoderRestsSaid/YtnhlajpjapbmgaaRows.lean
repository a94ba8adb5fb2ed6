/-
  No cell of these rows narrows 'for every input' (looked for: loops, veiled, ifaces, maps, wideKeys, modest, calm, conditions, laid).
  DERIVED. THE GIVEN ROWS OF THIS SEAT. 3 by the template 'for every input the law returns true; each argument reads behind the call as it read before'; 0 by the template 'total and deterministic' (their statements: YtnhlajpjapbmgaaTotals.lean).
  GIVEN WITH THE SEED: the statements are not yours to turn. If you find one false, say at which input.
  Laid BY PROGRAM, IN A SANDBOX (cutbox-rows.mjs): the forced cells as the released guide's own fill.sh prints them over the translation 0a710bc0398dd62a… (all of the seat's roots in one cut). By AI agents, Wed Nov 11 2026. No macro, syntax, notation, axiom, sorry.
-/
import Derived.Test.YtnhlajpjapbmgaaChecked
import GoSem.Claim
import GoSem.ClaimJoined
import GoSem.ClaimMapViews
import Derived.JoinedTies
import Derived.KernelRfl
namespace Go.Proofs.Ytnhlajpjapbmgaa
/- THE CELL 'sum', in the pinned program and in every row, IS THE sha256 OF THE DUMP (.gsa) THAT YtnhlajpjapbmgaaProg.lean LOADS. Nothing in Lean hashes anything: it is a label: what it is worth is what the hold of that sum in a sandbox is worth. -/
noncomputable def Try.pinned : Pinned := { name := "ytnhlajpjapbmgaa", sum := "0a710bc0398dd62a85723910c72adc577685378e25a32c1748ddd262b25ef20e", checked := Try.checked }
namespace Rows
def none {H : Type} : Left H := { results := [], args := [] }

/-- 'squelchlaw11.DecoderFresh': WHATEVER THE INPUT: true; the input reads as it did. -/
def decoderFreshSpec : ChangeSpec := { name := "decoderFresh", fn := fun _ => fun
  | [d1, d2, d3, d4] => { results := [.lit (.bool true)], args := [d1, d2, d3, d4] }
  | _ => none }
def decoderFreshRow : OpenClaim := { program := "ytnhlajpjapbmgaa", sum := "0a710bc0398dd62a85723910c72adc577685378e25a32c1748ddd262b25ef20e", func := "squelch/squelchlaw11.DecoderFresh", spec := "decoderFresh", unfollowed := true, recurses := true, apart := false }
def DecoderFreshSaid : Prop := decoderFreshRow.holds Try.pinned (OpenSpec.ofChange decoderFreshSpec)

/-- ITS FALSE NEIGHBOUR: 'it returns false'. Refute it at one input. -/
def decoderFreshWrong : ChangeSpec := { name := "decoderFresh", fn := fun _ => fun
  | [d1, d2, d3, d4] => { results := [.lit (.bool false)], args := [d1, d2, d3, d4] }
  | _ => none }
def DecoderFreshWrongFalsely : Prop := decoderFreshRow.holds Try.pinned (OpenSpec.ofChange decoderFreshWrong)

/-- 'squelchlaw11.DecoderRests': WHATEVER THE INPUT: true; the input reads as it did. -/
def decoderRestsSpec : ChangeSpec := { name := "decoderRests", fn := fun _ => fun
  | [d1, d2] => { results := [.lit (.bool true)], args := [d1, d2] }
  | _ => none }
def decoderRestsRow : OpenClaim := { program := "ytnhlajpjapbmgaa", sum := "0a710bc0398dd62a85723910c72adc577685378e25a32c1748ddd262b25ef20e", func := "squelch/squelchlaw11.DecoderRests", spec := "decoderRests", unfollowed := true, recurses := true, apart := false }
def DecoderRestsSaid : Prop := decoderRestsRow.holds Try.pinned (OpenSpec.ofChange decoderRestsSpec)

/-- ITS FALSE NEIGHBOUR: 'it returns false'. Refute it at one input. -/
def decoderRestsWrong : ChangeSpec := { name := "decoderRests", fn := fun _ => fun
  | [d1, d2] => { results := [.lit (.bool false)], args := [d1, d2] }
  | _ => none }
def DecoderRestsWrongFalsely : Prop := decoderRestsRow.holds Try.pinned (OpenSpec.ofChange decoderRestsWrong)

/-- 'squelchlaw11.DecoderGoes': WHATEVER THE INPUT: true; the input reads as it did. -/
def decoderGoesSpec : ChangeSpec := { name := "decoderGoes", fn := fun _ => fun
  | [d1, d2] => { results := [.lit (.bool true)], args := [d1, d2] }
  | _ => none }
def decoderGoesRow : OpenClaim := { program := "ytnhlajpjapbmgaa", sum := "0a710bc0398dd62a85723910c72adc577685378e25a32c1748ddd262b25ef20e", func := "squelch/squelchlaw11.DecoderGoes", spec := "decoderGoes", unfollowed := true, recurses := true, apart := false }
def DecoderGoesSaid : Prop := decoderGoesRow.holds Try.pinned (OpenSpec.ofChange decoderGoesSpec)

/-- ITS FALSE NEIGHBOUR: 'it returns false'. Refute it at one input. -/
def decoderGoesWrong : ChangeSpec := { name := "decoderGoes", fn := fun _ => fun
  | [d1, d2] => { results := [.lit (.bool false)], args := [d1, d2] }
  | _ => none }
def DecoderGoesWrongFalsely : Prop := decoderGoesRow.holds Try.pinned (OpenSpec.ofChange decoderGoesWrong)

/- THE SECOND FORM. 'bulk': how many values and letters a reading holds, each counted each time it is reached (what is shared counts as often as it is met; a slice's spare places count too). A statement '..UptoSaid' is the law's where the arguments, and the package variables that the reading takes, are together of bulk at most 1048576: NARROWER than '..Said'. Prove '..Said' where nothing that the law and all that it calls make is longer than what came in: it says more and counts as full. Else prove '..UptoSaid'. A law counts once. -/
mutual
def uptoBulk {H : Type} : DataW H → Nat
  | .lit (.string bytes) => bytes.length + 1
  | .lit _ => 1
  | .nil => 1
  | .ptr d => uptoBulk d + 1
  | .slice elems spare => uptoBulkAll elems + uptoBulkAll spare + 1
  | .agg parts => uptoBulkAll parts + 1
  | .iface _ d => uptoBulk d + 1
  | .map entries => uptoBulkEntries entries + 1
  | .held _ => 1
def uptoBulkAll {H : Type} : List (DataW H) → Nat
  | [] => 0
  | d :: r => uptoBulk d + uptoBulkAll r
def uptoBulkEntries {H : Type} : List (Lit × DataW H) → Nat
  | [] => 0
  | x :: r => uptoBulkEntry x + uptoBulkEntries r
def uptoBulkEntry {H : Type} : Lit × DataW H → Nat
  | (.string bytes, d) => bytes.length + uptoBulk d + 1
  | (_, d) => uptoBulk d + 1
 end
def uptoSmall : (H : Type) → List (DataW H) → Bool := fun _ ds => decide (uptoBulkAll ds ≤ 1048576)
def OpenSpec.upto (s : _root_.Go.ChangeSpec) : _root_.Go.OpenSpec := { _root_.Go.OpenSpec.ofChange s with cond := some uptoSmall }

/-- 'squelchlaw11.DecoderFresh', WHERE WHAT IT READS IS OF BULK AT MOST 1048576: true; the input reads as it did. -/
def decoderFreshUptoRow : OpenClaim := { program := "ytnhlajpjapbmgaa", sum := "0a710bc0398dd62a85723910c72adc577685378e25a32c1748ddd262b25ef20e", func := "squelch/squelchlaw11.DecoderFresh", spec := "decoderFresh", unfollowed := true, recurses := true, apart := false, narrowed := true }
def DecoderFreshUptoSaid : Prop := decoderFreshUptoRow.holds Try.pinned (OpenSpec.upto decoderFreshSpec)

/-- 'squelchlaw11.DecoderRests', WHERE WHAT IT READS IS OF BULK AT MOST 1048576: true; the input reads as it did. -/
def decoderRestsUptoRow : OpenClaim := { program := "ytnhlajpjapbmgaa", sum := "0a710bc0398dd62a85723910c72adc577685378e25a32c1748ddd262b25ef20e", func := "squelch/squelchlaw11.DecoderRests", spec := "decoderRests", unfollowed := true, recurses := true, apart := false, narrowed := true }
def DecoderRestsUptoSaid : Prop := decoderRestsUptoRow.holds Try.pinned (OpenSpec.upto decoderRestsSpec)

/-- 'squelchlaw11.DecoderGoes', WHERE WHAT IT READS IS OF BULK AT MOST 1048576: true; the input reads as it did. -/
def decoderGoesUptoRow : OpenClaim := { program := "ytnhlajpjapbmgaa", sum := "0a710bc0398dd62a85723910c72adc577685378e25a32c1748ddd262b25ef20e", func := "squelch/squelchlaw11.DecoderGoes", spec := "decoderGoes", unfollowed := true, recurses := true, apart := false, narrowed := true }
def DecoderGoesUptoSaid : Prop := decoderGoesUptoRow.holds Try.pinned (OpenSpec.upto decoderGoesSpec)

end Rows
end Go.Proofs.Ytnhlajpjapbmgaa
