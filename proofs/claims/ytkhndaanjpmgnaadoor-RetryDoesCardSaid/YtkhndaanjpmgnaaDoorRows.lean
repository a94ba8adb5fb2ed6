/-
  NARROWER THAN 'FOR EVERY INPUT', by the rows' own cells (each row's printed sentence says how): RetryAnswers: laid · RetryKinds: laid · RetryTries: laid · RetryOnce: laid · RetryDoes: laid.
  DERIVED. THE GIVEN ROWS OF THIS SEAT. 5 by the template 'for every input the law returns true; each argument reads behind the call as it read before'; 0 by the template 'total and deterministic' (their statements: YtkhndaanjpmgnaaDoorTotals.lean).
  GIVEN WITH THE SEED: the statements are not yours to turn. If you find one false, say at which input.
  Laid BY PROGRAM, IN A SANDBOX (cutbox-rows.mjs): the forced cells as the released guide's own fill.sh prints them over the translation f20eb6a28f288894… (all of the seat's roots in one cut). By AI agents, Wed Nov 11 2026. No macro, syntax, notation, axiom, sorry.
-/
import Derived.Test.YtkhndaanjpmgnaaDoorChecked
import GoSem.PinnedTables
import GoSem.Claim
import GoSem.ClaimJoined
import GoSem.ClaimMapViews
import Derived.JoinedTies
import Derived.KernelRfl
namespace Go.Proofs.YtkhndaanjpmgnaaDoor
/- THE CELL 'sum', in the pinned program and in every row, IS THE sha256 OF THE DUMP (.gsa) THAT YtkhndaanjpmgnaaDoorProg.lean LOADS. Nothing in Lean hashes anything: it is a label: what it is worth is what the hold of that sum in a sandbox is worth. -/
noncomputable def Tryd.pinned : Pinned := { name := "ytkhndaanjpmgnaadoor", sum := "f20eb6a28f2888948ab54242d4376bfa6f5b410af3abcb7760910d0793db6aa6", checked := Tryd.checked }
namespace Rows
def none {H : Type} : Left H := { results := [], args := [] }

/- WHAT THE LISTED PACKAGE-LEVEL VARIABLES READ AS WHEN THE CALL BEGINS. Each datum BY PROGRAM (the guide's laid-datum.mjs) off the statement by which the dump's own 'gosem.cut.vars' lays the variable. In a bare row this is a premise. The card (YtkhndaanjpmgnaaDoorCards.lean) ties it to the program's text. -/
def laid_unicode_utf8_acceptRanges {H : Type} : DataW H := .agg [.agg [.lit (.int .u8 128), .lit (.int .u8 191)], .agg [.lit (.int .u8 160), .lit (.int .u8 191)], .agg [.lit (.int .u8 128), .lit (.int .u8 159)], .agg [.lit (.int .u8 144), .lit (.int .u8 191)], .agg [.lit (.int .u8 128), .lit (.int .u8 143)], .agg [.lit (.int .u8 0), .lit (.int .u8 0)], .agg [.lit (.int .u8 0), .lit (.int .u8 0)], .agg [.lit (.int .u8 0), .lit (.int .u8 0)], .agg [.lit (.int .u8 0), .lit (.int .u8 0)], .agg [.lit (.int .u8 0), .lit (.int .u8 0)], .agg [.lit (.int .u8 0), .lit (.int .u8 0)], .agg [.lit (.int .u8 0), .lit (.int .u8 0)], .agg [.lit (.int .u8 0), .lit (.int .u8 0)], .agg [.lit (.int .u8 0), .lit (.int .u8 0)], .agg [.lit (.int .u8 0), .lit (.int .u8 0)], .agg [.lit (.int .u8 0), .lit (.int .u8 0)]]
/-- One of Go's own tables, pinned by name: the form's constant. -/
def laid_unicode_utf8_first : DataW Unit := Go.Pinned.utf8First

/-- 'squelchlaw17.RetryAnswers': WHATEVER THE INPUT: true; the input reads as it did. -/
def retryAnswersSpec : ChangeSpec := { name := "retryAnswers", fn := fun _ => fun
  | [d1, d2, d3] => { results := [.lit (.bool true)], args := [d1, d2, d3] }
  | _ => none }
def retryAnswersRow : OpenClaim := { program := "ytkhndaanjpmgnaadoor", sum := "f20eb6a28f2888948ab54242d4376bfa6f5b410af3abcb7760910d0793db6aa6", func := "squelch/squelchlaw17.RetryAnswers", spec := "retryAnswers", unfollowed := true, recurses := true, named := ["unicode/utf8.first", "unicode/utf8.acceptRanges"], plainKeys := false, apart := false, laid := [("unicode/utf8.acceptRanges", laid_unicode_utf8_acceptRanges), ("unicode/utf8.first", laid_unicode_utf8_first)] }
def RetryAnswersSaid : Prop := retryAnswersRow.holds Tryd.pinned (OpenSpec.ofChange retryAnswersSpec)

/-- ITS FALSE NEIGHBOUR: 'it returns false'. Refute it at one input. -/
def retryAnswersWrong : ChangeSpec := { name := "retryAnswers", fn := fun _ => fun
  | [d1, d2, d3] => { results := [.lit (.bool false)], args := [d1, d2, d3] }
  | _ => none }
def RetryAnswersWrongFalsely : Prop := retryAnswersRow.holds Tryd.pinned (OpenSpec.ofChange retryAnswersWrong)

/-- 'squelchlaw17.RetryKinds': WHATEVER THE INPUT: true; the input reads as it did. -/
def retryKindsSpec : ChangeSpec := { name := "retryKinds", fn := fun _ => fun
  | [d1, d2] => { results := [.lit (.bool true)], args := [d1, d2] }
  | _ => none }
def retryKindsRow : OpenClaim := { program := "ytkhndaanjpmgnaadoor", sum := "f20eb6a28f2888948ab54242d4376bfa6f5b410af3abcb7760910d0793db6aa6", func := "squelch/squelchlaw17.RetryKinds", spec := "retryKinds", unfollowed := true, recurses := true, named := ["unicode/utf8.first", "unicode/utf8.acceptRanges"], plainKeys := false, apart := false, laid := [("unicode/utf8.acceptRanges", laid_unicode_utf8_acceptRanges), ("unicode/utf8.first", laid_unicode_utf8_first)] }
def RetryKindsSaid : Prop := retryKindsRow.holds Tryd.pinned (OpenSpec.ofChange retryKindsSpec)

/-- ITS FALSE NEIGHBOUR: 'it returns false'. Refute it at one input. -/
def retryKindsWrong : ChangeSpec := { name := "retryKinds", fn := fun _ => fun
  | [d1, d2] => { results := [.lit (.bool false)], args := [d1, d2] }
  | _ => none }
def RetryKindsWrongFalsely : Prop := retryKindsRow.holds Tryd.pinned (OpenSpec.ofChange retryKindsWrong)

/-- 'squelchlaw17.RetryTries': WHATEVER THE INPUT: true; the input reads as it did. -/
def retryTriesSpec : ChangeSpec := { name := "retryTries", fn := fun _ => fun
  | [d] => { results := [.lit (.bool true)], args := [d] }
  | _ => none }
def retryTriesRow : OpenClaim := { program := "ytkhndaanjpmgnaadoor", sum := "f20eb6a28f2888948ab54242d4376bfa6f5b410af3abcb7760910d0793db6aa6", func := "squelch/squelchlaw17.RetryTries", spec := "retryTries", inPlace := ["slices.overlaps[squelch/api.Heard]", "slices.overlaps[int]"], unfollowed := true, recurses := true, named := ["unicode/utf8.first", "unicode/utf8.acceptRanges"], plainKeys := false, apart := false, laid := [("unicode/utf8.acceptRanges", laid_unicode_utf8_acceptRanges), ("unicode/utf8.first", laid_unicode_utf8_first)] }
def RetryTriesSaid : Prop := retryTriesRow.holds Tryd.pinned (OpenSpec.ofChange retryTriesSpec)

/-- ITS FALSE NEIGHBOUR: 'it returns false'. Refute it at one input. -/
def retryTriesWrong : ChangeSpec := { name := "retryTries", fn := fun _ => fun
  | [d] => { results := [.lit (.bool false)], args := [d] }
  | _ => none }
def RetryTriesWrongFalsely : Prop := retryTriesRow.holds Tryd.pinned (OpenSpec.ofChange retryTriesWrong)

/-- 'squelchlaw17.RetryOnce': WHATEVER THE INPUT: true; the input reads as it did. -/
def retryOnceSpec : ChangeSpec := { name := "retryOnce", fn := fun _ => fun
  | [d] => { results := [.lit (.bool true)], args := [d] }
  | _ => none }
def retryOnceRow : OpenClaim := { program := "ytkhndaanjpmgnaadoor", sum := "f20eb6a28f2888948ab54242d4376bfa6f5b410af3abcb7760910d0793db6aa6", func := "squelch/squelchlaw17.RetryOnce", spec := "retryOnce", inPlace := ["slices.overlaps[squelch/api.Heard]", "slices.overlaps[int]"], unfollowed := true, recurses := true, named := ["unicode/utf8.first", "unicode/utf8.acceptRanges"], plainKeys := false, apart := false, laid := [("unicode/utf8.acceptRanges", laid_unicode_utf8_acceptRanges), ("unicode/utf8.first", laid_unicode_utf8_first)] }
def RetryOnceSaid : Prop := retryOnceRow.holds Tryd.pinned (OpenSpec.ofChange retryOnceSpec)

/-- ITS FALSE NEIGHBOUR: 'it returns false'. Refute it at one input. -/
def retryOnceWrong : ChangeSpec := { name := "retryOnce", fn := fun _ => fun
  | [d] => { results := [.lit (.bool false)], args := [d] }
  | _ => none }
def RetryOnceWrongFalsely : Prop := retryOnceRow.holds Tryd.pinned (OpenSpec.ofChange retryOnceWrong)

/-- 'squelchlaw17.RetryDoes': WHATEVER THE INPUT: true; the input reads as it did. -/
def retryDoesSpec : ChangeSpec := { name := "retryDoes", fn := fun _ => fun
  | [d1, d2, d3] => { results := [.lit (.bool true)], args := [d1, d2, d3] }
  | _ => none }
def retryDoesRow : OpenClaim := { program := "ytkhndaanjpmgnaadoor", sum := "f20eb6a28f2888948ab54242d4376bfa6f5b410af3abcb7760910d0793db6aa6", func := "squelch/squelchlaw17.RetryDoes", spec := "retryDoes", inPlace := ["slices.overlaps[squelch/api.Heard]", "slices.overlaps[int]"], unfollowed := true, recurses := true, named := ["unicode/utf8.first", "unicode/utf8.acceptRanges"], plainKeys := false, apart := false, laid := [("unicode/utf8.acceptRanges", laid_unicode_utf8_acceptRanges), ("unicode/utf8.first", laid_unicode_utf8_first)] }
def RetryDoesSaid : Prop := retryDoesRow.holds Tryd.pinned (OpenSpec.ofChange retryDoesSpec)

/-- ITS FALSE NEIGHBOUR: 'it returns false'. Refute it at one input. -/
def retryDoesWrong : ChangeSpec := { name := "retryDoes", fn := fun _ => fun
  | [d1, d2, d3] => { results := [.lit (.bool false)], args := [d1, d2, d3] }
  | _ => none }
def RetryDoesWrongFalsely : Prop := retryDoesRow.holds Tryd.pinned (OpenSpec.ofChange retryDoesWrong)

/- THE SECOND FORM. 'bulk': how many values and letters a reading holds, each counted each time it is reached (what is shared counts as often as it is met; a slice's spare places count too). A statement '..UptoSaid' is the law's where the arguments, and the package variables that the reading takes, are together of bulk at most 1048576: NARROWER than '..Said'. Prove '..Said' where nothing that the law and all that it calls make is longer than what came in: it says more and counts as full. Else prove '..UptoSaid'. A law counts once. -/
mutual
def uptoBulk {H : Type} : DataW H → Nat
  | .lit (.string bytes) => bytes.length + 1
  | .lit _ => 1
  | .nil => 1
  | .ptr d => uptoBulk d + 1
  | .slice elems spare => uptoBulkAll elems + uptoBulkAll spare + 1
  | .agg parts => uptoBulkAll parts + 1
  | .iface _ d => uptoBulk d + 1
  | .map entries => uptoBulkEntries entries + 1
  | .held _ => 1
def uptoBulkAll {H : Type} : List (DataW H) → Nat
  | [] => 0
  | d :: r => uptoBulk d + uptoBulkAll r
def uptoBulkEntries {H : Type} : List (Lit × DataW H) → Nat
  | [] => 0
  | x :: r => uptoBulkEntry x + uptoBulkEntries r
def uptoBulkEntry {H : Type} : Lit × DataW H → Nat
  | (.string bytes, d) => bytes.length + uptoBulk d + 1
  | (_, d) => uptoBulk d + 1
 end
def uptoSmall : (H : Type) → List (DataW H) → Bool := fun _ ds => decide (uptoBulkAll ds ≤ 1048576)
def OpenSpec.upto (s : _root_.Go.ChangeSpec) : _root_.Go.OpenSpec := { _root_.Go.OpenSpec.ofChange s with cond := some uptoSmall }

/-- 'squelchlaw17.RetryAnswers', WHERE WHAT IT READS IS OF BULK AT MOST 1048576: true; the input reads as it did. -/
def retryAnswersUptoRow : OpenClaim := { program := "ytkhndaanjpmgnaadoor", sum := "f20eb6a28f2888948ab54242d4376bfa6f5b410af3abcb7760910d0793db6aa6", func := "squelch/squelchlaw17.RetryAnswers", spec := "retryAnswers", unfollowed := true, recurses := true, named := ["unicode/utf8.first", "unicode/utf8.acceptRanges"], plainKeys := false, apart := false, laid := [("unicode/utf8.acceptRanges", laid_unicode_utf8_acceptRanges), ("unicode/utf8.first", laid_unicode_utf8_first)], narrowed := true }
def RetryAnswersUptoSaid : Prop := retryAnswersUptoRow.holds Tryd.pinned (OpenSpec.upto retryAnswersSpec)

/-- 'squelchlaw17.RetryKinds', WHERE WHAT IT READS IS OF BULK AT MOST 1048576: true; the input reads as it did. -/
def retryKindsUptoRow : OpenClaim := { program := "ytkhndaanjpmgnaadoor", sum := "f20eb6a28f2888948ab54242d4376bfa6f5b410af3abcb7760910d0793db6aa6", func := "squelch/squelchlaw17.RetryKinds", spec := "retryKinds", unfollowed := true, recurses := true, named := ["unicode/utf8.first", "unicode/utf8.acceptRanges"], plainKeys := false, apart := false, laid := [("unicode/utf8.acceptRanges", laid_unicode_utf8_acceptRanges), ("unicode/utf8.first", laid_unicode_utf8_first)], narrowed := true }
def RetryKindsUptoSaid : Prop := retryKindsUptoRow.holds Tryd.pinned (OpenSpec.upto retryKindsSpec)

/-- 'squelchlaw17.RetryTries', WHERE WHAT IT READS IS OF BULK AT MOST 1048576: true; the input reads as it did. -/
def retryTriesUptoRow : OpenClaim := { program := "ytkhndaanjpmgnaadoor", sum := "f20eb6a28f2888948ab54242d4376bfa6f5b410af3abcb7760910d0793db6aa6", func := "squelch/squelchlaw17.RetryTries", spec := "retryTries", inPlace := ["slices.overlaps[squelch/api.Heard]", "slices.overlaps[int]"], unfollowed := true, recurses := true, named := ["unicode/utf8.first", "unicode/utf8.acceptRanges"], plainKeys := false, apart := false, laid := [("unicode/utf8.acceptRanges", laid_unicode_utf8_acceptRanges), ("unicode/utf8.first", laid_unicode_utf8_first)], narrowed := true }
def RetryTriesUptoSaid : Prop := retryTriesUptoRow.holds Tryd.pinned (OpenSpec.upto retryTriesSpec)

/-- 'squelchlaw17.RetryOnce', WHERE WHAT IT READS IS OF BULK AT MOST 1048576: true; the input reads as it did. -/
def retryOnceUptoRow : OpenClaim := { program := "ytkhndaanjpmgnaadoor", sum := "f20eb6a28f2888948ab54242d4376bfa6f5b410af3abcb7760910d0793db6aa6", func := "squelch/squelchlaw17.RetryOnce", spec := "retryOnce", inPlace := ["slices.overlaps[squelch/api.Heard]", "slices.overlaps[int]"], unfollowed := true, recurses := true, named := ["unicode/utf8.first", "unicode/utf8.acceptRanges"], plainKeys := false, apart := false, laid := [("unicode/utf8.acceptRanges", laid_unicode_utf8_acceptRanges), ("unicode/utf8.first", laid_unicode_utf8_first)], narrowed := true }
def RetryOnceUptoSaid : Prop := retryOnceUptoRow.holds Tryd.pinned (OpenSpec.upto retryOnceSpec)

/-- 'squelchlaw17.RetryDoes', WHERE WHAT IT READS IS OF BULK AT MOST 1048576: true; the input reads as it did. -/
def retryDoesUptoRow : OpenClaim := { program := "ytkhndaanjpmgnaadoor", sum := "f20eb6a28f2888948ab54242d4376bfa6f5b410af3abcb7760910d0793db6aa6", func := "squelch/squelchlaw17.RetryDoes", spec := "retryDoes", inPlace := ["slices.overlaps[squelch/api.Heard]", "slices.overlaps[int]"], unfollowed := true, recurses := true, named := ["unicode/utf8.first", "unicode/utf8.acceptRanges"], plainKeys := false, apart := false, laid := [("unicode/utf8.acceptRanges", laid_unicode_utf8_acceptRanges), ("unicode/utf8.first", laid_unicode_utf8_first)], narrowed := true }
def RetryDoesUptoSaid : Prop := retryDoesUptoRow.holds Tryd.pinned (OpenSpec.upto retryDoesSpec)

end Rows
end Go.Proofs.YtkhndaanjpmgnaaDoor
