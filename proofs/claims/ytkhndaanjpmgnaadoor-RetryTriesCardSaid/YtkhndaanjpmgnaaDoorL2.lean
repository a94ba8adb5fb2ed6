/- Parts of a proof: evaluation of Go code over typed values, and what it computes. -/
import Derived.Test.YtkhndaanjpmgnaaDoorL1
import Derived.KernelRfl
import Derived.Test.YtkhndaanjpmgnaaDoorX4
set_option linter.unusedSimpArgs false
set_option linter.unusedVariables false
set_option linter.unusedSectionVars false
namespace Go.Sq
open Go.Rx
def bI (l : List Bool) (i : Nat) : Int := (((l.getD i false).toNat : Nat) : Int)
abbrev DecT := Int × Int × Int × (List Int × Int) × Int
end Go.Sq
namespace Go.Sq
open Go.Rx
def codeS (l : List Bool) : Nat → Int
 | 0 => 0
 | n + 1 => 2 * codeS l n + bI l n
def zDec : DecT := (0, (0, (0, (([], 0), 0))))
end Go.Sq
namespace Go.Sq
open Go.Rx
end Go.Sq
namespace Go.Sq
open Go.Rx
end Go.Sq
namespace Go.Sq
open Go.Rx
noncomputable def NextF (d : DecT) (C : List Int) : DecT × Int × Int := (g_coder_Next d C).getD (zDec, (0, 1))
end Go.Sq
namespace Go.Sq
open Go.Rx
end Go.Sq
namespace Go.Sq
open Go.Rx
end Go.Sq
namespace Go.Sq
open Go.Rx
end Go.Sq
namespace Go.Sq
open Go.Rx
end Go.Sq
namespace Go.Sq
open Go.Rx
end Go.Sq
namespace Go.Sq
open Go.Rx
def bval : List Bool → Nat
 | [] => 0
 | b :: l => b.toNat * 2 ^ l.length + bval l
end Go.Sq
namespace Go.Sq
open Go.Rx
def base (l : List Bool) (w : Nat) : Int := (bval l : Int) * (4294967296 * 2 ^ w) + 2147483648 * (2 ^ w - 1)
def seen (B : List Bool) (w : Nat) (l : List Bool) : Int := codeS B (l.length + w + 32) - base l w
end Go.Sq
namespace Go.Sq
open Go.Rx
end Go.Sq
namespace Go.Sq
open Go.Rx
end Go.Sq
