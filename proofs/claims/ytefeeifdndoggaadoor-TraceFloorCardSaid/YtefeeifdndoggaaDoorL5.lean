/- Parts of a proof: evaluation of Go code over typed values, and what it computes. -/
import Derived.Test.YtefeeifdndoggaaDoorL3
import Derived.KernelRfl
import Derived.Test.YtefeeifdndoggaaDoorL4
set_option linter.unusedSimpArgs false
set_option linter.unusedVariables false
set_option linter.unusedSectionVars false
namespace Go.Sq
open Go.Rx
end Go.Sq
namespace Go.Sq
open Go.Rx
end Go.Sq
namespace Go.Sq
open Go.Rx
section
variable {α : Type}
end
def bndP (B : Int) (n : Nat) (l : List Int) : Prop := ∀ i, i < n → -B ≤ l.getD i 0 ∧ l.getD i 0 ≤ B
instance (B : Int) (n : Nat) (l : List Int) : Decidable (bndP B n l) := by unfold bndP; infer_instance
end Go.Sq
namespace Go.Sq
open Go.Rx
def held (v : Int) : Int := if (-67108864) < (if 67108864 < v then 67108864 else v) then (if 67108864 < v then 67108864 else v) else (-67108864)
abbrev SyT := List Int × List Int × Bool × Bool × Int
def okY (s : SyT) : Prop := bndP 1099511627776 16 s.1 ∧ lv s.2.1 ∧ ¬ (s.2.2.1 = true ∧ s.2.2.2.1 = true)
instance (s : SyT) : Decidable (okY s) := by unfold okY; infer_instance
end Go.Sq
namespace Go.Sq
open Go.Rx
end Go.Sq
namespace Go.Sq
open Go.Rx
def fewP (l : List (List Int)) : Prop := (∀ i, i < l.length → (l.getD i []).length ≤ 300) ∧ l.length ≤ 30
instance (l : List (List Int)) : Decidable (fewP l) := by unfold fewP; infer_instance
end Go.Sq
namespace Go.Sq
open Go.Rx
end Go.Sq
namespace Go.Sq
open Go.Rx
end Go.Sq
namespace Go.Sq
open Go.Rx
end Go.Sq
namespace Go.Sq
open Go.Rx
end Go.Sq
namespace Go.Sq
open Go.Rx
end Go.Sq
namespace Go.Sq
open Go.Rx
end Go.Sq
namespace Go.Sq
open Go.Rx
end Go.Sq
