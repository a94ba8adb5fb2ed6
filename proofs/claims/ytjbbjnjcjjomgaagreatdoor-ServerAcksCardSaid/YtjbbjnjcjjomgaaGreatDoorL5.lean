import Derived.Test.YtjbbjnjcjjomgaaGreatDoorL3
import Derived.KernelRfl
import Derived.Test.YtjbbjnjcjjomgaaGreatDoorL4
set_option linter.unusedSimpArgs false
set_option linter.unusedVariables false
set_option linter.unusedSectionVars false
namespace Go.Sq
open Go.Rx
end Go.Sq
namespace Go.Sq
open Go.Rx
end Go.Sq
namespace Go.Sq
open Go.Rx
section
variable {α:Type}
end
def s2C (B:Int) (n:Nat) (l:List Int):Prop:=∀ i,i<n → -B≤l.getD i 0∧l.getD i 0≤B
instance (B:Int) (n:Nat) (l:List Int):Decidable (s2C B n l):=by unfold s2C; infer_instance
end Go.Sq
namespace Go.Sq
open Go.Rx
def held (v:Int):Int:=if (-67108864)<(if 67108864<v then 67108864 else v) then (if 67108864<v then 67108864 else v) else (-67108864)
def okY (s:SyT):Prop:=s2C 1099511627776 16 s.1∧lv s.2.1∧¬ (s.2.2.1=true∧s.2.2.2.1=true)
instance (s:SyT):Decidable (okY s):=by unfold okY; infer_instance
end Go.Sq
namespace Go.Sq
open Go.Rx
theorem s3C {x y:Int} (h:x≠y):(x==y)=false:=beq_false_of_ne h
end Go.Sq
namespace Go.Sq
open Go.Rx
def j8D (l:List (List Int)):Prop:=(∀ i,i<l.length→(l.getD i []).length≤300)∧l.length≤30
instance (l:List (List Int)):Decidable (j8D l):=by unfold j8D; infer_instance
end Go.Sq
namespace Go.Sq
open Go.Rx
end Go.Sq
namespace Go.Sq
open Go.Rx
end Go.Sq
namespace Go.Sq
open Go.Rx
end Go.Sq
namespace Go.Sq
open Go.Rx
end Go.Sq
namespace Go.Sq
open Go.Rx
end Go.Sq
namespace Go.Sq
open Go.Rx
end Go.Sq
namespace Go.Sq
open Go.Rx
end Go.Sq
