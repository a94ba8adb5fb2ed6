import Derived.Test.YtjbbjnjcjjomgaaGreatDoorL1
import Derived.KernelRfl
import Derived.Test.YtjbbjnjcjjomgaaGreatDoorX4
set_option linter.unusedSimpArgs false
set_option linter.unusedVariables false
set_option linter.unusedSectionVars false
namespace Go.Sq
open Go.Rx
end Go.Sq
namespace Go.Sq
open Go.Rx
end Go.Sq
namespace Go.Sq
open Go.Rx
end Go.Sq
namespace Go.Sq
open Go.Rx
end Go.Sq
namespace Go.Sq
open Go.Rx
end Go.Sq
namespace Go.Sq
open Go.Rx
end Go.Sq
namespace Go.Sq
open Go.Rx
end Go.Sq
namespace Go.Sq
open Go.Rx
end Go.Sq
namespace Go.Sq
open Go.Rx
end Go.Sq
namespace Go.Sq
open Go.Rx
end Go.Sq
namespace Go.Sq
open Go.Rx
def j4D:List Bool→Nat
 | []=>0
 | b::l=>b.toNat*2 ^ l.length+j4D l
end Go.Sq
namespace Go.Sq
open Go.Rx
def base (l:List Bool) (w:Nat):Int:=(j4D l:Int)*(4294967296*2 ^ w)+2147483648*(2 ^ w - 1)
end Go.Sq
namespace Go.Sq
open Go.Rx
end Go.Sq
namespace Go.Sq
open Go.Rx
end Go.Sq
