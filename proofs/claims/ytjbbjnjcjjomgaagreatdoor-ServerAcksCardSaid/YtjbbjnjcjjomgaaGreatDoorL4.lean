import Derived.Test.YtjbbjnjcjjomgaaGreatDoorL3
import Derived.Test.YtjbbjnjcjjomgaaGreatDoorL2
import Derived.ProofKit
set_option linter.unusedSimpArgs false
set_option linter.unusedVariables false
set_option linter.unusedSectionVars false
namespace Go.Sq
open Go.Rx
def chain:DecT→List (Int×List Int)→Prop
 | _,[]=>True
 | d,z::r=>(NextF d z.2).2=(z.1,0)∧chain (NextF d z.2).1 r
end Go.Sq
namespace Go.Sq
open Go.Rx
end Go.Sq
namespace Go.Sq
open Go.Rx
end Go.Sq
namespace Go.Sq
open Go.Rx
end Go.Sq
namespace Go.Sq
open Go.Rx
end Go.Sq
namespace Go.Sq
open Go.Rx
end Go.Sq
namespace Go.Sq
open Go.Rx
end Go.Sq
