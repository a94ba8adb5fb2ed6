import Derived.Test.YtjbbjnjcjjomgaaGreatDoorL3
import Derived.Test.YtjbbjnjcjjomgaaGreatDoorL2
import Derived.ProofKit
set_option linter.unusedSimpArgs false
set_option linter.unusedVariables false
set_option linter.unusedSectionVars false
namespace Go.Sq
open Go.Rx
end Go.Sq
namespace Go.Sq
open Go.Rx
end Go.Sq
namespace Go.Sq
open Go.Rx
end Go.Sq
namespace Go.Sq
open Go.Rx
end Go.Sq
