import Derived.Test.YtjbbjnjcjjomgaaGreatDoorL3
import Derived.KernelRfl
import Derived.Test.YtjbbjnjcjjomgaaGreatDoorL4
set_option linter.unusedSimpArgs false
set_option linter.unusedVariables false
set_option linter.unusedSectionVars false
namespace Go.Sq
open Go.Rx
end Go.Sq
namespace Go.Sq
open Go.Rx
end Go.Sq
