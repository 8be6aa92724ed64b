/- Part of a machine of its own for this claim: the program's code over memory without draws. -/
import Derived.Test.YtoolcbdceijjlaaGreatSAmRep16
set_option linter.unusedVariables false
set_option linter.unusedSimpArgs false
set_option linter.unnecessarySimpa false
/- Appended onto what has no room behind. -/
set_option linter.unusedSimpArgs false
namespace Go.AM
open Go
variable {P : Program}
end Go.AM
