/- Part of a machine of its own for this claim: the program's code over memory without draws. -/
import Derived.Test.YtoolcbdceijjlaaGreatSAmPCf2
import Derived.Test.YtoolcbdceijjlaaGreatSAmPDel
set_option linter.unusedVariables false
set_option linter.unusedSimpArgs false
set_option linter.unnecessarySimpa false
/- One more, one less; what majorities have in common. -/
set_option linter.unusedSimpArgs false
namespace Go.AM.Spec
open Go
end Go.AM.Spec
