/- Part of a machine of its own for this claim: the program's code over memory without draws. -/
import Derived.Test.YtfodghhmglbapaaSAmXMsgB3
set_option linter.unusedVariables false
set_option linter.unusedSimpArgs false
set_option linter.unnecessarySimpa false
set_option linter.unusedVariables false
set_option linter.unusedSimpArgs false
set_option linter.unnecessarySimpa false
namespace Go.AM
open Go Go.Proofs

end Go.AM
