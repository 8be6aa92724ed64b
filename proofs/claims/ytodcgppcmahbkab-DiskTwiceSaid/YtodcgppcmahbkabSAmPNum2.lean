/- Part of a machine of its own for this claim: the program's code over memory without draws. -/
import Derived.Test.YtodcgppcmahbkabSAmPNum
set_option linter.unusedVariables false
set_option linter.unusedSimpArgs false
set_option linter.unnecessarySimpa false
/- Frames: what the code's pieces come to. -/
set_option linter.unusedSimpArgs false
namespace Go.AM.Spec
open Go Go.RowKit
end Go.AM.Spec
