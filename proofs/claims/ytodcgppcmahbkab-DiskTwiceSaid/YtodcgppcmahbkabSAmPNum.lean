/- Part of a machine of its own for this claim: the program's code over memory without draws. -/
import Derived.Test.YtodcgppcmahbkabSAmPFrame
import Derived.Test.YtodcgppcmahbkabSAmE
set_option linter.unusedVariables false
set_option linter.unusedSimpArgs false
set_option linter.unnecessarySimpa false
/- Steps of reading a number; sums: what the loops reckon, in plain Lean. -/
set_option linter.unusedSimpArgs false
namespace Go.AM
open Go
namespace Spec
end Spec
end Go.AM
