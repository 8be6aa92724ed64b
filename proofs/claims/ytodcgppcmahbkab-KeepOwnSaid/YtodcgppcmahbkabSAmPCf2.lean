/- Part of a machine of its own for this claim: the program's code over memory without draws. -/
import Derived.Test.YtodcgppcmahbkabSAmPCf
set_option linter.unusedVariables false
set_option linter.unusedSimpArgs false
set_option linter.unnecessarySimpa false
/- The middle one of a row that is put in order. -/
set_option linter.unusedSimpArgs false
namespace Go.AM.Spec
open Go
end Go.AM.Spec
