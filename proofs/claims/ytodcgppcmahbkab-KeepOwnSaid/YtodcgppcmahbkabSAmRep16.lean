/- Part of a machine of its own for this claim: the program's code over memory without draws. -/
import Derived.Test.YtodcgppcmahbkabSAmRep15
set_option linter.unusedVariables false
set_option linter.unusedSimpArgs false
set_option linter.unnecessarySimpa false
/- Rows of one's own: written over, cleared, taken out of. -/
set_option linter.unusedSimpArgs false
namespace Go.AM
open Go
variable {P : Program} {E : TypeId → Bool} {H0 Hm H H' : Heap} {A : Option Addr} {c sz n m p q : Nat}

section
variable {α : Type} {f : α → List Value} {l : List α} {e0 : α} {t e bytes : Nat}
end
end Go.AM
