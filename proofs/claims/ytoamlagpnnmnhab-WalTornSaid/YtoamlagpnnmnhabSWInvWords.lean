-- Words of this claim: what its proof uses of the words that print.sh lays
import Derived.Test.YtoamlagpnnmnhabSWInv
import Derived.Test.YtoamlagpnnmnhabSWFootNe
namespace Go.Proofs.YtoamlagpnnmnhabW.PrintWords
open Go.RowKit
end Go.Proofs.YtoamlagpnnmnhabW.PrintWords
namespace Go.Proofs.YtoamlagpnnmnhabW.PrintLast
section
variable {ops : Array Oper} {a : Act} {o og : Oper} {g : Nat} {t : Tmp} {u : Bool}
end
end Go.Proofs.YtoamlagpnnmnhabW.PrintLast
