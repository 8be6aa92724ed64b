-- Words of this claim: what its proof uses of the words that print.sh lays
import Derived.Test.YtoamlagpnnmnhabSWTab
/-! ### 56. Four, five, six operations that may come up next, in any order -/
namespace Go.Proofs.YtoamlagpnnmnhabW.PrintLast
section
variable {P : Program} {ops : Array Oper} {Q : Exit → Act → World → Prop} {md : Region.Mode} {S : World → Prop} {ds : List Nat} {T : Bool × List (List Nat × List Nat)}
end
end Go.Proofs.YtoamlagpnnmnhabW.PrintLast
