/- Part of a machine of its own for this claim: the program's code over memory without draws. -/
import Derived.Test.YtodcgppcmahbkabSAmRep14
set_option linter.unusedVariables false
set_option linter.unusedSimpArgs false
set_option linter.unnecessarySimpa false
/- Who belongs; which messages may be: in plain Lean. -/
set_option linter.unusedSimpArgs false
namespace Go.AM
open Go
variable {P : Program} {E : TypeId → Bool}
def cutB (s : ByteArray) (n : Int) : ByteArray := if (s.size : Int) > n then s.extract 0 n.toNat else s
def Entry.cut (e : Entry) : Entry := { e with data := cutB e.data 60 }
namespace Spec
def Ints (l : List Int) : Prop := ∀ x ∈ l, -9223372036854775808 ≤ x ∧ x ≤ 9223372036854775807
theorem Ints.take {l : List Int} (h : Ints l) (n : Nat) : Ints (l.take n) := fun x hx => h x (List.mem_of_mem_take hx)
theorem Ints.drop {l : List Int} (h : Ints l) (n : Nat) : Ints (l.drop n) := fun x hx => h x (List.mem_of_mem_drop hx)
section
variable {kind from_ to_ term index logterm commit si st : Int} {yes : Bool} {es : List Entry} {sc sd : ByteArray}
end
end Spec
end Go.AM
