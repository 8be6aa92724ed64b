/- Part of a machine of its own for this claim: the program's code over memory without draws. -/
import Derived.Test.YtodcgppcmahbkabSAmPDisk3
import Derived.Test.YtodcgppcmahbkabSAmOpenK2
set_option linter.unusedVariables false
set_option linter.unusedSimpArgs false
set_option linter.unnecessarySimpa false
/- Files that crash: rows that are written in place; a file that grows; a crash of a crash. -/
set_option linter.unusedSimpArgs false
namespace Go.AM
open Go
/-- An operation on a disk: its kind, a number, a name, bytes. -/
structure OpD where
  kind : Int
  n : Int
  name : ByteArray
  b : List Int
  bA : Option Addr
  bc : Nat
def OpD.cells (x : OpD) : List Value := [.int .i64 x.kind, .int .i64 x.n, .string x.name, .slice x.bA x.b.length x.bc]
theorem OpD.cells_len (m : OpD) : m.cells.length = 4 := rfl
theorem OpD.cells_one (m : OpD) : m.cells.all Value.oneCell' = true := rfl
def OpD.sub : Sub OpD := ⟨1, OpD.bA, OpD.bc, fun o => o.b.map u8c⟩
namespace Spec
variable {F : ByteArray} {i n k : Nat}
/-- A file that lasts whole. -/
def whole (f : FileS) : Prop := f.lasts = f.b.length ∧ f.there = true
end Spec
end Go.AM
namespace Go.AM.Spec
open Go
end Go.AM.Spec
