/- Part of a machine of its own for this claim: the program's code over memory without draws. -/
import Derived.Test.YtodcgppcmahbkabSAmPDisk3
import Derived.Test.YtodcgppcmahbkabSAmOpenK2
set_option linter.unusedVariables false
set_option linter.unusedSimpArgs false
set_option linter.unnecessarySimpa false
/- Files that crash: rows that are written in place; a file that grows; a crash of a crash. -/
set_option linter.unusedSimpArgs false
namespace Go.AM
open Go
/-- A row stands where it stood. -/
theorem My.keepOld {H0 Hm H:Heap} {A:Option Addr} {c sz:Nat} {rows0 rows:List (List Value)} (ho:My H0 Hm A c sz rows0) (hk:My H0 H A c sz rows):My H0 ⟨Hm.next,H.blk⟩ A c sz rows:=by
 rcases hk with h | ⟨b,o,cs,opn,rfl,h1,h2,h3,h4,h5,h6,h7⟩
 · exact .inl h
 ·
  rcases ho with⟨_,hc⟩ | ⟨b',o',_,_,e,g1,g2,_⟩
  ·
   rcases h7 with⟨h7,_⟩ | ⟨_,h8,_⟩
   · rw[hc] at h7;exact absurd h7 (by decide)
   · exact .inl ⟨List.eq_nil_of_length_eq_zero (by omega),hc⟩
  ·
   cases e
   exact .inr ⟨_,_,_,_,rfl,g1,g2,h3,h4,h5,h6,h7⟩
/-- An operation on a disk: its kind, a number, a name, bytes. -/
structure OpD where
 kind:Int
 n:Int
 name:ByteArray
 b:List Int
 bA:Option Addr
 bc:Nat
def OpD.cells (x:OpD):List Value := [.int .i64 x.kind,.int .i64 x.n,.string x.name,.slice x.bA x.b.length x.bc]
theorem OpD.cells_len (m:OpD):m.cells.length=4:=rfl
theorem OpD.cells_one (m:OpD):m.cells.all Value.oneCell'=true:=rfl
def OpD.sub : Sub OpD:=⟨1,OpD.bA,OpD.bc,fun o=>o.b.map u8c⟩
namespace Spec
variable {F : ByteArray} {i n k : Nat}
/-- A file that lasts whole. -/
def whole (f:FileS):Prop:=f.lasts=f.b.length∧f.there=true
end Spec
end Go.AM
namespace Go.AM.Spec
open Go
end Go.AM.Spec
