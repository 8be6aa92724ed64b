/- Part of a machine of its own for this claim: the program's code over memory without draws. -/
import Derived.Test.YtodcgppcmahbkabSAmPNum2
set_option linter.unusedVariables false
set_option linter.unusedSimpArgs false
set_option linter.unnecessarySimpa false
/- The program's plain records. -/
namespace Go.AM
open Go
structure Hard where
  term : Int
  vote : Int
structure Entry where
  index : Int
  term : Int
  kind : Int
  data : ByteArray
structure Rec where
  hard : Bool
  h : Hard
  e : Entry
structure Snap where
  index : Int
  term : Int
  conf : ByteArray
  data : ByteArray
def Hard.cells (h : Hard) : List Value := [.int .i64 h.term, .int .i64 h.vote]
def Entry.cells (e : Entry) : List Value := [.int .i64 e.index, .int .i64 e.term, .int .i64 e.kind, .string e.data]
def Rec.cells (r : Rec) : List Value := [.bool r.hard, .int .i64 r.h.term, .int .i64 r.h.vote, .int .i64 r.e.index, .int .i64 r.e.term, .int .i64 r.e.kind, .string r.e.data]
def Snap.cells (s : Snap) : List Value := [.int .i64 s.index, .int .i64 s.term, .string s.conf, .string s.data]
theorem Hard.cells_one (e : Hard) : e.cells.all Value.oneCell' = true := rfl
theorem Entry.cells_one (e : Entry) : e.cells.all Value.oneCell' = true := rfl
theorem Rec.cells_one (e : Rec) : e.cells.all Value.oneCell' = true := rfl
theorem Snap.cells_one (e : Snap) : e.cells.all Value.oneCell' = true := rfl
namespace Spec
theorem drop_all (l : List Int) (n : Nat) : (l.drop n).take (l.length - n) = l.drop n := List.take_of_length_le (by simp)
theorem drop_at {l L : List Int} {a : Int} {p : Nat} (hp : a = (p : Int)) (h : L = (l.drop a.toNat).take (l.length - a.toNat)) : L = l.drop p := by rw [h, drop_all, hp, Int.toNat_natCast]
end Spec
end Go.AM
