/- Part of a machine of its own for this claim: the program's code over memory without draws. -/
import Derived.Test.YtodcgppcmahbkaaSAmPDisk3
import Derived.Test.YtodcgppcmahbkaaSAmOpenK2
set_option linter.unusedVariables false
set_option linter.unusedSimpArgs false
set_option linter.unnecessarySimpa false
/- Files that crash: rows that are written in place; a file that grows; a crash of a crash. -/
set_option linter.unusedSimpArgs false
namespace Go.AM
open Go
/-- An operation on a disk: its kind, a number, a name, bytes. -/
structure OpD where
  kind : Int
  n : Int
  name : ByteArray
  b : List Int
  bA : Option Addr
  bc : Nat
def OpD.cells (x : OpD) : List Value := [.int .i64 x.kind, .int .i64 x.n, .string x.name, .slice x.bA x.b.length x.bc]
theorem OpD.cells_one (m : OpD) : m.cells.all Value.oneCell' = true := rfl
def OpD.sub : Sub OpD := ⟨1, OpD.bA, OpD.bc, fun o => o.b.map u8c⟩
namespace Spec
variable {F : ByteArray} {i n k : Nat}
/-- One file of so many noughts; none as long as nothing was appended. -/
def fullL (F : ByteArray) (i n : Nat) : Files := if i = 0 then [] else [(F, ⟨List.replicate n 0, 0, false⟩)]
theorem full_app {b : List Int} (hF : nameF F = true) (h0 : i = 0 → n = 0) (hb : b = List.replicate k 0) (hk : k ≤ 300000) :
    appF (fullL F i n) F b = (if n + k ≤ 1048576 then 0 else 5, fullL F (i + 1) (if n + k ≤ 1048576 then n + k else n)) := by
  have hl : b.length = k := by rw [hb, List.length_replicate]
  unfold fullL
  rw [if_neg (show ¬ i + 1 = 0 by omega)]
  by_cases h : i = 0
  · rw [if_pos h, h0 h, one_app0 hF (by omega), if_pos (by omega), if_pos (by omega), hb, Nat.zero_add]
  · rw [if_neg h]
    by_cases h2 : n + k ≤ 1048576
    · rw [one_app hF (by rw [hl, List.length_replicate]; exact h2), if_pos h2, if_pos h2, hb, List.replicate_append_replicate]
    · rw [one_appF hF (by rw [hl, List.length_replicate]; exact h2), if_neg h2, if_neg h2]
theorem full_read (hi : i ≠ 0) : readF (fullL F i n) F = (List.replicate n 0, 0) := by
  unfold fullL
  rw [if_neg hi, one_read]
theorem full_loose (hi : i ≠ 0) : looseF (fullL F i n) F = n := by
  unfold fullL
  rw [if_neg hi, one_loose, List.length_replicate, Int.sub_zero]
/-- A file that lasts whole. -/
def whole (f : FileS) : Prop := f.lasts = f.b.length ∧ f.there = true
end Spec
end Go.AM
namespace Go.AM.Spec
open Go
theorem bytes_rep (n : Nat) : Bytes (List.replicate n 0) := fun x hx => by rw [(List.mem_replicate.1 hx).2]; decide
end Go.AM.Spec
