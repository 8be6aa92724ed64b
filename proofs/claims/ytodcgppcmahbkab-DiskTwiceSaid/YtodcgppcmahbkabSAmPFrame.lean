/- Part of a machine of its own for this claim: the program's code over memory without draws. -/
import Derived.Test.YtodcgppcmahbkabSAmE
set_option linter.unusedVariables false
set_option linter.unusedSimpArgs false
set_option linter.unnecessarySimpa false
/- Frames, records, in plain Lean. -/
set_option linter.unusedVariables false
set_option linter.unusedSimpArgs false
set_option linter.unnecessarySimpa false
namespace Go.AM.Spec
open Go Go.RowKit


/-- All are bytes. -/
def Bytes (l : List Int) : Prop := ∀ x ∈ l, 0 ≤ x ∧ x < 256
theorem Bytes.nil : Bytes [] := fun x hx => by cases hx
theorem Bytes.cons {c : Int} {l : List Int} (hc : 0 ≤ c ∧ c < 256) (h : Bytes l) : Bytes (c :: l) := fun x hx => by
  rcases List.mem_cons.1 hx with rfl | hx
  · exact hc
  · exact h x hx
theorem Bytes.append {a b : List Int} (ha : Bytes a) (hb : Bytes b) : Bytes (a ++ b) := fun x hx => by
  rcases List.mem_append.1 hx with h | h
  · exact ha x h
  · exact hb x h
theorem Bytes.left {a b : List Int} (h : Bytes (a ++ b)) : Bytes a := fun x hx => h x (List.mem_append_left _ hx)
theorem Bytes.right {a b : List Int} (h : Bytes (a ++ b)) : Bytes b := fun x hx => h x (List.mem_append_right _ hx)
theorem Bytes.take {l : List Int} (h : Bytes l) (n : Nat) : Bytes (l.take n) := fun x hx => h x (List.mem_of_mem_take hx)
theorem Bytes.drop {l : List Int} (h : Bytes l) (n : Nat) : Bytes (l.drop n) := fun x hx => h x (List.mem_of_mem_drop hx)
theorem bytes_wf {l : List Int} (h : ∀ x ∈ l, (Lit.int .u8 x).wf = true) : Bytes l := fun x hx => u8_bd (h x hx)
theorem bytes_of (s : ByteArray) : Bytes (bytesOf s) := by
  intro x hx
  simp only [bytesOf, List.mem_map] at hx
  obtain ⟨b, _, rfl⟩ := hx
  have := b.toNat_lt
  omega

/-- A frame's head, and a frame. -/
def headF (kind : Int) (n : Nat) : List Int := kind :: enc (zig (n : Int))
def frameF (kind : Int) (b : List Int) : List Int := headF kind b.length ++ (four (crcMore 0 (headF kind b.length ++ b)) ++ b)
def sealF (kind : Int) (b : List Int) : List Int := if kind < 1 ∨ kind > 255 ∨ b.length > 4000 then [] else frameF kind b

theorem headF_bytes {kind : Int} {n : Nat} (hk : 0 ≤ kind ∧ kind < 256) : Bytes (headF kind n) := Bytes.cons hk (enc_bytes _)
theorem frameF_bytes {kind : Int} {b : List Int} (hk : 0 ≤ kind ∧ kind < 256) (hb : Bytes b) : Bytes (frameF kind b) := (headF_bytes hk).append (Bytes.append (four_bytes _) hb)
theorem sealF_bytes {kind : Int} {b : List Int} (hb : Bytes b) : Bytes (sealF kind b) := by
  unfold sealF
  split
  · exact Bytes.nil
  · exact frameF_bytes (by omega) hb

def flat (fs : List (Int × List Int)) : List Int := (fs.map fun f => frameF f.1 f.2).flatten







theorem toList_inj {a b : ByteArray} (h : a.toList = b.toList) : a = b := by
  apply ByteArray.ext
  apply Array.ext'
  rw [← ByteArray.toList_eq, ← ByteArray.toList_eq, h]

/-! ## snapshots -/


end Go.AM.Spec
