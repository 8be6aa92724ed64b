/- Part of a machine of its own for this claim: the program's code over memory without draws. -/
import Derived.Test.YtoolcbdceijjlaaGreatSAmPNum2
set_option linter.unusedVariables false
set_option linter.unusedSimpArgs false
set_option linter.unnecessarySimpa false
/- The program's plain records. -/
namespace Go.AM
open Go
structure Hard where
  term : Int
  vote : Int
structure Entry where
  index : Int
  term : Int
  kind : Int
  data : ByteArray
structure Rec where
  hard : Bool
  h : Hard
  e : Entry
structure Snap where
  index : Int
  term : Int
  conf : ByteArray
  data : ByteArray
def Hard.cells (h : Hard) : List Value := [.int .i64 h.term, .int .i64 h.vote]
def Entry.cells (e : Entry) : List Value := [.int .i64 e.index, .int .i64 e.term, .int .i64 e.kind, .string e.data]
def Rec.cells (r : Rec) : List Value := [.bool r.hard, .int .i64 r.h.term, .int .i64 r.h.vote, .int .i64 r.e.index, .int .i64 r.e.term, .int .i64 r.e.kind, .string r.e.data]
def Snap.cells (s : Snap) : List Value := [.int .i64 s.index, .int .i64 s.term, .string s.conf, .string s.data]
theorem Hard.cells_len (e : Hard) : e.cells.length = 2 := rfl
theorem Hard.cells_one (e : Hard) : e.cells.all Value.oneCell' = true := rfl
theorem Entry.cells_len (e : Entry) : e.cells.length = 4 := rfl
theorem Entry.cells_one (e : Entry) : e.cells.all Value.oneCell' = true := rfl
theorem Rec.cells_len (e : Rec) : e.cells.length = 7 := rfl
theorem Rec.cells_one (e : Rec) : e.cells.all Value.oneCell' = true := rfl
theorem Snap.cells_len (e : Snap) : e.cells.length = 4 := rfl
theorem Snap.cells_one (e : Snap) : e.cells.all Value.oneCell' = true := rfl
namespace Spec
theorem may_says {hard : Bool} {t v i u q : Int} {d : ByteArray} (h : mayF hard t v i u q d = true) : (0 ≤ t ∧ t ≤ 1099511627776) ∧ (0 ≤ v ∧ v ≤ 7) ∧ (0 ≤ i ∧ i ≤ 1099511627776) ∧ (0 ≤ u ∧ u ≤ 1099511627776) ∧ (0 ≤ q ∧ q ≤ 3) ∧ d.size ≤ 2500 := by
  cases hard with
  | true =>
    obtain ⟨h1, h2, h3, h4, h5, h6⟩ := may_hard h
    have := toList_nil h6
    subst this
    exact ⟨h1, h2, by omega, by omega, by omega, by decide⟩
  | false =>
    obtain ⟨h1, h2, h3, h4, h5, h6⟩ := may_entry h
    exact ⟨by omega, by omega, by omega, by omega, by omega, h6⟩
theorem ba_empty {d : ByteArray} : d = ⟨#[]⟩ ↔ d.toList = [] := ⟨fun h => by rw [h, ByteArray.toList_eq], toList_nil⟩
theorem drop_all (l : List Int) (n : Nat) : (l.drop n).take (l.length - n) = l.drop n := List.take_of_length_le (by simp)
theorem drop_at {l L : List Int} {a : Int} {p : Nat} (hp : a = (p : Int)) (h : L = (l.drop a.toNat).take (l.length - a.toNat)) : L = l.drop p := by rw [h, drop_all, hp, Int.toNat_natCast]
theorem inF_one {lo hi n : Int} (h : inF lo hi [n] = true) : lo ≤ n ∧ n ≤ hi := by
  simp only [inF] at h
  by_cases h1 : n < lo
  · simp [h1] at h
  · by_cases h2 : n > hi
    · simp [h1, h2] at h
    · omega
theorem inF_cons {lo hi n : Int} {l : List Int} : inF lo hi (n :: l) = true ↔ (lo ≤ n ∧ n ≤ hi) ∧ inF lo hi l = true := by
  simp only [inF]
  by_cases h1 : n < lo
  · simp [h1]; omega
  · by_cases h2 : n > hi
    · simp [h1, h2]; omega
    · simp [h1, h2]; omega
theorem inF_two {lo hi a b : Int} (h : inF lo hi [a, b] = true) : (lo ≤ a ∧ a ≤ hi) ∧ (lo ≤ b ∧ b ≤ hi) := ⟨(inF_cons.1 h).1, inF_one (inF_cons.1 h).2⟩
theorem inF_three {lo hi a b c : Int} (h : inF lo hi [a, b, c] = true) : (lo ≤ a ∧ a ≤ hi) ∧ (lo ≤ b ∧ b ≤ hi) ∧ (lo ≤ c ∧ c ≤ hi) := ⟨(inF_cons.1 h).1, inF_two (inF_cons.1 h).2⟩
theorem inF_oneN {lo hi a : Int} (h : inF lo hi [a] = false) : ¬ (lo ≤ a ∧ a ≤ hi) := fun q => Bool.noConfusion (h.symm.trans (inF_cons.2 ⟨q, rfl⟩))
theorem inF_twoN {lo hi a b : Int} (h : inF lo hi [a, b] = false) : ¬ ((lo ≤ a ∧ a ≤ hi) ∧ (lo ≤ b ∧ b ≤ hi)) := fun q => Bool.noConfusion (h.symm.trans (inF_cons.2 ⟨q.1, inF_cons.2 ⟨q.2, rfl⟩⟩))
theorem inF_threeN {lo hi a b c : Int} (h : inF lo hi [a, b, c] = false) : ¬ ((lo ≤ a ∧ a ≤ hi) ∧ (lo ≤ b ∧ b ≤ hi) ∧ (lo ≤ c ∧ c ≤ hi)) := fun q => Bool.noConfusion (h.symm.trans (inF_cons.2 ⟨q.1, inF_cons.2 ⟨q.2.1, inF_cons.2 ⟨q.2.2, rfl⟩⟩⟩))
theorem snapF_bytes (x y : Int) (c d : ByteArray) : Bytes (snapF x y c d) := by
  unfold snapF
  split
  · exact (frameF_bytes (by decide) (snapHead_bytes x y c d)).append (partsF_bytes _ _ rfl (bytes_of d))
  · exact Bytes.nil
theorem snapF_len (x y : Int) (c d : ByteArray) : (snapF x y c d).length ≤ 1700000 := by
  unfold snapF
  split
  · rename_i h
    obtain ⟨h1, h2, h3, h4⟩ := mayS_says h
    have hhl := snapHead_len (x := x) (y := y) (c := c) (d := d) (by omega) (by omega) h3 h4
    have hfl := frameF_length 3 (snapHead x y c d)
    have hz := enc_len_small (n := (snapHead x y c d).length) (by omega)
    have hpl := partsF_len _ (bytesOf d) rfl
    have hbl := bytesOf_length d
    rw [List.length_append]
    omega
  · exact Nat.zero_le _
theorem snapF_pos {x y : Int} {c d : ByteArray} (h : mayS x y c d = true) : 0 < (snapF x y c d).length := by
  unfold snapF
  rw [if_pos h, List.length_append]
  have := frameF_pos 3 (snapHead x y c d)
  omega
theorem snap_head {x y : Int} {c d : ByteArray} (h : mayS x y c d = true) : snapF x y c d = sealF 3 ((([] ++ enc (zig x)) ++ enc (zig y)) ++ enc (zig (c.size : Int)) ++ bytesOf c ++ enc (zig (d.size : Int))) ++ partsF (bytesOf d) := by
  obtain ⟨h1, h2, h3, h4⟩ := mayS_says h
  have hhl := snapHead_len (x := x) (y := y) (c := c) (d := d) (by omega) (by omega) h3 h4
  unfold snapF
  rw [if_pos h]
  unfold sealF
  have e : (([] ++ enc (zig x)) ++ enc (zig y)) ++ enc (zig (c.size : Int)) ++ bytesOf c ++ enc (zig (d.size : Int)) = snapHead x y c d := by simp [snapHead]
  rw [e, if_neg (by omega)]
theorem parts_next {s : ByteArray} {z : Int} (h : s.toList ≠ (⟨#[]⟩ : ByteArray).toList) (hz : z = (if 3000 < (s.size : Int) then 3000 else (s.size : Int))) : 0 < s.size ∧ partsF (bytesOf s) = sealF 4 (bytesOf (s.extract 0 z.toNat)) ++ partsF (bytesOf (s.extract z.toNat s.size)) ∧ (s.extract 0 z.toNat).size = z.toNat ∧ (s.extract z.toNat s.size).size = s.size - z.toNat := by
  have h0 : 0 < s.size := by
    rcases Nat.eq_zero_or_pos s.size with h1 | h1
    · exact absurd (by rw [size_zero h1]) h
    · exact h1
  have hbl := bytesOf_length s
  have hne : bytesOf s ≠ [] := by intro e; rw [e] at hbl; simp at hbl; omega
  have hz1 : z.toNat = min 3000 s.size := by rw [hz]; split <;> omega
  refine ⟨h0, ?_, by rw [ByteArray.size_extract]; omega, by rw [ByteArray.size_extract]; omega⟩
  rw [partsF_step hne, bytesOf_extract, bytesOf_extract, List.drop_zero, List.take_of_length_le (show (bytesOf s).length ≤ s.size by omega)]
  have e1 : (bytesOf s).take z.toNat = (bytesOf s).take 3000 := by
    rw [List.take_eq_take_iff]; omega
  have e2 : (bytesOf s).drop z.toNat = (bytesOf s).drop 3000 := by
    rcases Nat.lt_or_ge s.size 3000 with h2 | h2
    · rw [List.drop_eq_nil_of_le (by omega), List.drop_eq_nil_of_le (by omega)]
    · rw [show z.toNat = 3000 by omega]
  rw [e1, e2]
  congr 1
  unfold sealF
  rw [if_neg]
  have : ((bytesOf s).take 3000).length ≤ 3000 := by rw [List.length_take]; omega
  omega
end Spec
end Go.AM
