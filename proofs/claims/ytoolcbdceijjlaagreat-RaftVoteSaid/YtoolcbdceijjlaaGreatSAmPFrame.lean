/- Part of a machine of its own for this claim: the program's code over memory without draws. -/
import Derived.Test.YtoolcbdceijjlaaGreatSAmE
set_option linter.unusedVariables false
set_option linter.unusedSimpArgs false
set_option linter.unnecessarySimpa false
/- Frames, records, in plain Lean. -/
set_option linter.unusedVariables false
set_option linter.unusedSimpArgs false
set_option linter.unnecessarySimpa false
namespace Go.AM.Spec
open Go Go.RowKit


def Bytes (l : List Int) : Prop := ∀ x ∈ l, 0 ≤ x ∧ x < 256
theorem Bytes.nil : Bytes [] := fun x hx => by cases hx
theorem Bytes.cons {c : Int} {l : List Int} (hc : 0 ≤ c ∧ c < 256) (h : Bytes l) : Bytes (c :: l) := fun x hx => by
  rcases List.mem_cons.1 hx with rfl | hx
  · exact hc
  · exact h x hx
theorem Bytes.append {a b : List Int} (ha : Bytes a) (hb : Bytes b) : Bytes (a ++ b) := fun x hx => by
  rcases List.mem_append.1 hx with h | h
  · exact ha x h
  · exact hb x h
theorem Bytes.left {a b : List Int} (h : Bytes (a ++ b)) : Bytes a := fun x hx => h x (List.mem_append_left _ hx)
theorem Bytes.right {a b : List Int} (h : Bytes (a ++ b)) : Bytes b := fun x hx => h x (List.mem_append_right _ hx)
theorem Bytes.take {l : List Int} (h : Bytes l) (n : Nat) : Bytes (l.take n) := fun x hx => h x (List.mem_of_mem_take hx)
theorem Bytes.drop {l : List Int} (h : Bytes l) (n : Nat) : Bytes (l.drop n) := fun x hx => h x (List.mem_of_mem_drop hx)
theorem bytes_of (s : ByteArray) : Bytes (bytesOf s) := by
  intro x hx
  simp only [bytesOf, List.mem_map] at hx
  obtain ⟨b, _, rfl⟩ := hx
  have := b.toNat_lt
  omega

def headF (kind : Int) (n : Nat) : List Int := kind :: enc (zig (n : Int))
def frameF (kind : Int) (b : List Int) : List Int := headF kind b.length ++ (four (crcMore 0 (headF kind b.length ++ b)) ++ b)
def sealF (kind : Int) (b : List Int) : List Int := if kind < 1 ∨ kind > 255 ∨ b.length > 4000 then [] else frameF kind b

theorem zig_len (n : Nat) : zig (n : Int) = 2 * n := by unfold zig; rw [if_neg (by omega)]; omega
theorem enc_len_small {n : Nat} (h : n ≤ 4000) : (enc (zig (n : Int))).length ≤ 2 := enc_len (j := 2) (by rw [zig_len]; omega) (by decide)
theorem headF_length {kind : Int} {n : Nat} : (headF kind n).length = 1 + (enc (zig (n : Int))).length := by unfold headF; rw [List.length_cons]; omega
theorem headF_bytes {kind : Int} {n : Nat} (hk : 0 ≤ kind ∧ kind < 256) : Bytes (headF kind n) := Bytes.cons hk (enc_bytes _)
theorem frameF_length (kind : Int) (b : List Int) : (frameF kind b).length = 1 + (enc (zig (b.length : Int))).length + 4 + b.length := by
  unfold frameF
  rw [List.length_append, List.length_append, headF_length, four_length]
  omega
theorem frameF_bytes {kind : Int} {b : List Int} (hk : 0 ≤ kind ∧ kind < 256) (hb : Bytes b) : Bytes (frameF kind b) := (headF_bytes hk).append (Bytes.append (four_bytes _) hb)
theorem sealF_bytes {kind : Int} {b : List Int} (hb : Bytes b) : Bytes (sealF kind b) := by
  unfold sealF
  split
  · exact Bytes.nil
  · exact frameF_bytes (by omega) hb
theorem sealF_len {kind : Int} {b : List Int} : (sealF kind b).length ≤ 4007 := by
  unfold sealF
  split
  · simp
  · rw [frameF_length]
    have := enc_len_small (n := b.length) (by omega)
    omega

def flat (fs : List (Int × List Int)) : List Int := (fs.map fun f => frameF f.1 f.2).flatten
theorem frameF_pos (kind : Int) (b : List Int) : 6 ≤ (frameF kind b).length := by
  rw [frameF_length]
  have := enc_pos (zig (b.length : Int))
  omega




theorem bytesOf_extract (s : ByteArray) (a b : Nat) : bytesOf (s.extract a b) = ((bytesOf s).take b).drop a := by
  rw [bytesOf, bytesOf, ByteArray.data_extract, Array.toList_extract, List.extract_eq_take_drop, ← List.map_take, ← List.map_drop, List.drop_take]
def inF (lo hi : Int) : List Int → Bool
  | [] => true
  | n :: r => if n < lo then false else if n > hi then false else inF lo hi r
def mayF (hard : Bool) (t v i u q : Int) (d : ByteArray) : Bool :=
  if hard then inF 0 1099511627776 [t] && decide (v ≥ 0) && decide (v ≤ 7) && (i == 0 && (u == 0 && (q == 0 && d.toList == [])))
  else (t == 0 && v == 0) && inF 1 1099511627776 [i, u] && decide (q ≥ 1) && decide (q ≤ 3) && decide ((d.size : Int) ≤ 2500)
theorem may_hard {t v i u q : Int} {d : ByteArray} (h : mayF true t v i u q d = true) : (0 ≤ t ∧ t ≤ 1099511627776) ∧ (0 ≤ v ∧ v ≤ 7) ∧ i = 0 ∧ u = 0 ∧ q = 0 ∧ d.toList = [] := by
  simp [mayF, inF] at h
  exact ⟨by omega, by omega, h.2.1, h.2.2.1, h.2.2.2.1, h.2.2.2.2⟩
theorem may_entry {t v i u q : Int} {d : ByteArray} (h : mayF false t v i u q d = true) : t = 0 ∧ v = 0 ∧ (1 ≤ i ∧ i ≤ 1099511627776) ∧ (1 ≤ u ∧ u ≤ 1099511627776) ∧ (1 ≤ q ∧ q ≤ 3) ∧ d.size ≤ 2500 := by
  simp [mayF, inF] at h
  omega
theorem zig_i64 {n : Int} (h : -9223372036854775808 ≤ n ∧ n ≤ 9223372036854775807) : (enc (zig n)).length ≤ 10 := enc_len10 (zig_lt h.1 h.2)



theorem toList_inj {a b : ByteArray} (h : a.toList = b.toList) : a = b := by
  apply ByteArray.ext
  apply Array.ext'
  rw [← ByteArray.toList_eq, ← ByteArray.toList_eq, h]
theorem toList_nil {d : ByteArray} (h : d.toList = []) : d = ⟨#[]⟩ := by
  apply ByteArray.ext
  apply Array.ext'
  rw [← ByteArray.toList_eq, h]

/-! ## snapshots -/
def mayS (x y : Int) (c d : ByteArray) : Bool := inF 0 1099511627776 [x, y] && (decide ((c.size : Int) ≤ 50) && decide ((d.size : Int) ≤ 200000))
theorem mayS_says {x y : Int} {c d : ByteArray} (h : mayS x y c d = true) : (0 ≤ x ∧ x ≤ 1099511627776) ∧ (0 ≤ y ∧ y ≤ 1099511627776) ∧ c.size ≤ 50 ∧ d.size ≤ 200000 := by
  simp [mayS, inF] at h
  omega
theorem size_zero {s : ByteArray} (h : s.size = 0) : s = ⟨#[]⟩ := by
  apply ByteArray.ext
  exact Array.eq_empty_of_size_eq_zero h
def snapHead (x y : Int) (c d : ByteArray) : List Int := enc (zig x) ++ (enc (zig y) ++ (enc (zig (c.size : Int)) ++ bytesOf c ++ (enc (zig (d.size : Int)) ++ [])))
theorem snapHead_bytes (x y : Int) (c d : ByteArray) : Bytes (snapHead x y c d) := by
  have e (n : Int) : Bytes (enc (zig n)) := enc_bytes _
  exact (e x).append ((e y).append (((e _).append (bytes_of c)).append ((e _).append Bytes.nil)))
theorem snapHead_len {x y : Int} {c d : ByteArray} (hx : -9223372036854775808 ≤ x ∧ x ≤ 9223372036854775807) (hy : -9223372036854775808 ≤ y ∧ y ≤ 9223372036854775807) (hc : c.size ≤ 50) (hd : d.size ≤ 200000) : (snapHead x y c d).length ≤ 90 := by
  have z1 := zig_i64 hx
  have z2 := zig_i64 hy
  have z3 := zig_i64 (n := (c.size : Int)) (by omega)
  have z4 := zig_i64 (n := (d.size : Int)) (by omega)
  simp only [snapHead, List.length_append, bytesOf_length, List.length_nil]
  omega
def partsF (d : List Int) : List Int := if d = [] then [] else frameF 4 (d.take 3000) ++ partsF (d.drop 3000)
termination_by d.length
decreasing_by
  rename_i h
  have := List.length_pos_iff.2 h
  rw [List.length_drop]
  omega
theorem partsF_nil : partsF [] = [] := by rw [partsF, if_pos rfl]
theorem partsF_step {d : List Int} (h : d ≠ []) : partsF d = frameF 4 (d.take 3000) ++ partsF (d.drop 3000) := by rw [partsF, if_neg h]
theorem partsF_bytes (n : Nat) : ∀ d : List Int, d.length = n → Bytes d → Bytes (partsF d) := by
  induction n using Nat.strongRecOn with
  | _ n ih =>
    intro d hn hd
    by_cases h : d = []
    · subst h; rw [partsF_nil]; exact Bytes.nil
    · have := List.length_pos_iff.2 h
      rw [partsF_step h]
      exact (frameF_bytes (by decide) (hd.take _)).append (ih (d.drop 3000).length (by rw [List.length_drop]; omega) _ rfl (hd.drop _))
theorem partsF_len (n : Nat) : ∀ d : List Int, d.length = n → (partsF d).length ≤ 8 * d.length := by
  induction n using Nat.strongRecOn with
  | _ n ih =>
    intro d hn
    by_cases h : d = []
    · subst h; rw [partsF_nil]; simp
    · have hp := List.length_pos_iff.2 h
      have h2 := ih (d.drop 3000).length (by rw [List.length_drop]; omega) _ rfl
      have h1 := frameF_length 4 (d.take 3000)
      have hl1 : (d.take 3000).length ≤ 3000 := List.length_take_le ..
      have hz := enc_len_small (n := (d.take 3000).length) (by omega)
      have e1 : (d.take 3000).length = min 3000 d.length := List.length_take
      have e2 : (d.drop 3000).length = d.length - 3000 := List.length_drop
      rw [partsF_step h, List.length_append, h1]
      omega
def snapF (x y : Int) (c d : ByteArray) : List Int := if mayS x y c d = true then frameF 3 (snapHead x y c d) ++ partsF (bytesOf d) else []


end Go.AM.Spec
