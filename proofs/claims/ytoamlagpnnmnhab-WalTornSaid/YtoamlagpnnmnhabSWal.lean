/- Records and snapshots as bytes, in plain Lean. No program in sight. -/
import Derived.Test.YtoamlagpnnmnhabSFrame
namespace Go.Proofs.Ytoamlagpnnmnhab.Spec
open Go.RowKit Go.Proofs.YtoamlagpnnmnhabW.PrintWords Go.Proofs.YtoamlagpnnmnhabW.PrintLast Go.Proofs.YtoamlagpnnmnhabW.PrintMore

theorem strOf_bytesOf (s : ByteArray) : strOfNums (bytesOf s) = s := by
  apply ByteArray.ext
  apply Array.ext'
  rw [strOfNums_data, bytesOf, List.map_map]
  conv => rhs; rw [← List.map_id s.data.toList]
  apply List.map_congr_left
  intro x _
  simp [Function.comp]
theorem getText_put (s : ByteArray) (hs : s.size ≤ 1048576) (rest : List Int) : getText (enc (zig (s.size : Int)) ++ bytesOf s ++ rest) = (s, (((enc (zig (s.size : Int))).length + s.size : Nat) : Int), 0) := by
  unfold getText
  rw [List.append_assoc, get_enc0 (s.size : Int) (by omega) (by omega)]
  simp only [if_true]
  have hl : (enc (zig (s.size : Int)) ++ (bytesOf s ++ rest)).length = (enc (zig (s.size : Int))).length + (s.size + rest.length) := by rw [List.length_append, List.length_append, bytesOf_length]
  rw [if_neg (by omega), if_neg (by rw [hl]; omega), Int.toNat_natCast, Int.toNat_natCast, List.drop_left]
  have e : (bytesOf s ++ rest).take s.size = bytesOf s := by rw [← bytesOf_length s]; exact List.take_left
  rw [e, strOf_bytesOf]
  simp
/-- Numbers that are from one to another. -/
def inF (lo hi : Int) : List Int → Bool
  | [] => true
  | n :: r => if n < lo then false else if n > hi then false else inF lo hi r
def mayF (hard : Bool) (t v i u q : Int) (d : ByteArray) : Bool :=
  if hard then inF 0 1099511627776 [t] && decide (v ≥ 0) && decide (v ≤ 7) && (i == 0 && (u == 0 && (q == 0 && d.toList == [])))
  else (t == 0 && v == 0) && inF 1 1099511627776 [i, u] && decide (q ≥ 1) && decide (q ≤ 3) && decide ((d.size : Int) ≤ 2500)
def bodyF (hard : Bool) (t v i u q : Int) (d : ByteArray) : List Int :=
  if hard then enc (zig t) ++ enc (zig v) else enc (zig i) ++ enc (zig u) ++ enc (zig q) ++ enc (zig (d.size : Int)) ++ bytesOf d
def kindF (hard : Bool) : Int := if hard then 1 else 2
def encodeF (hard : Bool) (t v i u q : Int) (d : ByteArray) : List Int := if mayF hard t v i u q d = true then frameF (kindF hard) (bodyF hard t v i u q d) else []
theorem may_hard {t v i u q : Int} {d : ByteArray} (h : mayF true t v i u q d = true) : (0 ≤ t ∧ t ≤ 1099511627776) ∧ (0 ≤ v ∧ v ≤ 7) ∧ i = 0 ∧ u = 0 ∧ q = 0 ∧ d.toList = [] := by
  simp [mayF, inF] at h
  exact ⟨by omega, by omega, h.2.1, h.2.2.1, h.2.2.2.1, h.2.2.2.2⟩
theorem may_entry {t v i u q : Int} {d : ByteArray} (h : mayF false t v i u q d = true) : t = 0 ∧ v = 0 ∧ (1 ≤ i ∧ i ≤ 1099511627776) ∧ (1 ≤ u ∧ u ≤ 1099511627776) ∧ (1 ≤ q ∧ q ≤ 3) ∧ d.size ≤ 2500 := by
  simp [mayF, inF] at h
  omega
theorem zig_i64 {n : Int} (h : -9223372036854775808 ≤ n ∧ n ≤ 9223372036854775807) : (enc (zig n)).length ≤ 10 := enc_len10 (zig_lt h.1 h.2)
theorem bodyF_bytes (hard : Bool) (t v i u q : Int) (d : ByteArray) : Bytes (bodyF hard t v i u q d) := by
  have e (n : Int) : Bytes (enc (zig n)) := enc_bytes _
  cases hard
  · exact ((((e i).append (e u)).append (e q)).append (e _)).append (bytes_of d)
  · exact (e t).append (e v)
theorem bodyF_len {hard : Bool} {t v i u q : Int} {d : ByteArray} (h : mayF hard t v i u q d = true) : (bodyF hard t v i u q d).length ≤ 2540 := by
  cases hard with
  | true =>
    have := may_hard h
    have h1 := zig_i64 (n := t) (by omega)
    have h2 := zig_i64 (n := v) (by omega)
    simp only [bodyF, if_true, List.length_append]
    omega
  | false =>
    have := may_entry h
    have h1 := zig_i64 (n := i) (by omega)
    have h2 := zig_i64 (n := u) (by omega)
    have h3 := zig_i64 (n := q) (by omega)
    have h4 := zig_i64 (n := (d.size : Int)) (by omega)
    simp only [bodyF, Bool.false_eq_true, if_false, List.length_append, bytesOf_length]
    omega
theorem encodeF_len (hard : Bool) (t v i u q : Int) (d : ByteArray) : (encodeF hard t v i u q d).length ≤ 2550 := by
  unfold encodeF
  split
  · rename_i h
    have h1 := bodyF_len h
    have h2 := enc_len_small (n := (bodyF hard t v i u q d).length) (by omega)
    rw [frameF_length]
    omega
  · simp
theorem encodeF_bytes (hard : Bool) (t v i u q : Int) (d : ByteArray) : Bytes (encodeF hard t v i u q d) := by
  unfold encodeF
  split
  · exact frameF_bytes (by cases hard <;> simp [kindF]) (bodyF_bytes _ _ _ _ _ _ _)
  · exact Bytes.nil

/-- A number off what is left; a text. -/
def rdN (l : List Int) (bad : Bool) : Int × List Int × Bool :=
  if (numGet 0 0 l).2.2 = 0 then ((numGet 0 0 l).1, if bad = true then (l, true) else (l.drop (numGet 0 0 l).2.1.toNat, false)) else ((numGet 0 0 l).1, l, true)
def rdT (l : List Int) (bad : Bool) : ByteArray × List Int × Bool :=
  if (getText l).2.2 = 0 then ((getText l).1, if bad = true then (l, true) else (l.drop (getText l).2.1.toNat, false)) else ((getText l).1, l, true)
theorem rdN_enc {n : Int} (h : -9223372036854775808 ≤ n ∧ n ≤ 9223372036854775807) (rest : List Int) : rdN (enc (zig n) ++ rest) false = (n, rest, false) := by
  unfold rdN
  rw [get_enc0 n h.1 h.2]
  simp
theorem rdT_put {s : ByteArray} (hs : s.size ≤ 1048576) (rest : List Int) : rdT (enc (zig (s.size : Int)) ++ bytesOf s ++ rest) false = (s, rest, false) := by
  unfold rdT
  rw [getText_put s hs]
  have e : (enc (zig (s.size : Int))).length + s.size = (enc (zig (s.size : Int)) ++ bytesOf s).length := by rw [List.length_append, bytesOf_length]
  simp only [if_true, Bool.false_eq_true, if_false, Int.toNat_natCast]
  rw [e, List.drop_left]
theorem rdN_bytes {l : List Int} (h : Bytes l) (bad : Bool) : Bytes (rdN l bad).2.1 := by
  unfold rdN
  split
  · cases bad
    · exact h.drop _
    · exact h
  · exact h
theorem rdN_len {l : List Int} (bad : Bool) : (rdN l bad).2.1.length ≤ l.length := by
  unfold rdN
  split
  · cases bad
    · simp only [Bool.false_eq_true, if_false, List.length_drop]; omega
    · exact Nat.le_refl _
  · exact Nat.le_refl _

/-- Reading a record. -/
def decBad : Bool × Int × Int × Int × Int × Int × ByteArray × Int × Int := (false, 0, 0, 0, 0, 0, ⟨#[]⟩, 0, 3)
def decF (l : List Int) : Bool × Int × Int × Int × Int × Int × ByteArray × Int × Int :=
  if (openF l).2.2.2 = 0 then
    (if (openF l).1 = 1 then
      (let s1 := rdN (openF l).2.1 false
       let s2 := rdN s1.2.1 s1.2.2
       if (!s2.2.2 && s2.2.1.isEmpty) = true then (if mayF true s1.1 s2.1 0 0 0 ⟨#[]⟩ = true then (true, s1.1, s2.1, 0, 0, 0, ⟨#[]⟩, (openF l).2.2.1, 0) else decBad) else decBad)
     else if (openF l).1 = 2 then
      (let s1 := rdN (openF l).2.1 false
       let s2 := rdN s1.2.1 s1.2.2
       let s3 := rdN s2.2.1 s2.2.2
       let s4 := rdT s3.2.1 s3.2.2
       if (!s4.2.2 && s4.2.1.isEmpty) = true then (if mayF false 0 0 s1.1 s2.1 s3.1 s4.1 = true then (false, 0, 0, s1.1, s2.1, s3.1, s4.1, (openF l).2.2.1, 0) else decBad) else decBad)
     else decBad)
  else (false, 0, 0, 0, 0, 0, ⟨#[]⟩, 0, (openF l).2.2.2)

theorem toList_nil {d : ByteArray} (h : d.toList = []) : d = ⟨#[]⟩ := by
  apply ByteArray.ext
  apply Array.ext'
  rw [← ByteArray.toList_eq, h]
/-- What may be is read again, whatever stands behind. -/
theorem dec_encode {hard : Bool} {t v i u q : Int} {d : ByteArray} (h : mayF hard t v i u q d = true) (rest : List Int) :
    decF (encodeF hard t v i u q d ++ rest) = (hard, t, v, i, u, q, d, ((encodeF hard t v i u q d).length : Int), 0) := by
  have hl := bodyF_len h
  have hk : 1 ≤ kindF hard ∧ kindF hard ≤ 255 := by cases hard <;> simp [kindF]
  unfold encodeF
  rw [if_pos h]
  unfold decF
  rw [open_frame hk (by omega)]
  simp only [if_true]
  cases hard with
  | true =>
    have hm := may_hard h
    obtain ⟨h1, h2, rfl, rfl, rfl, h3⟩ := hm
    have e3 := toList_nil h3
    subst e3
    simp only [kindF, if_true, bodyF]
    rw [rdN_enc (by omega)]
    have e : enc (zig v) = enc (zig v) ++ [] := by simp
    simp only
    rw [e, rdN_enc (by omega)]
    simp [h]
  | false =>
    have hm := may_entry h
    obtain ⟨rfl, rfl, h1, h2, h3, h4⟩ := hm
    simp only [kindF, Bool.false_eq_true, if_false, bodyF, show ¬((2 : Int) = 1) by decide, if_true]
    have e : enc (zig i) ++ enc (zig u) ++ enc (zig q) ++ enc (zig (d.size : Int)) ++ bytesOf d = enc (zig i) ++ (enc (zig u) ++ (enc (zig q) ++ (enc (zig (d.size : Int)) ++ bytesOf d ++ []))) := by simp
    rw [e, rdN_enc (by omega)]
    simp only
    rw [rdN_enc (by omega)]
    simp only
    rw [rdN_enc (by omega)]
    simp only
    rw [rdT_put (by omega)]
    simp [h]

/-! ## snapshots -/
end Go.Proofs.Ytoamlagpnnmnhab.Spec
