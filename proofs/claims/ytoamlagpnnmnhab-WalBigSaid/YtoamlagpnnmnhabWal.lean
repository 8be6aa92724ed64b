/- Records and snapshots as bytes, in plain Lean. No program in sight. -/
import Derived.Test.YtoamlagpnnmnhabFrame
namespace Go.Proofs.Ytoamlagpnnmnhab.Spec
open Go.RowKit Go.Proofs.YtoamlagpnnmnhabW.PrintWords Go.Proofs.YtoamlagpnnmnhabW.PrintLast Go.Proofs.YtoamlagpnnmnhabW.PrintMore

theorem strOf_bytesOf (s : ByteArray) : strOfNums (bytesOf s) = s := by
  apply ByteArray.ext
  apply Array.ext'
  rw [strOfNums_data, bytesOf, List.map_map]
  conv => rhs; rw [← List.map_id s.data.toList]
  apply List.map_congr_left
  intro x _
  simp [Function.comp]
theorem bytesOf_strOf {l : List Int} (h : Bytes l) : bytesOf (strOfNums l) = l := by
  rw [bytesOf, strOfNums_data, List.map_map]
  conv => rhs; rw [← List.map_id l]
  apply List.map_congr_left
  intro x hx
  have := h x hx
  simp only [Function.comp, id]
  rw [UInt8.toNat_ofNat']
  omega
theorem bytesOf_inj {a b : ByteArray} (h : bytesOf a = bytesOf b) : a = b := by rw [← strOf_bytesOf a, h, strOf_bytesOf]
theorem bytesOf_extract (s : ByteArray) (a b : Nat) : bytesOf (s.extract a b) = ((bytesOf s).take b).drop a := by
  rw [bytesOf, bytesOf, ByteArray.data_extract, Array.toList_extract, List.extract_eq_take_drop, ← List.map_take, ← List.map_drop, List.drop_take]
theorem bytesOf_empty : bytesOf (⟨#[]⟩ : ByteArray) = [] := rfl
theorem getText_put (s : ByteArray) (hs : s.size ≤ 1048576) (rest : List Int) : getText (enc (zig (s.size : Int)) ++ bytesOf s ++ rest) = (s, (((enc (zig (s.size : Int))).length + s.size : Nat) : Int), 0) := by
  unfold getText
  rw [List.append_assoc, get_enc0 (s.size : Int) (by omega) (by omega)]
  simp only [if_true]
  have hl : (enc (zig (s.size : Int)) ++ (bytesOf s ++ rest)).length = (enc (zig (s.size : Int))).length + (s.size + rest.length) := by rw [List.length_append, List.length_append, bytesOf_length]
  rw [if_neg (by omega), if_neg (by rw [hl]; omega), Int.toNat_natCast, Int.toNat_natCast, List.drop_left]
  have e : (bytesOf s ++ rest).take s.size = bytesOf s := by rw [← bytesOf_length s]; exact List.take_left
  rw [e, strOf_bytesOf]
  simp
/-- Numbers that are from one to another. -/
def inF (lo hi : Int) : List Int → Bool
  | [] => true
  | n :: r => if n < lo then false else if n > hi then false else inF lo hi r
def mayF (hard : Bool) (t v i u q : Int) (d : ByteArray) : Bool :=
  if hard then inF 0 1099511627776 [t] && decide (v ≥ 0) && decide (v ≤ 7) && (i == 0 && (u == 0 && (q == 0 && d.toList == [])))
  else (t == 0 && v == 0) && inF 1 1099511627776 [i, u] && decide (q ≥ 1) && decide (q ≤ 3) && decide ((d.size : Int) ≤ 2500)
def bodyF (hard : Bool) (t v i u q : Int) (d : ByteArray) : List Int :=
  if hard then enc (zig t) ++ enc (zig v) else enc (zig i) ++ enc (zig u) ++ enc (zig q) ++ enc (zig (d.size : Int)) ++ bytesOf d
def kindF (hard : Bool) : Int := if hard then 1 else 2
def encodeF (hard : Bool) (t v i u q : Int) (d : ByteArray) : List Int := if mayF hard t v i u q d = true then frameF (kindF hard) (bodyF hard t v i u q d) else []
theorem may_hard {t v i u q : Int} {d : ByteArray} (h : mayF true t v i u q d = true) : (0 ≤ t ∧ t ≤ 1099511627776) ∧ (0 ≤ v ∧ v ≤ 7) ∧ i = 0 ∧ u = 0 ∧ q = 0 ∧ d.toList = [] := by
  simp [mayF, inF] at h
  exact ⟨by omega, by omega, h.2.1, h.2.2.1, h.2.2.2.1, h.2.2.2.2⟩
theorem may_entry {t v i u q : Int} {d : ByteArray} (h : mayF false t v i u q d = true) : t = 0 ∧ v = 0 ∧ (1 ≤ i ∧ i ≤ 1099511627776) ∧ (1 ≤ u ∧ u ≤ 1099511627776) ∧ (1 ≤ q ∧ q ≤ 3) ∧ d.size ≤ 2500 := by
  simp [mayF, inF] at h
  omega
theorem zig_i64 {n : Int} (h : -9223372036854775808 ≤ n ∧ n ≤ 9223372036854775807) : (enc (zig n)).length ≤ 10 := enc_len10 (zig_lt h.1 h.2)
theorem bodyF_bytes (hard : Bool) (t v i u q : Int) (d : ByteArray) : Bytes (bodyF hard t v i u q d) := by
  have e (n : Int) : Bytes (enc (zig n)) := enc_bytes _
  cases hard
  · exact ((((e i).append (e u)).append (e q)).append (e _)).append (bytes_of d)
  · exact (e t).append (e v)
theorem bodyF_len {hard : Bool} {t v i u q : Int} {d : ByteArray} (h : mayF hard t v i u q d = true) : (bodyF hard t v i u q d).length ≤ 2540 := by
  cases hard with
  | true =>
    have := may_hard h
    have h1 := zig_i64 (n := t) (by omega)
    have h2 := zig_i64 (n := v) (by omega)
    simp only [bodyF, if_true, List.length_append]
    omega
  | false =>
    have := may_entry h
    have h1 := zig_i64 (n := i) (by omega)
    have h2 := zig_i64 (n := u) (by omega)
    have h3 := zig_i64 (n := q) (by omega)
    have h4 := zig_i64 (n := (d.size : Int)) (by omega)
    simp only [bodyF, Bool.false_eq_true, if_false, List.length_append, bytesOf_length]
    omega
theorem encodeF_len (hard : Bool) (t v i u q : Int) (d : ByteArray) : (encodeF hard t v i u q d).length ≤ 2550 := by
  unfold encodeF
  split
  · rename_i h
    have h1 := bodyF_len h
    have h2 := enc_len_small (n := (bodyF hard t v i u q d).length) (by omega)
    rw [frameF_length]
    omega
  · simp
theorem encodeF_bytes (hard : Bool) (t v i u q : Int) (d : ByteArray) : Bytes (encodeF hard t v i u q d) := by
  unfold encodeF
  split
  · exact frameF_bytes (by cases hard <;> simp [kindF]) (bodyF_bytes _ _ _ _ _ _ _)
  · exact Bytes.nil

/-- A number off what is left; a text. -/
def rdN (l : List Int) (bad : Bool) : Int × List Int × Bool :=
  if (numGet 0 0 l).2.2 = 0 then ((numGet 0 0 l).1, if bad = true then (l, true) else (l.drop (numGet 0 0 l).2.1.toNat, false)) else ((numGet 0 0 l).1, l, true)
def rdT (l : List Int) (bad : Bool) : ByteArray × List Int × Bool :=
  if (getText l).2.2 = 0 then ((getText l).1, if bad = true then (l, true) else (l.drop (getText l).2.1.toNat, false)) else ((getText l).1, l, true)
theorem rdN_enc {n : Int} (h : -9223372036854775808 ≤ n ∧ n ≤ 9223372036854775807) (rest : List Int) : rdN (enc (zig n) ++ rest) false = (n, rest, false) := by
  unfold rdN
  rw [get_enc0 n h.1 h.2]
  simp
theorem rdT_put {s : ByteArray} (hs : s.size ≤ 1048576) (rest : List Int) : rdT (enc (zig (s.size : Int)) ++ bytesOf s ++ rest) false = (s, rest, false) := by
  unfold rdT
  rw [getText_put s hs]
  have e : (enc (zig (s.size : Int))).length + s.size = (enc (zig (s.size : Int)) ++ bytesOf s).length := by rw [List.length_append, bytesOf_length]
  simp only [if_true, Bool.false_eq_true, if_false, Int.toNat_natCast]
  rw [e, List.drop_left]
theorem rdN_bytes {l : List Int} (h : Bytes l) (bad : Bool) : Bytes (rdN l bad).2.1 := by
  unfold rdN
  split
  · cases bad
    · exact h.drop _
    · exact h
  · exact h
theorem rdN_len {l : List Int} (bad : Bool) : (rdN l bad).2.1.length ≤ l.length := by
  unfold rdN
  split
  · cases bad
    · simp only [Bool.false_eq_true, if_false, List.length_drop]; omega
    · exact Nat.le_refl _
  · exact Nat.le_refl _
theorem rdT_bytes {l : List Int} (h : Bytes l) (bad : Bool) : Bytes (rdT l bad).2.1 := by
  unfold rdT
  split
  · cases bad
    · exact h.drop _
    · exact h
  · exact h
theorem rdT_len {l : List Int} (bad : Bool) : (rdT l bad).2.1.length ≤ l.length := by
  unfold rdT
  split
  · cases bad
    · simp only [Bool.false_eq_true, if_false, List.length_drop]; omega
    · exact Nat.le_refl _
  · exact Nat.le_refl _
/-- What a good number says of the bytes. -/
theorem rdN_good {l : List Int} {bad : Bool} (h : Bytes l) (hg : (rdN l bad).2.2 = false) : bad = false ∧ l = enc (zig (rdN l bad).1) ++ (rdN l bad).2.1 ∧ -9223372036854775808 ≤ (rdN l bad).1 ∧ (rdN l bad).1 ≤ 9223372036854775807 := by
  unfold rdN at hg ⊢
  by_cases h0 : (numGet 0 0 l).2.2 = 0
  · rw [if_pos h0] at hg ⊢
    cases bad with
    | true => simp at hg
    | false =>
      have hc := numGet_canon0 h h0
      have hk := numGet_ok l h h0
      simp only [Bool.false_eq_true, if_false]
      refine ⟨trivial, ?_, hk.1, hk.2.1⟩
      rw [← hc, List.take_append_drop]
  · rw [if_neg h0] at hg
    simp at hg
theorem rdT_good {l : List Int} {bad : Bool} (h : Bytes l) (hg : (rdT l bad).2.2 = false) : bad = false ∧ l = enc (zig ((rdT l bad).1.size : Int)) ++ bytesOf (rdT l bad).1 ++ (rdT l bad).2.1 ∧ (rdT l bad).1.size ≤ 1048576 := by
  unfold rdT at hg ⊢
  by_cases h0 : (getText l).2.2 = 0
  · rw [if_pos h0] at hg ⊢
    cases bad with
    | true => simp at hg
    | false =>
      simp only [Bool.false_eq_true, if_false]
      refine ⟨trivial, ?_⟩
      unfold getText at h0 ⊢
      by_cases h1 : (numGet 0 0 l).2.2 = 0
      · rw [if_pos h1] at h0 ⊢
        have hc := numGet_canon0 h h1
        have hk := numGet_ok l h h1
        generalize hq : numGet 0 0 l = q at *
        obtain ⟨n, m, e⟩ := q
        simp only at *
        by_cases h2 : n < 0 ∨ n > 1048576
        · rw [if_pos h2] at h0; simp at h0
        rw [if_neg h2] at h0 ⊢
        by_cases h3 : n > (l.length : Int) - m
        · rw [if_pos h3] at h0; simp at h0
        rw [if_neg h3] at h0 ⊢
        simp only
        have hlen : ((l.drop m.toNat).take n.toNat).length = n.toNat := by rw [List.length_take, List.length_drop]; omega
        have hsz : (strOfNums ((l.drop m.toNat).take n.toNat)).size = n.toNat := by rw [strOfNums_size, hlen]
        rw [hsz, bytesOf_strOf ((h.drop _).take _), show ((n.toNat : Nat) : Int) = n by omega, ← hc]
        refine ⟨?_, by omega⟩
        rw [show (m + n).toNat = m.toNat + n.toNat by omega, ← List.drop_drop, List.append_assoc, List.take_append_drop, List.take_append_drop]
      · rw [if_neg h1] at h0
        simp only at h0
        exact absurd h0 h1
  · rw [if_neg h0] at hg
    simp at hg

/-- Reading a record. -/
def decBad : Bool × Int × Int × Int × Int × Int × ByteArray × Int × Int := (false, 0, 0, 0, 0, 0, ⟨#[]⟩, 0, 3)
def decF (l : List Int) : Bool × Int × Int × Int × Int × Int × ByteArray × Int × Int :=
  if (openF l).2.2.2 = 0 then
    (if (openF l).1 = 1 then
      (let s1 := rdN (openF l).2.1 false
       let s2 := rdN s1.2.1 s1.2.2
       if (!s2.2.2 && s2.2.1.isEmpty) = true then (if mayF true s1.1 s2.1 0 0 0 ⟨#[]⟩ = true then (true, s1.1, s2.1, 0, 0, 0, ⟨#[]⟩, (openF l).2.2.1, 0) else decBad) else decBad)
     else if (openF l).1 = 2 then
      (let s1 := rdN (openF l).2.1 false
       let s2 := rdN s1.2.1 s1.2.2
       let s3 := rdN s2.2.1 s2.2.2
       let s4 := rdT s3.2.1 s3.2.2
       if (!s4.2.2 && s4.2.1.isEmpty) = true then (if mayF false 0 0 s1.1 s2.1 s3.1 s4.1 = true then (false, 0, 0, s1.1, s2.1, s3.1, s4.1, (openF l).2.2.1, 0) else decBad) else decBad)
     else decBad)
  else (false, 0, 0, 0, 0, 0, ⟨#[]⟩, 0, (openF l).2.2.2)

theorem toList_inj {a b : ByteArray} (h : a.toList = b.toList) : a = b := by
  apply ByteArray.ext
  apply Array.ext'
  rw [← ByteArray.toList_eq, ← ByteArray.toList_eq, h]
theorem toList_nil {d : ByteArray} (h : d.toList = []) : d = ⟨#[]⟩ := by
  apply ByteArray.ext
  apply Array.ext'
  rw [← ByteArray.toList_eq, h]
/-- What may be is read again, whatever stands behind. -/
theorem dec_encode {hard : Bool} {t v i u q : Int} {d : ByteArray} (h : mayF hard t v i u q d = true) (rest : List Int) :
    decF (encodeF hard t v i u q d ++ rest) = (hard, t, v, i, u, q, d, ((encodeF hard t v i u q d).length : Int), 0) := by
  have hl := bodyF_len h
  have hk : 1 ≤ kindF hard ∧ kindF hard ≤ 255 := by cases hard <;> simp [kindF]
  unfold encodeF
  rw [if_pos h]
  unfold decF
  rw [open_frame hk (by omega)]
  simp only [if_true]
  cases hard with
  | true =>
    have hm := may_hard h
    obtain ⟨h1, h2, rfl, rfl, rfl, h3⟩ := hm
    have e3 := toList_nil h3
    subst e3
    simp only [kindF, if_true, bodyF]
    rw [rdN_enc (by omega)]
    have e : enc (zig v) = enc (zig v) ++ [] := by simp
    simp only
    rw [e, rdN_enc (by omega)]
    simp [h]
  | false =>
    have hm := may_entry h
    obtain ⟨rfl, rfl, h1, h2, h3, h4⟩ := hm
    simp only [kindF, Bool.false_eq_true, if_false, bodyF, show ¬((2 : Int) = 1) by decide, if_true]
    have e : enc (zig i) ++ enc (zig u) ++ enc (zig q) ++ enc (zig (d.size : Int)) ++ bytesOf d = enc (zig i) ++ (enc (zig u) ++ (enc (zig q) ++ (enc (zig (d.size : Int)) ++ bytesOf d ++ []))) := by simp
    rw [e, rdN_enc (by omega)]
    simp only
    rw [rdN_enc (by omega)]
    simp only
    rw [rdN_enc (by omega)]
    simp only
    rw [rdT_put (by omega)]
    simp [h]

/-! ## snapshots -/
def mayS (x y : Int) (c d : ByteArray) : Bool := inF 0 1099511627776 [x, y] && (decide ((c.size : Int) ≤ 50) && decide ((d.size : Int) ≤ 200000))
theorem mayS_says {x y : Int} {c d : ByteArray} (h : mayS x y c d = true) : (0 ≤ x ∧ x ≤ 1099511627776) ∧ (0 ≤ y ∧ y ≤ 1099511627776) ∧ c.size ≤ 50 ∧ d.size ≤ 200000 := by
  simp [mayS, inF] at h
  omega
theorem size_zero {s : ByteArray} (h : s.size = 0) : s = ⟨#[]⟩ := by
  apply ByteArray.ext
  exact Array.eq_empty_of_size_eq_zero h
def snapHead (x y : Int) (c d : ByteArray) : List Int := enc (zig x) ++ (enc (zig y) ++ (enc (zig (c.size : Int)) ++ bytesOf c ++ (enc (zig (d.size : Int)) ++ [])))
theorem snapHead_bytes (x y : Int) (c d : ByteArray) : Bytes (snapHead x y c d) := by
  have e (n : Int) : Bytes (enc (zig n)) := enc_bytes _
  exact (e x).append ((e y).append (((e _).append (bytes_of c)).append ((e _).append Bytes.nil)))
theorem snapHead_len {x y : Int} {c d : ByteArray} (hx : -9223372036854775808 ≤ x ∧ x ≤ 9223372036854775807) (hy : -9223372036854775808 ≤ y ∧ y ≤ 9223372036854775807) (hc : c.size ≤ 50) (hd : d.size ≤ 200000) : (snapHead x y c d).length ≤ 90 := by
  have z1 := zig_i64 hx
  have z2 := zig_i64 hy
  have z3 := zig_i64 (n := (c.size : Int)) (by omega)
  have z4 := zig_i64 (n := (d.size : Int)) (by omega)
  simp only [snapHead, List.length_append, bytesOf_length, List.length_nil]
  omega
def partsF (d : List Int) : List Int := if d = [] then [] else frameF 4 (d.take 3000) ++ partsF (d.drop 3000)
termination_by d.length
decreasing_by
  rename_i h
  have := List.length_pos_iff.2 h
  rw [List.length_drop]
  omega
theorem partsF_nil : partsF [] = [] := by rw [partsF, if_pos rfl]
theorem partsF_step {d : List Int} (h : d ≠ []) : partsF d = frameF 4 (d.take 3000) ++ partsF (d.drop 3000) := by rw [partsF, if_neg h]
theorem partsF_bytes (n : Nat) : ∀ d : List Int, d.length = n → Bytes d → Bytes (partsF d) := by
  induction n using Nat.strongRecOn with
  | _ n ih =>
    intro d hn hd
    by_cases h : d = []
    · subst h; rw [partsF_nil]; exact Bytes.nil
    · have := List.length_pos_iff.2 h
      rw [partsF_step h]
      exact (frameF_bytes (by decide) (hd.take _)).append (ih (d.drop 3000).length (by rw [List.length_drop]; omega) _ rfl (hd.drop _))
theorem partsF_len (n : Nat) : ∀ d : List Int, d.length = n → (partsF d).length ≤ 8 * d.length := by
  induction n using Nat.strongRecOn with
  | _ n ih =>
    intro d hn
    by_cases h : d = []
    · subst h; rw [partsF_nil]; simp
    · have hp := List.length_pos_iff.2 h
      have h2 := ih (d.drop 3000).length (by rw [List.length_drop]; omega) _ rfl
      have h1 := frameF_length 4 (d.take 3000)
      have hl1 : (d.take 3000).length ≤ 3000 := List.length_take_le ..
      have hz := enc_len_small (n := (d.take 3000).length) (by omega)
      have e1 : (d.take 3000).length = min 3000 d.length := List.length_take
      have e2 : (d.drop 3000).length = d.length - 3000 := List.length_drop
      rw [partsF_step h, List.length_append, h1]
      omega
def snapF (x y : Int) (c d : ByteArray) : List Int := if mayS x y c d = true then frameF 3 (snapHead x y c d) ++ partsF (bytesOf d) else []
end Go.Proofs.Ytoamlagpnnmnhab.Spec
