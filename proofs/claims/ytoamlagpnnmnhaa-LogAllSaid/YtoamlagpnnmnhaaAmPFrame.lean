/- Part of a machine of its own for this claim: the program's code over memory without draws. -/
import Derived.Test.YtoamlagpnnmnhaaAmE
set_option linter.unusedVariables false
set_option linter.unusedSimpArgs false
set_option linter.unnecessarySimpa false
/- Frames, records, in plain Lean. -/
set_option linter.unusedVariables false
set_option linter.unusedSimpArgs false
set_option linter.unnecessarySimpa false
namespace Go.AM.Spec
open Go Go.RowKit


/-- All are bytes. -/
def Bytes (l : List Int) : Prop := ∀ x ∈ l, 0 ≤ x ∧ x < 256
theorem Bytes.nil : Bytes [] := fun x hx => by cases hx
theorem Bytes.cons {c : Int} {l : List Int} (hc : 0 ≤ c ∧ c < 256) (h : Bytes l) : Bytes (c :: l) := fun x hx => by
  rcases List.mem_cons.1 hx with rfl | hx
  · exact hc
  · exact h x hx
theorem Bytes.append {a b : List Int} (ha : Bytes a) (hb : Bytes b) : Bytes (a ++ b) := fun x hx => by
  rcases List.mem_append.1 hx with h | h
  · exact ha x h
  · exact hb x h
theorem Bytes.left {a b : List Int} (h : Bytes (a ++ b)) : Bytes a := fun x hx => h x (List.mem_append_left _ hx)
theorem Bytes.right {a b : List Int} (h : Bytes (a ++ b)) : Bytes b := fun x hx => h x (List.mem_append_right _ hx)
theorem Bytes.take {l : List Int} (h : Bytes l) (n : Nat) : Bytes (l.take n) := fun x hx => h x (List.mem_of_mem_take hx)
theorem Bytes.drop {l : List Int} (h : Bytes l) (n : Nat) : Bytes (l.drop n) := fun x hx => h x (List.mem_of_mem_drop hx)
theorem Bytes.tail {c : Int} {l : List Int} (h : Bytes (c :: l)) : Bytes l := fun x hx => h x (List.mem_cons_of_mem _ hx)
theorem bytes_wf {l : List Int} (h : ∀ x ∈ l, (Lit.int .u8 x).wf = true) : Bytes l := fun x hx => u8_bd (h x hx)
theorem bytes_of (s : ByteArray) : Bytes (bytesOf s) := by
  intro x hx
  simp only [bytesOf, List.mem_map] at hx
  obtain ⟨b, _, rfl⟩ := hx
  have := b.toNat_lt
  omega
theorem strOfNums_append (a b : List Int) : strOfNums (a ++ b) = strOfNums a ++ strOfNums b := by
  apply ByteArray.ext
  apply Array.ext'
  rw [ByteArray.data_append, Array.toList_append, strOfNums_data, strOfNums_data, strOfNums_data, List.map_append]

/-- A frame's head, and a frame. -/
def headF (kind : Int) (n : Nat) : List Int := kind :: enc (zig (n : Int))
def frameF (kind : Int) (b : List Int) : List Int := headF kind b.length ++ (four (crcMore 0 (headF kind b.length ++ b)) ++ b)
def sealF (kind : Int) (b : List Int) : List Int := if kind < 1 ∨ kind > 255 ∨ b.length > 4000 then [] else frameF kind b
def openF (l : List Int) : Int × List Int × Int × Int :=
  match l with
  | [] => (0, [], 0, 2)
  | c :: r =>
    if c = 0 then (0, [], 0, 3)
    else if (numGet 0 0 r).2.2 = 2 ∧ l.length ≤ 2 then (0, [], 0, 2)
    else if (numGet 0 0 r).2.2 ≠ 0 ∨ (numGet 0 0 r).1 < 0 ∨ (numGet 0 0 r).1 > 4000 then (0, [], 0, 3)
    else if (l.length : Int) < 1 + (numGet 0 0 r).2.1 + 4 + (numGet 0 0 r).1 then (0, [], 0, 2)
    else if four (crcMore 0 (l.take (1 + (numGet 0 0 r).2.1.toNat) ++ (l.drop (1 + (numGet 0 0 r).2.1.toNat + 4)).take (numGet 0 0 r).1.toNat)) = (l.drop (1 + (numGet 0 0 r).2.1.toNat)).take 4
      then (c, (l.drop (1 + (numGet 0 0 r).2.1.toNat + 4)).take (numGet 0 0 r).1.toNat, 1 + (numGet 0 0 r).2.1 + 4 + (numGet 0 0 r).1, 0)
    else (0, [], 0, 3)

theorem zig_len (n : Nat) : zig (n : Int) = 2 * n := by unfold zig; rw [if_neg (by omega)]; omega
theorem enc_len_small {n : Nat} (h : n ≤ 4000) : (enc (zig (n : Int))).length ≤ 2 := enc_len (j := 2) (by rw [zig_len]; omega) (by decide)
theorem headF_length {kind : Int} {n : Nat} : (headF kind n).length = 1 + (enc (zig (n : Int))).length := by unfold headF; rw [List.length_cons]; omega
theorem headF_bytes {kind : Int} {n : Nat} (hk : 0 ≤ kind ∧ kind < 256) : Bytes (headF kind n) := Bytes.cons hk (enc_bytes _)
theorem frameF_length (kind : Int) (b : List Int) : (frameF kind b).length = 1 + (enc (zig (b.length : Int))).length + 4 + b.length := by
  unfold frameF
  rw [List.length_append, List.length_append, headF_length, four_length]
  omega
theorem frameF_bytes {kind : Int} {b : List Int} (hk : 0 ≤ kind ∧ kind < 256) (hb : Bytes b) : Bytes (frameF kind b) := (headF_bytes hk).append (Bytes.append (four_bytes _) hb)
theorem sealF_bytes {kind : Int} {b : List Int} (hb : Bytes b) : Bytes (sealF kind b) := by
  unfold sealF
  split
  · exact Bytes.nil
  · exact frameF_bytes (by omega) hb
theorem sealF_len {kind : Int} {b : List Int} : (sealF kind b).length ≤ 4007 := by
  unfold sealF
  split
  · simp
  · rw [frameF_length]
    have := enc_len_small (n := b.length) (by omega)
    omega

/-- What is sealed is opened again, whatever stands behind. -/
theorem open_frame {kind : Int} {b : List Int} (hk : 1 ≤ kind ∧ kind ≤ 255) (hb : b.length ≤ 4000) (rest : List Int) :
    openF (frameF kind b ++ rest) = (kind, b, ((frameF kind b).length : Int), 0) := by
  have hg := get_enc0 (b.length : Int) (by omega) (by omega) (four (crcMore 0 (headF kind b.length ++ b)) ++ b ++ rest)
  have hl := frameF_length kind b
  have e0 : frameF kind b ++ rest = kind :: (enc (zig (b.length : Int)) ++ (four (crcMore 0 (headF kind b.length ++ b)) ++ b ++ rest)) := by
    unfold frameF
    conv => lhs; rw [headF]
    simp [headF]
  have e1 : (frameF kind b ++ rest).take (1 + (enc (zig (b.length : Int))).length) = headF kind b.length := by
    rw [e0, Nat.add_comm, List.take_succ_cons, List.take_append_of_le_length (Nat.le_refl _), List.take_length]
    rfl
  have e2 : (frameF kind b ++ rest).drop (1 + (enc (zig (b.length : Int))).length) = four (crcMore 0 (headF kind b.length ++ b)) ++ b ++ rest := by
    rw [e0, Nat.add_comm, List.drop_succ_cons, List.drop_left]
  have e3 : (frameF kind b ++ rest).drop (1 + (enc (zig (b.length : Int))).length + 4) = b ++ rest := by
    rw [← List.drop_drop, e2, List.append_assoc]
    exact List.drop_left (l₁ := four _)
  have hlen : (frameF kind b ++ rest).length = (frameF kind b).length + rest.length := List.length_append
  generalize hL : frameF kind b ++ rest = L at *
  subst e0
  unfold openF
  simp only [hg, Int.toNat_natCast]
  rw [if_neg (by omega), if_neg (by omega), if_neg (by omega), if_neg (by rw [hlen, hl]; omega), e1, e3, e2]
  have e4 : (b ++ rest).take b.length = b := List.take_left
  have e5 : (four (crcMore 0 (headF kind b.length ++ b)) ++ b ++ rest).take 4 = four (crcMore 0 (headF kind b.length ++ b)) := by
    rw [List.append_assoc]
    exact List.take_left (l₁ := four _)
  rw [e4, e5, if_pos rfl, hl]
  congr 3
/-- What is cut off anywhere is the beginning of one. -/
theorem open_cut {kind : Int} {b : List Int} (hk : 1 ≤ kind ∧ kind ≤ 255) (hb : b.length ≤ 4000) (m : Nat) (hm : m < (frameF kind b).length) :
    openF ((frameF kind b).take m) = (0, [], 0, 2) := by
  have hl := frameF_length kind b
  have hz := enc_len_small hb
  have hp := enc_pos (zig (b.length : Int))
  rcases m with _ | m
  · rfl
  · have e0 : frameF kind b = kind :: (enc (zig (b.length : Int)) ++ (four (crcMore 0 (headF kind b.length ++ b)) ++ b)) := by
      unfold frameF
      conv => lhs; rw [headF]
      simp [headF]
    have e1 : (frameF kind b).take (m + 1) = kind :: (enc (zig (b.length : Int)) ++ (four (crcMore 0 (headF kind b.length ++ b)) ++ b)).take m := by rw [e0, List.take_succ_cons]
    have hlen : ((frameF kind b).take (m + 1)).length = m + 1 := by rw [List.length_take]; omega
    rw [e1] at hlen ⊢
    unfold openF
    simp only
    rw [if_neg (by omega)]
    rcases Nat.lt_or_ge m (enc (zig (b.length : Int))).length with h | h
    · have hg : numGet 0 0 ((enc (zig (b.length : Int)) ++ (four (crcMore 0 (headF kind b.length ++ b)) ++ b)).take m) = (0, 0, 2) := by
        rw [List.take_append_of_le_length (by omega)]
        exact get_cut _ 0 0 m (by simpa using zig_lt (n := (b.length : Int)) (by omega) (by omega)) (by omega) h
      rw [hg, if_pos ⟨rfl, by rw [hlen]; omega⟩]
    · have hg : numGet 0 0 ((enc (zig (b.length : Int)) ++ (four (crcMore 0 (headF kind b.length ++ b)) ++ b)).take m) = ((b.length : Int), ((enc (zig (b.length : Int))).length : Int), 0) := by
        rw [List.take_append, List.take_of_length_le h]
        exact get_enc0 _ (by omega) (by omega) _
      rw [hg]
      simp only
      rw [if_neg (by omega), if_neg (by omega), if_pos (by rw [hlen]; omega)]
/-- What a number was read of is just its bytes. -/
theorem numGet_canon (l : List Int) : ∀ (i u : Nat), Bytes l → u < 2 ^ (7 * i) → i ≤ 9 → (numGet i u l).2.2 = 0 →
    ∃ v : Nat, l.take ((numGet i u l).2.1.toNat - i) = enc v ∧ u + v * 2 ^ (7 * i) < 18446744073709551616 ∧ (numGet i u l).1 = zag (u + v * 2 ^ (7 * i)) ∧ (0 < i → 0 < v) ∧ (i : Int) < (numGet i u l).2.1 := by
  induction l with
  | nil => intro i u _ _ _ h; simp [numGet] at h
  | cons c r ih =>
    intro i u hb hu hi h
    have hc := hb c (List.mem_cons_self ..)
    rw [numGet] at h ⊢
    by_cases h1 : i = 9 ∧ c > 1
    · rw [if_pos h1] at h; simp at h
    · rw [if_neg h1] at h ⊢
      have e2 : 2 ^ (7 * (i + 1)) = 128 * 2 ^ (7 * i) := by rw [Nat.mul_add, Nat.pow_add, Nat.mul_comm]
      by_cases h2 : c > 127
      · rw [if_pos h2] at h ⊢
        have hi9 : i < 9 := by omega
        have hu' : u + (c % 128).toNat * 2 ^ (7 * i) < 2 ^ (7 * (i + 1)) := by
          rw [e2]
          have : (c % 128).toNat * 2 ^ (7 * i) ≤ 127 * 2 ^ (7 * i) := Nat.mul_le_mul_right _ (by omega)
          omega
        obtain ⟨v, hv1, hv2, hv3, hv4, hv5⟩ := ih (i + 1) _ (Bytes.tail hb) hu' (by omega) h
        have hvp := hv4 (by omega)
        have e3 : u + (c % 128).toNat * 2 ^ (7 * i) + v * 2 ^ (7 * (i + 1)) = u + ((c % 128).toNat + 128 * v) * 2 ^ (7 * i) := by
          rw [e2, Nat.add_assoc, ← Nat.mul_assoc, ← Nat.add_mul, Nat.mul_comm v 128]
        refine ⟨(c % 128).toNat + 128 * v, ?_, by rw [← e3]; exact hv2, by rw [← e3]; exact hv3, by omega, by omega⟩
        generalize numGet (i + 1) (u + (c % 128).toNat * 2 ^ (7 * i)) r = q at *
        have ea : ((((c % 128).toNat + 128 * v) % 128 + 128 : Nat) : Int) = c := by omega
        have eb : ((c % 128).toNat + 128 * v) / 128 = v := by omega
        rw [show q.2.1.toNat - i = (q.2.1.toNat - (i + 1)) + 1 by omega, List.take_succ_cons, hv1, enc_step (u := (c % 128).toNat + 128 * v) (by omega), ea, eb]
      · rw [if_neg h2] at h ⊢
        by_cases h3 : 0 < i ∧ c = 0
        · rw [if_pos h3] at h; simp at h
        · rw [if_neg h3] at h ⊢
          refine ⟨c.toNat, ?_, ?_, rfl, by omega, by simp only; omega⟩
          · simp only
            rw [show ((i : Int) + 1).toNat - i = 1 by omega, enc_small (by omega)]
            simp
            omega
          · rcases Nat.lt_or_ge i 9 with h9 | h9
            · have h5 : 2 ^ (7 * (i + 1)) ≤ 2 ^ (7 * 9) := Nat.pow_le_pow_right (by decide) (by omega)
              have h6 : (2 : Nat) ^ (7 * 9) = 9223372036854775808 := by decide
              have : c.toNat * 2 ^ (7 * i) ≤ 127 * 2 ^ (7 * i) := Nat.mul_le_mul_right _ (by omega)
              omega
            · have h10 : i = 9 := by omega
              subst h10
              have h6 : (2 : Nat) ^ (7 * 9) = 9223372036854775808 := by decide
              rw [h6] at hu ⊢
              have : c.toNat ≤ 1 := by omega
              omega
theorem numGet_canon0 {l : List Int} (hb : Bytes l) (h : (numGet 0 0 l).2.2 = 0) : l.take (numGet 0 0 l).2.1.toNat = enc (zig (numGet 0 0 l).1) := by
  obtain ⟨v, h1, _, h3, _, _⟩ := numGet_canon l 0 0 hb (by simp) (by omega) h
  simp only [Nat.sub_zero] at h1
  rw [h1, h3]
  simp [zig_zag]
/-- What was opened is a frame, just as it was sealed. -/
theorem openF_frame {l : List Int} (hb : Bytes l) (h : (openF l).2.2.2 = 0) :
    1 ≤ (openF l).1 ∧ (openF l).1 ≤ 255 ∧ (openF l).2.1.length ≤ 4000 ∧ (openF l).2.2.1 = ((frameF (openF l).1 (openF l).2.1).length : Int) ∧ (frameF (openF l).1 (openF l).2.1).length ≤ l.length ∧
      l.take (frameF (openF l).1 (openF l).2.1).length = frameF (openF l).1 (openF l).2.1 := by
  cases l with
  | nil => simp [openF] at h
  | cons c r =>
    have hc := hb c (List.mem_cons_self ..)
    unfold openF at h ⊢
    simp only at h ⊢
    by_cases h0 : c = 0
    · rw [if_pos h0] at h; simp at h
    rw [if_neg h0] at h ⊢
    by_cases h1 : (numGet 0 0 r).2.2 = 2 ∧ (c :: r).length ≤ 2
    · rw [if_pos h1] at h; simp at h
    rw [if_neg h1] at h ⊢
    by_cases h2 : (numGet 0 0 r).2.2 ≠ 0 ∨ (numGet 0 0 r).1 < 0 ∨ (numGet 0 0 r).1 > 4000
    · rw [if_pos h2] at h; simp at h
    rw [if_neg h2] at h ⊢
    have hz : (numGet 0 0 r).2.2 = 0 := by omega
    have hok := numGet_ok r (Bytes.tail hb) hz
    have hcan := numGet_canon0 (Bytes.tail hb) hz
    generalize numGet 0 0 r = q at *
    obtain ⟨n, m, e⟩ := q
    simp only at *
    obtain ⟨a, rfl⟩ := Int.eq_ofNat_of_zero_le (show 0 ≤ n by omega)
    obtain ⟨k, rfl⟩ := Int.eq_ofNat_of_zero_le (show 0 ≤ m by omega)
    simp only [Int.toNat_natCast] at *
    by_cases h3 : ((c :: r).length : Int) < 1 + (k : Int) + 4 + (a : Int)
    · rw [if_pos h3] at h; simp at h
    rw [if_neg h3] at h ⊢
    split at h
    · rename_i h4
      rw [if_pos h4]
      simp only
      have hk : k ≤ r.length := by omega
      have hlen : (((c :: r).drop (1 + k + 4)).take a).length = a := by rw [List.length_take, List.length_drop]; simp only [List.length_cons] at h3 ⊢; omega
      have hkl : (enc (zig (a : Int))).length = k := by rw [← hcan, List.length_take]; omega
      have hhead : headF c a = (c :: r).take (1 + k) := by unfold headF; rw [Nat.add_comm, List.take_succ_cons, hcan]
      have hfl : (frameF c (((c :: r).drop (1 + k + 4)).take a)).length = 1 + k + 4 + a := by rw [frameF_length, hlen, hkl]
      refine ⟨by omega, by omega, by omega, by rw [hfl]; omega, by rw [hfl]; omega, ?_⟩
      rw [hfl]
      unfold frameF
      rw [hlen, hhead, h4]
      have p1 : (c :: r).take (1 + k + 4 + a) = (c :: r).take (1 + k) ++ ((c :: r).drop (1 + k)).take (4 + a) := by
        rw [Nat.add_assoc (1 + k), List.take_add]
      have p2 : ((c :: r).drop (1 + k)).take (4 + a) = ((c :: r).drop (1 + k)).take 4 ++ ((c :: r).drop (1 + k + 4)).take a := by
        rw [List.take_add, List.drop_drop]
      rw [p1, p2]
    · simp at h
theorem set_split'' (l : List Int) (i : Nat) (y : Int) (h : i < l.length) : l = l.take i ++ l[i] :: l.drop (i + 1) ∧ l.set i y = l.take i ++ y :: l.drop (i + 1) := by
  constructor
  · rw [← List.drop_eq_getElem_cons h, List.take_append_drop]
  · exact List.set_eq_take_append_cons_drop .. |>.trans (by rw [if_pos h])
theorem set_split' (l : List Int) (i : Nat) (y : Int) (h : i < l.length) : l.set i y = l.take i ++ y :: l.drop (i + 1) := (set_split'' l i y h).2
/-- No other frame begins so. -/
theorem open_iff {l : List Int} (hb : Bytes l) : (openF l).2.2.2 = 0 ∨ ((openF l) = (0, [], 0, 2) ∨ (openF l) = (0, [], 0, 3)) := by
  unfold openF
  cases l with
  | nil => exact .inr (.inl rfl)
  | cons c r =>
    simp only
    split
    · exact .inr (.inr rfl)
    · split
      · exact .inr (.inl rfl)
      · split
        · exact .inr (.inr rfl)
        · split
          · exact .inr (.inl rfl)
          · split
            · exact .inl rfl
            · exact .inr (.inr rfl)
/-- A frame of which one byte was changed, but for its length, is none. -/
theorem spoilt_open {kind : Int} {b : List Int} (hk : 1 ≤ kind ∧ kind ≤ 255) (hb : b.length ≤ 4000) (hbb : Bytes b) (j : Nat) (y : Int) (hj : j < (frameF kind b).length) (h1 : j ≠ 1) (h2 : j ≠ 2) (hy : y ≠ (frameF kind b)[j]) (hyb : 0 ≤ y ∧ y < 256) :
    openF ((frameF kind b).set j y) = (0, [], 0, 3) := by
  have hl := frameF_length kind b
  have hz := enc_len_small hb
  have hp := enc_pos (zig (b.length : Int))
  have hFb : Bytes (frameF kind b) := frameF_bytes (by omega) hbb
  have hSb : Bytes ((frameF kind b).set j y) := by
    intro x hx
    rcases List.mem_or_eq_of_mem_set hx with h | h
    · exact hFb x h
    · rw [h]; exact hyb
  have hlen : ((frameF kind b).set j y).length = (frameF kind b).length := List.length_set ..
  have e0 : frameF kind b = kind :: (enc (zig (b.length : Int)) ++ (four (crcMore 0 (headF kind b.length ++ b)) ++ b)) := by
    unfold frameF
    conv => lhs; rw [headF]
    simp [headF]
  rcases open_iff hSb with hz0 | hz0
  · exfalso
    obtain ⟨k1, k2, k3, k4, k5, k6⟩ := openF_frame hSb hz0
    generalize openF ((frameF kind b).set j y) = q at k1 k2 k3 k4 k5 k6
    obtain ⟨kd, bd, n, e⟩ := q
    simp only at k1 k2 k3 k4 k5 k6
    -- the length stands as it stood
    have hnum : (enc (zig (bd.length : Int))) = enc (zig (b.length : Int)) ∧ bd.length = b.length := by
      have hg1 : numGet 0 0 (((frameF kind b).set j y).drop 1) = ((b.length : Int), ((enc (zig (b.length : Int))).length : Int), 0) := by
        rcases Nat.eq_zero_or_pos j with rfl | hj0
        · rw [e0, List.set_cons_zero, List.drop_succ_cons, List.drop_zero]
          exact get_enc0 _ (by omega) (by omega) _
        · have hj3 : 3 ≤ j := by omega
          have e1 : ((frameF kind b).set j y).drop 1 = enc (zig (b.length : Int)) ++ ((four (crcMore 0 (headF kind b.length ++ b)) ++ b).set (j - 1 - (enc (zig (b.length : Int))).length) y) := by
            rw [e0]
            obtain ⟨j', rfl⟩ : ∃ j', j = j' + 1 := ⟨j - 1, by omega⟩
            rw [List.set_cons_succ, List.drop_succ_cons, List.drop_zero, List.set_append, if_neg (by omega)]
            rfl
          rw [e1]
          exact get_enc0 _ (by omega) (by omega) _
      have hg2 : numGet 0 0 (((frameF kind b).set j y).drop 1) = ((bd.length : Int), ((enc (zig (bd.length : Int))).length : Int), 0) := by
        have e2 : (frameF kd bd) = kd :: (enc (zig (bd.length : Int)) ++ (four (crcMore 0 (headF kd bd.length ++ bd)) ++ bd)) := by
          unfold frameF
          conv => lhs; rw [headF]
          simp [headF]
        have e3 : (frameF kind b).set j y = frameF kd bd ++ ((frameF kind b).set j y).drop (frameF kd bd).length := by
          conv => lhs; rw [← List.take_append_drop (frameF kd bd).length ((frameF kind b).set j y), k6]
        rw [e3, e2, List.cons_append, List.drop_succ_cons, List.drop_zero, List.append_assoc]
        exact get_enc0 _ (by omega) (by omega) _
      rw [hg1] at hg2
      injection hg2 with e4 e5
      have e6 : bd.length = b.length := by omega
      exact ⟨by rw [e6], e6⟩
    have hsame : (frameF kd bd).length = (frameF kind b).length := by rw [frameF_length, frameF_length, hnum.1, hnum.2]
    have hfull : (frameF kind b).set j y = frameF kd bd := by
      rw [hsame, ← hlen, List.take_length] at k6
      exact k6
    have hset := set_split' (frameF kind b) j y hj
    -- the head, the sum, the body of both
    have hh1 : (frameF kd bd).take (1 + (enc (zig (b.length : Int))).length) = headF kd b.length := by
      unfold frameF
      rw [hnum.2, ← headF_length (kind := kd), List.take_left]
    have hh2 : (frameF kind b).take (1 + (enc (zig (b.length : Int))).length) = headF kind b.length := by
      unfold frameF
      rw [← headF_length (kind := kind), List.take_left]
    have hd1 : (frameF kd bd).drop (1 + (enc (zig (b.length : Int))).length) = four (crcMore 0 (headF kd b.length ++ bd)) ++ bd := by
      unfold frameF
      rw [hnum.2, ← headF_length (kind := kd), List.drop_left]
    have hd2 : (frameF kind b).drop (1 + (enc (zig (b.length : Int))).length) = four (crcMore 0 (headF kind b.length ++ b)) ++ b := by
      unfold frameF
      rw [← headF_length (kind := kind), List.drop_left]
    have hkd : 0 ≤ kd ∧ kd < 256 := by omega
    rw [← hfull] at hh1 hd1
    generalize hE : (enc (zig (b.length : Int))).length = E at *
    rcases Nat.lt_or_ge j (1 + E) with hja | hja
    · -- the kind
      have hj0 : j = 0 := by omega
      subst hj0
      rw [List.drop_set_of_lt (by omega), hd2] at hd1
      have e7 := List.append_inj hd1 (by rw [four_length, four_length])
      have e8 := four_inj (crcMore_lt _ _) (crcMore_lt _ _) e7.1
      rw [← e7.2] at e8
      have hyk : y = kd := by
        have : ((frameF kind b).set 0 y)[0]? = (frameF kd bd)[0]? := by rw [hfull]
        rw [e0] at this
        simp [frameF, headF] at this
        exact this
      have hne : kind ≠ kd := by
        intro h
        apply hy
        rw [hyk, ← h]
        simp [e0]
      have := crcMore_byte [] (enc (zig (b.length : Int)) ++ b) kind kd Bytes.nil ((show Bytes (enc (zig (b.length : Int))) from enc_bytes _).append hbb) (by omega) hkd (by simpa [headF] using e8)
      exact hne this
    · rw [List.take_set_of_le (by omega), hh2] at hh1
      have hkk : kind = kd := by
        unfold headF at hh1
        injection hh1
      subst hkk
      rw [List.drop_set, if_neg (by omega), hd2] at hd1
      rcases Nat.lt_or_ge (j - (1 + E)) 4 with hjb | hjb
      · -- the sum
        rw [List.set_append, if_pos (by rw [four_length]; exact hjb)] at hd1
        have e7 := List.append_inj hd1 (by rw [List.length_set, four_length, four_length])
        rw [← e7.2] at e7
        apply hy
        have e9 := congrArg (fun l => l[j - (1 + E)]?) e7.1
        simp only [List.getElem?_set_self (show j - (1 + E) < (four (crcMore 0 (headF kind b.length ++ b))).length by rw [four_length]; exact hjb)] at e9
        have e10 : (frameF kind b)[j]? = (four (crcMore 0 (headF kind b.length ++ b)))[j - (1 + E)]? := by
          unfold frameF
          rw [List.getElem?_append_right (by rw [headF_length, hE]; omega), List.getElem?_append_left (by rw [four_length, headF_length, hE]; exact hjb), headF_length, hE]
        rw [← e10, List.getElem?_eq_getElem hj] at e9
        injection e9
      · -- the body
        rw [List.set_append, if_neg (by rw [four_length]; omega)] at hd1
        have e7 := List.append_inj hd1 (by rw [four_length, four_length])
        have e8 := four_inj (crcMore_lt _ _) (crcMore_lt _ _) e7.1
        rw [four_length] at e7
        have hjc : j - (1 + E) - 4 < b.length := by omega
        obtain ⟨s1, s2⟩ := set_split'' b (j - (1 + E) - 4) y hjc
        rw [← e7.2, s2] at e8
        have e8' : crcMore 0 (headF kind b.length ++ (b.take (j - (1 + E) - 4) ++ b[j - (1 + E) - 4] :: b.drop (j - (1 + E) - 4 + 1))) = crcMore 0 (headF kind b.length ++ (b.take (j - (1 + E) - 4) ++ y :: b.drop (j - (1 + E) - 4 + 1))) := by
          rw [← s1]; exact e8
        rw [← List.append_assoc, ← List.append_assoc] at e8'
        have := crcMore_byte _ _ _ _ ((headF_bytes (by omega)).append (hbb.take _)) (hbb.drop _) (hbb _ (List.getElem_mem hjc)) hyb e8'
        apply hy
        rw [← this]
        have e10 : (frameF kind b)[j]? = b[j - (1 + E) - 4]? := by
          unfold frameF
          rw [List.getElem?_append_right (by rw [headF_length, hE]; omega), List.getElem?_append_right (by rw [four_length, headF_length, hE]; omega), headF_length, hE, four_length]
        rw [List.getElem?_eq_getElem hj, List.getElem?_eq_getElem hjc] at e10
        injection e10 with e10
        exact e10.symm
  · rcases hz0 with hz0 | hz0
    · -- it is all there
      exfalso
      have hnn : openF ((frameF kind b).set j y) ≠ (0, [], 0, 2) := by
        have hcons : ∃ c r, (frameF kind b).set j y = c :: r ∧ ((c = 0) ∨ numGet 0 0 r = ((b.length : Int), ((enc (zig (b.length : Int))).length : Int), 0)) := by
          rcases Nat.eq_zero_or_pos j with rfl | hj0
          · refine ⟨y, _, by rw [e0, List.set_cons_zero], .inr (get_enc0 _ (by omega) (by omega) _)⟩
          · obtain ⟨j', rfl⟩ : ∃ j', j = j' + 1 := ⟨j - 1, by omega⟩
            refine ⟨kind, _, by rw [e0, List.set_cons_succ], .inr ?_⟩
            rw [List.set_append, if_neg (by omega)]
            exact get_enc0 _ (by omega) (by omega) _
        obtain ⟨c, r, hcr, hor⟩ := hcons
        rw [hcr] at hlen ⊢
        unfold openF
        simp only
        by_cases h0 : c = 0
        · rw [if_pos h0]; simp
        · rw [if_neg h0]
          rcases hor with h | h
          · exact absurd h h0
          · rw [h]
            simp only
            rw [if_neg (by omega), if_neg (by omega), if_neg (by rw [hlen, hl]; omega)]
            split
            · intro h9; injection h9 with _ h9; injection h9 with _ h9; injection h9 with h9 _; omega
            · simp
      exact hnn hz0
    · exact hz0
/-- Frames one behind the other. -/
def Valid (f : Int × List Int) : Prop := 1 ≤ f.1 ∧ f.1 ≤ 255 ∧ f.2.length ≤ 4000 ∧ Bytes f.2
def flat (fs : List (Int × List Int)) : List Int := (fs.map fun f => frameF f.1 f.2).flatten
theorem flat_nil : flat [] = [] := rfl
theorem flat_cons (f : Int × List Int) (fs : List (Int × List Int)) : flat (f :: fs) = frameF f.1 f.2 ++ flat fs := rfl
theorem flat_append (a b : List (Int × List Int)) : flat (a ++ b) = flat a ++ flat b := by unfold flat; rw [List.map_append, List.flatten_append]
theorem flat_bytes {fs : List (Int × List Int)} (h : ∀ f ∈ fs, Valid f) : Bytes (flat fs) := by
  induction fs with
  | nil => exact Bytes.nil
  | cons f fs ih =>
    have hf := h f (List.mem_cons_self ..)
    rw [flat_cons]
    exact (frameF_bytes ⟨by have := hf.1; omega, by have := hf.2.1; omega⟩ hf.2.2.2).append (ih (fun g hg => h g (List.mem_cons_of_mem _ hg)))
theorem frameF_pos (kind : Int) (b : List Int) : 6 ≤ (frameF kind b).length := by
  rw [frameF_length]
  have := enc_pos (zig (b.length : Int))
  omega




theorem strOf_bytesOf (s : ByteArray) : strOfNums (bytesOf s) = s := by
  apply ByteArray.ext
  apply Array.ext'
  rw [strOfNums_data, bytesOf, List.map_map]
  conv => rhs; rw [← List.map_id s.data.toList]
  apply List.map_congr_left
  intro x _
  simp [Function.comp]
theorem bytesOf_strOf {l : List Int} (h : Bytes l) : bytesOf (strOfNums l) = l := by
  rw [bytesOf, strOfNums_data, List.map_map]
  conv => rhs; rw [← List.map_id l]
  apply List.map_congr_left
  intro x hx
  have := h x hx
  simp only [Function.comp, id]
  rw [UInt8.toNat_ofNat']
  omega
theorem bytesOf_inj {a b : ByteArray} (h : bytesOf a = bytesOf b) : a = b := by rw [← strOf_bytesOf a, h, strOf_bytesOf]
theorem bytesOf_extract (s : ByteArray) (a b : Nat) : bytesOf (s.extract a b) = ((bytesOf s).take b).drop a := by
  rw [bytesOf, bytesOf, ByteArray.data_extract, Array.toList_extract, List.extract_eq_take_drop, ← List.map_take, ← List.map_drop, List.drop_take]
theorem bytesOf_empty : bytesOf (⟨#[]⟩ : ByteArray) = [] := rfl
theorem getText_put (s : ByteArray) (hs : s.size ≤ 1048576) (rest : List Int) : getText (enc (zig (s.size : Int)) ++ bytesOf s ++ rest) = (s, (((enc (zig (s.size : Int))).length + s.size : Nat) : Int), 0) := by
  unfold getText
  rw [List.append_assoc, get_enc0 (s.size : Int) (by omega) (by omega)]
  simp only [if_true]
  have hl : (enc (zig (s.size : Int)) ++ (bytesOf s ++ rest)).length = (enc (zig (s.size : Int))).length + (s.size + rest.length) := by rw [List.length_append, List.length_append, bytesOf_length]
  rw [if_neg (by omega), if_neg (by rw [hl]; omega), Int.toNat_natCast, Int.toNat_natCast, List.drop_left]
  have e : (bytesOf s ++ rest).take s.size = bytesOf s := by rw [← bytesOf_length s]; exact List.take_left
  rw [e, strOf_bytesOf]
  simp
/-- Numbers that are from one to another. -/
def inF (lo hi : Int) : List Int → Bool
  | [] => true
  | n :: r => if n < lo then false else if n > hi then false else inF lo hi r
def mayF (hard : Bool) (t v i u q : Int) (d : ByteArray) : Bool :=
  if hard then inF 0 1099511627776 [t] && decide (v ≥ 0) && decide (v ≤ 7) && (i == 0 && (u == 0 && (q == 0 && d.toList == [])))
  else (t == 0 && v == 0) && inF 1 1099511627776 [i, u] && decide (q ≥ 1) && decide (q ≤ 3) && decide ((d.size : Int) ≤ 2500)
def bodyF (hard : Bool) (t v i u q : Int) (d : ByteArray) : List Int :=
  if hard then enc (zig t) ++ enc (zig v) else enc (zig i) ++ enc (zig u) ++ enc (zig q) ++ enc (zig (d.size : Int)) ++ bytesOf d
def kindF (hard : Bool) : Int := if hard then 1 else 2
def encodeF (hard : Bool) (t v i u q : Int) (d : ByteArray) : List Int := if mayF hard t v i u q d = true then frameF (kindF hard) (bodyF hard t v i u q d) else []
theorem may_hard {t v i u q : Int} {d : ByteArray} (h : mayF true t v i u q d = true) : (0 ≤ t ∧ t ≤ 1099511627776) ∧ (0 ≤ v ∧ v ≤ 7) ∧ i = 0 ∧ u = 0 ∧ q = 0 ∧ d.toList = [] := by
  simp [mayF, inF] at h
  exact ⟨by omega, by omega, h.2.1, h.2.2.1, h.2.2.2.1, h.2.2.2.2⟩
theorem may_entry {t v i u q : Int} {d : ByteArray} (h : mayF false t v i u q d = true) : t = 0 ∧ v = 0 ∧ (1 ≤ i ∧ i ≤ 1099511627776) ∧ (1 ≤ u ∧ u ≤ 1099511627776) ∧ (1 ≤ q ∧ q ≤ 3) ∧ d.size ≤ 2500 := by
  simp [mayF, inF] at h
  omega
theorem zig_i64 {n : Int} (h : -9223372036854775808 ≤ n ∧ n ≤ 9223372036854775807) : (enc (zig n)).length ≤ 10 := enc_len10 (zig_lt h.1 h.2)
theorem bodyF_bytes (hard : Bool) (t v i u q : Int) (d : ByteArray) : Bytes (bodyF hard t v i u q d) := by
  have e (n : Int) : Bytes (enc (zig n)) := enc_bytes _
  cases hard
  · exact ((((e i).append (e u)).append (e q)).append (e _)).append (bytes_of d)
  · exact (e t).append (e v)
theorem bodyF_len {hard : Bool} {t v i u q : Int} {d : ByteArray} (h : mayF hard t v i u q d = true) : (bodyF hard t v i u q d).length ≤ 2540 := by
  cases hard with
  | true =>
    have := may_hard h
    have h1 := zig_i64 (n := t) (by omega)
    have h2 := zig_i64 (n := v) (by omega)
    simp only [bodyF, if_true, List.length_append]
    omega
  | false =>
    have := may_entry h
    have h1 := zig_i64 (n := i) (by omega)
    have h2 := zig_i64 (n := u) (by omega)
    have h3 := zig_i64 (n := q) (by omega)
    have h4 := zig_i64 (n := (d.size : Int)) (by omega)
    simp only [bodyF, Bool.false_eq_true, if_false, List.length_append, bytesOf_length]
    omega
theorem encodeF_len (hard : Bool) (t v i u q : Int) (d : ByteArray) : (encodeF hard t v i u q d).length ≤ 2550 := by
  unfold encodeF
  split
  · rename_i h
    have h1 := bodyF_len h
    have h2 := enc_len_small (n := (bodyF hard t v i u q d).length) (by omega)
    rw [frameF_length]
    omega
  · simp
theorem encodeF_bytes (hard : Bool) (t v i u q : Int) (d : ByteArray) : Bytes (encodeF hard t v i u q d) := by
  unfold encodeF
  split
  · exact frameF_bytes (by cases hard <;> simp [kindF]) (bodyF_bytes _ _ _ _ _ _ _)
  · exact Bytes.nil

/-- A number off what is left; a text. -/
def rdN (l : List Int) (bad : Bool) : Int × List Int × Bool :=
  if (numGet 0 0 l).2.2 = 0 then ((numGet 0 0 l).1, if bad = true then (l, true) else (l.drop (numGet 0 0 l).2.1.toNat, false)) else ((numGet 0 0 l).1, l, true)
def rdT (l : List Int) (bad : Bool) : ByteArray × List Int × Bool :=
  if (getText l).2.2 = 0 then ((getText l).1, if bad = true then (l, true) else (l.drop (getText l).2.1.toNat, false)) else ((getText l).1, l, true)
theorem rdN_enc {n : Int} (h : -9223372036854775808 ≤ n ∧ n ≤ 9223372036854775807) (rest : List Int) : rdN (enc (zig n) ++ rest) false = (n, rest, false) := by
  unfold rdN
  rw [get_enc0 n h.1 h.2]
  simp
theorem rdT_put {s : ByteArray} (hs : s.size ≤ 1048576) (rest : List Int) : rdT (enc (zig (s.size : Int)) ++ bytesOf s ++ rest) false = (s, rest, false) := by
  unfold rdT
  rw [getText_put s hs]
  have e : (enc (zig (s.size : Int))).length + s.size = (enc (zig (s.size : Int)) ++ bytesOf s).length := by rw [List.length_append, bytesOf_length]
  simp only [if_true, Bool.false_eq_true, if_false, Int.toNat_natCast]
  rw [e, List.drop_left]
theorem rdN_bytes {l : List Int} (h : Bytes l) (bad : Bool) : Bytes (rdN l bad).2.1 := by
  unfold rdN
  split
  · cases bad
    · exact h.drop _
    · exact h
  · exact h
theorem rdN_len {l : List Int} (bad : Bool) : (rdN l bad).2.1.length ≤ l.length := by
  unfold rdN
  split
  · cases bad
    · simp only [Bool.false_eq_true, if_false, List.length_drop]; omega
    · exact Nat.le_refl _
  · exact Nat.le_refl _
theorem rdT_bytes {l : List Int} (h : Bytes l) (bad : Bool) : Bytes (rdT l bad).2.1 := by
  unfold rdT
  split
  · cases bad
    · exact h.drop _
    · exact h
  · exact h
theorem rdT_len {l : List Int} (bad : Bool) : (rdT l bad).2.1.length ≤ l.length := by
  unfold rdT
  split
  · cases bad
    · simp only [Bool.false_eq_true, if_false, List.length_drop]; omega
    · exact Nat.le_refl _
  · exact Nat.le_refl _
/-- What a good number says of the bytes. -/
theorem rdN_good {l : List Int} {bad : Bool} (h : Bytes l) (hg : (rdN l bad).2.2 = false) : bad = false ∧ l = enc (zig (rdN l bad).1) ++ (rdN l bad).2.1 ∧ -9223372036854775808 ≤ (rdN l bad).1 ∧ (rdN l bad).1 ≤ 9223372036854775807 := by
  unfold rdN at hg ⊢
  by_cases h0 : (numGet 0 0 l).2.2 = 0
  · rw [if_pos h0] at hg ⊢
    cases bad with
    | true => simp at hg
    | false =>
      have hc := numGet_canon0 h h0
      have hk := numGet_ok l h h0
      simp only [Bool.false_eq_true, if_false]
      refine ⟨trivial, ?_, hk.1, hk.2.1⟩
      rw [← hc, List.take_append_drop]
  · rw [if_neg h0] at hg
    simp at hg
theorem rdT_good {l : List Int} {bad : Bool} (h : Bytes l) (hg : (rdT l bad).2.2 = false) : bad = false ∧ l = enc (zig ((rdT l bad).1.size : Int)) ++ bytesOf (rdT l bad).1 ++ (rdT l bad).2.1 ∧ (rdT l bad).1.size ≤ 1048576 := by
  unfold rdT at hg ⊢
  by_cases h0 : (getText l).2.2 = 0
  · rw [if_pos h0] at hg ⊢
    cases bad with
    | true => simp at hg
    | false =>
      simp only [Bool.false_eq_true, if_false]
      refine ⟨trivial, ?_⟩
      unfold getText at h0 ⊢
      by_cases h1 : (numGet 0 0 l).2.2 = 0
      · rw [if_pos h1] at h0 ⊢
        have hc := numGet_canon0 h h1
        have hk := numGet_ok l h h1
        generalize hq : numGet 0 0 l = q at *
        obtain ⟨n, m, e⟩ := q
        simp only at *
        by_cases h2 : n < 0 ∨ n > 1048576
        · rw [if_pos h2] at h0; simp at h0
        rw [if_neg h2] at h0 ⊢
        by_cases h3 : n > (l.length : Int) - m
        · rw [if_pos h3] at h0; simp at h0
        rw [if_neg h3] at h0 ⊢
        simp only
        have hlen : ((l.drop m.toNat).take n.toNat).length = n.toNat := by rw [List.length_take, List.length_drop]; omega
        have hsz : (strOfNums ((l.drop m.toNat).take n.toNat)).size = n.toNat := by rw [strOfNums_size, hlen]
        rw [hsz, bytesOf_strOf ((h.drop _).take _), show ((n.toNat : Nat) : Int) = n by omega, ← hc]
        refine ⟨?_, by omega⟩
        rw [show (m + n).toNat = m.toNat + n.toNat by omega, ← List.drop_drop, List.append_assoc, List.take_append_drop, List.take_append_drop]
      · rw [if_neg h1] at h0
        simp only at h0
        exact absurd h0 h1
  · rw [if_neg h0] at hg
    simp at hg

/-- Reading a record. -/
def decBad : Bool × Int × Int × Int × Int × Int × ByteArray × Int × Int := (false, 0, 0, 0, 0, 0, ⟨#[]⟩, 0, 3)
def decF (l : List Int) : Bool × Int × Int × Int × Int × Int × ByteArray × Int × Int :=
  if (openF l).2.2.2 = 0 then
    (if (openF l).1 = 1 then
      (let s1 := rdN (openF l).2.1 false
       let s2 := rdN s1.2.1 s1.2.2
       if (!s2.2.2 && s2.2.1.isEmpty) = true then (if mayF true s1.1 s2.1 0 0 0 ⟨#[]⟩ = true then (true, s1.1, s2.1, 0, 0, 0, ⟨#[]⟩, (openF l).2.2.1, 0) else decBad) else decBad)
     else if (openF l).1 = 2 then
      (let s1 := rdN (openF l).2.1 false
       let s2 := rdN s1.2.1 s1.2.2
       let s3 := rdN s2.2.1 s2.2.2
       let s4 := rdT s3.2.1 s3.2.2
       if (!s4.2.2 && s4.2.1.isEmpty) = true then (if mayF false 0 0 s1.1 s2.1 s3.1 s4.1 = true then (false, 0, 0, s1.1, s2.1, s3.1, s4.1, (openF l).2.2.1, 0) else decBad) else decBad)
     else decBad)
  else (false, 0, 0, 0, 0, 0, ⟨#[]⟩, 0, (openF l).2.2.2)

theorem toList_inj {a b : ByteArray} (h : a.toList = b.toList) : a = b := by
  apply ByteArray.ext
  apply Array.ext'
  rw [← ByteArray.toList_eq, ← ByteArray.toList_eq, h]
theorem toList_nil {d : ByteArray} (h : d.toList = []) : d = ⟨#[]⟩ := by
  apply ByteArray.ext
  apply Array.ext'
  rw [← ByteArray.toList_eq, h]
/-- What may be is read again, whatever stands behind. -/
theorem dec_encode {hard : Bool} {t v i u q : Int} {d : ByteArray} (h : mayF hard t v i u q d = true) (rest : List Int) :
    decF (encodeF hard t v i u q d ++ rest) = (hard, t, v, i, u, q, d, ((encodeF hard t v i u q d).length : Int), 0) := by
  have hl := bodyF_len h
  have hk : 1 ≤ kindF hard ∧ kindF hard ≤ 255 := by cases hard <;> simp [kindF]
  unfold encodeF
  rw [if_pos h]
  unfold decF
  rw [open_frame hk (by omega)]
  simp only [if_true]
  cases hard with
  | true =>
    have hm := may_hard h
    obtain ⟨h1, h2, rfl, rfl, rfl, h3⟩ := hm
    have e3 := toList_nil h3
    subst e3
    simp only [kindF, if_true, bodyF]
    rw [rdN_enc (by omega)]
    have e : enc (zig v) = enc (zig v) ++ [] := by simp
    simp only
    rw [e, rdN_enc (by omega)]
    simp [h]
  | false =>
    have hm := may_entry h
    obtain ⟨rfl, rfl, h1, h2, h3, h4⟩ := hm
    simp only [kindF, Bool.false_eq_true, if_false, bodyF, show ¬((2 : Int) = 1) by decide, if_true]
    have e : enc (zig i) ++ enc (zig u) ++ enc (zig q) ++ enc (zig (d.size : Int)) ++ bytesOf d = enc (zig i) ++ (enc (zig u) ++ (enc (zig q) ++ (enc (zig (d.size : Int)) ++ bytesOf d ++ []))) := by simp
    rw [e, rdN_enc (by omega)]
    simp only
    rw [rdN_enc (by omega)]
    simp only
    rw [rdN_enc (by omega)]
    simp only
    rw [rdT_put (by omega)]
    simp [h]

/-! ## snapshots -/
def mayS (x y : Int) (c d : ByteArray) : Bool := inF 0 1099511627776 [x, y] && (decide ((c.size : Int) ≤ 50) && decide ((d.size : Int) ≤ 200000))
theorem mayS_says {x y : Int} {c d : ByteArray} (h : mayS x y c d = true) : (0 ≤ x ∧ x ≤ 1099511627776) ∧ (0 ≤ y ∧ y ≤ 1099511627776) ∧ c.size ≤ 50 ∧ d.size ≤ 200000 := by
  simp [mayS, inF] at h
  omega
theorem size_zero {s : ByteArray} (h : s.size = 0) : s = ⟨#[]⟩ := by
  apply ByteArray.ext
  exact Array.eq_empty_of_size_eq_zero h
def snapHead (x y : Int) (c d : ByteArray) : List Int := enc (zig x) ++ (enc (zig y) ++ (enc (zig (c.size : Int)) ++ bytesOf c ++ (enc (zig (d.size : Int)) ++ [])))
theorem snapHead_bytes (x y : Int) (c d : ByteArray) : Bytes (snapHead x y c d) := by
  have e (n : Int) : Bytes (enc (zig n)) := enc_bytes _
  exact (e x).append ((e y).append (((e _).append (bytes_of c)).append ((e _).append Bytes.nil)))
theorem snapHead_len {x y : Int} {c d : ByteArray} (hx : -9223372036854775808 ≤ x ∧ x ≤ 9223372036854775807) (hy : -9223372036854775808 ≤ y ∧ y ≤ 9223372036854775807) (hc : c.size ≤ 50) (hd : d.size ≤ 200000) : (snapHead x y c d).length ≤ 90 := by
  have z1 := zig_i64 hx
  have z2 := zig_i64 hy
  have z3 := zig_i64 (n := (c.size : Int)) (by omega)
  have z4 := zig_i64 (n := (d.size : Int)) (by omega)
  simp only [snapHead, List.length_append, bytesOf_length, List.length_nil]
  omega
def partsF (d : List Int) : List Int := if d = [] then [] else frameF 4 (d.take 3000) ++ partsF (d.drop 3000)
termination_by d.length
decreasing_by
  rename_i h
  have := List.length_pos_iff.2 h
  rw [List.length_drop]
  omega
theorem partsF_nil : partsF [] = [] := by rw [partsF, if_pos rfl]
theorem partsF_step {d : List Int} (h : d ≠ []) : partsF d = frameF 4 (d.take 3000) ++ partsF (d.drop 3000) := by rw [partsF, if_neg h]
theorem partsF_bytes (n : Nat) : ∀ d : List Int, d.length = n → Bytes d → Bytes (partsF d) := by
  induction n using Nat.strongRecOn with
  | _ n ih =>
    intro d hn hd
    by_cases h : d = []
    · subst h; rw [partsF_nil]; exact Bytes.nil
    · have := List.length_pos_iff.2 h
      rw [partsF_step h]
      exact (frameF_bytes (by decide) (hd.take _)).append (ih (d.drop 3000).length (by rw [List.length_drop]; omega) _ rfl (hd.drop _))
theorem partsF_len (n : Nat) : ∀ d : List Int, d.length = n → (partsF d).length ≤ 8 * d.length := by
  induction n using Nat.strongRecOn with
  | _ n ih =>
    intro d hn
    by_cases h : d = []
    · subst h; rw [partsF_nil]; simp
    · have hp := List.length_pos_iff.2 h
      have h2 := ih (d.drop 3000).length (by rw [List.length_drop]; omega) _ rfl
      have h1 := frameF_length 4 (d.take 3000)
      have hl1 : (d.take 3000).length ≤ 3000 := List.length_take_le ..
      have hz := enc_len_small (n := (d.take 3000).length) (by omega)
      have e1 : (d.take 3000).length = min 3000 d.length := List.length_take
      have e2 : (d.drop 3000).length = d.length - 3000 := List.length_drop
      rw [partsF_step h, List.length_append, h1]
      omega
def snapF (x y : Int) (c d : ByteArray) : List Int := if mayS x y c d = true then frameF 3 (snapHead x y c d) ++ partsF (bytesOf d) else []


end Go.AM.Spec
