/- Numbers as bytes, in plain Lean: what is written, what is read, and how the two go together. No program in sight. -/
import Derived.Test.YtoamlagpnnmnhabSWMore
import Derived.Laws.BitsLemmas
namespace Go.Proofs.Ytoamlagpnnmnhab.Spec
open Go.RowKit Go.Proofs.YtoamlagpnnmnhabW.PrintWords Go.Proofs.YtoamlagpnnmnhabW.PrintLast Go.Proofs.YtoamlagpnnmnhabW.PrintMore

/-! ## bits -/
theorem i64_bd {n : Int} (h : (Lit.int .i64 n).wf = true) : -9223372036854775808 ≤ n ∧ n ≤ 9223372036854775807 := by
  simp [Lit.wf, IntKind.min, IntKind.max, IntKind.signed, IntKind.bits] at h
  omega
theorem wrap_u64 (n : Int) : IntKind.u64.wrap n = n % 18446744073709551616 := by simp [IntKind.wrap, IntKind.bits, IntKind.signed]
theorem wrap64_eq {n : Int} (h0 : -9223372036854775808 ≤ n) (h1 : n ≤ 9223372036854775807) : wrap64 n = n := by
  unfold wrap64; omega
theorem not_u64 {x : Int} (h0 : 0 ≤ x) (h1 : x < 18446744073709551616) : Go.bits .xor .u64 (IntKind.max .u64) x = 18446744073709551615 - x := by
  obtain ⟨a, rfl⟩ := Int.eq_ofNat_of_zero_le h0
  have ha : a < 2 ^ 64 := by omega
  show IntKind.u64.wrap (((BitVec.ofInt 64 (IntKind.max .u64) ^^^ BitVec.ofInt 64 (a : Int)).toNat : Nat) : Int) = _
  have e2 : BitVec.ofInt 64 (IntKind.max .u64) = BitVec.allOnes 64 := by decide
  rw [e2, BitVec.ofInt_natCast, BitVec.allOnes_xor, BitVec.toNat_not, BitVec.toNat_ofNat, Nat.mod_eq_of_lt ha, wrap_u64]
  omega
theorem not_i64 {x : Int} (h0 : 0 ≤ x) (h1 : x < 9223372036854775808) : Go.bits .xor .i64 (-1) x = -x - 1 := by
  obtain ⟨a, rfl⟩ := Int.eq_ofNat_of_zero_le h0
  have ha : a < 2 ^ 64 := by omega
  show IntKind.i64.wrap (((BitVec.ofInt 64 (-1) ^^^ BitVec.ofInt 64 (a : Int)).toNat : Nat) : Int) = _
  have e2 : (BitVec.ofInt 64 (-1)) = BitVec.allOnes 64 := by decide
  rw [e2, BitVec.ofInt_natCast, BitVec.allOnes_xor, BitVec.toNat_not, BitVec.toNat_ofNat, Nat.mod_eq_of_lt ha, IntKind.wrap_i64]
  omega
theorem or128_nat : ∀ y : Fin 256, Go.bits .or .u8 ((y.val : Nat) : Int) 128 = (((y.val % 128 + 128 : Nat)) : Int) := by decide +kernel
theorem or128 {x : Int} (h0 : 0 ≤ x) (h1 : x < 256) : Go.bits .or .u8 x 128 = x % 128 + 128 := by
  obtain ⟨a, rfl⟩ := Int.eq_ofNat_of_zero_le h0
  have := or128_nat ⟨a, by omega⟩
  simp only at this
  rw [this]
  omega
theorem and127 {x : Int} (h0 : 0 ≤ x) (h1 : x < 256) : Go.bits .and .u8 x 127 = x % 128 := bits_mask .u8 8 (by decide) wraps_u8 7 (by decide) x h0 h1
theorem wraps_u64 (n : Int) (h0 : 0 ≤ n) (h1 : n < 2 ^ 64) : IntKind.u64.wrap n = n := by rw [wrap_u64]; omega
theorem and1_u64 {x : Int} (h0 : 0 ≤ x) (h1 : x < 18446744073709551616) : Go.bits .and .u64 x 1 = x % 2 := bits_mask .u64 64 (by decide) wraps_u64 1 (by decide) x h0 (by omega)
theorem or_join (i : Nat) {u d : Int} (hu0 : 0 ≤ u) (hu : u < 2 ^ i) (hd0 : 0 ≤ d) (hi : i < 64) (hd : d * 2 ^ i < 2 ^ 64) :
    Go.bits .or .u64 u (shl .u64 d i) = u + d * 2 ^ i := by
  have hp : (0 : Int) < 2 ^ i := by exact_mod_cast Nat.two_pow_pos i
  have hs : shl .u64 d (i : Int) = d * 2 ^ i := by
    unfold shl
    have e : min ((i : Int)).toNat (IntKind.bits .u64) = i := by simp [IntKind.bits]; omega
    rw [e]
    exact wraps_u64 _ (Int.mul_nonneg hd0 (Int.le_of_lt hp)) hd
  rw [hs]
  obtain ⟨a, rfl⟩ := Int.eq_ofNat_of_zero_le hu0
  obtain ⟨b, rfl⟩ := Int.eq_ofNat_of_zero_le hd0
  have ha : a < 2 ^ i := by exact_mod_cast hu
  have hb : b * 2 ^ i < 2 ^ 64 := by exact_mod_cast hd
  have hp64 : (2 : Nat) ^ i < 2 ^ 64 := Nat.pow_lt_pow_right (by decide) hi
  have e1 : ((b : Int) * 2 ^ i) = ((b * 2 ^ i : Nat) : Int) := by simp
  rw [e1, (bits_nat .u64 64 (by decide) wraps_u64 a (b * 2 ^ i) (by omega) hb).2, Nat.or_comm, Nat.mul_comm b, ← Nat.two_pow_add_eq_or_of_lt ha b]
  simp
  omega

/-! ## numbers -/
/-- The bytes of a number without a sign. -/
def enc (u : Nat) : List Int := if u < 128 then [(u : Int)] else ((u % 128 + 128 : Nat) : Int) :: enc (u / 128)
termination_by u
decreasing_by omega
/-- A number with a sign, as one without; and back. -/
def zig (n : Int) : Nat := if n < 0 then (-2 * n - 1).toNat else (2 * n).toNat
def zag (u : Nat) : Int := if u % 2 = 1 then -((u / 2 : Nat) : Int) - 1 else ((u / 2 : Nat) : Int)
theorem zag_zig (n : Int) : zag (zig n) = n := by
  unfold zag zig
  split <;> split <;> omega
theorem zig_lt {n : Int} (h0 : -9223372036854775808 ≤ n) (h1 : n ≤ 9223372036854775807) : zig n < 18446744073709551616 := by
  unfold zig
  split <;> omega
theorem zag_bd {u : Nat} (h : u < 18446744073709551616) : -9223372036854775808 ≤ zag u ∧ zag u ≤ 9223372036854775807 := by
  unfold zag
  split <;> omega
theorem zig_zag (u : Nat) : zig (zag u) = u := by
  unfold zag zig
  split <;> split <;> omega
theorem enc_small {u : Nat} (h : u < 128) : enc u = [(u : Int)] := by rw [enc, if_pos h]
theorem enc_step {u : Nat} (h : 128 ≤ u) : enc u = ((u % 128 + 128 : Nat) : Int) :: enc (u / 128) := by rw [enc, if_neg (by omega)]
theorem enc_pos (u : Nat) : 0 < (enc u).length := by
  unfold enc
  split <;> simp
theorem enc_bytes (u : Nat) : ∀ x ∈ enc u, 0 ≤ x ∧ x < 256 := by
  induction u using Nat.strongRecOn with
  | _ u ih =>
    intro x hx
    by_cases h : u < 128
    · rw [enc_small h] at hx
      simp at hx
      omega
    · rw [enc_step (by omega)] at hx
      rcases List.mem_cons.1 hx with rfl | hx
      · omega
      · exact ih _ (by omega) x hx
theorem enc_len {j u : Nat} (h : u < 2 ^ (7 * j)) (hj : 0 < j) : (enc u).length ≤ j := by
  induction j generalizing u with
  | zero => omega
  | succ j ih =>
    by_cases h1 : u < 128
    · rw [enc_small h1]; simp
    · rw [enc_step (by omega), List.length_cons]
      have h2 : u / 128 < 2 ^ (7 * j) := by
        rw [Nat.div_lt_iff_lt_mul (by decide)]
        have : 2 ^ (7 * (j + 1)) = 2 ^ (7 * j) * 128 := by rw [Nat.mul_add, Nat.pow_add]
        omega
      have hj0 : 0 < j := by
        rcases Nat.eq_zero_or_pos j with rfl | h3
        · simp at h2
          omega
        · exact h3
      have := ih h2 hj0
      omega
theorem enc_len10 {u : Nat} (h : u < 18446744073709551616) : (enc u).length ≤ 10 := enc_len (j := 10) (Nat.lt_of_lt_of_le h (by decide)) (by decide)

/-- Reading a number, from its place i on, behind u. -/
def numGet (i : Nat) (u : Nat) : List Int → Int × Int × Int
  | [] => (0, 0, 2)
  | c :: r => if i = 9 ∧ c > 1 then (0, 0, 1) else if c > 127 then numGet (i + 1) (u + (c % 128).toNat * 2 ^ (7 * i)) r
    else if 0 < i ∧ c = 0 then (0, 0, 1) else (zag (u + c.toNat * 2 ^ (7 * i)), i + 1, 0)
theorem get_enc (v : Nat) : ∀ (i u : Nat) (rest : List Int), u + v * 2 ^ (7 * i) < 18446744073709551616 → (0 < i → 0 < v) → i ≤ 9 → numGet i u (enc v ++ rest) = (zag (u + v * 2 ^ (7 * i)), ((i + (enc v).length : Nat) : Int), 0) := by
  induction v using Nat.strongRecOn with
  | _ v ih =>
    intro i u rest hlt hpos hi9
    have h9 : i = 9 → v ≤ 1 := by
      intro h
      subst h
      have e : 2 ^ (7 * 9) = 9223372036854775808 := by decide
      rw [e] at hlt
      omega
    by_cases h : v < 128
    · rw [enc_small h, List.singleton_append, numGet]
      rw [if_neg (by omega), if_neg (by omega), if_neg (by omega)]
      simp
    · rw [enc_step (by omega), List.cons_append, numGet]
      have hi : i < 9 := by omega
      rw [if_neg (by omega), if_pos (by omega)]
      have e1 : (((v % 128 + 128 : Nat) : Int) % 128).toNat = v % 128 := by omega
      have e2 : 2 ^ (7 * (i + 1)) = 128 * 2 ^ (7 * i) := by rw [Nat.mul_add, Nat.pow_add, Nat.mul_comm]
      have e3 : u + v % 128 * 2 ^ (7 * i) + v / 128 * 2 ^ (7 * (i + 1)) = u + v * 2 ^ (7 * i) := by
        rw [e2, Nat.add_assoc, ← Nat.mul_assoc, ← Nat.add_mul]
        congr 2
        omega
      rw [e1, ih (v / 128) (by omega) (i + 1) _ rest (by rw [e3]; exact hlt) (by omega) (by omega), e3]
      simp only [List.length_cons]
      congr 2
      omega
theorem get_enc0 (n : Int) (h0 : -9223372036854775808 ≤ n) (h1 : n ≤ 9223372036854775807) (rest : List Int) : numGet 0 0 (enc (zig n) ++ rest) = (n, ((enc (zig n)).length : Int), 0) := by
  have := get_enc (zig n) 0 0 rest (by simpa using zig_lt h0 h1) (by omega) (by omega)
  simpa [zag_zig] using this
theorem get_cut (v : Nat) : ∀ (i u m : Nat), u + v * 2 ^ (7 * i) < 18446744073709551616 → i ≤ 9 → m < (enc v).length → numGet i u ((enc v).take m) = (0, 0, 2) := by
  induction v using Nat.strongRecOn with
  | _ v ih =>
    intro i u m hlt hi9 hm
    have h9 : i = 9 → v ≤ 1 := by
      intro h
      subst h
      have e : 2 ^ (7 * 9) = 9223372036854775808 := by decide
      rw [e] at hlt
      omega
    by_cases h : v < 128
    · rw [enc_small h] at hm ⊢
      have : m = 0 := by simp at hm; omega
      subst this
      rfl
    · rw [enc_step (by omega)] at hm ⊢
      have hi : i < 9 := by omega
      rcases m with _ | m
      · rfl
      · rw [List.take_succ_cons, numGet, if_neg (by omega), if_pos (by omega)]
        have e1 : (((v % 128 + 128 : Nat) : Int) % 128).toNat = v % 128 := by omega
        have e2 : 2 ^ (7 * (i + 1)) = 128 * 2 ^ (7 * i) := by rw [Nat.mul_add, Nat.pow_add, Nat.mul_comm]
        have e3 : u + v % 128 * 2 ^ (7 * i) + v / 128 * 2 ^ (7 * (i + 1)) = u + v * 2 ^ (7 * i) := by
          rw [e2, Nat.add_assoc, ← Nat.mul_assoc, ← Nat.add_mul]
          congr 2
          omega
        rw [e1]
        exact ih (v / 128) (by omega) (i + 1) _ m (by rw [e3]; exact hlt) (by omega) (by simp only [List.length_cons] at hm; omega)
/-- What is read is a number, of so many bytes; or none. -/
theorem numGet_says (l : List Int) : ∀ (i u : Nat), (∀ x ∈ l, 0 ≤ x ∧ x < 256) → u < 2 ^ (7 * i) → i ≤ 9 →
    (numGet i u l = (0, 0, 1) ∨ numGet i u l = (0, 0, 2)) ∨ ∃ w n : Nat, w < 18446744073709551616 ∧ numGet i u l = (zag w, (n : Int), 0) ∧ i < n ∧ n ≤ 10 ∧ n ≤ i + l.length := by
  induction l with
  | nil => intro i u _ _ _; exact .inl (.inr rfl)
  | cons c r ih =>
    intro i u hb hu hi
    have hc := hb c (List.mem_cons_self ..)
    rw [numGet]
    by_cases h1 : i = 9 ∧ c > 1
    · rw [if_pos h1]; exact .inl (.inl rfl)
    · rw [if_neg h1]
      have e2 : 2 ^ (7 * (i + 1)) = 128 * 2 ^ (7 * i) := by rw [Nat.mul_add, Nat.pow_add, Nat.mul_comm]
      by_cases h2 : c > 127
      · rw [if_pos h2]
        have hi9 : i < 9 := by omega
        have hd : (c % 128).toNat < 128 := by omega
        have hu' : u + (c % 128).toNat * 2 ^ (7 * i) < 2 ^ (7 * (i + 1)) := by
          rw [e2]
          have : (c % 128).toNat * 2 ^ (7 * i) ≤ 127 * 2 ^ (7 * i) := Nat.mul_le_mul_right _ (by omega)
          omega
        rcases ih (i + 1) _ (fun x hx => hb x (List.mem_cons_of_mem _ hx)) hu' (by omega) with h | ⟨w, n, hw, h, h3, h4, h5⟩
        · exact .inl h
        · exact .inr ⟨w, n, hw, h, by omega, h4, by simp only [List.length_cons]; omega⟩
      · rw [if_neg h2]
        by_cases h3 : 0 < i ∧ c = 0
        · rw [if_pos h3]; exact .inl (.inl rfl)
        · rw [if_neg h3]
          refine .inr ⟨u + c.toNat * 2 ^ (7 * i), i + 1, ?_, rfl, by omega, by omega, by simp only [List.length_cons]; omega⟩
          rcases Nat.lt_or_ge i 9 with h9 | h9
          · have h5 : 2 ^ (7 * (i + 1)) ≤ 2 ^ (7 * 9) := Nat.pow_le_pow_right (by decide) (by omega)
            have h6 : (2 : Nat) ^ (7 * 9) = 9223372036854775808 := by decide
            have : c.toNat * 2 ^ (7 * i) ≤ 127 * 2 ^ (7 * i) := Nat.mul_le_mul_right _ (by omega)
            omega
          · have h10 : i = 9 := by omega
            subst h10
            have h6 : (2 : Nat) ^ (7 * 9) = 9223372036854775808 := by decide
            rw [h6] at hu ⊢
            have : c.toNat ≤ 1 := by omega
            omega

/-! ## texts -/
theorem rd_cons (l : List Int) (i : Nat) (c : Int) (r : List Int) (h : l.drop i = c :: r) : rd l (i : Int) = c ∧ i < l.length ∧ l.drop (i + 1) = r := by
  have hi : i < l.length := by
    rcases Nat.lt_or_ge i l.length with h1 | h1
    · exact h1
    · rw [List.drop_eq_nil_of_le h1] at h
      cases h
  rw [List.drop_eq_getElem_cons hi] at h
  injection h with h1 h2
  refine ⟨?_, hi, h2⟩
  unfold rd
  simp [List.getD_eq_getElem?_getD, List.getElem?_eq_getElem hi, h1]
/-- Reading a text. -/
def getText (l : List Int) : ByteArray × Int × Int :=
  if (numGet 0 0 l).2.2 = 0 then
    (if (numGet 0 0 l).1 < 0 ∨ (numGet 0 0 l).1 > 1048576 then (⟨#[]⟩, 0, 1)
     else if (numGet 0 0 l).1 > (l.length : Int) - (numGet 0 0 l).2.1 then (⟨#[]⟩, 0, 2)
     else (strOfNums ((l.drop (numGet 0 0 l).2.1.toNat).take (numGet 0 0 l).1.toNat), (numGet 0 0 l).2.1 + (numGet 0 0 l).1, 0))
  else (⟨#[]⟩, 0, (numGet 0 0 l).2.2)
/-- What a number says of what was read: its place in the bytes, its bounds. -/
theorem numGet_ok (l : List Int) (hb : ∀ x ∈ l, 0 ≤ x ∧ x < 256) : (numGet 0 0 l).2.2 = 0 → -9223372036854775808 ≤ (numGet 0 0 l).1 ∧ (numGet 0 0 l).1 ≤ 9223372036854775807 ∧ 1 ≤ (numGet 0 0 l).2.1 ∧ (numGet 0 0 l).2.1 ≤ 10 ∧ (numGet 0 0 l).2.1 ≤ l.length := by
  intro h
  rcases numGet_says l 0 0 hb (by simp) (by omega) with (h1 | h1) | ⟨w, n, hw, h1, h2, h3, h4⟩
  · rw [h1] at h; simp at h
  · rw [h1] at h; simp at h
  · rw [h1]
    have := zag_bd hw
    simp only
    omega
theorem numGet_fail (l : List Int) (hb : ∀ x ∈ l, 0 ≤ x ∧ x < 256) : (numGet 0 0 l).2.2 = 0 ∨ (numGet 0 0 l) = (0, 0, 1) ∨ (numGet 0 0 l) = (0, 0, 2) := by
  rcases numGet_says l 0 0 hb (by simp) (by omega) with (h1 | h1) | ⟨w, n, hw, h1, h2, h3, h4⟩
  · exact .inr (.inl h1)
  · exact .inr (.inr h1)
  · rw [h1]; exact .inl rfl
end Go.Proofs.Ytoamlagpnnmnhab.Spec
