/- Sums of bytes (a cyclic redundancy check of 32 bits), in plain Lean: a step loses nothing, so one byte that differs is told. No program in sight. -/
import Derived.Test.YtoamlagpnnmnhabSSpec
namespace Go.Proofs.Ytoamlagpnnmnhab.Spec
open Go.RowKit Go.Proofs.YtoamlagpnnmnhabW.PrintWords Go.Proofs.YtoamlagpnnmnhabW.PrintLast Go.Proofs.YtoamlagpnnmnhabW.PrintMore

theorem xor_u32 {x y : Int} (hx0 : 0 ≤ x) (hx : x < 4294967296) (hy0 : 0 ≤ y) (hy : y < 4294967296) : Go.bits .xor .u32 x y = ((x.toNat ^^^ y.toNat : Nat) : Int) := by
  obtain ⟨a, rfl⟩ := Int.eq_ofNat_of_zero_le hx0
  obtain ⟨b, rfl⟩ := Int.eq_ofNat_of_zero_le hy0
  have ha : a < 2 ^ 32 := by omega
  have hb : b < 2 ^ 32 := by omega
  show IntKind.u32.wrap (((BitVec.ofInt 32 (a : Int) ^^^ BitVec.ofInt 32 (b : Int)).toNat : Nat) : Int) = _
  rw [BitVec.ofInt_natCast, BitVec.ofInt_natCast, BitVec.toNat_xor, BitVec.toNat_ofNat, BitVec.toNat_ofNat, Nat.mod_eq_of_lt ha, Nat.mod_eq_of_lt hb, IntKind.wrap_u32]
  have := Nat.xor_lt_two_pow ha hb
  simp only [Int.toNat_natCast]
  omega
theorem not_u32 {x : Int} (h0 : 0 ≤ x) (h1 : x < 4294967296) : Go.bits .xor .u32 (IntKind.max .u32) x = 4294967295 - x := by
  obtain ⟨a, rfl⟩ := Int.eq_ofNat_of_zero_le h0
  have ha : a < 2 ^ 32 := by omega
  show IntKind.u32.wrap (((BitVec.ofInt 32 (IntKind.max .u32) ^^^ BitVec.ofInt 32 (a : Int)).toNat : Nat) : Int) = _
  have e2 : BitVec.ofInt 32 (IntKind.max .u32) = BitVec.allOnes 32 := by decide
  rw [e2, BitVec.ofInt_natCast, BitVec.allOnes_xor, BitVec.toNat_not, BitVec.toNat_ofNat, Nat.mod_eq_of_lt ha, IntKind.wrap_u32]
  omega
theorem wraps_u32 (n : Int) (h0 : 0 ≤ n) (h1 : n < 2 ^ 32) : IntKind.u32.wrap n = n := by rw [IntKind.wrap_u32]; omega
theorem and1_u32 {x : Int} (h0 : 0 ≤ x) (h1 : x < 4294967296) : Go.bits .and .u32 x 1 = x % 2 := bits_mask .u32 32 (by decide) wraps_u32 1 (by decide) x h0 (by omega)

/-- One step, of one bit. -/
def crcStep (x : Nat) : Nat := (x / 2) ^^^ (if x % 2 = 1 then 3988292384 else 0)
def crcSteps : Nat → Nat → Nat
  | 0, x => x
  | n + 1, x => crcSteps n (crcStep x)
def crcRun (x : Nat) : List Int → Nat
  | [] => x
  | c :: r => crcRun (crcSteps 8 (x ^^^ c.toNat)) r
def crcMore (s : Nat) (l : List Int) : Nat := 4294967295 - crcRun (4294967295 - s) l
theorem crcStep_lt {x : Nat} (h : x < 4294967296) : crcStep x < 4294967296 := by
  unfold crcStep
  exact Nat.xor_lt_two_pow (n := 32) (by omega) (by split <;> decide)
theorem crcSteps_lt (n : Nat) : ∀ {x : Nat}, x < 4294967296 → crcSteps n x < 4294967296 := by
  induction n with
  | zero => intro x h; exact h
  | succ n ih => intro x h; exact ih (crcStep_lt h)
theorem xor_byte_lt {x : Nat} {c : Int} (h : x < 4294967296) (hc : c < 256) : x ^^^ c.toNat < 4294967296 := Nat.xor_lt_two_pow (n := 32) h (by omega)
theorem crcRun_lt (l : List Int) : ∀ {x : Nat}, x < 4294967296 → (∀ c ∈ l, 0 ≤ c ∧ c < 256) → crcRun x l < 4294967296 := by
  induction l with
  | nil => intro x h _; exact h
  | cons c r ih =>
    intro x h hb
    exact ih (crcSteps_lt 8 (xor_byte_lt h (hb c (List.mem_cons_self ..)).2)) (fun d hd => hb d (List.mem_cons_of_mem _ hd))
theorem crcMore_lt (s : Nat) (l : List Int) : crcMore s l < 4294967296 := by unfold crcMore; omega
theorem crcRun_append (a b : List Int) : ∀ x, crcRun x (a ++ b) = crcRun (crcRun x a) b := by
  induction a with
  | nil => intro x; rfl
  | cons c r ih => intro x; exact ih _
theorem crcMore_append (s : Nat) (a b : List Int) (hs : s < 4294967296) (ha : ∀ c ∈ a, 0 ≤ c ∧ c < 256) : crcMore (crcMore s a) b = crcMore s (a ++ b) := by
  unfold crcMore
  rw [crcRun_append]
  have := crcRun_lt a (x := 4294967295 - s) (by omega) ha
  congr 2
  omega

/-- A sum's four bytes. -/
def four (s : Nat) : List Int := [((s / 16777216 % 256 : Nat) : Int), ((s / 65536 % 256 : Nat) : Int), ((s / 256 % 256 : Nat) : Int), ((s % 256 : Nat) : Int)]
theorem four_length (s : Nat) : (four s).length = 4 := rfl
theorem four_bytes (s : Nat) : ∀ x ∈ four s, 0 ≤ x ∧ x < 256 := by
  intro x hx
  simp only [four, List.mem_cons, List.not_mem_nil, or_false] at hx
  omega

theorem crc_bits {x : Nat} (hx : x < 4294967296) : Go.bits .xor .u32 ((x : Int) / 2) (Go.bits .and .u32 3988292384 ((-(Go.bits .and .u32 (x : Int) 1)) % 4294967296)) = ((crcStep x : Nat) : Int) := by
  rw [and1_u32 (by omega) (by omega)]
  have h0 : Go.bits .and .u32 3988292384 ((-(0 : Int)) % 4294967296) = 0 := by decide +kernel
  have h1 : Go.bits .and .u32 3988292384 ((-(1 : Int)) % 4294967296) = 3988292384 := by decide +kernel
  unfold crcStep
  by_cases h : x % 2 = 1
  · have e : (x : Int) % 2 = 1 := by omega
    rw [e, h1, xor_u32 (by omega) (by omega) (by omega) (by omega), if_pos h]
    congr 2
  · have e : (x : Int) % 2 = 0 := by omega
    rw [e, h0, xor_u32 (by omega) (by omega) (by omega) (by omega), if_neg h]
    congr 2
theorem crc_in {x : Nat} {c : Int} (hx : x < 4294967296) (hc : 0 ≤ c ∧ c < 256) : Go.bits .xor .u32 (x : Int) (c % 4294967296) = ((x ^^^ c.toNat : Nat) : Int) := by
  rw [xor_u32 (by omega) (by omega) (by omega) (by omega)]
  congr 2
  omega
theorem four_is (s : Nat) : [((s : Int) / 16777216) % 256, ((s : Int) / 65536) % 256, ((s : Int) / 256) % 256, (s : Int) % 256] = four s := by
  unfold four
  simp only [List.cons.injEq, and_true]
  omega

/-! ## strings of bytes -/
theorem strOfNums_inj {a b : List Int} (ha : ∀ x ∈ a, 0 ≤ x ∧ x < 256) (hb : ∀ x ∈ b, 0 ≤ x ∧ x < 256) (h : (strOfNums a).toList = (strOfNums b).toList) : a = b := by
  have e : ∀ l : List Int, (∀ x ∈ l, 0 ≤ x ∧ x < 256) → ((strOfNums l).data.toList).map (fun u => (u.toNat : Int)) = l := by
    intro l hl
    rw [strOfNums_data, List.map_map]
    conv => rhs; rw [← List.map_id l]
    apply List.map_congr_left
    intro x hx
    have := hl x hx
    simp only [Function.comp, id]
    rw [UInt8.toNat_ofNat']
    omega
  have h' : (strOfNums a).data.toList = (strOfNums b).data.toList := by
    rw [← ByteArray.toList_eq, ← ByteArray.toList_eq]; exact h
  rw [← e a ha, ← e b hb, h']
end Go.Proofs.Ytoamlagpnnmnhab.Spec
