/- Part of a machine of its own for this claim: the program's code over memory without draws. -/
import Derived.Test.YtoolcbdceijjlaaGreatSAmPFrame
import Derived.Test.YtoolcbdceijjlaaGreatSAmE
set_option linter.unusedVariables false
set_option linter.unusedSimpArgs false
set_option linter.unnecessarySimpa false
/- Steps of reading a number; sums: what the loops reckon, in plain Lean. -/
set_option linter.unusedSimpArgs false
namespace Go.AM
open Go
theorem bitsU8 (op : BinOp) (a b : Int) : 0 ≤ Go.bits op .u8 a b ∧ Go.bits op .u8 a b ≤ 255 := by
  unfold Go.bits; split <;> first | (rw [IntKind.wrap_u8]; omega) | decide
theorem bitsU32 (op : BinOp) (a b : Int) : 0 ≤ Go.bits op .u32 a b ∧ Go.bits op .u32 a b ≤ 4294967295 := by
  unfold Go.bits; split <;> first | (rw [IntKind.wrap_u32]; omega) | decide
theorem bitsU64 (op : BinOp) (a b : Int) : 0 ≤ Go.bits op .u64 a b ∧ Go.bits op .u64 a b ≤ 18446744073709551615 := by
  unfold Go.bits; split <;> first | (rw [Spec.wrap_u64]; omega) | decide
theorem wrapU8 (a : Int) : 0 ≤ IntKind.u8.wrap a ∧ IntKind.u8.wrap a ≤ 255 := by rw [IntKind.wrap_u8]; omega
theorem wrapU32 (a : Int) : 0 ≤ IntKind.u32.wrap a ∧ IntKind.u32.wrap a ≤ 4294967295 := by rw [IntKind.wrap_u32]; omega
theorem wrapU64 (a : Int) : 0 ≤ IntKind.u64.wrap a ∧ IntKind.u64.wrap a ≤ 18446744073709551615 := by rw [Spec.wrap_u64]; omega
namespace Spec
theorem crc_one {y : Int} (h : 0 ≤ y ∧ y ≤ 4294967295) : Go.bits .xor .u32 (y / 2) (Go.bits .and .u32 3988292384 (IntKind.u32.wrap (0 - Go.bits .and .u32 y 1))) = ((crcStep y.toNat : Nat) : Int) := by
  obtain ⟨x, rfl⟩ := Int.eq_ofNat_of_zero_le h.1
  rw [IntKind.wrap_u32, Int.zero_sub, Int.toNat_natCast]
  exact crc_bits (x := x) (by omega)
theorem crc_more {x : Int} {c : Int} (h : 0 ≤ x ∧ x ≤ 4294967295) (hc : 0 ≤ c ∧ c < 256) (l : List Int) : crcRun x.toNat (c :: l) = crcRun (crcSteps 8 (Go.bits .xor .u32 x c).toNat) l := by
  rw [xor_u32 h.1 (by omega) hc.1 (by omega), Int.toNat_natCast]
  rfl
theorem crc_fin {s x : Int} {l : List Int} (hs : 0 ≤ s ∧ s ≤ 4294967295) (hx : 0 ≤ x ∧ x ≤ 4294967295) (h : crcRun (4294967295 - s.toNat) l = x.toNat) : ((crcMore s.toNat l : Nat) : Int) = Go.bits .xor .u32 (IntKind.max .u32) x := by
  rw [not_u32 hx.1 (by omega)]
  unfold crcMore
  rw [h]
  omega
end Spec
end Go.AM
