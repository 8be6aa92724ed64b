/- Part of a machine of its own for this claim: the program's code over memory without draws. -/
import Derived.Test.YtodcgppcmahbkabSAmPFrame
import Derived.Test.YtodcgppcmahbkabSAmE
set_option linter.unusedVariables false
set_option linter.unusedSimpArgs false
set_option linter.unnecessarySimpa false
/- Steps of reading a number; sums: what the loops reckon, in plain Lean. -/
set_option linter.unusedSimpArgs false
namespace Go.AM
open Go
theorem bitsU8 (op:BinOp) (a b:Int):0≤Go.bits op .u8 a b∧Go.bits op .u8 a b≤255:=by
 unfold Go.bits;split <;> first | (rw[IntKind.wrap_u8];omega) | decide
theorem bitsU32 (op:BinOp) (a b:Int):0≤Go.bits op .u32 a b∧Go.bits op .u32 a b≤4294967295:=by
 unfold Go.bits;split <;> first | (rw[IntKind.wrap_u32];omega) | decide
theorem bitsU64 (op:BinOp) (a b:Int):0≤Go.bits op .u64 a b∧Go.bits op .u64 a b≤18446744073709551615:=by
 unfold Go.bits;split <;> first | (rw[Spec.wrap_u64];omega) | decide
theorem bitsI64 (op:BinOp) (a b:Int) : -9223372036854775808≤Go.bits op .i64 a b∧Go.bits op .i64 a b≤9223372036854775807:=by
 unfold Go.bits;split <;> first | (rw[IntKind.wrap_i64];omega) | decide
theorem wrapU8 (a:Int):0≤IntKind.u8.wrap a∧IntKind.u8.wrap a≤255:=by rw[IntKind.wrap_u8];omega
theorem wrapU32 (a:Int):0≤IntKind.u32.wrap a∧IntKind.u32.wrap a≤4294967295:=by rw[IntKind.wrap_u32];omega
theorem wrapU64 (a:Int):0≤IntKind.u64.wrap a∧IntKind.u64.wrap a≤18446744073709551615:=by rw[Spec.wrap_u64];omega
theorem wrapI64 (a:Int) : -9223372036854775808≤IntKind.i64.wrap a∧IntKind.i64.wrap a≤9223372036854775807:=by rw[IntKind.wrap_i64];omega
namespace Spec
theorem get_acc {u i:Nat} {c:Int} (hc:0≤c∧c<256) (hu:u<2 ^ (7 * i)) (hi:i≤9) (h:¬(i=9∧c > 1)) :
  Go.bits .or .u64 (u:Int) (shl .u64 (Go.bits .and .u8 c 127) (7 * (i:Int)))=((u+(c % 128).toNat * 2 ^ (7 * i):Nat):Int)∧u+(c % 128).toNat * 2 ^ (7 * i)<18446744073709551616∧(c > 127→u+(c % 128).toNat * 2 ^ (7 * i)<2 ^ (7 * (i+1)))∧(c≤127→(c % 128).toNat=c.toNat):=by
 have hpw:(2:Nat) ^ (7 * i)≤2 ^ 63:=Nat.pow_le_pow_right (by decide) (by omega)
 have hs:(c % 128).toNat * 2 ^ (7 * i)<2 ^ 64∧u+(c % 128).toNat * 2 ^ (7 * i)<18446744073709551616:=by
  rcases Nat.lt_or_ge i 9 with h9 | h9
  ·
   have h5:(2:Nat) ^ (7 * i)≤2 ^ 56:=Nat.pow_le_pow_right (by decide) (by omega)
   have:=Nat.mul_le_mul (show(c % 128).toNat≤127 by omega) h5
   omega
  ·
   have h10:i=9:=by omega
   subst h10
   have:=Nat.mul_le_mul (show(c % 128).toNat≤1 by omega) (Nat.le_refl (2 ^ (7 * 9)))
   omega
 have ec:(((c % 128).toNat:Nat):Int)=c % 128:=by omega
 refine⟨?_,hs.2,fun h2=>?_,fun h2=>by omega⟩
 ·
  have e:((c % 128) * 2 ^ (7 * i):Int)=(((c % 128).toNat * 2 ^ (7 * i):Nat):Int):=by
   rw[Int.natCast_mul,ec]
   simp
  rw[and127 hc.1 hc.2,show(7 * (i:Int))=((7 * i:Nat):Int) by omega,or_join (7 * i) (by omega) (by exact_mod_cast hu) (by omega) (by omega) (by rw[e];exact_mod_cast hs.1)]
  rw[Int.natCast_add,Int.natCast_mul,ec]
  simp
 ·
  have e2:2 ^ (7 * (i+1))=128 * 2 ^ (7 * i):=by rw[Nat.mul_add,Nat.pow_add,Nat.mul_comm]
  rw[e2]
  have:(c % 128).toNat * 2 ^ (7 * i)≤127 * 2 ^ (7 * i):=Nat.mul_le_mul_right _ (by omega)
  omega
theorem get_end {m:Nat} (hm:m<18446744073709551616):((Go.bits .and .u64 (m:Int) 1=1→Go.bits .xor .i64 (-1) ((m:Int) / 2)=zag m)∧(Go.bits .and .u64 (m:Int) 1≠1→(m:Int) / 2=zag m)):=by
 rw[and1_u64 (by omega) (by omega)]
 unfold zag
 refine⟨fun h=>?_,fun h=>?_⟩
 · rw[if_pos (by omega),not_i64 (by omega) (by omega)];omega
 · rw[if_neg (by omega)];omega
theorem numGet_all (l:List Int) (hb:Bytes l):((numGet 0 0 l).2.2=0 → -9223372036854775808≤(numGet 0 0 l).1∧(numGet 0 0 l).1≤9223372036854775807∧1≤(numGet 0 0 l).2.1∧(numGet 0 0 l).2.1≤10∧(numGet 0 0 l).2.1≤l.length)∧(0≤(numGet 0 0 l).2.2∧(numGet 0 0 l).2.2≤2)∧((numGet 0 0 l).2.2≠0→(numGet 0 0 l).1=0∧(numGet 0 0 l).2.1=0):=by
 refine⟨numGet_ok l hb,?_⟩
 rcases numGet_fail l hb with h | h | h
 · exact⟨by omega,fun q=>absurd h q⟩
 · rw[h];simp
 · rw[h];simp
theorem crc_one {y:Int} (h:0≤y∧y≤4294967295):Go.bits .xor .u32 (y / 2) (Go.bits .and .u32 3988292384 (IntKind.u32.wrap (0 - Go.bits .and .u32 y 1)))=((crcStep y.toNat:Nat):Int):=by
 obtain⟨x,rfl⟩:=Int.eq_ofNat_of_zero_le h.1
 rw[IntKind.wrap_u32,Int.zero_sub,Int.toNat_natCast]
 exact crc_bits (x:=x) (by omega)
theorem crc_more {x:Int} {c:Int} (h:0≤x∧x≤4294967295) (hc:0≤c∧c<256) (l:List Int):crcRun x.toNat (c :: l)=crcRun (crcSteps 8 (Go.bits .xor .u32 x c).toNat) l:=by
 rw[xor_u32 h.1 (by omega) hc.1 (by omega),Int.toNat_natCast]
 rfl
theorem crc_fin {s x:Int} {l:List Int} (hs:0≤s∧s≤4294967295) (hx:0≤x∧x≤4294967295) (h:crcRun (4294967295 - s.toNat) l=x.toNat):((crcMore s.toNat l:Nat):Int)=Go.bits .xor .u32 (IntKind.max .u32) x:=by
 rw[not_u32 hx.1 (by omega)]
 unfold crcMore
 rw[h]
 omega
end Spec
end Go.AM
