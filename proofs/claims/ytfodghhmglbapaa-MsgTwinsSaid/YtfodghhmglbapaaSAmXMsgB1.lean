/- Part of a machine of its own for this claim: the program's code over memory without draws. -/
import Derived.Test.YtfodghhmglbapaaSAmPMsg
import Derived.Test.YtfodghhmglbapaaSAmD
import Derived.Test.YtfodghhmglbapaaSAmE
import Derived.Test.YtfodghhmglbapaaProg
import Derived.KernelRfl
set_option linter.unusedVariables false
set_option linter.unusedSimpArgs false
set_option linter.unnecessarySimpa false
set_option linter.unusedVariables false
set_option linter.unusedSimpArgs false
set_option linter.unnecessarySimpa false
namespace Go.AM
open Go Go.Proofs

noncomputable def E0 : TypeId → Bool := eqTy Try.prog
theorem E0_ok : EqOk Try.prog E0 := eqTy_ok
theorem mixed : Try.prog.follows .mixedOrders = true := by kernel_rfl

noncomputable def X0 (f : FuncId) : List Tmp := (bif_ (Nat.ble 34 f) (bif_ (Nat.ble 51 f) (bif_ (Nat.ble 59 f) (bif_ (Nat.ble 63 f) (bif_ (Nat.ble 65 f) (bif_ (Nat.ble 66 f) (bif_ (Nat.ble 67 f) [0, 2, 3, 4, 5, 6, 7, 14, 18, 25] [0, 1, 2, 6, 8, 9, 10, 11, 12, 22]) [0, 2]) (bif_ (Nat.ble 64 f) [0, 2, 3, 4, 5, 30] [0, 2, 3, 4, 5, 30])) (bif_ (Nat.ble 61 f) (bif_ (Nat.ble 62 f) [0, 2, 3, 4, 5, 6, 7, 8, 9, 10, 11, 12, 21, 31, 37, 43] [0, 1, 4]) (bif_ (Nat.ble 60 f) [0, 1, 2] [0, 2, 3, 4, 5, 6, 7, 8, 30]))) (bif_ (Nat.ble 55 f) (bif_ (Nat.ble 57 f) (bif_ (Nat.ble 58 f) [0, 1, 2, 4] [0, 1, 2, 6, 7, 16]) (bif_ (Nat.ble 56 f) [0, 2, 4] [0, 1, 2, 3, 4])) (bif_ (Nat.ble 53 f) (bif_ (Nat.ble 54 f) [0, 2, 3, 4, 5, 6, 7, 8, 9, 10, 11, 12, 13, 14, 15, 16, 25, 59, 62, 73, 84] [0, 1, 2, 21]) (bif_ (Nat.ble 52 f) [0, 2, 3, 4, 5, 6, 7, 8, 9, 10, 19, 28, 29, 39, 72] [0, 2, 3, 4, 5])))) (bif_ (Nat.ble 42 f) (bif_ (Nat.ble 46 f) (bif_ (Nat.ble 48 f) (bif_ (Nat.ble 49 f) (bif_ (Nat.ble 50 f) [0, 2, 3, 4, 5, 6, 7, 8, 9, 10, 11, 12, 16, 28, 36, 56, 76] [0, 2, 3, 7, 37]) [0, 2]) (bif_ (Nat.ble 47 f) [0, 2] [0, 1, 4, 5, 7, 10, 11, 12, 13, 20, 21])) (bif_ (Nat.ble 44 f) (bif_ (Nat.ble 45 f) [0, 1, 2, 3, 4, 8] [0, 1, 2, 3, 4, 5, 6, 9, 28]) (bif_ (Nat.ble 43 f) [0, 2, 3, 4, 5, 7, 8, 9, 22] [0, 1, 2, 3, 4, 6, 12, 13, 14, 15, 41]))) (bif_ (Nat.ble 38 f) (bif_ (Nat.ble 40 f) (bif_ (Nat.ble 41 f) [0, 1, 4, 6, 7, 8, 9, 10, 19] [0, 2]) (bif_ (Nat.ble 39 f) [0, 1, 4, 8] [0, 1, 4, 12])) (bif_ (Nat.ble 36 f) (bif_ (Nat.ble 37 f) [0, 1, 2] [0, 1, 4, 5, 10, 14, 26]) (bif_ (Nat.ble 35 f) [0, 1, 4] [0, 2, 3, 4, 5, 6, 7, 8, 9, 10, 50, 82]))))) (bif_ (Nat.ble 17 f) (bif_ (Nat.ble 25 f) (bif_ (Nat.ble 29 f) (bif_ (Nat.ble 31 f) (bif_ (Nat.ble 32 f) (bif_ (Nat.ble 33 f) [0, 2, 3, 4, 5, 6, 7, 8, 9, 13, 24] [0, 1, 2]) [0, 2, 3, 4, 5, 9, 22]) (bif_ (Nat.ble 30 f) [0, 1, 2, 3, 4] [0, 1, 2])) (bif_ (Nat.ble 27 f) (bif_ (Nat.ble 28 f) [0, 2] [0, 2]) (bif_ (Nat.ble 26 f) [0, 1, 4, 5, 10, 14] [0, 1, 4, 5, 6, 17]))) (bif_ (Nat.ble 21 f) (bif_ (Nat.ble 23 f) (bif_ (Nat.ble 24 f) [0, 1, 2, 3, 4, 6, 8, 10, 29, 30, 31, 32, 40, 41, 42, 43, 54] [0, 1, 2, 4, 47, 59, 62]) (bif_ (Nat.ble 22 f) [0, 1, 2] [0, 1, 4, 5, 6, 7, 16])) (bif_ (Nat.ble 19 f) (bif_ (Nat.ble 20 f) [0, 1, 4, 5, 6, 7] [0, 1, 4, 5, 13]) (bif_ (Nat.ble 18 f) [0, 2, 4] [0, 1, 3, 4, 19])))) (bif_ (Nat.ble 8 f) (bif_ (Nat.ble 12 f) (bif_ (Nat.ble 14 f) (bif_ (Nat.ble 15 f) (bif_ (Nat.ble 16 f) [0] [0, 1, 4, 8]) [0, 1, 2, 3, 4]) (bif_ (Nat.ble 13 f) [0, 2, 3, 4, 6, 7, 8, 9, 10, 11, 17, 18, 19, 20, 25, 51] [0, 1, 2, 3, 4, 5, 7, 61, 84, 91, 124, 129])) (bif_ (Nat.ble 10 f) (bif_ (Nat.ble 11 f) [0, 1, 2, 3, 4, 5, 8, 17] [0, 1, 2]) (bif_ (Nat.ble 9 f) [0, 1, 2, 3, 4, 6] [0, 2, 3, 4, 5, 6, 7, 9, 10, 13, 25, 47]))) (bif_ (Nat.ble 4 f) (bif_ (Nat.ble 6 f) (bif_ (Nat.ble 7 f) [0, 2, 3, 4, 5, 8, 14, 18, 27] [0, 1, 2, 6, 7, 8, 9, 10, 11, 12, 13, 14, 17, 27, 32, 63, 65]) (bif_ (Nat.ble 5 f) [0, 1, 2, 3, 4, 5, 8, 20] [0, 2, 3, 4, 5, 8, 17])) (bif_ (Nat.ble 2 f) (bif_ (Nat.ble 3 f) [0, 1, 2, 3, 4, 5, 10, 11, 12, 13, 14, 15, 18, 31, 41, 62, 70, 82, 88] []) [])))))

theorem ElemInfo.mk45 : ∃ i, Try.prog.info? 45 = some i ∧ i.size = 4 ∧ i.bytes = 40 ∧ (i.zero.map fun z => z.cells.size) = some 4 := elemInfo (by kernel_rfl)
theorem ElemInfo.mk5 : ∃ i, Try.prog.info? 5 = some i ∧ i.size = 1 ∧ i.bytes = 1 ∧ (i.zero.map fun z => z.cells.size) = some 1 := elemInfo (by kernel_rfl)
theorem ElemInfo.mk3 : ∃ i, Try.prog.info? 3 = some i ∧ i.size = 1 ∧ i.bytes = 8 ∧ (i.zero.map fun z => z.cells.size) = some 1 := elemInfo (by kernel_rfl)
theorem ElemInfo.mk2 : ∃ i, Try.prog.info? 2 = some i ∧ i.size = 1 ∧ i.bytes = 8 ∧ (i.zero.map fun z => z.cells.size) = some 1 := elemInfo (by kernel_rfl)
theorem zf2 : ∃ i z, Try.prog.info? 2 = some i ∧ i.zero = some z ∧ z.cells.toList.all flat = true := zeroFlat (by kernel_rfl)
theorem zf3 : ∃ i z, Try.prog.info? 3 = some i ∧ i.zero = some z ∧ z.cells.toList.all flat = true := zeroFlat (by kernel_rfl)
theorem zf45 : ∃ i z, Try.prog.info? 45 = some i ∧ i.zero = some z ∧ z.cells.toList.all flat = true := zeroFlat (by kernel_rfl)
theorem zf5 : ∃ i z, Try.prog.info? 5 = some i ∧ i.zero = some z ∧ z.cells.toList.all flat = true := zeroFlat (by kernel_rfl)
theorem el22 : elemIs Try.prog 22 4 = true := by kernel_rfl
theorem el29 : elemIs Try.prog 29 1 = true := by kernel_rfl
theorem el56 : elemIs Try.prog 56 1 = true := by kernel_rfl
theorem el77 : elemIs Try.prog 77 1 = true := by kernel_rfl
theorem ent11 : enters Try.prog 11 = true := by kernel_rfl
theorem ent21 : enters Try.prog 21 = true := by kernel_rfl
theorem ent22 : enters Try.prog 22 = true := by kernel_rfl
theorem ent23 : enters Try.prog 23 = true := by kernel_rfl
theorem ent24 : enters Try.prog 24 = true := by kernel_rfl
theorem ent25 : enters Try.prog 25 = true := by kernel_rfl
theorem ent26 : enters Try.prog 26 = true := by kernel_rfl
theorem ent27 : enters Try.prog 27 = true := by kernel_rfl
theorem ent28 : enters Try.prog 28 = true := by kernel_rfl
theorem ent29 : enters Try.prog 29 = true := by kernel_rfl
theorem ent30 : enters Try.prog 30 = true := by kernel_rfl
theorem ent31 : enters Try.prog 31 = true := by kernel_rfl
theorem ent32 : enters Try.prog 32 = true := by kernel_rfl
theorem ent36 : enters Try.prog 36 = true := by kernel_rfl
theorem ent39 : enters Try.prog 39 = true := by kernel_rfl
theorem ent40 : enters Try.prog 40 = true := by kernel_rfl
theorem ent41 : enters Try.prog 41 = true := by kernel_rfl
theorem ent42 : enters Try.prog 42 = true := by kernel_rfl
theorem ent43 : enters Try.prog 43 = true := by kernel_rfl
theorem ent44 : enters Try.prog 44 = true := by kernel_rfl
theorem ent45 : enters Try.prog 45 = true := by kernel_rfl
theorem ent46 : enters Try.prog 46 = true := by kernel_rfl
theorem ent47 : enters Try.prog 47 = true := by kernel_rfl
theorem ent48 : enters Try.prog 48 = true := by kernel_rfl
theorem ent49 : enters Try.prog 49 = true := by kernel_rfl
theorem ent55 : enters Try.prog 55 = true := by kernel_rfl
theorem ent58 : enters Try.prog 58 = true := by kernel_rfl
theorem ent59 : enters Try.prog 59 = true := by kernel_rfl
theorem ent60 : enters Try.prog 60 = true := by kernel_rfl
theorem ent61 : enters Try.prog 61 = true := by kernel_rfl
theorem ent66 : enters Try.prog 66 = true := by kernel_rfl
theorem eok22 : ElemOk Try.prog 22 45 4 40 := ⟨Try.underlying22, ElemInfo.mk45⟩
theorem eok29 : ElemOk Try.prog 29 5 1 1 := ⟨Try.underlying29, ElemInfo.mk5⟩
theorem eok56 : ElemOk Try.prog 56 3 1 8 := ⟨Try.underlying56, ElemInfo.mk3⟩
theorem eok77 : ElemOk Try.prog 77 2 1 8 := ⟨Try.underlying77, ElemInfo.mk2⟩
theorem eqt24 : E0 24 = true := by kernel_rfl
theorem eqt45 : E0 45 = true := by kernel_rfl
theorem eqt80 : E0 80 = true := by kernel_rfl
theorem fa24_0 : fieldIs Try.prog 24 0 0 = true := by kernel_rfl
theorem fa24_1 : fieldIs Try.prog 24 1 1 = true := by kernel_rfl
theorem fa24_2 : fieldIs Try.prog 24 2 2 = true := by kernel_rfl
theorem fa24_3 : fieldIs Try.prog 24 3 3 = true := by kernel_rfl
theorem fa26_0 : fieldIs Try.prog 26 0 0 = true := by kernel_rfl
theorem fa26_1 : fieldIs Try.prog 26 1 1 = true := by kernel_rfl
theorem fa26_2 : fieldIs Try.prog 26 2 2 = true := by kernel_rfl
theorem fa26_3 : fieldIs Try.prog 26 3 3 = true := by kernel_rfl
theorem fa26_4 : fieldIs Try.prog 26 4 4 = true := by kernel_rfl
theorem fa26_5 : fieldIs Try.prog 26 5 5 = true := by kernel_rfl
theorem fa26_6 : fieldIs Try.prog 26 6 6 = true := by kernel_rfl
theorem fa26_7 : fieldIs Try.prog 26 7 7 = true := by kernel_rfl
theorem fa26_8 : fieldIs Try.prog 26 8 8 = true := by kernel_rfl
theorem fa26_9 : fieldIs Try.prog 26 9 9 = true := by kernel_rfl
theorem fa45_0 : fieldIs Try.prog 45 0 0 = true := by kernel_rfl
theorem fa45_1 : fieldIs Try.prog 45 1 1 = true := by kernel_rfl
theorem fa45_2 : fieldIs Try.prog 45 2 2 = true := by kernel_rfl
theorem fa45_3 : fieldIs Try.prog 45 3 3 = true := by kernel_rfl
theorem fa80_0 : fieldIs Try.prog 80 0 0 = true := by kernel_rfl
theorem fa80_1 : fieldIs Try.prog 80 1 1 = true := by kernel_rfl
theorem fa82_0 : fieldIs Try.prog 82 0 0 = true := by kernel_rfl
theorem fa82_1 : fieldIs Try.prog 82 1 1 = true := by kernel_rfl
theorem fa82_2 : fieldIs Try.prog 82 2 3 = true := by kernel_rfl
theorem fit24 (a0 : Int) (a1 : Int) (a2 : ByteArray) (a3 : ByteArray) : fitAgg Try.prog 24 [.int .i64 a0, .int .i64 a1, .string a2, .string a3] = true := by kernel_rfl
theorem fit45 (a0 : Int) (a1 : Int) (a2 : Int) (a3 : ByteArray) : fitAgg Try.prog 45 [.int .i64 a0, .int .i64 a1, .int .i64 a2, .string a3] = true := by kernel_rfl
theorem fit80 (a0 : Int) (a1 : Int) : fitAgg Try.prog 80 [.int .i64 a0, .int .i64 a1] = true := by kernel_rfl
theorem isbool4 : isBoolT Try.prog 4 = true := by kernel_rfl
theorem isrow22 : isRow Try.prog (some 22) = true := by kernel_rfl
theorem isrow29 : isRow Try.prog (some 29) = true := by kernel_rfl
theorem isrow56 : isRow Try.prog (some 56) = true := by kernel_rfl
theorem isrow9 : isRow Try.prog (some 9) = true := by kernel_rfl
theorem isstr_9 : isStr Try.prog 9 = true := by kernel_rfl
theorem many24 : manyB Try.prog 24 4 = true := by kernel_rfl
theorem many26 : manyB Try.prog 26 13 = true := by kernel_rfl
theorem many45 : manyB Try.prog 45 4 = true := by kernel_rfl
theorem many80 : manyB Try.prog 80 2 = true := by kernel_rfl
theorem many82 : manyB Try.prog 82 7 = true := by kernel_rfl
theorem one2 : oneB Try.prog 2 = true := by kernel_rfl
theorem one22 : oneB Try.prog 22 = true := by kernel_rfl
theorem one3 : oneB Try.prog 3 = true := by kernel_rfl
theorem one4 : oneB Try.prog 4 = true := by kernel_rfl
theorem one5 : oneB Try.prog 5 = true := by kernel_rfl
theorem one9 : oneB Try.prog 9 = true := by kernel_rfl
theorem pl24 : placesOf Try.prog 24 = some [(0, 1), (1, 1), (2, 1), (3, 1)] := by kernel_rfl
theorem pl45 : placesOf Try.prog 45 = some [(0, 1), (1, 1), (2, 1), (3, 1)] := by kernel_rfl
theorem pl80 : placesOf Try.prog 80 = some [(0, 1), (1, 1)] := by kernel_rfl
theorem pl82 : placesOf Try.prog 82 = some [(0, 1), (1, 2), (3, 4)] := by kernel_rfl
theorem size22 : sizeIs Try.prog 22 1 = true := by kernel_rfl
theorem size24 : sizeIs Try.prog 24 4 = true := by kernel_rfl
theorem size26 : sizeIs Try.prog 26 13 = true := by kernel_rfl
theorem size45 : sizeIs Try.prog 45 4 = true := by kernel_rfl
theorem size9 : sizeIs Try.prog 9 1 = true := by kernel_rfl
theorem slu8_29 : slU8 Try.prog 29 = true := by kernel_rfl
theorem zero24 : ZeroIs Try.prog 24 [.int .i64 0, .int .i64 0, .string (⟨#[]⟩), .string (⟨#[]⟩)] := ⟨.agg #[.int .i64 0, .int .i64 0, .string (⟨#[]⟩), .string (⟨#[]⟩)], by kernel_rfl, rfl, rfl, rfl⟩
theorem zero26 : ZeroIs Try.prog 26 [.int .i64 0, .int .i64 0, .int .i64 0, .int .i64 0, .int .i64 0, .int .i64 0, .int .i64 0, .bool false, .slice none 0 0, .int .i64 0, .int .i64 0, .string (⟨#[]⟩), .string (⟨#[]⟩)] := ⟨.agg #[.int .i64 0, .int .i64 0, .int .i64 0, .int .i64 0, .int .i64 0, .int .i64 0, .int .i64 0, .bool false, .slice none 0 0, .int .i64 0, .int .i64 0, .string (⟨#[]⟩), .string (⟨#[]⟩)], by kernel_rfl, rfl, rfl, rfl⟩
theorem zero45 : ZeroIs Try.prog 45 [.int .i64 0, .int .i64 0, .int .i64 0, .string (⟨#[]⟩)] := ⟨.agg #[.int .i64 0, .int .i64 0, .int .i64 0, .string (⟨#[]⟩)], by kernel_rfl, rfl, rfl, rfl⟩
theorem zero80 : ZeroIs Try.prog 80 [.int .i64 0, .int .i64 0] := ⟨.agg #[.int .i64 0, .int .i64 0], by kernel_rfl, rfl, rfl, rfl⟩
theorem zero82 : ZeroIs Try.prog 82 [.bool false, .int .i64 0, .int .i64 0, .int .i64 0, .int .i64 0, .int .i64 0, .string (⟨#[]⟩)] := ⟨.agg #[.bool false, .int .i64 0, .int .i64 0, .int .i64 0, .int .i64 0, .int .i64 0, .string (⟨#[]⟩)], by kernel_rfl, rfl, rfl, rfl⟩
theorem crc_More_spec (H : Heap) (s : Int) (hs : 0 ≤ s ∧ s ≤ 4294967295) (bA : Option Addr) (b : List Int) (bc : Nat) (hb : Row H bA bc 1 (b.map u8c)) (cb : b.length ≤ bc) (lb : b.length ≤ 1099511627776) (bb : Spec.Bytes b) : ∃ v H', Spec Try.prog 46 [.int .u32 s, .slice bA b.length bc] H v H' ∧ ((v = .int .u32 ((Spec.crcMore s.toNat b : Nat) : Int)) ∧ (0 ≤ ((Spec.crcMore s.toNat b : Nat) : Int) ∧ ((Spec.crcMore s.toNat b : Nat) : Int) ≤ 4294967295) ∧ (Ext H H')) := by
 refine spec_go2 E0_ok 33 (f := 46) Try.func46 rfl rfl rfl ?_
 refine aw_seq ?_
 refine aw_reg ?_
 refine st_op (ev_assign rfl) rfl rfl rfl ?_
 try show aw _ _ _ _ _ _
 refine aw_seq ?_
 refine aw_reg ?_
 refine st_op (ev_move rfl) rfl rfl rfl ?_
 have hw1 : 0 ≤ (Go.bits .xor .u32 (IntKind.max .u32) s) ∧ (Go.bits .xor .u32 (IntKind.max .u32) s) ≤ 4294967295 := bitsU32 _ _ _
 refine st_op (ev_comU rfl rfl) rfl rfl rfl ?_
 refine st_op (ev_assign rfl) rfl rfl rfl ?_
 try show aw _ _ _ _ _ _
 iterate 2 refine aw_seq ?_
 refine aw_reg ?_
 refine st_op (ev_move rfl) rfl rfl rfl ?_
 refine st_op (ev_lenSl rfl Try.underlying29) rfl rfl rfl ?_
 refine st_op (ev_move rfl) rfl rfl rfl ?_
 try show aw _ _ _ _ _ _
 refine aw_block ?_
 refine aw_keep [5, 10, 11, 12] (l' := (.cons 5 (.int .u32 (Go.bits .xor .u32 (IntKind.max .u32) s)) (.cons 10 (.slice bA b.length bc) (.cons 11 (.int .i64 (b.length : Int)) (.cons 12 (.int .i64 0) .nil))))) (by repeat (first | exact Up.done | refine Up.then ?_ | refine Up.inBlock ?_)) rfl ?_
 refine aw_iter (α := Nat × Int × Heap) (fun a => b.length - a.1) (fun a => (.cons 5 (.int .u32 a.2.1) (.cons 10 (.slice bA b.length bc) (.cons 11 (.int .i64 (b.length : Int)) (.cons 12 (.int .i64 (a.1 : Int)) .nil))))) (fun a => a.2.2) (fun a => (a.1 ≤ b.length) ∧ (Spec.crcRun (4294967295 - s.toNat) b = Spec.crcRun a.2.1.toNat (b.drop a.1)) ∧ (0 ≤ a.2.1 ∧ a.2.1 ≤ 4294967295) ∧ (Ext H a.2.2)) (0, (Go.bits .xor .u32 (IntKind.max .u32) s), H) ⟨(show 0 ≤ b.length from Nat.zero_le _), (show Spec.crcRun (4294967295 - s.toNat) b = Spec.crcRun (Go.bits .xor .u32 (IntKind.max .u32) s).toNat (b.drop 0) from (by first | rfl | (rw [Spec.not_u32 hs.1 (by omega), List.drop_zero]; congr 1; omega))), (show 0 ≤ (Go.bits .xor .u32 (IntKind.max .u32) s) ∧ (Go.bits .xor .u32 (IntKind.max .u32) s) ≤ 4294967295 from ⟨by omega, by omega⟩), (show Ext H H from (Ext.refl H))⟩ ?_
 rintro ⟨i, x, Hl2⟩ ⟨hi, hx, hn3, hxl4⟩ ih5
 replace hi : i ≤ b.length := hi
 replace hx : Spec.crcRun (4294967295 - s.toNat) b = Spec.crcRun x.toNat (b.drop i) := hx
 replace hn3 : 0 ≤ x ∧ x ≤ 4294967295 := hn3
 replace hxl4 : Ext H Hl2 := hxl4
 show aw _ _ _ (RL _ (.cons 5 (.int .u32 x) (.cons 10 (.slice bA b.length bc) (.cons 11 (.int .i64 (b.length : Int)) (.cons 12 (.int .i64 (i : Int)) .nil))))) Hl2 _
 have Hl2n : H.next ≤ Hl2.next := hxl4.1
 refine aw_seq ?_
 refine aw_reg ?_
 refine st_op (ev_int rfl rfl rfl) rfl rfl rfl ?_
 try show aw _ _ _ _ _ _
 refine aw_seq ?_
 by_cases hc6 : (decide ((i : Int) < (b.length : Int))) = true
 ·
  refine aw_condT hc6 rfl ?_
  try show aw _ _ _ _ _ _
  have hc6 := of_decide_eq_true hc6
  refine aw_skip ?_
  try show aw _ _ _ _ _ _
  refine aw_seq ?_
  refine aw_block ?_
  refine aw_seq ?_
  refine aw_reg ?_
  have h7 := Row.ext hb hxl4
  have hi8 : 0 ≤ ((i : Int) : Int) := by omega
  have hi9 : ((i : Int) : Int) < ((b.length : Nat) : Int) := by omega
  obtain ⟨x10, hx11⟩ : ∃ e, b[i]? = some e := ⟨_, List.getElem?_eq_getElem (by omega)⟩
  have x10b : 0 ≤ x10 ∧ x10 < 256 := ((by assumption) : Spec.Bytes b) _ (List.mem_of_getElem? hx11)
  refine st_op (ev_at rfl rfl h7 (getMap u8c hx11) (by first | rfl | omega | simp) hi8 hi9 el29) rfl rfl rfl ?_
  refine st_op (ev_atL rfl h7 (getMap u8c hx11) one5 rfl) rfl rfl rfl ?_
  refine st_op (ev_assign rfl) rfl rfl rfl ?_
  try show aw _ _ _ _ _ _
  refine aw_seq ?_
  refine aw_reg ?_
  iterate 2 refine st_op (ev_move rfl) rfl rfl rfl ?_
  refine st_op (ev_convI Try.underlying5 Try.underlying83 rfl (wrU32 (by omega) (by omega))) rfl rfl rfl ?_
  have hw12 : 0 ≤ (Go.bits .xor .u32 x x10) ∧ (Go.bits .xor .u32 x x10) ≤ 4294967295 := bitsU32 _ _ _
  refine st_op (ev_bits rfl rfl rfl) rfl rfl rfl ?_
  refine st_op (ev_assign rfl) rfl rfl rfl ?_
  try show aw _ _ _ _ _ _
  refine aw_seq ?_
  refine aw_reg ?_
  refine st_op (ev_move rfl) rfl rfl rfl ?_
  try show aw _ _ _ _ _ _
  refine aw_block ?_
  refine aw_keep [5, 10, 11, 12, 20] (l' := (.cons 5 (.int .u32 (Go.bits .xor .u32 x x10)) (.cons 10 (.slice bA b.length bc) (.cons 11 (.int .i64 (b.length : Int)) (.cons 12 (.int .i64 (i : Int)) (.cons 20 (.int .i64 0) .nil)))))) (by repeat (first | exact Up.done | refine Up.then ?_ | refine Up.inBlock ?_)) rfl ?_
  refine aw_iter (α := Nat × Int × Heap) (fun a => 8 - a.1) (fun a => (.cons 5 (.int .u32 a.2.1) (.cons 10 (.slice bA b.length bc) (.cons 11 (.int .i64 (b.length : Int)) (.cons 12 (.int .i64 (i : Int)) (.cons 20 (.int .i64 (a.1 : Int)) .nil)))))) (fun a => a.2.2) (fun a => (a.1 ≤ 8) ∧ (Spec.crcSteps 8 (Go.bits .xor .u32 x x10).toNat = Spec.crcSteps (8 - a.1) a.2.1.toNat) ∧ (0 ≤ a.2.1 ∧ a.2.1 ≤ 4294967295) ∧ (Ext Hl2 a.2.2)) (0, (Go.bits .xor .u32 x x10), Hl2) ⟨(show 0 ≤ 8 from (by decide)), (show Spec.crcSteps 8 (Go.bits .xor .u32 x x10).toNat = Spec.crcSteps (8 - 0) (Go.bits .xor .u32 x x10).toNat from rfl), (show 0 ≤ (Go.bits .xor .u32 x x10) ∧ (Go.bits .xor .u32 x x10) ≤ 4294967295 from ⟨by omega, by omega⟩), (show Ext Hl2 Hl2 from (Ext.refl Hl2))⟩ ?_
  rintro ⟨j, y, Hl13⟩ ⟨hj, hy, hn14, hxl15⟩ ih16
  replace hj : j ≤ 8 := hj
  replace hy : Spec.crcSteps 8 (Go.bits .xor .u32 x x10).toNat = Spec.crcSteps (8 - j) y.toNat := hy
  replace hn14 : 0 ≤ y ∧ y ≤ 4294967295 := hn14
  replace hxl15 : Ext Hl2 Hl13 := hxl15
  show aw _ _ _ (RL _ (.cons 5 (.int .u32 y) (.cons 10 (.slice bA b.length bc) (.cons 11 (.int .i64 (b.length : Int)) (.cons 12 (.int .i64 (i : Int)) (.cons 20 (.int .i64 (j : Int)) .nil)))))) Hl13 _
  have Hl13n : Hl2.next ≤ Hl13.next := hxl15.1
  have hn : 0 ≤ y ∧ y ≤ 4294967295 := by omega
  refine aw_seq ?_
  refine aw_reg ?_
  refine st_op (ev_int rfl rfl rfl) rfl rfl rfl ?_
  try show aw _ _ _ _ _ _
  refine aw_seq ?_
  by_cases hc17 : (decide ((j : Int) < 8)) = true
  ·
   refine aw_condT hc17 rfl ?_
   try show aw _ _ _ _ _ _
   have hc17 := of_decide_eq_true hc17
   refine aw_skip ?_
   try show aw _ _ _ _ _ _
   refine aw_seq ?_
   refine aw_block ?_
   refine aw_reg ?_
   refine st_op (ev_move rfl) rfl rfl rfl ?_
   refine st_op (ev_shr (a := y) (c := 2) rfl rfl (by decide) (by decide)) rfl rfl rfl ?_
   refine st_op (ev_move rfl) rfl rfl rfl ?_
   have hw18 : 0 ≤ (Go.bits .and .u32 y 1) ∧ (Go.bits .and .u32 y 1) ≤ 4294967295 := bitsU32 _ _ _
   refine st_op (ev_bits rfl rfl rfl) rfl rfl rfl ?_
   have hw19 : 0 ≤ (IntKind.u32.wrap (0 - (Go.bits .and .u32 y 1))) ∧ (IntKind.u32.wrap (0 - (Go.bits .and .u32 y 1))) ≤ 4294967295 := wrapU32 _
   refine st_op (ev_neg rfl) rfl rfl rfl ?_
   have hw20 : 0 ≤ (Go.bits .and .u32 3988292384 (IntKind.u32.wrap (0 - (Go.bits .and .u32 y 1)))) ∧ (Go.bits .and .u32 3988292384 (IntKind.u32.wrap (0 - (Go.bits .and .u32 y 1)))) ≤ 4294967295 := bitsU32 _ _ _
   refine st_op (ev_bits rfl rfl rfl) rfl rfl rfl ?_
   have hw21 : 0 ≤ (Go.bits .xor .u32 (y / 2) (Go.bits .and .u32 3988292384 (IntKind.u32.wrap (0 - (Go.bits .and .u32 y 1))))) ∧ (Go.bits .xor .u32 (y / 2) (Go.bits .and .u32 3988292384 (IntKind.u32.wrap (0 - (Go.bits .and .u32 y 1))))) ≤ 4294967295 := bitsU32 _ _ _
   refine st_op (ev_bits rfl rfl rfl) rfl rfl rfl ?_
   refine st_op (ev_assign rfl) rfl rfl rfl ?_
   try show aw _ _ _ _ _ _
   refine aw_reg ?_
   refine st_op (ev_int64 (c := (j : Int) + 1) rfl rfl rfl (by omega) (by omega)) rfl rfl rfl ?_
   refine st_op (ev_move rfl) rfl rfl rfl ?_
   try show aw _ _ _ _ _ _
   refine aw_keep [5, 10, 11, 12, 20] (l' := (.cons 5 (.int .u32 (Go.bits .xor .u32 (y / 2) (Go.bits .and .u32 3988292384 (IntKind.u32.wrap (0 - (Go.bits .and .u32 y 1)))))) (.cons 10 (.slice bA b.length bc) (.cons 11 (.int .i64 (b.length : Int)) (.cons 12 (.int .i64 (i : Int)) (.cons 20 (.int .i64 ((j : Int) + 1)) .nil)))))) (by repeat (first | exact Up.done | refine Up.then ?_ | refine Up.inBlock ?_)) rfl ?_
   exact ih16 (j + 1, (Go.bits .xor .u32 (y / 2) (Go.bits .and .u32 3988292384 (IntKind.u32.wrap (0 - (Go.bits .and .u32 y 1))))), Hl13) ⟨(show (j + 1) ≤ 8 from (by omega)), (show Spec.crcSteps 8 (Go.bits .xor .u32 x x10).toNat = Spec.crcSteps (8 - (j + 1)) (Go.bits .xor .u32 (y / 2) (Go.bits .and .u32 3988292384 (IntKind.u32.wrap (0 - (Go.bits .and .u32 y 1))))).toNat from (by rw [hy, show 8 - j = (8 - (j + 1)) + 1 by omega]; show Spec.crcSteps (8 - (j + 1)) (Spec.crcStep y.toNat) = _; congr 1; rw [Spec.crc_one hn]; rfl)), (show 0 ≤ (Go.bits .xor .u32 (y / 2) (Go.bits .and .u32 3988292384 (IntKind.u32.wrap (0 - (Go.bits .and .u32 y 1))))) ∧ (Go.bits .xor .u32 (y / 2) (Go.bits .and .u32 3988292384 (IntKind.u32.wrap (0 - (Go.bits .and .u32 y 1))))) ≤ 4294967295 from ⟨by omega, by omega⟩), (show Ext Hl2 Hl13 from hxl15)⟩ (by simp only; omega)
  ·
   rw [Bool.not_eq_true] at hc17; refine aw_condF hc17 rfl ?_
   try show aw _ _ _ _ _ _
   have hc17 := of_decide_eq_false hc17
   refine aw_exit ?_
   try show aw _ _ _ _ _ _
   refine aw_reg ?_
   refine st_op (ev_int64 (c := (i : Int) + 1) rfl rfl rfl (by omega) (by omega)) rfl rfl rfl ?_
   refine st_op (ev_move rfl) rfl rfl rfl ?_
   try show aw _ _ _ _ _ _
   have hx22 : Ext H Hl13 := (Ext.trans hxl4 hxl15)
   refine aw_keep [5, 10, 11, 12] (l' := (.cons 5 (.int .u32 y) (.cons 10 (.slice bA b.length bc) (.cons 11 (.int .i64 (b.length : Int)) (.cons 12 (.int .i64 ((i : Int) + 1)) .nil))))) (by repeat (first | exact Up.done | refine Up.then ?_ | refine Up.inBlock ?_)) rfl ?_
   exact ih5 (i + 1, y, Hl13) ⟨(show (i + 1) ≤ b.length from (by omega)), (show Spec.crcRun (4294967295 - s.toNat) b = Spec.crcRun y.toNat (b.drop (i + 1)) from (by rw [hx, drop_at hx11, Spec.crc_more (by omega) x10b, hy, show 8 - j = 0 by omega]; rfl)), (show 0 ≤ y ∧ y ≤ 4294967295 from ⟨by omega, by omega⟩), (show Ext H Hl13 from hx22)⟩ (by simp only; omega)
 ·
  rw [Bool.not_eq_true] at hc6; refine aw_condF hc6 rfl ?_
  try show aw _ _ _ _ _ _
  have hc6 := of_decide_eq_false hc6
  refine aw_exit ?_
  try show aw _ _ _ _ _ _
  refine aw_seq ?_
  refine aw_reg ?_
  refine st_op (ev_move rfl) rfl rfl rfl ?_
  have hw23 : 0 ≤ (Go.bits .xor .u32 (IntKind.max .u32) x) ∧ (Go.bits .xor .u32 (IntKind.max .u32) x) ≤ 4294967295 := bitsU32 _ _ _
  refine st_op (ev_comU rfl rfl) rfl rfl rfl ?_
  refine st_op (ev_assign rfl) rfl rfl rfl ?_
  try show aw _ _ _ _ _ _
  refine aw_ret ?_
  have hres : ((Spec.crcMore s.toNat b : Nat) : Int) = (Go.bits .xor .u32 (IntKind.max .u32) x) := by exact Spec.crc_fin hs (by omega) (by rw [hx, List.drop_eq_nil_of_le (by omega)]; rfl)
  exact ⟨.int .u32 (Go.bits .xor .u32 (IntKind.max .u32) x), rfl, by first | (rw [hres]; done) | rw [← hres], (by exact ⟨by omega, by have := Spec.crcMore_lt s.toNat b; omega⟩), hxl4⟩
theorem crc_Sum_spec (H : Heap) (bA : Option Addr) (b : List Int) (bc : Nat) (hb : Row H bA bc 1 (b.map u8c)) (cb : b.length ≤ bc) (lb : b.length ≤ 1099511627776) (bb : Spec.Bytes b) : ∃ v H', Spec Try.prog 47 [.slice bA b.length bc] H v H' ∧ ((v = .int .u32 ((Spec.crcMore 0 b : Nat) : Int)) ∧ (0 ≤ ((Spec.crcMore 0 b : Nat) : Int) ∧ ((Spec.crcMore 0 b : Nat) : Int) ≤ 4294967295) ∧ (Ext H H')) := by
 refine spec_go1 E0_ok 5 (f := 47) Try.func47 rfl rfl rfl ?_
 refine aw_seq ?_
 refine aw_reg ?_
 refine st_op (ev_assign rfl) rfl rfl rfl ?_
 try show aw _ _ _ _ _ _
 refine aw_seq ?_
 refine aw_reg ?_
 refine st_op (ev_move rfl) rfl rfl rfl ?_
 refine st_call rfl rfl rfl ent46 rfl rfl rfl ?_
 obtain ⟨_, H2, hs1, hs1v, hq4, hx3⟩ := crc_More_spec H 0 (by decide) bA b bc hb cb (by omega) (by assumption)
 rw [hs1v] at hs1; clear hs1v
 refine ⟨_, H2, hs1, ?_⟩
 have H2n : H.next ≤ H2.next := hx3.1
 refine st_op (ev_assign rfl) rfl rfl rfl ?_
 try show aw _ _ _ _ _ _
 refine aw_ret ?_
 have hres : ((Spec.crcMore 0 b : Nat) : Int) = ((Spec.crcMore (0 : Int).toNat b : Nat) : Int) := by rfl
 exact ⟨.int .u32 ((Spec.crcMore (0 : Int).toNat b : Nat) : Int), rfl, by first | (rw [hres]; done) | rw [← hres], (by exact ⟨by omega, by have := Spec.crcMore_lt 0 b; omega⟩), hx3⟩
theorem num_Four_spec (H : Heap) (s : Int) (hs : 0 ≤ s ∧ s ≤ 4294967295) : ∃ v H', Spec Try.prog 48 [.int .u32 s] H v H' ∧ (∃ rA0 rc0, (v = .slice rA0 ((Spec.four s.toNat).length) rc0) ∧ (My H H' rA0 rc0 1 ((Spec.four s.toNat).map u8c)) ∧ (((Spec.four s.toNat)).length = 4) ∧ (Ext H H')) := by
 refine spec_go1 E0_ok 15 (f := 48) Try.func48 rfl rfl rfl ?_
 refine aw_seq ?_
 refine aw_reg ?_
 refine st_op (ev_assign rfl) rfl rfl rfl ?_
 try show aw _ _ _ _ _ _
 refine aw_seq ?_
 refine aw_reg ?_
 refine st_op (ev_move rfl) rfl rfl rfl ?_
 refine st_op (ev_shr (a := s) (c := 16777216) rfl rfl (by decide) (by decide)) rfl rfl rfl ?_
 refine st_op (ev_convI Try.underlying83 Try.underlying5 rfl (wrU8 (by omega) (by omega))) rfl rfl rfl ?_
 refine st_op (ev_move rfl) rfl rfl rfl ?_
 refine st_op (ev_shr (a := s) (c := 65536) rfl rfl (by decide) (by decide)) rfl rfl rfl ?_
 have hw1 : 0 ≤ (IntKind.u8.wrap (s / 65536)) ∧ (IntKind.u8.wrap (s / 65536)) ≤ 255 := wrapU8 _
 refine st_op (ev_convInt Try.underlying83 Try.underlying5 rfl) rfl rfl rfl ?_
 refine st_op (ev_move rfl) rfl rfl rfl ?_
 refine st_op (ev_shr (a := s) (c := 256) rfl rfl (by decide) (by decide)) rfl rfl rfl ?_
 have hw2 : 0 ≤ (IntKind.u8.wrap (s / 256)) ∧ (IntKind.u8.wrap (s / 256)) ≤ 255 := wrapU8 _
 refine st_op (ev_convInt Try.underlying83 Try.underlying5 rfl) rfl rfl rfl ?_
 refine st_op (ev_move rfl) rfl rfl rfl ?_
 have hw3 : 0 ≤ (IntKind.u8.wrap s) ∧ (IntKind.u8.wrap s) ≤ 255 := wrapU8 _
 refine st_op (ev_convInt Try.underlying83 Try.underlying5 rfl) rfl rfl rfl ?_
 obtain ⟨b4, H5, he6, b4e, H5n_, hm8, f7⟩ := mem_lit H (xs := ([.int .u8 (s / 16777216), .int .u8 (IntKind.u8.wrap (s / 65536)), .int .u8 (IntKind.u8.wrap (s / 256)), .int .u8 (IntKind.u8.wrap s)] : List Value)) (m := 4) (rows := [[.int .u8 (s / 16777216)], [.int .u8 (IntKind.u8.wrap (s / 65536))], [.int .u8 (IntKind.u8.wrap (s / 256))], [.int .u8 (IntKind.u8.wrap s)]]) rfl eok29 (by decide) (by decide) zf5 rfl (allLen rfl) rfl
 replace hm8 : My H H5 (some ⟨b4, 0, none⟩) 4 1 ([(s / 16777216), (IntKind.u8.wrap (s / 65536)), (IntKind.u8.wrap (s / 256)), (IntKind.u8.wrap s)].map u8c) := hm8
 refine st_op (he6 _ _ _ _ _ _ _ _ rfl) rfl rfl rfl ?_
 have hx9 : Ext H H5 := Ext.new (by omega) H5n_ f7
 have H5n : H.next ≤ H5.next := hx9.1
 refine st_op (ev_assign rfl) rfl rfl rfl ?_
 try show aw _ _ _ _ _ _
 refine aw_ret ?_
 have hres : (Spec.four s.toNat) = [(s / 16777216), (IntKind.u8.wrap (s / 65536)), (IntKind.u8.wrap (s / 256)), (IntKind.u8.wrap s)] := by rw [← Spec.four_is, show ((s.toNat : Nat) : Int) = s from Int.toNat_of_nonneg hs.1, IntKind.wrap_u8, IntKind.wrap_u8, IntKind.wrap_u8, show s / 16777216 % 256 = s / 16777216 by omega]
 exact ⟨.slice (some ⟨b4, 0, none⟩) 4 4, rfl, (some ⟨b4, 0, none⟩), 4, by first | (rw [hres]; first | done | rfl | simp; done) | rfl, (by rw [hres]; exact hm8), (by rfl), hx9⟩
theorem wal_in_spec (H : Heap) (least : Int) (hleast : -9223372036854775808 ≤ least ∧ least ≤ 9223372036854775807) (most : Int) (hmost : -9223372036854775808 ≤ most ∧ most ≤ 9223372036854775807) (lA : Option Addr) (l : List Int) (lc : Nat) (hl : Row H lA lc 1 (l.map i64c)) (cl : l.length ≤ lc) (ll : l.length ≤ 1099511627776) : ∃ v H', Spec Try.prog 66 [.int .i64 least, .int .i64 most, .slice lA l.length lc] H v H' ∧ ((v = .bool (Spec.inF least most l)) ∧ (Ext H H')) := by
 refine spec_go3 E0_ok 24 (f := 66) Try.func66 rfl rfl rfl ?_
 refine aw_seq ?_
 refine aw_reg ?_
 refine st_op (ev_assign rfl) rfl rfl rfl ?_
 try show aw _ _ _ _ _ _
 iterate 2 refine aw_seq ?_
 refine aw_reg ?_
 refine st_op (ev_move rfl) rfl rfl rfl ?_
 refine st_op (ev_lenSl rfl Try.underlying77) rfl rfl rfl ?_
 refine st_op (ev_move rfl) rfl rfl rfl ?_
 try show aw _ _ _ _ _ _
 refine aw_block ?_
 refine aw_keep [0, 1, 9, 10, 11] (l' := (.cons 0 (.int .i64 least) (.cons 1 (.int .i64 most) (.cons 9 (.slice lA l.length lc) (.cons 10 (.int .i64 (l.length : Int)) (.cons 11 (.int .i64 0) .nil)))))) (by repeat (first | exact Up.done | refine Up.then ?_ | refine Up.inBlock ?_)) rfl ?_
 refine aw_iter (α := Nat × Heap) (fun a => l.length - a.1) (fun a => (.cons 0 (.int .i64 least) (.cons 1 (.int .i64 most) (.cons 9 (.slice lA l.length lc) (.cons 10 (.int .i64 (l.length : Int)) (.cons 11 (.int .i64 (a.1 : Int)) .nil)))))) (fun a => a.2) (fun a => (a.1 ≤ l.length) ∧ (Spec.inF least most l = Spec.inF least most (l.drop a.1)) ∧ (Ext H a.2)) (0, H) ⟨(show 0 ≤ l.length from Nat.zero_le _), (show Spec.inF least most l = Spec.inF least most (l.drop 0) from rfl), (show Ext H H from (Ext.refl H))⟩ ?_
 rintro ⟨i, Hl1⟩ ⟨hi, hv, hxl2⟩ ih3
 replace hi : i ≤ l.length := hi
 replace hv : Spec.inF least most l = Spec.inF least most (l.drop i) := hv
 replace hxl2 : Ext H Hl1 := hxl2
 show aw _ _ _ (RL _ (.cons 0 (.int .i64 least) (.cons 1 (.int .i64 most) (.cons 9 (.slice lA l.length lc) (.cons 10 (.int .i64 (l.length : Int)) (.cons 11 (.int .i64 (i : Int)) .nil)))))) Hl1 _
 have Hl1n : H.next ≤ Hl1.next := hxl2.1
 refine aw_seq ?_
 refine aw_reg ?_
 refine st_op (ev_int rfl rfl rfl) rfl rfl rfl ?_
 try show aw _ _ _ _ _ _
 refine aw_seq ?_
 by_cases hc4 : (decide ((i : Int) < (l.length : Int))) = true
 ·
  refine aw_condT hc4 rfl ?_
  try show aw _ _ _ _ _ _
  have hc4 := of_decide_eq_true hc4
  refine aw_skip ?_
  try show aw _ _ _ _ _ _
  refine aw_seq ?_
  refine aw_block ?_
  refine aw_seq ?_
  refine aw_reg ?_
  have h5 := Row.ext hl hxl2
  have hi6 : 0 ≤ ((i : Int) : Int) := by omega
  have hi7 : ((i : Int) : Int) < ((l.length : Nat) : Int) := by omega
  obtain ⟨x8, hx9⟩ : ∃ e, l[i]? = some e := ⟨_, List.getElem?_eq_getElem (by omega)⟩
  refine st_op (ev_at rfl rfl h5 (getMap i64c hx9) (by first | rfl | omega | simp) hi6 hi7 el77) rfl rfl rfl ?_
  refine st_op (ev_atL rfl h5 (getMap i64c hx9) one2 rfl) rfl rfl rfl ?_
  refine st_op (ev_assign rfl) rfl rfl rfl ?_
  try show aw _ _ _ _ _ _
  refine aw_seq ?_
  refine aw_reg ?_
  iterate 2 refine st_op (ev_move rfl) rfl rfl rfl ?_
  refine st_op (ev_int rfl rfl rfl) rfl rfl rfl ?_
  refine st_op (ev_move rfl) rfl rfl rfl ?_
  refine st_bool 18 rfl (fun hb10 => ?_) (fun hb10 => ?_)
  ·
   have hb10 := of_decide_eq_true hb10
   iterate 3 refine st_skip rfl rfl rfl ?_
   refine st_op (ev_pickT rfl rfl) rfl rfl rfl ?_
   try show aw _ _ _ _ _ _
   refine aw_cond (t := true) rfl ?_
   try show aw _ _ _ _ _ _
   refine aw_seq ?_
   refine aw_reg ?_
   refine st_op (ev_assign rfl) rfl rfl rfl ?_
   try show aw _ _ _ _ _ _
   refine aw_ret ?_
   have hres : (Spec.inF least most l) = false := by rw [hv, drop_at hx9, Spec.inF]; first | (rw [if_pos (by omega)]; done) | (rw [if_neg (by omega), if_pos (by omega)]; done)
   exact ⟨.bool false, rfl, by first | (rw [hres]; done) | rw [← hres], hxl2⟩
  ·
   have hb10 := of_decide_eq_false hb10
   iterate 2 refine st_op (ev_move rfl) rfl rfl rfl ?_
   refine st_op (ev_int rfl rfl rfl) rfl rfl rfl ?_
   refine st_op (ev_pickF rfl rfl) rfl rfl rfl ?_
   try show aw _ _ _ _ _ _
   by_cases hc11 : (decide (x8 > most)) = true
   ·
    refine aw_condT hc11 rfl ?_
    try show aw _ _ _ _ _ _
    have hc11 := of_decide_eq_true hc11
    refine aw_seq ?_
    refine aw_reg ?_
    refine st_op (ev_assign rfl) rfl rfl rfl ?_
    try show aw _ _ _ _ _ _
    refine aw_ret ?_
    have hres : (Spec.inF least most l) = false := by rw [hv, drop_at hx9, Spec.inF]; first | (rw [if_pos (by omega)]; done) | (rw [if_neg (by omega), if_pos (by omega)]; done)
    exact ⟨.bool false, rfl, by first | (rw [hres]; done) | rw [← hres], hxl2⟩
   ·
    rw [Bool.not_eq_true] at hc11; refine aw_condF hc11 rfl ?_
    try show aw _ _ _ _ _ _
    have hc11 := of_decide_eq_false hc11
    refine aw_skip ?_
    try show aw _ _ _ _ _ _
    refine aw_reg ?_
    refine st_op (ev_int64 (c := (i : Int) + 1) rfl rfl rfl (by omega) (by omega)) rfl rfl rfl ?_
    refine st_op (ev_move rfl) rfl rfl rfl ?_
    try show aw _ _ _ _ _ _
    refine aw_keep [0, 1, 9, 10, 11] (l' := (.cons 0 (.int .i64 least) (.cons 1 (.int .i64 most) (.cons 9 (.slice lA l.length lc) (.cons 10 (.int .i64 (l.length : Int)) (.cons 11 (.int .i64 ((i : Int) + 1)) .nil)))))) (by repeat (first | exact Up.done | refine Up.then ?_ | refine Up.inBlock ?_)) rfl ?_
    exact ih3 (i + 1, Hl1) ⟨(show (i + 1) ≤ l.length from (by omega)), (show Spec.inF least most l = Spec.inF least most (l.drop (i + 1)) from (by rw [hv, drop_at hx9, Spec.inF, if_neg (by omega), if_neg (by omega)])), (show Ext H Hl1 from hxl2)⟩ (by simp only; omega)
 ·
  rw [Bool.not_eq_true] at hc4; refine aw_condF hc4 rfl ?_
  try show aw _ _ _ _ _ _
  have hc4 := of_decide_eq_false hc4
  refine aw_exit ?_
  try show aw _ _ _ _ _ _
  refine aw_seq ?_
  refine aw_reg ?_
  refine st_op (ev_assign rfl) rfl rfl rfl ?_
  try show aw _ _ _ _ _ _
  refine aw_ret ?_
  have hres : (Spec.inF least most l) = true := by rw [hv, List.drop_eq_nil_of_le (by omega)]; rfl
  exact ⟨.bool true, rfl, by first | (rw [hres]; done) | rw [← hres], hxl2⟩
theorem wal_May_spec (H : Heap) (r_hard : Bool) (r_h_term : Int) (r_h_vote : Int) (r_e_index : Int) (r_e_term : Int) (r_e_kind : Int) (r_e_data : ByteArray) : ∃ v H', Spec Try.prog 58 [.agg #[.bool r_hard, .int .i64 r_h_term, .int .i64 r_h_vote, .int .i64 r_e_index, .int .i64 r_e_term, .int .i64 r_e_kind, .string r_e_data]] H v H' ∧ ((v = .bool (Spec.mayF r_hard r_h_term r_h_vote r_e_index r_e_term r_e_kind r_e_data)) ∧ (Ext H H')) := by
 refine spec_go1 E0_ok 61 (f := 58) Try.func58 rfl rfl rfl ?_
 refine aw_seq ?_
 refine aw_reg ?_
 obtain ⟨b1, H2, he3, b1e, H2n_, hB5, f4⟩ := mem_box (P := Try.prog) H (v := .agg #[.bool r_hard, .int .i64 r_h_term, .int .i64 r_h_vote, .int .i64 r_e_index, .int .i64 r_e_term, .int .i64 r_e_kind, .string r_e_data]) (cs := [.bool r_hard, .int .i64 r_h_term, .int .i64 r_h_vote, .int .i64 r_e_index, .int .i64 r_e_term, .int .i64 r_e_kind, .string r_e_data]) rfl rfl
 refine st_op (he3 _ _ _ _ _ _ _ _ _ rfl) rfl rfl rfl ?_
 have hx6 : Ext H H2 := Ext.new (by omega) H2n_ f4
 have H2n : H.next ≤ H2.next := hx6.1
 refine st_op (ev_assign rfl) rfl rfl rfl ?_
 try show aw _ _ _ _ _ _
 iterate 2 refine aw_seq ?_
 refine aw_reg ?_
 refine st_op (ev_fieldAddr rfl fa82_0 (o' := 0) rfl) rfl rfl rfl ?_
 refine st_op (ev_load rfl (lvar_one one4 hB5 rfl)) rfl rfl rfl ?_
 try show aw _ _ _ _ _ _
 by_cases hc7 : r_hard = true
 ·
  refine aw_condT hc7 rfl ?_
  try show aw _ _ _ _ _ _
  refine aw_seq ?_
  refine aw_reg ?_
  refine st_op (ev_fieldAddr rfl fa82_1 (o' := 1) rfl) rfl rfl rfl ?_
  refine st_op (ev_fieldAddr rfl fa80_0 (o' := 1) rfl) rfl rfl rfl ?_
  refine st_op (ev_load rfl (lvar_one one2 hB5 rfl)) rfl rfl rfl ?_
  obtain ⟨b8, H9, he10, b8e, H9n_, hm12, f11⟩ := mem_lit H2 (xs := ([.int .i64 r_h_term] : List Value)) (m := 1) (rows := [[.int .i64 r_h_term]]) rfl eok77 (by decide) (by decide) zf2 rfl (allLen rfl) rfl
  replace hm12 : My H2 H9 (some ⟨b8, 0, none⟩) 1 1 ([r_h_term].map i64c) := hm12
  refine st_op (he10 _ _ _ _ _ _ _ _ rfl) rfl rfl rfl ?_
  have hx13 : Ext H2 H9 := Ext.new (by omega) H9n_ f11
  have H9n : H2.next ≤ H9.next := hx13.1
  refine st_call rfl rfl rfl ent66 rfl rfl rfl ?_
  obtain ⟨_, H15, hs14, hs14v, hx16⟩ := wal_in_spec H9 0 (by decide) 1099511627776 (by decide) (some ⟨b8, 0, none⟩) ([r_h_term]) 1 (My.row hm12) (My.capF hm12 (by first | omega | (simp only [List.length_append, List.length_cons, List.length_nil, List.length_map, List.length_set, List.length_replicate, Spec.bytesOf_length]; omega) | (simp; omega))) (by first | omega | (simp only [List.length_append, List.length_cons, List.length_nil, List.length_map, List.length_set, List.length_replicate, Spec.bytesOf_length]; omega) | (simp; omega))
  rw [hs14v] at hs14; clear hs14v
  refine ⟨_, H15, hs14, ?_⟩
  have H15n : H9.next ≤ H15.next := hx16.1
  refine st_op (ev_move rfl) rfl rfl rfl ?_
  refine st_bool 10 rfl (fun hb17 => ?_) (fun hb17 => ?_)
  ·
   have hb17m := Spec.inF_one hb17
   refine st_op (ev_fieldAddr rfl fa82_1 (o' := 1) rfl) rfl rfl rfl ?_
   refine st_op (ev_fieldAddr rfl fa80_1 (o' := 2) rfl) rfl rfl rfl ?_
   have hx19 : Ext H2 H15 := (Ext.trans hx13 hx16)
   have h18 := Ext.blk hx19 (by omega) hB5
   refine st_op (ev_load rfl (lvar_one one3 h18 rfl)) rfl rfl rfl ?_
   refine st_op (ev_int rfl rfl rfl) rfl rfl rfl ?_
   refine st_op (ev_pickT rfl rfl) rfl rfl rfl ?_
   refine st_op (ev_move rfl) rfl rfl rfl ?_
   refine st_bool 16 rfl (fun hb20 => ?_) (fun hb20 => ?_)
   ·
    have hb20 := of_decide_eq_true hb20
    refine st_op (ev_fieldAddr rfl fa82_1 (o' := 1) rfl) rfl rfl rfl ?_
    refine st_op (ev_fieldAddr rfl fa80_1 (o' := 2) rfl) rfl rfl rfl ?_
    refine st_op (ev_load rfl (lvar_one one3 h18 rfl)) rfl rfl rfl ?_
    refine st_op (ev_int rfl rfl rfl) rfl rfl rfl ?_
    refine st_op (ev_pickT rfl rfl) rfl rfl rfl ?_
    refine st_op (ev_move rfl) rfl rfl rfl ?_
    refine st_bool 22 rfl (fun hb21 => ?_) (fun hb21 => ?_)
    ·
     have hb21 := of_decide_eq_true hb21
     refine st_op (ev_fieldAddr rfl fa82_2 (o' := 3) rfl) rfl rfl rfl ?_
     refine st_op (ev_load rfl (lvar_part (l := [.int .i64 r_e_index, .int .i64 r_e_term, .int .i64 r_e_kind, .string r_e_data]) many45 h18 rfl rfl (by decide))) rfl rfl rfl ?_
     refine st_op (ev_build zero45 pl45 (parts := []) rfl (cs := [.int .i64 0, .int .i64 0, .int .i64 0, .string (⟨#[]⟩)]) rfl) rfl rfl rfl ?_
     obtain ⟨q22, hq23, hi24⟩ : ∃ q, bin.eqCells [.int .i64 r_e_index, .int .i64 r_e_term, .int .i64 r_e_kind, .string r_e_data] [.int .i64 0, .int .i64 0, .int .i64 0, .string (⟨#[]⟩)] = some q ∧ (q = true ↔ r_e_index = 0 ∧ r_e_term = 0 ∧ r_e_kind = 0 ∧ r_e_data = (⟨#[]⟩ : ByteArray)) := ⟨_, rfl, by simp [Bool.and_eq_true, ba_beq]⟩
     refine st_op (ev_agg rfl rfl (by rw [eqt45, show fitAgg Try.prog 45 (#[.int .i64 r_e_index, .int .i64 r_e_term, .int .i64 r_e_kind, .string r_e_data] : Array Value).toList = true from fit45 r_e_index r_e_term r_e_kind r_e_data]; rfl) hq23 rfl) rfl rfl rfl ?_
     refine st_op (ev_pickT rfl rfl) rfl rfl rfl ?_
     refine st_op (ev_assign rfl) rfl rfl rfl ?_
     try show aw _ _ _ _ _ _
     refine aw_ret ?_
     have hx25 : Ext H H15 := (Ext.trans (Ext.trans hx6 hx13) hx16)
     have hres : (Spec.mayF r_hard r_h_term r_h_vote r_e_index r_e_term r_e_kind r_e_data) = q22 := by rw [Bool.eq_iff_iff]; simp only [Spec.mayF]; (try simp_all [Spec.ba_empty]) <;> (try (intros; omega))
     exact ⟨.bool q22, rfl, by first | (rw [hres]; done) | rw [← hres], hx25⟩
    ·
     have hb21 := of_decide_eq_false hb21
     iterate 4 refine st_skip rfl rfl rfl ?_
     refine st_op (ev_pickF rfl rfl) rfl rfl rfl ?_
     refine st_op (ev_assign rfl) rfl rfl rfl ?_
     try show aw _ _ _ _ _ _
     refine aw_ret ?_
     have hx26 : Ext H H15 := (Ext.trans (Ext.trans hx6 hx13) hx16)
     have hres : (Spec.mayF r_hard r_h_term r_h_vote r_e_index r_e_term r_e_kind r_e_data) = false := by rw [Bool.eq_iff_iff]; simp only [Spec.mayF]; (try simp_all [Spec.ba_empty]) <;> (try (intros; omega))
     exact ⟨.bool false, rfl, by first | (rw [hres]; done) | rw [← hres], hx26⟩
   ·
    have hb20 := of_decide_eq_false hb20
    iterate 4 refine st_skip rfl rfl rfl ?_
    refine st_op (ev_pickF rfl rfl) rfl rfl rfl ?_
    refine st_op (ev_move rfl) rfl rfl rfl ?_
    iterate 4 refine st_skip rfl rfl rfl ?_
    refine st_op (ev_pickF rfl rfl) rfl rfl rfl ?_
    refine st_op (ev_assign rfl) rfl rfl rfl ?_
    try show aw _ _ _ _ _ _
    refine aw_ret ?_
    have hx27 : Ext H H15 := (Ext.trans (Ext.trans hx6 hx13) hx16)
    have hres : (Spec.mayF r_hard r_h_term r_h_vote r_e_index r_e_term r_e_kind r_e_data) = false := by rw [Bool.eq_iff_iff]; simp only [Spec.mayF]; (try simp_all [Spec.ba_empty]) <;> (try (intros; omega))
    exact ⟨.bool false, rfl, by first | (rw [hres]; done) | rw [← hres], hx27⟩
  ·
   have hb17m := Spec.inF_oneN hb17
   iterate 4 refine st_skip rfl rfl rfl ?_
   refine st_op (ev_pickF rfl rfl) rfl rfl rfl ?_
   refine st_op (ev_move rfl) rfl rfl rfl ?_
   iterate 4 refine st_skip rfl rfl rfl ?_
   refine st_op (ev_pickF rfl rfl) rfl rfl rfl ?_
   refine st_op (ev_move rfl) rfl rfl rfl ?_
   iterate 4 refine st_skip rfl rfl rfl ?_
   refine st_op (ev_pickF rfl rfl) rfl rfl rfl ?_
   refine st_op (ev_assign rfl) rfl rfl rfl ?_
   try show aw _ _ _ _ _ _
   refine aw_ret ?_
   have hx28 : Ext H H15 := (Ext.trans (Ext.trans hx6 hx13) hx16)
   have hres : (Spec.mayF r_hard r_h_term r_h_vote r_e_index r_e_term r_e_kind r_e_data) = false := by rw [Bool.eq_iff_iff]; simp only [Spec.mayF]; (try simp_all [Spec.ba_empty]) <;> (try (intros; omega))
   exact ⟨.bool false, rfl, by first | (rw [hres]; done) | rw [← hres], hx28⟩
 ·
  rw [Bool.not_eq_true] at hc7; refine aw_condF hc7 rfl ?_
  try show aw _ _ _ _ _ _
  refine aw_skip ?_
  try show aw _ _ _ _ _ _
  refine aw_seq ?_
  refine aw_reg ?_
  refine st_op (ev_fieldAddr rfl fa82_1 (o' := 1) rfl) rfl rfl rfl ?_
  refine st_op (ev_load rfl (lvar_part (l := [.int .i64 r_h_term, .int .i64 r_h_vote]) many80 hB5 rfl rfl (by decide))) rfl rfl rfl ?_
  refine st_op (ev_build zero80 pl80 (parts := []) rfl (cs := [.int .i64 0, .int .i64 0]) rfl) rfl rfl rfl ?_
  obtain ⟨q29, hq30, hi31⟩ : ∃ q, bin.eqCells [.int .i64 r_h_term, .int .i64 r_h_vote] [.int .i64 0, .int .i64 0] = some q ∧ (q = true ↔ r_h_term = 0 ∧ r_h_vote = 0) := ⟨_, rfl, by simp [Bool.and_eq_true, ba_beq]⟩
  refine st_op (ev_agg rfl rfl (by rw [eqt80, show fitAgg Try.prog 80 (#[.int .i64 r_h_term, .int .i64 r_h_vote] : Array Value).toList = true from fit80 r_h_term r_h_vote]; rfl) hq30 rfl) rfl rfl rfl ?_
  refine st_op (ev_move rfl) rfl rfl rfl ?_
  refine st_bool 32 rfl (fun hb32 => ?_) (fun hb32 => ?_)
  ·
   have hb32E := hi31.1 hb32
   refine st_op (ev_fieldAddr rfl fa82_2 (o' := 3) rfl) rfl rfl rfl ?_
   refine st_op (ev_fieldAddr rfl fa45_0 (o' := 3) rfl) rfl rfl rfl ?_
   refine st_op (ev_load rfl (lvar_one one2 hB5 rfl)) rfl rfl rfl ?_
   refine st_op (ev_fieldAddr rfl fa82_2 (o' := 3) rfl) rfl rfl rfl ?_
   refine st_op (ev_fieldAddr rfl fa45_1 (o' := 4) rfl) rfl rfl rfl ?_
   refine st_op (ev_load rfl (lvar_one one2 hB5 rfl)) rfl rfl rfl ?_
   obtain ⟨b33, H34, he35, b33e, H34n_, hm37, f36⟩ := mem_lit H2 (xs := ([.int .i64 r_e_index, .int .i64 r_e_term] : List Value)) (m := 2) (rows := [[.int .i64 r_e_index], [.int .i64 r_e_term]]) rfl eok77 (by decide) (by decide) zf2 rfl (allLen rfl) rfl
   replace hm37 : My H2 H34 (some ⟨b33, 0, none⟩) 2 1 ([r_e_index, r_e_term].map i64c) := hm37
   refine st_op (he35 _ _ _ _ _ _ _ _ rfl) rfl rfl rfl ?_
   have hx38 : Ext H2 H34 := Ext.new (by omega) H34n_ f36
   have H34n : H2.next ≤ H34.next := hx38.1
   refine st_call rfl rfl rfl ent66 rfl rfl rfl ?_
   obtain ⟨_, H40, hs39, hs39v, hx41⟩ := wal_in_spec H34 1 (by decide) 1099511627776 (by decide) (some ⟨b33, 0, none⟩) ([r_e_index, r_e_term]) 2 (My.row hm37) (My.capF hm37 (by first | omega | (simp only [List.length_append, List.length_cons, List.length_nil, List.length_map, List.length_set, List.length_replicate, Spec.bytesOf_length]; omega) | (simp; omega))) (by first | omega | (simp only [List.length_append, List.length_cons, List.length_nil, List.length_map, List.length_set, List.length_replicate, Spec.bytesOf_length]; omega) | (simp; omega))
   rw [hs39v] at hs39; clear hs39v
   refine ⟨_, H40, hs39, ?_⟩
   have H40n : H34.next ≤ H40.next := hx41.1
   refine st_op (ev_pickT rfl rfl) rfl rfl rfl ?_
   refine st_op (ev_move rfl) rfl rfl rfl ?_
   refine st_bool 42 rfl (fun hb42 => ?_) (fun hb42 => ?_)
   ·
    have hb42m := Spec.inF_two hb42
    refine st_op (ev_fieldAddr rfl fa82_2 (o' := 3) rfl) rfl rfl rfl ?_
    refine st_op (ev_fieldAddr rfl fa45_2 (o' := 5) rfl) rfl rfl rfl ?_
    have hx44 : Ext H2 H40 := (Ext.trans hx38 hx41)
    have h43 := Ext.blk hx44 (by omega) hB5
    refine st_op (ev_load rfl (lvar_one one3 h43 rfl)) rfl rfl rfl ?_
    refine st_op (ev_int rfl rfl rfl) rfl rfl rfl ?_
    refine st_op (ev_pickT rfl rfl) rfl rfl rfl ?_
    refine st_op (ev_move rfl) rfl rfl rfl ?_
    refine st_bool 48 rfl (fun hb45 => ?_) (fun hb45 => ?_)
    ·
     have hb45 := of_decide_eq_true hb45
     refine st_op (ev_fieldAddr rfl fa82_2 (o' := 3) rfl) rfl rfl rfl ?_
     refine st_op (ev_fieldAddr rfl fa45_2 (o' := 5) rfl) rfl rfl rfl ?_
     refine st_op (ev_load rfl (lvar_one one3 h43 rfl)) rfl rfl rfl ?_
     refine st_op (ev_int rfl rfl rfl) rfl rfl rfl ?_
     refine st_op (ev_pickT rfl rfl) rfl rfl rfl ?_
     refine st_op (ev_move rfl) rfl rfl rfl ?_
     refine st_bool 54 rfl (fun hb46 => ?_) (fun hb46 => ?_)
     ·
      have hb46 := of_decide_eq_true hb46
      refine st_op (ev_fieldAddr rfl fa82_2 (o' := 3) rfl) rfl rfl rfl ?_
      refine st_op (ev_fieldAddr rfl fa45_3 (o' := 6) rfl) rfl rfl rfl ?_
      refine st_op (ev_load rfl (lvar_one one9 h43 rfl)) rfl rfl rfl ?_
      refine st_op (ev_lenStr rfl Try.underlying9) rfl rfl rfl ?_
      refine st_op (ev_int rfl rfl rfl) rfl rfl rfl ?_
      refine st_op (ev_pickT rfl rfl) rfl rfl rfl ?_
      refine st_op (ev_assign rfl) rfl rfl rfl ?_
      try show aw _ _ _ _ _ _
      refine aw_ret ?_
      have hx47 : Ext H H40 := (Ext.trans (Ext.trans hx6 hx38) hx41)
      have hres : (Spec.mayF r_hard r_h_term r_h_vote r_e_index r_e_term r_e_kind r_e_data) = (decide (((r_e_data).size : Int) ≤ 2500)) := by rw [Bool.eq_iff_iff]; simp only [Spec.mayF]; (try simp_all [Spec.ba_empty]) <;> (try (intros; omega))
      exact ⟨.bool (decide (((r_e_data).size : Int) ≤ 2500)), rfl, by first | (rw [hres]; done) | rw [← hres], hx47⟩
     ·
      have hb46 := of_decide_eq_false hb46
      iterate 5 refine st_skip rfl rfl rfl ?_
      refine st_op (ev_pickF rfl rfl) rfl rfl rfl ?_
      refine st_op (ev_assign rfl) rfl rfl rfl ?_
      try show aw _ _ _ _ _ _
      refine aw_ret ?_
      have hx48 : Ext H H40 := (Ext.trans (Ext.trans hx6 hx38) hx41)
      have hres : (Spec.mayF r_hard r_h_term r_h_vote r_e_index r_e_term r_e_kind r_e_data) = false := by rw [Bool.eq_iff_iff]; simp only [Spec.mayF]; (try simp_all [Spec.ba_empty]) <;> (try (intros; omega))
      exact ⟨.bool false, rfl, by first | (rw [hres]; done) | rw [← hres], hx48⟩
    ·
     have hb45 := of_decide_eq_false hb45
     iterate 4 refine st_skip rfl rfl rfl ?_
     refine st_op (ev_pickF rfl rfl) rfl rfl rfl ?_
     refine st_op (ev_move rfl) rfl rfl rfl ?_
     iterate 5 refine st_skip rfl rfl rfl ?_
     refine st_op (ev_pickF rfl rfl) rfl rfl rfl ?_
     refine st_op (ev_assign rfl) rfl rfl rfl ?_
     try show aw _ _ _ _ _ _
     refine aw_ret ?_
     have hx49 : Ext H H40 := (Ext.trans (Ext.trans hx6 hx38) hx41)
     have hres : (Spec.mayF r_hard r_h_term r_h_vote r_e_index r_e_term r_e_kind r_e_data) = false := by rw [Bool.eq_iff_iff]; simp only [Spec.mayF]; (try simp_all [Spec.ba_empty]) <;> (try (intros; omega))
     exact ⟨.bool false, rfl, by first | (rw [hres]; done) | rw [← hres], hx49⟩
   ·
    have hb42m := Spec.inF_twoN hb42
    iterate 4 refine st_skip rfl rfl rfl ?_
    refine st_op (ev_pickF rfl rfl) rfl rfl rfl ?_
    refine st_op (ev_move rfl) rfl rfl rfl ?_
    iterate 4 refine st_skip rfl rfl rfl ?_
    refine st_op (ev_pickF rfl rfl) rfl rfl rfl ?_
    refine st_op (ev_move rfl) rfl rfl rfl ?_
    iterate 5 refine st_skip rfl rfl rfl ?_
    refine st_op (ev_pickF rfl rfl) rfl rfl rfl ?_
    refine st_op (ev_assign rfl) rfl rfl rfl ?_
    try show aw _ _ _ _ _ _
    refine aw_ret ?_
    have hx50 : Ext H H40 := (Ext.trans (Ext.trans hx6 hx38) hx41)
    have hres : (Spec.mayF r_hard r_h_term r_h_vote r_e_index r_e_term r_e_kind r_e_data) = false := by rw [Bool.eq_iff_iff]; simp only [Spec.mayF]; (try simp_all [Spec.ba_empty]) <;> (try (intros; omega))
    exact ⟨.bool false, rfl, by first | (rw [hres]; done) | rw [← hres], hx50⟩
  ·
   have hb32E : ¬ (r_h_term = 0 ∧ r_h_vote = 0) := fun e => absurd (hi31.2 e) (by rw [hb32]; decide)
   iterate 8 refine st_skip rfl rfl rfl ?_
   refine st_op (ev_pickF rfl rfl) rfl rfl rfl ?_
   refine st_op (ev_move rfl) rfl rfl rfl ?_
   iterate 4 refine st_skip rfl rfl rfl ?_
   refine st_op (ev_pickF rfl rfl) rfl rfl rfl ?_
   refine st_op (ev_move rfl) rfl rfl rfl ?_
   iterate 4 refine st_skip rfl rfl rfl ?_
   refine st_op (ev_pickF rfl rfl) rfl rfl rfl ?_
   refine st_op (ev_move rfl) rfl rfl rfl ?_
   iterate 5 refine st_skip rfl rfl rfl ?_
   refine st_op (ev_pickF rfl rfl) rfl rfl rfl ?_
   refine st_op (ev_assign rfl) rfl rfl rfl ?_
   try show aw _ _ _ _ _ _
   refine aw_ret ?_
   have hres : (Spec.mayF r_hard r_h_term r_h_vote r_e_index r_e_term r_e_kind r_e_data) = false := by rw [Bool.eq_iff_iff]; simp only [Spec.mayF]; (try simp_all [Spec.ba_empty]) <;> (try (intros; omega))
   exact ⟨.bool false, rfl, by first | (rw [hres]; done) | rw [← hres], hx6⟩
theorem wal_may_spec (H : Heap) (s_index : Int) (s_term : Int) (s_conf : ByteArray) (s_data : ByteArray) : ∃ v H', Spec Try.prog 60 [.agg #[.int .i64 s_index, .int .i64 s_term, .string s_conf, .string s_data]] H v H' ∧ ((v = .bool (Spec.mayS s_index s_term s_conf s_data)) ∧ (Ext H H')) := by
 refine spec_go1 E0_ok 21 (f := 60) Try.func60 rfl rfl rfl ?_
 refine aw_seq ?_
 refine aw_reg ?_
 obtain ⟨b1, H2, he3, b1e, H2n_, hB5, f4⟩ := mem_box (P := Try.prog) H (v := .agg #[.int .i64 s_index, .int .i64 s_term, .string s_conf, .string s_data]) (cs := [.int .i64 s_index, .int .i64 s_term, .string s_conf, .string s_data]) rfl rfl
 refine st_op (he3 _ _ _ _ _ _ _ _ _ rfl) rfl rfl rfl ?_
 have hx6 : Ext H H2 := Ext.new (by omega) H2n_ f4
 have H2n : H.next ≤ H2.next := hx6.1
 refine st_op (ev_assign rfl) rfl rfl rfl ?_
 try show aw _ _ _ _ _ _
 refine aw_seq ?_
 refine aw_reg ?_
 refine st_op (ev_fieldAddr rfl fa24_0 (o' := 0) rfl) rfl rfl rfl ?_
 refine st_op (ev_load rfl (lvar_one one2 hB5 rfl)) rfl rfl rfl ?_
 refine st_op (ev_fieldAddr rfl fa24_1 (o' := 1) rfl) rfl rfl rfl ?_
 refine st_op (ev_load rfl (lvar_one one2 hB5 rfl)) rfl rfl rfl ?_
 obtain ⟨b7, H8, he9, b7e, H8n_, hm11, f10⟩ := mem_lit H2 (xs := ([.int .i64 s_index, .int .i64 s_term] : List Value)) (m := 2) (rows := [[.int .i64 s_index], [.int .i64 s_term]]) rfl eok77 (by decide) (by decide) zf2 rfl (allLen rfl) rfl
 replace hm11 : My H2 H8 (some ⟨b7, 0, none⟩) 2 1 ([s_index, s_term].map i64c) := hm11
 refine st_op (he9 _ _ _ _ _ _ _ _ rfl) rfl rfl rfl ?_
 have hx12 : Ext H2 H8 := Ext.new (by omega) H8n_ f10
 have H8n : H2.next ≤ H8.next := hx12.1
 refine st_call rfl rfl rfl ent66 rfl rfl rfl ?_
 obtain ⟨_, H14, hs13, hs13v, hx15⟩ := wal_in_spec H8 0 (by decide) 1099511627776 (by decide) (some ⟨b7, 0, none⟩) ([s_index, s_term]) 2 (My.row hm11) (My.capF hm11 (by first | omega | (simp only [List.length_append, List.length_cons, List.length_nil, List.length_map, List.length_set, List.length_replicate, Spec.bytesOf_length]; omega) | (simp; omega))) (by first | omega | (simp only [List.length_append, List.length_cons, List.length_nil, List.length_map, List.length_set, List.length_replicate, Spec.bytesOf_length]; omega) | (simp; omega))
 rw [hs13v] at hs13; clear hs13v
 refine ⟨_, H14, hs13, ?_⟩
 have H14n : H8.next ≤ H14.next := hx15.1
 refine st_op (ev_move rfl) rfl rfl rfl ?_
 refine st_bool 9 rfl (fun hb16 => ?_) (fun hb16 => ?_)
 ·
  have hb16m := Spec.inF_two hb16
  refine st_op (ev_fieldAddr rfl fa24_2 (o' := 2) rfl) rfl rfl rfl ?_
  have hx18 : Ext H2 H14 := (Ext.trans hx12 hx15)
  have h17 := Ext.blk hx18 (by omega) hB5
  refine st_op (ev_load rfl (lvar_one one9 h17 rfl)) rfl rfl rfl ?_
  refine st_op (ev_lenStr rfl Try.underlying9) rfl rfl rfl ?_
  refine st_op (ev_int rfl rfl rfl) rfl rfl rfl ?_
  refine st_op (ev_pickT rfl rfl) rfl rfl rfl ?_
  refine st_op (ev_move rfl) rfl rfl rfl ?_
  refine st_bool 15 rfl (fun hb19 => ?_) (fun hb19 => ?_)
  ·
   have hb19 := of_decide_eq_true hb19
   refine st_op (ev_fieldAddr rfl fa24_3 (o' := 3) rfl) rfl rfl rfl ?_
   refine st_op (ev_load rfl (lvar_one one9 h17 rfl)) rfl rfl rfl ?_
   refine st_op (ev_lenStr rfl Try.underlying9) rfl rfl rfl ?_
   refine st_op (ev_int rfl rfl rfl) rfl rfl rfl ?_
   refine st_op (ev_pickT rfl rfl) rfl rfl rfl ?_
   refine st_op (ev_assign rfl) rfl rfl rfl ?_
   try show aw _ _ _ _ _ _
   refine aw_ret ?_
   have hx20 : Ext H H14 := (Ext.trans (Ext.trans hx6 hx12) hx15)
   have hres : (Spec.mayS s_index s_term s_conf s_data) = (decide (((s_data).size : Int) ≤ 200000)) := by simp only [Spec.mayS]; (try simp_all) <;> (try (intros; omega))
   exact ⟨.bool (decide (((s_data).size : Int) ≤ 200000)), rfl, by first | (rw [hres]; done) | rw [← hres], hx20⟩
  ·
   have hb19 := of_decide_eq_false hb19
   iterate 4 refine st_skip rfl rfl rfl ?_
   refine st_op (ev_pickF rfl rfl) rfl rfl rfl ?_
   refine st_op (ev_assign rfl) rfl rfl rfl ?_
   try show aw _ _ _ _ _ _
   refine aw_ret ?_
   have hx21 : Ext H H14 := (Ext.trans (Ext.trans hx6 hx12) hx15)
   have hres : (Spec.mayS s_index s_term s_conf s_data) = false := by simp only [Spec.mayS]; (try simp_all) <;> (try (intros; omega))
   exact ⟨.bool false, rfl, by first | (rw [hres]; done) | rw [← hres], hx21⟩
 ·
  have hb16m := Spec.inF_twoN hb16
  iterate 4 refine st_skip rfl rfl rfl ?_
  refine st_op (ev_pickF rfl rfl) rfl rfl rfl ?_
  refine st_op (ev_move rfl) rfl rfl rfl ?_
  iterate 4 refine st_skip rfl rfl rfl ?_
  refine st_op (ev_pickF rfl rfl) rfl rfl rfl ?_
  refine st_op (ev_assign rfl) rfl rfl rfl ?_
  try show aw _ _ _ _ _ _
  refine aw_ret ?_
  have hx22 : Ext H H14 := (Ext.trans (Ext.trans hx6 hx12) hx15)
  have hres : (Spec.mayS s_index s_term s_conf s_data) = false := by simp only [Spec.mayS]; (try simp_all) <;> (try (intros; omega))
  exact ⟨.bool false, rfl, by first | (rw [hres]; done) | rw [← hres], hx22⟩

end Go.AM
