/- Part of a machine of its own for this claim: the program's code over memory without draws. -/
import Derived.Test.YtoolcbdceijjlaaGreatSAmPRaft
import Derived.Test.YtoolcbdceijjlaaGreatSAmPCf3
import Derived.Test.YtoolcbdceijjlaaGreatSAmRep19
import Derived.Test.YtoolcbdceijjlaaGreatSAmD
import Derived.Test.YtoolcbdceijjlaaGreatSAmE
import Derived.Test.YtoolcbdceijjlaaGreatProg
import Derived.KernelRfl
set_option linter.unusedVariables false
set_option linter.unusedSimpArgs false
set_option linter.unnecessarySimpa false
set_option linter.unusedVariables false
set_option linter.unusedSimpArgs false
set_option linter.unnecessarySimpa false
namespace Go.AM
open Go Go.Proofs

noncomputable def E0 : TypeId → Bool := eqTy Tryz.prog
theorem E0_ok : EqOk Tryz.prog E0 := eqTy_ok
theorem mixed : Tryz.prog.follows .mixedOrders = true := by kernel_rfl

noncomputable def X0 (f : FuncId) : List Tmp := (bif_ (Nat.ble 64 f) (bif_ (Nat.ble 96 f) (bif_ (Nat.ble 112 f) (bif_ (Nat.ble 120 f) (bif_ (Nat.ble 124 f) (bif_ (Nat.ble 126 f) (bif_ (Nat.ble 127 f) (bif_ (Nat.ble 128 f) [0, 1, 2, 3, 8, 9, 18] [0, 2]) [0, 1, 2, 3, 4, 10]) (bif_ (Nat.ble 125 f) [0, 1, 2, 6] [0, 2])) (bif_ (Nat.ble 122 f) (bif_ (Nat.ble 123 f) [0, 2] [0, 1, 2, 3, 8, 9, 16, 36, 52]) (bif_ (Nat.ble 121 f) [0, 2, 4, 8, 14] [0, 2, 4, 8]))) (bif_ (Nat.ble 116 f) (bif_ (Nat.ble 118 f) (bif_ (Nat.ble 119 f) [0, 1, 2, 3, 8, 9, 10, 11, 43, 60, 65, 112, 129, 134] [0, 1, 2, 3, 8, 9, 10, 43, 59, 64]) (bif_ (Nat.ble 117 f) [0, 1, 4] [0, 1, 2, 6, 7, 8, 9, 10, 14, 32, 37, 41, 61, 65, 78, 98, 103, 116])) (bif_ (Nat.ble 114 f) (bif_ (Nat.ble 115 f) [0, 1, 2, 6, 7, 13] [0, 1, 2, 6, 7, 8, 9, 10, 11, 12, 32, 34, 49, 51, 54]) (bif_ (Nat.ble 113 f) [0, 1, 2, 6, 7, 8, 9, 10, 15, 33, 43] [0, 1, 2, 6, 7, 8, 9, 10, 19, 30])))) (bif_ (Nat.ble 104 f) (bif_ (Nat.ble 108 f) (bif_ (Nat.ble 110 f) (bif_ (Nat.ble 111 f) [0, 1, 2, 6, 7, 12, 30] [0, 2]) (bif_ (Nat.ble 109 f) [0, 1, 2, 3, 8, 9, 10, 11, 12, 13, 14, 15, 16, 17, 18, 23, 29, 35, 50, 68, 72, 87, 113] [0, 2])) (bif_ (Nat.ble 106 f) (bif_ (Nat.ble 107 f) [0, 1, 4, 5, 7, 8, 11, 12, 13, 14, 15, 21] [0, 1, 4, 5, 7, 8, 9, 16]) (bif_ (Nat.ble 105 f) [0, 1, 2, 12] [0, 2]))) (bif_ (Nat.ble 100 f) (bif_ (Nat.ble 102 f) (bif_ (Nat.ble 103 f) [0, 1, 4] [0, 1, 4, 5, 7, 8, 9, 16]) (bif_ (Nat.ble 101 f) [0, 2] [0, 2])) (bif_ (Nat.ble 98 f) (bif_ (Nat.ble 99 f) [0, 1, 4, 5, 7, 10, 11, 12, 13, 20, 21] [0, 1, 2, 3, 8, 9, 11, 18]) (bif_ (Nat.ble 97 f) [0, 2, 3, 4, 7, 10, 11] [0, 1, 4, 5, 7, 8, 9, 10, 11, 16]))))) (bif_ (Nat.ble 80 f) (bif_ (Nat.ble 88 f) (bif_ (Nat.ble 92 f) (bif_ (Nat.ble 94 f) (bif_ (Nat.ble 95 f) [0, 1, 4] [0, 2, 4]) (bif_ (Nat.ble 93 f) [0, 1, 4] [0, 1, 3, 5])) (bif_ (Nat.ble 90 f) (bif_ (Nat.ble 91 f) [0, 1, 4, 8] [0, 1, 2, 6, 7, 16]) (bif_ (Nat.ble 89 f) [0, 1, 4, 5, 7, 20] [0, 1, 2, 6, 7, 16]))) (bif_ (Nat.ble 84 f) (bif_ (Nat.ble 86 f) (bif_ (Nat.ble 87 f) [0, 1, 4, 5, 6, 7, 8, 11, 14, 36, 63, 68, 96] [0, 1, 2, 6, 25]) (bif_ (Nat.ble 85 f) [0, 1, 3, 4, 9] [0, 2])) (bif_ (Nat.ble 82 f) (bif_ (Nat.ble 83 f) [0, 1, 4, 8] [0, 1, 2, 6, 7, 10]) (bif_ (Nat.ble 81 f) [0, 2] [0, 1, 4])))) (bif_ (Nat.ble 72 f) (bif_ (Nat.ble 76 f) (bif_ (Nat.ble 78 f) (bif_ (Nat.ble 79 f) [0, 1, 2, 6, 8, 9, 10, 11, 12, 22] [0, 2, 3, 7, 37]) (bif_ (Nat.ble 77 f) [0, 1, 4, 5, 6, 17] [0, 1, 4, 5, 10, 14])) (bif_ (Nat.ble 74 f) (bif_ (Nat.ble 75 f) [0, 1, 4] [0, 1, 2]) (bif_ (Nat.ble 73 f) [0, 2, 3, 4, 5, 6, 7, 8, 30] [0, 1, 4, 8]))) (bif_ (Nat.ble 68 f) (bif_ (Nat.ble 70 f) (bif_ (Nat.ble 71 f) [0, 2, 3, 5, 8, 9, 10, 11, 12] [0, 1, 3, 4, 22]) (bif_ (Nat.ble 69 f) [0, 1, 4, 5, 6, 7, 8, 9, 10, 11, 13, 21, 45, 57] [0, 2, 3, 4, 47, 63])) (bif_ (Nat.ble 66 f) (bif_ (Nat.ble 67 f) [0, 1, 2, 6, 7] [0, 2, 4]) (bif_ (Nat.ble 65 f) [0, 1, 2, 6, 7, 25] [0, 1, 2, 6, 7, 8])))))) (bif_ (Nat.ble 32 f) (bif_ (Nat.ble 48 f) (bif_ (Nat.ble 56 f) (bif_ (Nat.ble 60 f) (bif_ (Nat.ble 62 f) (bif_ (Nat.ble 63 f) [0, 1, 4, 5, 6, 8, 17] [0, 2, 3, 5, 7, 16, 17, 18, 19, 27]) (bif_ (Nat.ble 61 f) [0, 1, 4, 5, 6, 24] [0, 32])) (bif_ (Nat.ble 58 f) (bif_ (Nat.ble 59 f) [0, 2] [0, 1, 4, 8]) (bif_ (Nat.ble 57 f) [0, 2, 5] [0, 1, 3]))) (bif_ (Nat.ble 52 f) (bif_ (Nat.ble 54 f) (bif_ (Nat.ble 55 f) [0, 1, 4] [0, 3, 8, 10, 11, 12, 13]) (bif_ (Nat.ble 53 f) [0, 2, 3] [0, 2, 3, 4, 7, 11])) (bif_ (Nat.ble 50 f) (bif_ (Nat.ble 51 f) [0, 1, 3, 7, 15, 32] [0, 1, 3, 18, 21, 30, 43, 65]) (bif_ (Nat.ble 49 f) [0, 1, 3, 4, 5, 9, 28, 65, 78] [0, 1, 3, 8, 10, 25, 33])))) (bif_ (Nat.ble 40 f) (bif_ (Nat.ble 44 f) (bif_ (Nat.ble 46 f) (bif_ (Nat.ble 47 f) [0, 1, 3, 4, 32] [0, 2, 3]) (bif_ (Nat.ble 45 f) [0, 1, 3] [0, 1])) (bif_ (Nat.ble 42 f) (bif_ (Nat.ble 43 f) [0, 2, 4] [0, 1, 2, 6, 8, 9, 10, 11, 12, 25]) (bif_ (Nat.ble 41 f) [0, 2] [0, 1, 2, 4]))) (bif_ (Nat.ble 36 f) (bif_ (Nat.ble 38 f) (bif_ (Nat.ble 39 f) [0, 1, 2] [0, 2, 3, 4, 5, 9, 22]) (bif_ (Nat.ble 37 f) [0, 1, 2, 3, 4] [0, 1, 2])) (bif_ (Nat.ble 34 f) (bif_ (Nat.ble 35 f) [0, 2] [0, 2]) (bif_ (Nat.ble 33 f) [0, 1, 2, 3, 4, 5, 6, 9, 28] [0, 2, 3, 4, 5, 7, 8, 9, 22]))))) (bif_ (Nat.ble 16 f) (bif_ (Nat.ble 24 f) (bif_ (Nat.ble 28 f) (bif_ (Nat.ble 30 f) (bif_ (Nat.ble 31 f) [0, 1, 2, 3, 4, 6, 12, 13, 14, 15, 41] [0, 1, 4, 6, 7, 8, 9, 10, 19]) (bif_ (Nat.ble 29 f) [0, 2] [0, 1, 2])) (bif_ (Nat.ble 26 f) (bif_ (Nat.ble 27 f) [0, 1, 4, 5, 6, 7, 16] [0, 2, 4]) (bif_ (Nat.ble 25 f) [0, 2, 4] [0, 1, 2, 6, 7, 8, 10, 12, 36]))) (bif_ (Nat.ble 20 f) (bif_ (Nat.ble 22 f) (bif_ (Nat.ble 23 f) [0, 2, 4] [0, 1, 2, 6, 7, 8, 9, 10, 11, 12, 13, 15, 30, 37, 64, 93]) (bif_ (Nat.ble 21 f) [0, 2, 4] [0, 2, 3, 5, 8, 10, 20, 28, 36, 88, 105, 106, 107, 108])) (bif_ (Nat.ble 18 f) (bif_ (Nat.ble 19 f) [0, 1, 4, 5, 6, 9] [0, 2, 4]) (bif_ (Nat.ble 17 f) [0, 2, 4] [0, 2, 4])))) (bif_ (Nat.ble 8 f) (bif_ (Nat.ble 12 f) (bif_ (Nat.ble 14 f) (bif_ (Nat.ble 15 f) [0, 1, 3, 4, 29, 31, 44, 54, 55, 62, 73, 74, 79, 84, 89, 94] [0, 1, 2, 4, 25]) (bif_ (Nat.ble 13 f) [0, 1, 2, 3, 5, 8, 37] [0, 1, 2, 3, 4, 5, 7, 61, 84, 91, 124, 129])) (bif_ (Nat.ble 10 f) (bif_ (Nat.ble 11 f) [0, 1, 2, 4, 47, 59, 62] [0, 1, 2]) (bif_ (Nat.ble 9 f) [0, 1, 2, 3, 4, 5, 6, 17] [0, 1, 4, 5, 6, 7, 8, 9, 10, 11, 12, 13, 16, 25, 33, 45, 49, 53, 57, 107]))) (bif_ (Nat.ble 4 f) (bif_ (Nat.ble 6 f) (bif_ (Nat.ble 7 f) [0, 1, 2, 3, 4, 6, 8] [0, 1, 4, 5, 6, 7, 8, 9, 10, 11, 12, 13, 14, 15, 16, 19, 28, 33, 42, 44, 57, 86, 100, 105, 112, 118, 123]) (bif_ (Nat.ble 5 f) [0, 1, 2, 3, 4, 5, 6, 7, 10, 20, 37, 43, 59, 95] [0, 1, 2, 3, 4, 10, 11, 12, 13, 14, 15, 16, 17, 18, 21, 51, 54, 64, 66, 73, 126, 127])) (bif_ (Nat.ble 2 f) (bif_ (Nat.ble 3 f) [0, 1, 2, 3, 6] []) []))))))

theorem ElemInfo.mk2 : ∃ i, Tryz.prog.info? 2 = some i ∧ i.size = 1 ∧ i.bytes = 8 ∧ (i.zero.map fun z => z.cells.size) = some 1 := elemInfo (by kernel_rfl)
theorem ElemInfo.mk31 : ∃ i, Tryz.prog.info? 31 = some i ∧ i.size = 4 ∧ i.bytes = 40 ∧ (i.zero.map fun z => z.cells.size) = some 4 := elemInfo (by kernel_rfl)
theorem ElemInfo.mk26 : ∃ i, Tryz.prog.info? 26 = some i ∧ i.size = 13 ∧ i.bytes = 136 ∧ (i.zero.map fun z => z.cells.size) = some 13 := elemInfo (by kernel_rfl)
theorem ElemInfo.mk3 : ∃ i, Tryz.prog.info? 3 = some i ∧ i.size = 1 ∧ i.bytes = 8 ∧ (i.zero.map fun z => z.cells.size) = some 1 := elemInfo (by kernel_rfl)
theorem ElemInfo.mk5 : ∃ i, Tryz.prog.info? 5 = some i ∧ i.size = 1 ∧ i.bytes = 1 ∧ (i.zero.map fun z => z.cells.size) = some 1 := elemInfo (by kernel_rfl)
theorem zf2 : ∃ i z, Tryz.prog.info? 2 = some i ∧ i.zero = some z ∧ z.cells.toList.all flat = true := zeroFlat (by kernel_rfl)
theorem zf26 : ∃ i z, Tryz.prog.info? 26 = some i ∧ i.zero = some z ∧ z.cells.toList.all flat = true := zeroFlat (by kernel_rfl)
theorem zf3 : ∃ i z, Tryz.prog.info? 3 = some i ∧ i.zero = some z ∧ z.cells.toList.all flat = true := zeroFlat (by kernel_rfl)
theorem zf31 : ∃ i z, Tryz.prog.info? 31 = some i ∧ i.zero = some z ∧ z.cells.toList.all flat = true := zeroFlat (by kernel_rfl)
theorem zf5 : ∃ i z, Tryz.prog.info? 5 = some i ∧ i.zero = some z ∧ z.cells.toList.all flat = true := zeroFlat (by kernel_rfl)
theorem el103 : elemIs Tryz.prog 103 1 = true := by kernel_rfl
theorem el22 : elemIs Tryz.prog 22 4 = true := by kernel_rfl
theorem el46 : elemIs Tryz.prog 46 1 = true := by kernel_rfl
theorem el68 : elemIs Tryz.prog 68 1 = true := by kernel_rfl
theorem ent100 : enters Tryz.prog 100 = true := by kernel_rfl
theorem ent101 : enters Tryz.prog 101 = true := by kernel_rfl
theorem ent102 : enters Tryz.prog 102 = true := by kernel_rfl
theorem ent11 : enters Tryz.prog 11 = true := by kernel_rfl
theorem ent18 : enters Tryz.prog 18 = true := by kernel_rfl
theorem ent26 : enters Tryz.prog 26 = true := by kernel_rfl
theorem ent29 : enters Tryz.prog 29 = true := by kernel_rfl
theorem ent30 : enters Tryz.prog 30 = true := by kernel_rfl
theorem ent31 : enters Tryz.prog 31 = true := by kernel_rfl
theorem ent32 : enters Tryz.prog 32 = true := by kernel_rfl
theorem ent33 : enters Tryz.prog 33 = true := by kernel_rfl
theorem ent40 : enters Tryz.prog 40 = true := by kernel_rfl
theorem ent41 : enters Tryz.prog 41 = true := by kernel_rfl
theorem ent42 : enters Tryz.prog 42 = true := by kernel_rfl
theorem ent43 : enters Tryz.prog 43 = true := by kernel_rfl
theorem ent44 : enters Tryz.prog 44 = true := by kernel_rfl
theorem ent45 : enters Tryz.prog 45 = true := by kernel_rfl
theorem ent46 : enters Tryz.prog 46 = true := by kernel_rfl
theorem ent47 : enters Tryz.prog 47 = true := by kernel_rfl
theorem ent56 : enters Tryz.prog 56 = true := by kernel_rfl
theorem ent61 : enters Tryz.prog 61 = true := by kernel_rfl
theorem ent66 : enters Tryz.prog 66 = true := by kernel_rfl
theorem ent73 : enters Tryz.prog 73 = true := by kernel_rfl
theorem ent74 : enters Tryz.prog 74 = true := by kernel_rfl
theorem ent75 : enters Tryz.prog 75 = true := by kernel_rfl
theorem ent76 : enters Tryz.prog 76 = true := by kernel_rfl
theorem ent77 : enters Tryz.prog 77 = true := by kernel_rfl
theorem ent79 : enters Tryz.prog 79 = true := by kernel_rfl
theorem ent80 : enters Tryz.prog 80 = true := by kernel_rfl
theorem ent81 : enters Tryz.prog 81 = true := by kernel_rfl
theorem ent82 : enters Tryz.prog 82 = true := by kernel_rfl
theorem ent99 : enters Tryz.prog 99 = true := by kernel_rfl
theorem eok103 : ElemOk Tryz.prog 103 2 1 8 := ⟨Tryz.underlying103, ElemInfo.mk2⟩
theorem eok22 : ElemOk Tryz.prog 22 31 4 40 := ⟨Tryz.underlying22, ElemInfo.mk31⟩
theorem eok38 : ElemOk Tryz.prog 38 26 13 136 := ⟨Tryz.underlying38, ElemInfo.mk26⟩
theorem eok46 : ElemOk Tryz.prog 46 3 1 8 := ⟨Tryz.underlying46, ElemInfo.mk3⟩
theorem eok68 : ElemOk Tryz.prog 68 5 1 1 := ⟨Tryz.underlying68, ElemInfo.mk5⟩
theorem eqt24 : E0 24 = true := by kernel_rfl
theorem eqt31 : E0 31 = true := by kernel_rfl
theorem eqt35 : E0 35 = true := by kernel_rfl
theorem fa24_0 : fieldIs Tryz.prog 24 0 0 = true := by kernel_rfl
theorem fa24_1 : fieldIs Tryz.prog 24 1 1 = true := by kernel_rfl
theorem fa24_2 : fieldIs Tryz.prog 24 2 2 = true := by kernel_rfl
theorem fa24_3 : fieldIs Tryz.prog 24 3 3 = true := by kernel_rfl
theorem fa26_0 : fieldIs Tryz.prog 26 0 0 = true := by kernel_rfl
theorem fa26_1 : fieldIs Tryz.prog 26 1 1 = true := by kernel_rfl
theorem fa26_2 : fieldIs Tryz.prog 26 2 2 = true := by kernel_rfl
theorem fa26_3 : fieldIs Tryz.prog 26 3 3 = true := by kernel_rfl
theorem fa26_4 : fieldIs Tryz.prog 26 4 4 = true := by kernel_rfl
theorem fa26_5 : fieldIs Tryz.prog 26 5 5 = true := by kernel_rfl
theorem fa26_6 : fieldIs Tryz.prog 26 6 6 = true := by kernel_rfl
theorem fa26_7 : fieldIs Tryz.prog 26 7 7 = true := by kernel_rfl
theorem fa26_8 : fieldIs Tryz.prog 26 8 8 = true := by kernel_rfl
theorem fa26_9 : fieldIs Tryz.prog 26 9 9 = true := by kernel_rfl
theorem fa31_0 : fieldIs Tryz.prog 31 0 0 = true := by kernel_rfl
theorem fa31_1 : fieldIs Tryz.prog 31 1 1 = true := by kernel_rfl
theorem fa31_2 : fieldIs Tryz.prog 31 2 2 = true := by kernel_rfl
theorem fa31_3 : fieldIs Tryz.prog 31 3 3 = true := by kernel_rfl
theorem fa35_0 : fieldIs Tryz.prog 35 0 0 = true := by kernel_rfl
theorem fa35_1 : fieldIs Tryz.prog 35 1 1 = true := by kernel_rfl
theorem fa40_0 : fieldIs Tryz.prog 40 0 0 = true := by kernel_rfl
theorem fa40_1 : fieldIs Tryz.prog 40 1 1 = true := by kernel_rfl
theorem fa76_0 : fieldIs Tryz.prog 76 0 0 = true := by kernel_rfl
theorem fa76_1 : fieldIs Tryz.prog 76 1 1 = true := by kernel_rfl
theorem fa76_2 : fieldIs Tryz.prog 76 2 3 = true := by kernel_rfl
theorem fa80_0 : fieldIs Tryz.prog 80 0 0 = true := by kernel_rfl
theorem fa80_1 : fieldIs Tryz.prog 80 1 1 = true := by kernel_rfl
theorem fa80_2 : fieldIs Tryz.prog 80 2 3 = true := by kernel_rfl
theorem fa80_4 : fieldIs Tryz.prog 80 4 5 = true := by kernel_rfl
theorem fa80_5 : fieldIs Tryz.prog 80 5 6 = true := by kernel_rfl
theorem fa80_6 : fieldIs Tryz.prog 80 6 7 = true := by kernel_rfl
theorem fa80_9 : fieldIs Tryz.prog 80 9 10 = true := by kernel_rfl
theorem fa85_0 : fieldIs Tryz.prog 85 0 0 = true := by kernel_rfl
theorem fa85_1 : fieldIs Tryz.prog 85 1 4 = true := by kernel_rfl
theorem fd24_0 : fieldFlat Tryz.prog 24 0 0 = true := by kernel_rfl
theorem fit24 (a0 : Int) (a1 : Int) (a2 : ByteArray) (a3 : ByteArray) : fitAgg Tryz.prog 24 [.int .i64 a0, .int .i64 a1, .string a2, .string a3] = true := by kernel_rfl
theorem fit31 (a0 : Int) (a1 : Int) (a2 : Int) (a3 : ByteArray) : fitAgg Tryz.prog 31 [.int .i64 a0, .int .i64 a1, .int .i64 a2, .string a3] = true := by kernel_rfl
theorem fit35 (a0 : Int) (a1 : Int) : fitAgg Tryz.prog 35 [.int .i64 a0, .int .i64 a1] = true := by kernel_rfl
theorem isrow22 : isRow Tryz.prog (some 22) = true := by kernel_rfl
theorem isrow38 : isRow Tryz.prog (some 38) = true := by kernel_rfl
theorem isrow46 : isRow Tryz.prog (some 46) = true := by kernel_rfl
theorem isrow68 : isRow Tryz.prog (some 68) = true := by kernel_rfl
theorem isrow9 : isRow Tryz.prog (some 9) = true := by kernel_rfl
theorem isstr_9 : isStr Tryz.prog 9 = true := by kernel_rfl
theorem many24 : manyB Tryz.prog 24 4 = true := by kernel_rfl
theorem many26 : manyB Tryz.prog 26 13 = true := by kernel_rfl
theorem many31 : manyB Tryz.prog 31 4 = true := by kernel_rfl
theorem many35 : manyB Tryz.prog 35 2 = true := by kernel_rfl
theorem many40 : manyB Tryz.prog 40 4 = true := by kernel_rfl
theorem one2 : oneB Tryz.prog 2 = true := by kernel_rfl
theorem one22 : oneB Tryz.prog 22 = true := by kernel_rfl
theorem one3 : oneB Tryz.prog 3 = true := by kernel_rfl
theorem one36 : oneB Tryz.prog 36 = true := by kernel_rfl
theorem one38 : oneB Tryz.prog 38 = true := by kernel_rfl
theorem one4 : oneB Tryz.prog 4 = true := by kernel_rfl
theorem one5 : oneB Tryz.prog 5 = true := by kernel_rfl
theorem one9 : oneB Tryz.prog 9 = true := by kernel_rfl
theorem pl24 : placesOf Tryz.prog 24 = some [(0, 1), (1, 1), (2, 1), (3, 1)] := by kernel_rfl
theorem pl26 : placesOf Tryz.prog 26 = some [(0, 1), (1, 1), (2, 1), (3, 1), (4, 1), (5, 1), (6, 1), (7, 1), (8, 1), (9, 4)] := by kernel_rfl
theorem pl31 : placesOf Tryz.prog 31 = some [(0, 1), (1, 1), (2, 1), (3, 1)] := by kernel_rfl
theorem pl35 : placesOf Tryz.prog 35 = some [(0, 1), (1, 1)] := by kernel_rfl
theorem pl40 : placesOf Tryz.prog 40 = some [(0, 1), (1, 1), (2, 1), (3, 1)] := by kernel_rfl
theorem pl76 : placesOf Tryz.prog 76 = some [(0, 1), (1, 2), (3, 4)] := by kernel_rfl
theorem pl80 : placesOf Tryz.prog 80 = some [(0, 1), (1, 2), (3, 1), (4, 1), (5, 1), (6, 1), (7, 1), (8, 1), (9, 1), (10, 4)] := by kernel_rfl
theorem pl85 : placesOf Tryz.prog 85 = some [(0, 4), (4, 1)] := by kernel_rfl
theorem size2 : sizeIs Tryz.prog 2 1 = true := by kernel_rfl
theorem size24 : sizeIs Tryz.prog 24 4 = true := by kernel_rfl
theorem size3 : sizeIs Tryz.prog 3 1 = true := by kernel_rfl
theorem size31 : sizeIs Tryz.prog 31 4 = true := by kernel_rfl
theorem size35 : sizeIs Tryz.prog 35 2 = true := by kernel_rfl
theorem size38 : sizeIs Tryz.prog 38 1 = true := by kernel_rfl
theorem size4 : sizeIs Tryz.prog 4 1 = true := by kernel_rfl
theorem size40 : sizeIs Tryz.prog 40 4 = true := by kernel_rfl
theorem slu8_68 : slU8 Tryz.prog 68 = true := by kernel_rfl
theorem zero24 : ZeroIs Tryz.prog 24 [.int .i64 0, .int .i64 0, .string (⟨#[]⟩), .string (⟨#[]⟩)] := ⟨.agg #[.int .i64 0, .int .i64 0, .string (⟨#[]⟩), .string (⟨#[]⟩)], by kernel_rfl, rfl, rfl, rfl⟩
theorem zero26 : ZeroIs Tryz.prog 26 [.int .i64 0, .int .i64 0, .int .i64 0, .int .i64 0, .int .i64 0, .int .i64 0, .int .i64 0, .bool false, .slice none 0 0, .int .i64 0, .int .i64 0, .string (⟨#[]⟩), .string (⟨#[]⟩)] := ⟨.agg #[.int .i64 0, .int .i64 0, .int .i64 0, .int .i64 0, .int .i64 0, .int .i64 0, .int .i64 0, .bool false, .slice none 0 0, .int .i64 0, .int .i64 0, .string (⟨#[]⟩), .string (⟨#[]⟩)], by kernel_rfl, rfl, rfl, rfl⟩
theorem zero31 : ZeroIs Tryz.prog 31 [.int .i64 0, .int .i64 0, .int .i64 0, .string (⟨#[]⟩)] := ⟨.agg #[.int .i64 0, .int .i64 0, .int .i64 0, .string (⟨#[]⟩)], by kernel_rfl, rfl, rfl, rfl⟩
theorem zero35 : ZeroIs Tryz.prog 35 [.int .i64 0, .int .i64 0] := ⟨.agg #[.int .i64 0, .int .i64 0], by kernel_rfl, rfl, rfl, rfl⟩
theorem zero40 : ZeroIs Tryz.prog 40 [.slice none 0 0, .bool false, .int .i64 0, .bool false] := ⟨.agg #[.slice none 0 0, .bool false, .int .i64 0, .bool false], by kernel_rfl, rfl, rfl, rfl⟩
theorem zero76 : ZeroIs Tryz.prog 76 [.bool false, .int .i64 0, .int .i64 0, .int .i64 0, .int .i64 0, .int .i64 0, .string (⟨#[]⟩)] := ⟨.agg #[.bool false, .int .i64 0, .int .i64 0, .int .i64 0, .int .i64 0, .int .i64 0, .string (⟨#[]⟩)], by kernel_rfl, rfl, rfl, rfl⟩
theorem zero80 : ZeroIs Tryz.prog 80 [.int .i64 0, .int .i64 0, .int .i64 0, .pointer none, .int .i64 0, .int .i64 0, .int .i64 0, .bool false, .pointer none, .pointer none, .slice none 0 0, .bool false, .int .i64 0, .bool false] := ⟨.agg #[.int .i64 0, .int .i64 0, .int .i64 0, .pointer none, .int .i64 0, .int .i64 0, .int .i64 0, .bool false, .pointer none, .pointer none, .slice none 0 0, .bool false, .int .i64 0, .bool false], by kernel_rfl, rfl, rfl, rfl⟩
theorem zero85 : ZeroIs Tryz.prog 85 [.int .i64 0, .int .i64 0, .string (⟨#[]⟩), .string (⟨#[]⟩), .slice none 0 0] := ⟨.agg #[.int .i64 0, .int .i64 0, .string (⟨#[]⟩), .string (⟨#[]⟩), .slice none 0 0], by kernel_rfl, rfl, rfl, rfl⟩
theorem rlog_in1_spec (H : Heap) (n : Int) : ∃ v H', Spec Tryz.prog 81 [.int .i64 n] H v H' ∧ ((v = .bool (Spec.badN n)) ∧ (Ext H H')) := by
 refine spec_go1 E0_ok 9 (f := 81) Tryz.func81 rfl rfl rfl ?_
 refine aw_seq ?_
 refine aw_reg ?_
 refine st_op (ev_assign rfl) rfl rfl rfl ?_
 try show aw _ _ _ _ _ _
 refine aw_seq ?_
 refine aw_reg ?_
 refine st_op (ev_move rfl) rfl rfl rfl ?_
 refine st_op (ev_int rfl rfl rfl) rfl rfl rfl ?_
 refine st_op (ev_move rfl) rfl rfl rfl ?_
 refine st_bool 5 rfl (fun hb1 => ?_) (fun hb1 => ?_)
 ·
  have hb1 := of_decide_eq_true hb1
  iterate 2 refine st_skip rfl rfl rfl ?_
  refine st_op (ev_pickT rfl rfl) rfl rfl rfl ?_
  refine st_op (ev_assign rfl) rfl rfl rfl ?_
  try show aw _ _ _ _ _ _
  refine aw_ret ?_
  have hres : (Spec.badN n) = true := by simp only [Spec.badN]; rw [Bool.eq_iff_iff]; simp only [decide_eq_true_eq, Bool.false_eq_true, iff_false, iff_true, not_or]; omega
  exact ⟨.bool true, rfl, by first | (rw [hres]; done) | rw [← hres], (Ext.refl H)⟩
 ·
  have hb1 := of_decide_eq_false hb1
  refine st_op (ev_move rfl) rfl rfl rfl ?_
  refine st_op (ev_int rfl rfl rfl) rfl rfl rfl ?_
  refine st_op (ev_pickF rfl rfl) rfl rfl rfl ?_
  refine st_op (ev_assign rfl) rfl rfl rfl ?_
  try show aw _ _ _ _ _ _
  refine aw_ret ?_
  have hres : (Spec.badN n) = (decide (n > 1099511627776)) := by simp only [Spec.badN]; rw [Bool.eq_iff_iff]; simp only [decide_eq_true_eq, Bool.false_eq_true, iff_false, iff_true, not_or]; omega
  exact ⟨.bool (decide (n > 1099511627776)), rfl, by first | (rw [hres]; done) | rw [← hres], (Ext.refl H)⟩
theorem rlog_find_spec (H : Heap) (lA : Option Addr) (l : List Int) (lc : Nat) (hl : Row H lA lc 1 (l.map i64c)) (cl : l.length ≤ lc) (ll : l.length ≤ 1099511627776)  : ∃ v H', Spec Tryz.prog 102 [.slice lA l.length lc, .func (.func 81) #[] #[]] H v H' ∧ ((v = .int .i64 (Spec.findF Spec.badN l 0)) ∧ (-1 ≤ (Spec.findF Spec.badN l 0) ∧ (Spec.findF Spec.badN l 0) < (l.length : Int)) ∧ (Ext H H')) := by
 refine spec_go2 E0_ok 19 (f := 102) Tryz.func102 rfl rfl rfl ?_
 refine aw_seq ?_
 refine aw_reg ?_
 refine st_op (ev_assign rfl) rfl rfl rfl ?_
 try show aw _ _ _ _ _ _
 iterate 2 refine aw_seq ?_
 refine aw_reg ?_
 refine st_op (ev_move rfl) rfl rfl rfl ?_
 refine st_op (ev_lenSl rfl Tryz.underlying103) rfl rfl rfl ?_
 refine st_op (ev_move rfl) rfl rfl rfl ?_
 try show aw _ _ _ _ _ _
 refine aw_block ?_
 refine aw_keep [0, 1, 7, 8] (l' := (.cons 0 (.slice lA l.length lc) (.cons 1 (.func (.func 81) #[] #[]) (.cons 7 (.int .i64 (l.length : Int)) (.cons 8 (.int .i64 0) .nil))))) (by repeat (first | exact Up.done | refine Up.then ?_ | refine Up.inBlock ?_)) rfl ?_
 refine aw_iter (α := Nat × Heap) (fun a => l.length - a.1) (fun a => (.cons 0 (.slice lA l.length lc) (.cons 1 (.func (.func 81) #[] #[]) (.cons 7 (.int .i64 (l.length : Int)) (.cons 8 (.int .i64 (a.1 : Int)) .nil))))) (fun a => a.2) (fun a => (a.1 ≤ l.length) ∧ (Spec.findF Spec.badN l 0 = Spec.findF Spec.badN (l.drop a.1) (a.1 : Int)) ∧ (Ext H a.2)) (0, H) ⟨(show 0 ≤ l.length from Nat.zero_le _), (show Spec.findF Spec.badN l 0 = Spec.findF Spec.badN (l.drop 0) (0 : Int) from rfl), (show Ext H H from (Ext.refl H))⟩ ?_
 rintro ⟨i, Hl1⟩ ⟨hi, hv, hxl2⟩ ih3
 replace hi : i ≤ l.length := hi
 replace hv : Spec.findF Spec.badN l 0 = Spec.findF Spec.badN (l.drop i) (i : Int) := hv
 replace hxl2 : Ext H Hl1 := hxl2
 show aw _ _ _ (RL _ (.cons 0 (.slice lA l.length lc) (.cons 1 (.func (.func 81) #[] #[]) (.cons 7 (.int .i64 (l.length : Int)) (.cons 8 (.int .i64 (i : Int)) .nil))))) Hl1 _
 have Hl1n : H.next ≤ Hl1.next := hxl2.1
 refine aw_seq ?_
 refine aw_reg ?_
 refine st_op (ev_int rfl rfl rfl) rfl rfl rfl ?_
 try show aw _ _ _ _ _ _
 refine aw_seq ?_
 by_cases hc4 : (decide ((i : Int) < (l.length : Int))) = true
 ·
  refine aw_condT hc4 rfl ?_
  try show aw _ _ _ _ _ _
  have hc4 := of_decide_eq_true hc4
  refine aw_skip ?_
  try show aw _ _ _ _ _ _
  refine aw_seq ?_
  refine aw_block ?_
  refine aw_seq ?_
  refine aw_reg ?_
  refine st_op (ev_move rfl) rfl rfl rfl ?_
  refine st_op (ev_assign rfl) rfl rfl rfl ?_
  try show aw _ _ _ _ _ _
  refine aw_seq ?_
  refine aw_reg ?_
  iterate 3 refine st_op (ev_move rfl) rfl rfl rfl ?_
  have h5 := Row.ext hl hxl2
  have hi6 : 0 ≤ ((i : Int) : Int) := by omega
  have hi7 : ((i : Int) : Int) < ((l.length : Nat) : Int) := by omega
  obtain ⟨x8, hx9⟩ : ∃ e, l[i]? = some e := ⟨_, List.getElem?_eq_getElem (by omega)⟩
  refine st_op (ev_at rfl rfl h5 (getMap i64c hx9) (by first | rfl | omega | simp) hi6 hi7 el103) rfl rfl rfl ?_
  refine st_op (ev_atL rfl h5 (getMap i64c hx9) one2 rfl) rfl rfl rfl ?_
  refine st_callv rfl rfl rfl rfl rfl ent81 rfl rfl rfl ?_
  obtain ⟨_, H11, hs10, hs10v, hx12⟩ := rlog_in1_spec Hl1 x8
  rw [hs10v] at hs10; clear hs10v
  refine ⟨_, H11, hs10, ?_⟩
  have H11n : Hl1.next ≤ H11.next := hx12.1
  try show aw _ _ _ _ _ _
  by_cases hc13 : (Spec.badN x8) = true
  ·
   refine aw_condT hc13 rfl ?_
   try show aw _ _ _ _ _ _
   refine aw_seq ?_
   refine aw_reg ?_
   refine st_op (ev_move rfl) rfl rfl rfl ?_
   refine st_op (ev_assign rfl) rfl rfl rfl ?_
   try show aw _ _ _ _ _ _
   refine aw_ret ?_
   have hx14 : Ext H H11 := (Ext.trans hxl2 hx12)
   have hres : (Spec.findF Spec.badN l 0) = (i : Int) := by rw [hv, drop_at hx9, Spec.findF, if_pos (by assumption)]
   exact ⟨.int .i64 (i : Int), rfl, by first | (rw [hres]; done) | rw [← hres], (by exact Spec.findF_bd _ _), hx14⟩
  ·
   rw [Bool.not_eq_true] at hc13; refine aw_condF hc13 rfl ?_
   try show aw _ _ _ _ _ _
   refine aw_skip ?_
   try show aw _ _ _ _ _ _
   refine aw_reg ?_
   refine st_op (ev_int64 (c := (i : Int) + 1) rfl rfl rfl (by omega) (by omega)) rfl rfl rfl ?_
   refine st_op (ev_move rfl) rfl rfl rfl ?_
   try show aw _ _ _ _ _ _
   have hx15 : Ext H H11 := (Ext.trans hxl2 hx12)
   refine aw_keep [0, 1, 7, 8] (l' := (.cons 0 (.slice lA l.length lc) (.cons 1 (.func (.func 81) #[] #[]) (.cons 7 (.int .i64 (l.length : Int)) (.cons 8 (.int .i64 ((i : Int) + 1)) .nil))))) (by repeat (first | exact Up.done | refine Up.then ?_ | refine Up.inBlock ?_)) rfl ?_
   exact ih3 (i + 1, H11) ⟨(show (i + 1) ≤ l.length from (by omega)), (show Spec.findF Spec.badN l 0 = Spec.findF Spec.badN (l.drop (i + 1)) ((i + 1) : Int) from (by rw [hv, drop_at hx9, Spec.findF, if_neg (by simp_all)] <;> rfl)), (show Ext H H11 from hx15)⟩ (by simp only; omega)
 ·
  rw [Bool.not_eq_true] at hc4; refine aw_condF hc4 rfl ?_
  try show aw _ _ _ _ _ _
  have hc4 := of_decide_eq_false hc4
  refine aw_exit ?_
  try show aw _ _ _ _ _ _
  refine aw_seq ?_
  refine aw_reg ?_
  refine st_op (ev_assign rfl) rfl rfl rfl ?_
  try show aw _ _ _ _ _ _
  refine aw_ret ?_
  have hres : (Spec.findF Spec.badN l 0) = (-1) := by rw [hv, List.drop_eq_nil_of_le (by omega)]; rfl
  exact ⟨.int .i64 (-1), rfl, by first | (rw [hres]; done) | rw [← hres], (by exact Spec.findF_bd _ _), hxl2⟩
theorem rlog_contains_spec (H : Heap) (lA : Option Addr) (l : List Int) (lc : Nat) (hl : Row H lA lc 1 (l.map i64c)) (cl : l.length ≤ lc) (ll : l.length ≤ 1099511627776)  : ∃ v H', Spec Tryz.prog 80 [.slice lA l.length lc, .func (.func 81) #[] #[]] H v H' ∧ ((v = .bool (decide (Spec.findF Spec.badN l 0 ≥ 0))) ∧ (Ext H H')) := by
 refine spec_go2 E0_ok 9 (f := 80) Tryz.func80 rfl rfl rfl ?_
 refine aw_seq ?_
 refine aw_reg ?_
 refine st_op (ev_assign rfl) rfl rfl rfl ?_
 try show aw _ _ _ _ _ _
 refine aw_seq ?_
 refine aw_reg ?_
 iterate 2 refine st_op (ev_move rfl) rfl rfl rfl ?_
 refine st_call rfl rfl rfl ent102 rfl rfl rfl ?_
 obtain ⟨_, H2, hs1, hs1v, hq4, hx3⟩ := rlog_find_spec H lA l lc hl cl (by omega) 
 rw [hs1v] at hs1; clear hs1v
 generalize hR6 : (Spec.findF Spec.badN l 0) = r5 at hs1 hq4
 refine ⟨_, H2, hs1, ?_⟩
 have H2n : H.next ≤ H2.next := hx3.1
 refine st_op (ev_int rfl rfl rfl) rfl rfl rfl ?_
 refine st_op (ev_assign rfl) rfl rfl rfl ?_
 try show aw _ _ _ _ _ _
 refine aw_ret ?_
 have hres : (decide (Spec.findF Spec.badN l 0 ≥ 0)) = (decide (r5 ≥ 0)) := by rw [hR6]
 exact ⟨.bool (decide (r5 ≥ 0)), rfl, by first | (rw [hres]; done) | rw [← hres], hx3⟩
theorem rlog_in_spec (H : Heap) (lA : Option Addr) (l : List Int) (lc : Nat) (hl : Row H lA lc 1 (l.map i64c)) (cl : l.length ≤ lc) (ll : l.length ≤ 1099511627776) : ∃ v H', Spec Tryz.prog 41 [.slice lA l.length lc] H v H' ∧ ((v = .bool (Spec.inAll l)) ∧ (Ext H H')) := by
 refine spec_go1 E0_ok 6 (f := 41) Tryz.func41 rfl rfl rfl ?_
 refine aw_seq ?_
 refine aw_reg ?_
 refine st_op (ev_assign rfl) rfl rfl rfl ?_
 try show aw _ _ _ _ _ _
 refine aw_seq ?_
 refine aw_reg ?_
 refine st_op (ev_move rfl) rfl rfl rfl ?_
 refine st_call rfl rfl rfl ent80 rfl rfl rfl ?_
 obtain ⟨_, H2, hs1, hs1v, hx3⟩ := rlog_contains_spec H lA l lc hl cl (by omega) 
 rw [hs1v] at hs1; clear hs1v
 refine ⟨_, H2, hs1, ?_⟩
 have H2n : H.next ≤ H2.next := hx3.1
 refine st_op (ev_not rfl) rfl rfl rfl ?_
 refine st_op (ev_assign rfl) rfl rfl rfl ?_
 try show aw _ _ _ _ _ _
 refine aw_ret ?_
 have hres : (Spec.inAll l) = (!(decide (Spec.findF Spec.badN l 0 ≥ 0))) := by exact Spec.in_all.symm
 exact ⟨.bool (!(decide (Spec.findF Spec.badN l 0 ≥ 0))), rfl, by first | (rw [hres]; done) | rw [← hres], hx3⟩
theorem rlog_row_spec (H : Heap) (index : Int) (term : Int) (esA : Option Addr) (es : List Entry) (esc : Nat) (hes : Row H esA esc 4 (es.map Entry.cells)) (ces : es.length ≤ esc) (les : es.length ≤ 140737488355328) : ∃ v H', Spec Tryz.prog 42 [.int .i64 index, .int .i64 term, .slice esA es.length esc] H v H' ∧ ((v = .bool (Spec.logRow index term es)) ∧ (Ext H H')) := by
 refine spec_go3 E0_ok 31 (f := 42) Tryz.func42 rfl rfl rfl ?_
 refine aw_seq ?_
 refine aw_reg ?_
 refine st_op (ev_assign rfl) rfl rfl rfl ?_
 try show aw _ _ _ _ _ _
 iterate 2 refine aw_seq ?_
 refine aw_reg ?_
 refine st_op (ev_move rfl) rfl rfl rfl ?_
 refine st_op (ev_lenSl rfl Tryz.underlying22) rfl rfl rfl ?_
 refine st_op (ev_move rfl) rfl rfl rfl ?_
 try show aw _ _ _ _ _ _
 refine aw_block ?_
 refine aw_keep [0, 1, 9, 10, 11] (l' := (.cons 0 (.int .i64 index) (.cons 1 (.int .i64 term) (.cons 9 (.slice esA es.length esc) (.cons 10 (.int .i64 (es.length : Int)) (.cons 11 (.int .i64 0) .nil)))))) (by repeat (first | exact Up.done | refine Up.then ?_ | refine Up.inBlock ?_)) rfl ?_
 refine aw_iter (α := Nat × Int × Int × Heap) (fun a => es.length - a.1) (fun a => (.cons 0 (.int .i64 a.2.1) (.cons 1 (.int .i64 a.2.2.1) (.cons 9 (.slice esA es.length esc) (.cons 10 (.int .i64 (es.length : Int)) (.cons 11 (.int .i64 (a.1 : Int)) .nil)))))) (fun a => a.2.2.2) (fun a => (a.1 ≤ es.length) ∧ (Spec.logRow index term es = Spec.logRow a.2.1 a.2.2.1 (es.drop a.1)) ∧ (Ext H a.2.2.2)) (0, index, term, H) ⟨(show 0 ≤ es.length from Nat.zero_le _), (show Spec.logRow index term es = Spec.logRow index term (es.drop 0) from rfl), (show Ext H H from (Ext.refl H))⟩ ?_
 rintro ⟨i, ix, tm, Hl1⟩ ⟨hi, hv, hxl2⟩ ih3
 replace hi : i ≤ es.length := hi
 replace hv : Spec.logRow index term es = Spec.logRow ix tm (es.drop i) := hv
 replace hxl2 : Ext H Hl1 := hxl2
 show aw _ _ _ (RL _ (.cons 0 (.int .i64 ix) (.cons 1 (.int .i64 tm) (.cons 9 (.slice esA es.length esc) (.cons 10 (.int .i64 (es.length : Int)) (.cons 11 (.int .i64 (i : Int)) .nil)))))) Hl1 _
 have Hl1n : H.next ≤ Hl1.next := hxl2.1
 refine aw_seq ?_
 refine aw_reg ?_
 refine st_op (ev_int rfl rfl rfl) rfl rfl rfl ?_
 try show aw _ _ _ _ _ _
 refine aw_seq ?_
 by_cases hc4 : (decide ((i : Int) < (es.length : Int))) = true
 ·
  refine aw_condT hc4 rfl ?_
  try show aw _ _ _ _ _ _
  have hc4 := of_decide_eq_true hc4
  refine aw_skip ?_
  try show aw _ _ _ _ _ _
  refine aw_seq ?_
  refine aw_block ?_
  refine aw_seq ?_
  refine aw_reg ?_
  have h5 := Row.ext hes hxl2
  have hi6 : 0 ≤ ((i : Int) : Int) := by omega
  have hi7 : ((i : Int) : Int) < ((es.length : Nat) : Int) := by omega
  obtain ⟨x8, hx9⟩ : ∃ e, es[i]? = some e := ⟨_, List.getElem?_eq_getElem (by omega)⟩
  refine st_op (ev_at rfl rfl h5 (getMap Entry.cells hx9) (by first | rfl | omega | simp) hi6 hi7 el22) rfl rfl rfl ?_
  refine st_op (ev_atN (cs := [.int .i64 x8.index, .int .i64 x8.term, .int .i64 x8.kind, .string x8.data]) rfl h5 (getMap Entry.cells hx9) many31 rfl rfl (by decide)) rfl rfl rfl ?_
  obtain ⟨b10, H11, he12, b10e, H11n_, hB14, f13⟩ := mem_alloc Hl1 zero31
  refine st_op (he12 _ _ _ _ _ _ _) rfl rfl rfl ?_
  have hx15 : Ext Hl1 H11 := Ext.new (by omega) H11n_ f13
  have H11n : Hl1.next ≤ H11.next := hx15.1
  obtain ⟨H16, he17, H16n_, hB18, f19⟩ := mem_store (v := .agg #[.int .i64 x8.index, .int .i64 x8.term, .int .i64 x8.kind, .string x8.data]) (o := 0) (cs' := [.int .i64 x8.index, .int .i64 x8.term, .int .i64 x8.kind, .string x8.data]) 4 rfl rfl size31 hB14 rfl rfl rfl
  refine st_op0 (he17 _ _ _ _ _ _ _ _ _ rfl rfl) rfl rfl ?_
  have hf20 : Fr (fun q => q = b10) H11 H16 := Fr.write H16n_ f19
  have H16n : H11.next ≤ H16.next := hf20.1
  try show aw _ _ _ _ _ _
  iterate 2 refine aw_seq ?_
  refine aw_reg ?_
  refine st_op (ev_fieldAddr rfl fa31_0 (o' := 0) rfl) rfl rfl rfl ?_
  refine st_op (ev_load rfl (lvar_one one2 hB18 rfl)) rfl rfl rfl ?_
  refine st_op (ev_move rfl) rfl rfl rfl ?_
  iterate 2 refine st_op (ev_int rfl rfl rfl) rfl rfl rfl ?_
  refine st_op (ev_move rfl) rfl rfl rfl ?_
  refine st_bool 20 rfl (fun hb21 => ?_) (fun hb21 => ?_)
  ·
   have hb21 : ¬ (x8.index = (IntKind.i64.wrap (ix + 1))) := by simpa using hb21
   iterate 4 refine st_skip rfl rfl rfl ?_
   refine st_op (ev_pickT rfl rfl) rfl rfl rfl ?_
   try show aw _ _ _ _ _ _
   refine aw_cond (t := true) rfl ?_
   try show aw _ _ _ _ _ _
   refine aw_seq ?_
   refine aw_reg ?_
   refine st_op (ev_assign rfl) rfl rfl rfl ?_
   try show aw _ _ _ _ _ _
   refine aw_ret ?_
   have hx22 : Ext H H16 := (Ext.then (Ext.trans hxl2 hx15) hf20 (fun q hq e => by omega))
   have hres : (Spec.logRow index term es) = false := by rw [hv]; exact Spec.logRow_fail hx9 (by first | exact .inr (by omega) | exact .inl (by assumption) | simp_all)
   exact ⟨.bool false, rfl, by first | (rw [hres]; done) | rw [← hres], hx22⟩
  ·
   have hb21 : (x8.index = (IntKind.i64.wrap (ix + 1))) := by simpa using hb21
   refine st_op (ev_fieldAddr rfl fa31_1 (o' := 1) rfl) rfl rfl rfl ?_
   refine st_op (ev_load rfl (lvar_one one2 hB18 rfl)) rfl rfl rfl ?_
   refine st_op (ev_move rfl) rfl rfl rfl ?_
   refine st_op (ev_int rfl rfl rfl) rfl rfl rfl ?_
   refine st_op (ev_pickF rfl rfl) rfl rfl rfl ?_
   try show aw _ _ _ _ _ _
   by_cases hc23 : (decide (x8.term < tm)) = true
   ·
    refine aw_condT hc23 rfl ?_
    try show aw _ _ _ _ _ _
    have hc23 := of_decide_eq_true hc23
    refine aw_seq ?_
    refine aw_reg ?_
    refine st_op (ev_assign rfl) rfl rfl rfl ?_
    try show aw _ _ _ _ _ _
    refine aw_ret ?_
    have hx24 : Ext H H16 := (Ext.then (Ext.trans hxl2 hx15) hf20 (fun q hq e => by omega))
    have hres : (Spec.logRow index term es) = false := by rw [hv]; exact Spec.logRow_fail hx9 (by first | exact .inr (by omega) | exact .inl (by assumption) | simp_all)
    exact ⟨.bool false, rfl, by first | (rw [hres]; done) | rw [← hres], hx24⟩
   ·
    rw [Bool.not_eq_true] at hc23; refine aw_condF hc23 rfl ?_
    try show aw _ _ _ _ _ _
    have hc23 := of_decide_eq_false hc23
    refine aw_skip ?_
    try show aw _ _ _ _ _ _
    refine aw_marks (fun b => b < H16.next) [(false, false), (false, false), (false, false), (false, false), (false, false), (false, false)] mixed (by kernel_rfl) (by kernel_rfl) ?_
    refine sm_op (ev_fieldAddr rfl fa31_0 (o' := 0) rfl) rfl rfl rfl ?_
    refine sm_op (ev_load rfl (lvar_one one2 hB18 rfl)) rfl rfl rfl ?_
    refine sm_op (ev_fieldAddr rfl fa31_1 (o' := 1) rfl) rfl rfl rfl ?_
    refine sm_op (ev_load rfl (lvar_one one2 hB18 rfl)) rfl rfl rfl ?_
    iterate 2 refine sm_op (ev_assign rfl) rfl rfl rfl ?_
    try show aw _ _ _ _ _ _
    refine aw_reg ?_
    refine st_op (ev_int64 (c := (i : Int) + 1) rfl rfl rfl (by omega) (by omega)) rfl rfl rfl ?_
    refine st_op (ev_move rfl) rfl rfl rfl ?_
    try show aw _ _ _ _ _ _
    have hx25 : Ext H H16 := (Ext.then (Ext.trans hxl2 hx15) hf20 (fun q hq e => by omega))
    refine aw_keep [0, 1, 9, 10, 11] (l' := (.cons 0 (.int .i64 x8.index) (.cons 1 (.int .i64 x8.term) (.cons 9 (.slice esA es.length esc) (.cons 10 (.int .i64 (es.length : Int)) (.cons 11 (.int .i64 ((i : Int) + 1)) .nil)))))) (by repeat (first | exact Up.done | refine Up.then ?_ | refine Up.inBlock ?_)) rfl ?_
    exact ih3 (i + 1, x8.index, x8.term, H16) ⟨(show (i + 1) ≤ es.length from (by omega)), (show Spec.logRow index term es = Spec.logRow x8.index x8.term (es.drop (i + 1)) from (by rw [hv]; exact Spec.logRow_step hx9 (by first | assumption | simp_all) (by omega))), (show Ext H H16 from hx25)⟩ (by simp only; omega)
 ·
  rw [Bool.not_eq_true] at hc4; refine aw_condF hc4 rfl ?_
  try show aw _ _ _ _ _ _
  have hc4 := of_decide_eq_false hc4
  refine aw_exit ?_
  try show aw _ _ _ _ _ _
  refine aw_seq ?_
  refine aw_reg ?_
  refine st_op (ev_assign rfl) rfl rfl rfl ?_
  try show aw _ _ _ _ _ _
  refine aw_ret ?_
  have hres : (Spec.logRow index term es) = true := by rw [hv, List.drop_eq_nil_of_le (by omega)]; rfl
  exact ⟨.bool true, rfl, by first | (rw [hres]; done) | rw [← hres], hxl2⟩
theorem sl_CloneE_spec (H : Heap) (lA : Option Addr) (l : List Entry) (lc : Nat) (hl : Row H lA lc 4 (l.map Entry.cells)) (cl : l.length ≤ lc) (ll : l.length ≤ 1073741824) : ∃ v H', Spec Tryz.prog 43 [.slice lA l.length lc] H v H' ∧ (∃ rA0 rc0, (v = .slice rA0 l.length rc0) ∧ (My H H' rA0 rc0 4 (l.map Entry.cells)) ∧ (Ext H H')) := by
 refine spec_go1 E0_ok 8 (f := 43) Tryz.func43 rfl rfl rfl ?_
 refine aw_seq ?_
 refine aw_reg ?_
 refine st_op (ev_assign rfl) rfl rfl rfl ?_
 try show aw _ _ _ _ _ _
 iterate 2 refine aw_seq ?_
 refine aw_reg ?_
 refine st_op (ev_move rfl) rfl rfl rfl ?_
 refine st_op (ev_nilSl rfl rfl Tryz.underlying22) rfl rfl rfl ?_
 try show aw _ _ _ _ _ _
 by_cases hc1 : (Option.isNone lA) = true
 ·
  refine aw_condT hc1 rfl ?_
  try show aw _ _ _ _ _ _
  refine aw_seq ?_
  refine aw_reg ?_
  refine st_op (ev_assign rfl) rfl rfl rfl ?_
  try show aw _ _ _ _ _ _
  refine aw_ret ?_
  have hm2 : My H H none 0 4 (([] : List Entry).map Entry.cells) := .nil
  have hres : l = ([] : List Entry) := by exact Row.isNone hl (by assumption)
  exact ⟨.slice none 0 0, rfl, none, 0, by first | (rw [hres]; first | done | rfl | simp; done) | rfl, (by rw [hres]; exact hm2), (Ext.refl H)⟩
 ·
  rw [Bool.not_eq_true] at hc1; refine aw_condF hc1 rfl ?_
  try show aw _ _ _ _ _ _
  refine aw_skip ?_
  try show aw _ _ _ _ _ _
  refine aw_seq ?_
  refine aw_reg ?_
  obtain ⟨b3, H4, he5, b3e, H4n_, hm7, f6⟩ := mem_lit H (xs := ([] : List Value)) (m := 0) (rows := ([] : List (List Value))) rfl eok22 (by decide) (by decide) zf31 rfl (allLen rfl) rfl
  replace hm7 : My H H4 (some ⟨b3, 0, none⟩) 0 4 (([] : List Entry).map Entry.cells) := hm7
  refine st_op (he5 _ _ _ _ _ _ _ _ rfl) rfl rfl rfl ?_
  have hx8 : Ext H H4 := Ext.new (by omega) H4n_ f6
  have H4n : H.next ≤ H4.next := hx8.1
  refine st_op (ev_move rfl) rfl rfl rfl ?_
  have h9 := Row.ext hl hx8
  obtain ⟨A10, c11, H12, W13, he14, hm15, hf16⟩ := mem_append (f := Entry.cells) (old := ([] : List Entry)) (new := l) (m := 0) (mx := l.length) (c := 0) (by first | rfl | simp) (by first | rfl | simp) eok22 (by decide) hm7 hm7 (by omega) ((h9).srcF (by decide) (by first | rfl | simp)) rfl Entry.cells_len Entry.cells_one (by first | omega | (simp only [List.length_append, List.length_cons, List.length_nil, List.length_map, List.length_set, List.length_replicate, Spec.bytesOf_length]; omega) | (simp; omega)) (by first | omega | (simp only [List.length_append, List.length_cons, List.length_nil, List.length_map, List.length_set, List.length_replicate, Spec.bytesOf_length]; omega) | (simp; omega))
  refine st_op (he14 _ _ _ _ _ _ _ _ _ _ rfl rfl isrow22) rfl rfl rfl ?_
  have H12n : H4.next ≤ H12.next := hf16.1
  rw [List.nil_append] at hm15
  refine st_op (ev_assign rfl) rfl rfl rfl ?_
  try show aw _ _ _ _ _ _
  refine aw_ret ?_
  have hx17 : Ext H H12 := (Ext.then hx8 hf16 (fun q hq e => by omega))
  have hres : l = l := by rfl
  exact ⟨.slice A10 l.length c11, rfl, A10, c11, by first | (rw [hres]; first | done | rfl | simp; done) | rfl, (by rw [hres]; exact hm15), hx17⟩
theorem rlog_New_spec (H : Heap) (s_index : Int) (s_term : Int) (s_conf : ByteArray) (s_data : ByteArray) (lA : Option Addr) (l : List Entry) (lc : Nat) (hl : Row H lA lc 4 (l.map Entry.cells)) (cl : l.length ≤ lc) (ll : l.length ≤ 140737488355328) (ul : Spec.newOk s_index s_term l = true) : ∃ v H', Spec Tryz.prog 14 [.agg #[.int .i64 s_index, .int .i64 s_term, .string s_conf, .string s_data], .slice lA l.length lc] H v H' ∧ (∃ rA1 rc1, ∃ rb0, (v = .pointer (some ⟨rb0, 0, none⟩)) ∧ (My H H' rA1 rc1 4 (l.map Entry.cells)) ∧ (H.next ≤ rb0) ∧ (rb0 < H'.next) ∧ (H'.blk rb0 = some ⟨[.int .i64 s_index, .int .i64 s_term, .string s_conf, .string s_data, .slice rA1 l.length rc1], 0, false, false⟩) ∧ (Ext H H')) := by
 refine spec_go2 E0_ok 31 (f := 14) Tryz.func14 rfl rfl rfl ?_
 refine aw_seq ?_
 refine aw_reg ?_
 obtain ⟨b1, H2, he3, b1e, H2n_, hB5, f4⟩ := mem_box (P := Tryz.prog) H (v := .agg #[.int .i64 s_index, .int .i64 s_term, .string s_conf, .string s_data]) (cs := [.int .i64 s_index, .int .i64 s_term, .string s_conf, .string s_data]) rfl rfl
 refine st_op (he3 _ _ _ _ _ _ _ _ _ rfl) rfl rfl rfl ?_
 have hx6 : Ext H H2 := Ext.new (by omega) H2n_ f4
 have H2n : H.next ≤ H2.next := hx6.1
 refine st_op (ev_assign rfl) rfl rfl rfl ?_
 try show aw _ _ _ _ _ _
 iterate 2 refine aw_seq ?_
 refine aw_reg ?_
 refine st_op (ev_fieldAddr rfl fa24_0 (o' := 0) rfl) rfl rfl rfl ?_
 refine st_op (ev_load rfl (lvar_one one2 hB5 rfl)) rfl rfl rfl ?_
 refine st_op (ev_fieldAddr rfl fa24_1 (o' := 1) rfl) rfl rfl rfl ?_
 refine st_op (ev_load rfl (lvar_one one2 hB5 rfl)) rfl rfl rfl ?_
 obtain ⟨b7, H8, he9, b7e, H8n_, hm11, f10⟩ := mem_lit H2 (xs := ([.int .i64 s_index, .int .i64 s_term] : List Value)) (m := 2) (rows := [[.int .i64 s_index], [.int .i64 s_term]]) rfl eok103 (by decide) (by decide) zf2 rfl (allLen rfl) rfl
 replace hm11 : My H2 H8 (some ⟨b7, 0, none⟩) 2 1 ([s_index, s_term].map i64c) := hm11
 refine st_op (he9 _ _ _ _ _ _ _ _ rfl) rfl rfl rfl ?_
 have hx12 : Ext H2 H8 := Ext.new (by omega) H8n_ f10
 have H8n : H2.next ≤ H8.next := hx12.1
 refine st_call rfl rfl rfl ent41 rfl rfl rfl ?_
 obtain ⟨_, H14, hs13, hs13v, hx15⟩ := rlog_in_spec H8 (some ⟨b7, 0, none⟩) ([s_index, s_term]) 2 (My.row hm11) (My.capF hm11 (by first | omega | (simp only [List.length_append, List.length_cons, List.length_nil, List.length_map, List.length_set, List.length_replicate, Spec.bytesOf_length]; omega) | (simp; omega))) (by first | omega | (simp only [List.length_append, List.length_cons, List.length_nil, List.length_map, List.length_set, List.length_replicate, Spec.bytesOf_length]; omega) | (simp; omega))
 rw [hs13v] at hs13; clear hs13v
 refine ⟨_, H14, hs13, ?_⟩
 have H14n : H8.next ≤ H14.next := hx15.1
 refine st_op (ev_not rfl) rfl rfl rfl ?_
 refine st_op (ev_move rfl) rfl rfl rfl ?_
 refine st_bool 12 rfl (fun hb16 => ?_) (fun hb16 => ?_)
 ·
  replace hb16 : (Spec.inAll ([s_index, s_term])) = false := by rw [Bool.not_eq_true'] at hb16; exact hb16
  iterate 3 refine st_skip rfl rfl rfl ?_
  refine st_op (ev_pickT rfl rfl) rfl rfl rfl ?_
  refine st_op (ev_move rfl) rfl rfl rfl ?_
  iterate 7 refine st_skip rfl rfl rfl ?_
  refine st_op (ev_pickT rfl rfl) rfl rfl rfl ?_
  try show aw _ _ _ _ _ _
  refine aw_cond (t := true) rfl ?_
  try show aw _ _ _ _ _ _
  refine aw_seq ?_
  refine aw_reg ?_
  refine st_op (ev_assign rfl) rfl rfl rfl ?_
  try show aw _ _ _ _ _ _
  refine aw_ret ?_
  exfalso; have q := ul; rw [Spec.new_is] at q; simp_all; try omega
 ·
  replace hb16 : (Spec.inAll ([s_index, s_term])) = true := by rw [Bool.not_eq_false'] at hb16; exact hb16
  refine st_op (ev_move rfl) rfl rfl rfl ?_
  refine st_op (ev_lenSl rfl Tryz.underlying22) rfl rfl rfl ?_
  refine st_op (ev_int rfl rfl rfl) rfl rfl rfl ?_
  refine st_op (ev_pickF rfl rfl) rfl rfl rfl ?_
  refine st_op (ev_move rfl) rfl rfl rfl ?_
  refine st_bool 17 rfl (fun hb17 => ?_) (fun hb17 => ?_)
  ·
   have hb17 := of_decide_eq_true hb17
   iterate 7 refine st_skip rfl rfl rfl ?_
   refine st_op (ev_pickT rfl rfl) rfl rfl rfl ?_
   try show aw _ _ _ _ _ _
   refine aw_cond (t := true) rfl ?_
   try show aw _ _ _ _ _ _
   refine aw_seq ?_
   refine aw_reg ?_
   refine st_op (ev_assign rfl) rfl rfl rfl ?_
   try show aw _ _ _ _ _ _
   refine aw_ret ?_
   exfalso; have q := ul; rw [Spec.new_is] at q; simp_all; try omega
  ·
   have hb17 := of_decide_eq_false hb17
   refine st_op (ev_fieldAddr rfl fa24_0 (o' := 0) rfl) rfl rfl rfl ?_
   have hx19 : Ext H2 H14 := (Ext.trans hx12 hx15)
   have h18 := Ext.blk hx19 (by omega) hB5
   refine st_op (ev_load rfl (lvar_one one2 h18 rfl)) rfl rfl rfl ?_
   refine st_op (ev_fieldAddr rfl fa24_1 (o' := 1) rfl) rfl rfl rfl ?_
   refine st_op (ev_load rfl (lvar_one one2 h18 rfl)) rfl rfl rfl ?_
   refine st_op (ev_move rfl) rfl rfl rfl ?_
   refine st_call rfl rfl rfl ent42 rfl rfl rfl ?_
   have hx21 : Ext H H14 := (Ext.trans (Ext.trans hx6 hx12) hx15)
   have h20 := Row.ext hl hx21
   obtain ⟨_, H23, hs22, hs22v, hx24⟩ := rlog_row_spec H14 s_index s_term lA l lc h20 cl (by first | omega | (simp only [List.length_append, List.length_cons, List.length_nil, List.length_map, List.length_set, List.length_replicate, Spec.bytesOf_length]; omega) | (simp; omega))
   rw [hs22v] at hs22; clear hs22v
   refine ⟨_, H23, hs22, ?_⟩
   have H23n : H14.next ≤ H23.next := hx24.1
   refine st_op (ev_not rfl) rfl rfl rfl ?_
   refine st_op (ev_pickF rfl rfl) rfl rfl rfl ?_
   try show aw _ _ _ _ _ _
   by_cases hc25 : (!(Spec.logRow s_index s_term l)) = true
   ·
    refine aw_condT hc25 rfl ?_
    try show aw _ _ _ _ _ _
    replace hc25 : (Spec.logRow s_index s_term l) = false := by rw [Bool.not_eq_true'] at hc25; exact hc25
    refine aw_seq ?_
    refine aw_reg ?_
    refine st_op (ev_assign rfl) rfl rfl rfl ?_
    try show aw _ _ _ _ _ _
    refine aw_ret ?_
    exfalso; have q := ul; rw [Spec.new_is] at q; simp_all; try omega
   ·
    rw [Bool.not_eq_true] at hc25; refine aw_condF hc25 rfl ?_
    try show aw _ _ _ _ _ _
    replace hc25 : (Spec.logRow s_index s_term l) = true := by rw [Bool.not_eq_false'] at hc25; exact hc25
    refine aw_skip ?_
    try show aw _ _ _ _ _ _
    refine aw_seq ?_
    refine aw_marks (fun b => b < H23.next) [(true, false), (false, false), (false, true), (false, false), (false, false), (false, false)] mixed (by kernel_rfl) (by kernel_rfl) ?_
    have h26 := Ext.blk hx24 (by omega) h18
    refine sm_read (ev_load rfl (lvar_part (l := [.int .i64 s_index, .int .i64 s_term, .string s_conf, .string s_data]) many24 h26 rfl rfl (by decide))) rfl rfl rfl (fun b hb => by cases hb; dsimp only <;> omega) ?_
    refine sm_op (ev_move rfl) rfl rfl rfl ?_
    refine sm_call rfl rfl rfl ent43 rfl rfl rfl ?_
    have h27 := Row.ext h20 hx24
    obtain ⟨_, H29, hs28, A31, c32, hs28v, hm33, hx30⟩ := sl_CloneE_spec H23 lA l lc h27 cl (by first | omega | (simp only [List.length_append, List.length_cons, List.length_nil, List.length_map, List.length_set, List.length_replicate, Spec.bytesOf_length]; omega) | (simp; omega))
    rw [hs28v] at hs28; clear hs28v
    refine ⟨_, H29, hs28, (fun _ b hb => hx30.2 b (by omega)), ?_⟩
    have H29n : H23.next ≤ H29.next := hx30.1
    refine sm_op (ev_build zero85 pl85 (parts := [(0, .agg #[.int .i64 s_index, .int .i64 s_term, .string s_conf, .string s_data]), (1, .slice A31 l.length c32)]) rfl (cs := [.int .i64 s_index, .int .i64 s_term, .string s_conf, .string s_data, .slice A31 l.length c32]) rfl) rfl rfl rfl ?_
    obtain ⟨b34, H35, he36, b34e, H35n_, hB38, f37⟩ := mem_box (P := Tryz.prog) H29 (v := .agg #[.int .i64 s_index, .int .i64 s_term, .string s_conf, .string s_data, .slice A31 l.length c32]) (cs := [.int .i64 s_index, .int .i64 s_term, .string s_conf, .string s_data, .slice A31 l.length c32]) rfl rfl
    refine sm_op (he36 _ _ _ _ _ _ _ _ _ rfl) rfl rfl rfl ?_
    have hx39 : Ext H29 H35 := Ext.new (by omega) H35n_ f37
    have H35n : H29.next ≤ H35.next := hx39.1
    refine sm_op (ev_assign rfl) rfl rfl rfl ?_
    try show aw _ _ _ _ _ _
    refine aw_ret ?_
    have h40 := My.ext hm33 hx39
    have hx41 : Ext H H35 := (Ext.trans (Ext.trans (Ext.trans hx21 hx24) hx30) hx39)
    have hres : l = l := by rfl
    exact ⟨.pointer (some ⟨b34, 0, none⟩), rfl, A31, c32, b34, by first | (rw [hres]; first | done | rfl | simp; done) | rfl, (by first | exact (My.older h40 (by omega)) | (rw [hres]; exact (My.older h40 (by omega)))), (by first | exact (by omega) | (rw [hres]; exact (by omega))), (by first | exact (by omega) | (rw [hres]; exact (by omega))), (by first | exact hB38 | (rw [hres]; exact hB38)), hx41⟩
theorem rlog_Snap_spec (H : Heap) (x : Int) (hx : 0 ≤ x ∧ x ≤ 2199023255552) (tm : Int) (cf : ByteArray) (hcf : cf.size ≤ 1073741824) (dt : ByteArray) (lA : Option Addr) (l : List Entry) (lc : Nat) (hl : Row H lA lc 4 (l.map Entry.cells)) (cl : l.length ≤ lc) (ll : l.length ≤ 200) (g : Nat) (hg : g < H.next) (Bg : H.blk g = some ⟨[.int .i64 x, .int .i64 tm, .string cf, .string dt, .slice lA l.length lc], 0, false, false⟩) (uk : Spec.LogOk x tm l) : ∃ v H', Spec Tryz.prog 26 [.pointer (some ⟨g, 0, none⟩)] H v H' ∧ ((v = .agg #[.int .i64 x, .int .i64 tm, .string cf, .string dt]) ∧ (Ext H H')) := by
 refine spec_go1 E0_ok 10 (f := 26) Tryz.func26 rfl rfl rfl ?_
 refine aw_seq ?_
 refine aw_reg ?_
 obtain ⟨b1, H2, he3, b1e, H2n_, hB5, f4⟩ := mem_alloc H zero24
 refine st_op (he3 _ _ _ _ _ _ _) rfl rfl rfl ?_
 have hx6 : Ext H H2 := Ext.new (by omega) H2n_ f4
 have H2n : H.next ≤ H2.next := hx6.1
 try show aw _ _ _ _ _ _
 iterate 2 refine aw_seq ?_
 refine aw_reg ?_
 refine st_op (ev_move rfl) rfl rfl rfl ?_
 refine st_op (ev_nilEq rfl rfl Tryz.underlying36) rfl rfl rfl ?_
 try show aw _ _ _ _ _ _
 refine aw_cond (t := false) rfl ?_
 try show aw _ _ _ _ _ _
 refine aw_skip ?_
 try show aw _ _ _ _ _ _
 refine aw_seq ?_
 refine aw_reg ?_
 refine st_op (ev_move rfl) rfl rfl rfl ?_
 refine st_op (ev_nilCheck rfl) rfl rfl rfl ?_
 refine st_op (ev_fieldAddr rfl fa85_0 (o' := 0) rfl) rfl rfl rfl ?_
 have h7 := Ext.blk hx6 (by omega) Bg
 refine st_op (ev_load rfl (lvar_part (l := [.int .i64 x, .int .i64 tm, .string cf, .string dt]) many24 h7 rfl rfl (by decide))) rfl rfl rfl ?_
 obtain ⟨H8, he9, H8n_, hB10, f11⟩ := mem_store (v := .agg #[.int .i64 x, .int .i64 tm, .string cf, .string dt]) (o := 0) (cs' := [.int .i64 x, .int .i64 tm, .string cf, .string dt]) 4 rfl rfl size24 hB5 rfl rfl rfl
 refine st_op0 (he9 _ _ _ _ _ _ _ _ _ rfl rfl) rfl rfl ?_
 have hf12 : Fr (fun q => q = b1) H2 H8 := Fr.write H8n_ f11
 have H8n : H2.next ≤ H8.next := hf12.1
 try show aw _ _ _ _ _ _
 refine aw_ret ?_
 have hx13 : Ext H H8 := (Ext.then hx6 hf12 (fun q hq e => by omega))
 exact ⟨.agg #[.int .i64 x, .int .i64 tm, .string cf, .string dt], (resA_of (resL_cell rfl (lvar_part (l := [.int .i64 x, .int .i64 tm, .string cf, .string dt]) many24 hB10 rfl rfl (by decide)) resL_nil) rfl), rfl, hx13⟩
theorem rlog_Last_spec (H : Heap) (x : Int) (hx : 0 ≤ x ∧ x ≤ 2199023255552) (tm : Int) (cf : ByteArray) (hcf : cf.size ≤ 1073741824) (dt : ByteArray) (lA : Option Addr) (l : List Entry) (lc : Nat) (hl : Row H lA lc 4 (l.map Entry.cells)) (cl : l.length ≤ lc) (ll : l.length ≤ 200) (g : Nat) (hg : g < H.next) (Bg : H.blk g = some ⟨[.int .i64 x, .int .i64 tm, .string cf, .string dt, .slice lA l.length lc], 0, false, false⟩) (uk : Spec.LogOk x tm l) : ∃ v H', Spec Tryz.prog 18 [.pointer (some ⟨g, 0, none⟩)] H v H' ∧ ((v = .int .i64 (x + (l.length : Int))) ∧ (Ext H H')) := by
 refine spec_go1 E0_ok 16 (f := 18) Tryz.func18 rfl rfl rfl ?_
 refine aw_seq ?_
 refine aw_reg ?_
 refine st_op (ev_assign rfl) rfl rfl rfl ?_
 try show aw _ _ _ _ _ _
 iterate 2 refine aw_seq ?_
 refine aw_reg ?_
 refine st_op (ev_move rfl) rfl rfl rfl ?_
 refine st_op (ev_nilEq rfl rfl Tryz.underlying36) rfl rfl rfl ?_
 try show aw _ _ _ _ _ _
 refine aw_cond (t := false) rfl ?_
 try show aw _ _ _ _ _ _
 refine aw_skip ?_
 try show aw _ _ _ _ _ _
 refine aw_seq ?_
 refine aw_marks (fun b => b < H.next) [(false, false), (false, false), (false, false), (false, false), (false, false), (false, false), (false, false), (false, false), (false, false), (false, false), (false, false), (false, false)] mixed (by kernel_rfl) (by kernel_rfl) ?_
 refine sm_op (ev_move rfl) rfl rfl rfl ?_
 refine sm_op (ev_nilCheck rfl) rfl rfl rfl ?_
 refine sm_op (ev_fieldAddr rfl fa85_0 (o' := 0) rfl) rfl rfl rfl ?_
 refine sm_op (ev_fieldAddr rfl fa24_0 (o' := 0) rfl) rfl rfl rfl ?_
 refine sm_op (ev_load rfl (lvar_one one2 Bg rfl)) rfl rfl rfl ?_
 refine sm_op (ev_move rfl) rfl rfl rfl ?_
 refine sm_op (ev_nilCheck rfl) rfl rfl rfl ?_
 refine sm_op (ev_fieldAddr rfl fa85_1 (o' := 4) rfl) rfl rfl rfl ?_
 refine sm_op (ev_load rfl (lvar_one one22 Bg rfl)) rfl rfl rfl ?_
 refine sm_op (ev_lenSl rfl Tryz.underlying22) rfl rfl rfl ?_
 refine sm_op (ev_int64 (c := x + (l.length : Int)) rfl rfl rfl (by omega) (by omega)) rfl rfl rfl ?_
 refine sm_op (ev_assign rfl) rfl rfl rfl ?_
 try show aw _ _ _ _ _ _
 refine aw_ret ?_
 have hres : (x + (l.length : Int)) = x + (l.length : Int) := by rfl
 exact ⟨.int .i64 (x + (l.length : Int)), rfl, by first | (rw [hres]; done) | rw [← hres], (Ext.refl H)⟩
theorem raft_server_spec (H : Heap) (id : Int) : ∃ v H', Spec Tryz.prog 29 [.int .i64 id] H v H' ∧ ((v = .bool (decide (1 ≤ id ∧ id ≤ 7))) ∧ (Ext H H')) := by
 refine spec_go1 E0_ok 9 (f := 29) Tryz.func29 rfl rfl rfl ?_
 refine aw_seq ?_
 refine aw_reg ?_
 refine st_op (ev_assign rfl) rfl rfl rfl ?_
 try show aw _ _ _ _ _ _
 refine aw_seq ?_
 refine aw_reg ?_
 refine st_op (ev_move rfl) rfl rfl rfl ?_
 refine st_op (ev_int rfl rfl rfl) rfl rfl rfl ?_
 refine st_op (ev_move rfl) rfl rfl rfl ?_
 refine st_bool 5 rfl (fun hb1 => ?_) (fun hb1 => ?_)
 ·
  have hb1 := of_decide_eq_true hb1
  refine st_op (ev_move rfl) rfl rfl rfl ?_
  refine st_op (ev_int rfl rfl rfl) rfl rfl rfl ?_
  refine st_op (ev_pickT rfl rfl) rfl rfl rfl ?_
  refine st_op (ev_assign rfl) rfl rfl rfl ?_
  try show aw _ _ _ _ _ _
  refine aw_ret ?_
  have hres : (decide (1 ≤ id ∧ id ≤ 7)) = (decide (id ≤ 7)) := by simp_all <;> omega
  exact ⟨.bool (decide (id ≤ 7)), rfl, by first | (rw [hres]; done) | rw [← hres], (Ext.refl H)⟩
 ·
  have hb1 := of_decide_eq_false hb1
  iterate 2 refine st_skip rfl rfl rfl ?_
  refine st_op (ev_pickF rfl rfl) rfl rfl rfl ?_
  refine st_op (ev_assign rfl) rfl rfl rfl ?_
  try show aw _ _ _ _ _ _
  refine aw_ret ?_
  have hres : (decide (1 ≤ id ∧ id ≤ 7)) = false := by simp_all <;> omega
  exact ⟨.bool false, rfl, by first | (rw [hres]; done) | rw [← hres], (Ext.refl H)⟩
theorem raft_in_spec (H : Heap) (least : Int) (hleast : -9223372036854775808 ≤ least ∧ least ≤ 9223372036854775807) (lA : Option Addr) (l : List Int) (lc : Nat) (hl : Row H lA lc 1 (l.map i64c)) (cl : l.length ≤ lc) (ll : l.length ≤ 1099511627776) : ∃ v H', Spec Tryz.prog 30 [.int .i64 least, .slice lA l.length lc] H v H' ∧ ((v = .bool (Spec.inF least 1099511627776 l)) ∧ (Ext H H')) := by
 refine spec_go2 E0_ok 21 (f := 30) Tryz.func30 rfl rfl rfl ?_
 refine aw_seq ?_
 refine aw_reg ?_
 refine st_op (ev_assign rfl) rfl rfl rfl ?_
 try show aw _ _ _ _ _ _
 iterate 2 refine aw_seq ?_
 refine aw_reg ?_
 refine st_op (ev_move rfl) rfl rfl rfl ?_
 refine st_op (ev_lenSl rfl Tryz.underlying103) rfl rfl rfl ?_
 refine st_op (ev_move rfl) rfl rfl rfl ?_
 try show aw _ _ _ _ _ _
 refine aw_block ?_
 refine aw_keep [0, 7, 8, 9] (l' := (.cons 0 (.int .i64 least) (.cons 7 (.slice lA l.length lc) (.cons 8 (.int .i64 (l.length : Int)) (.cons 9 (.int .i64 0) .nil))))) (by repeat (first | exact Up.done | refine Up.then ?_ | refine Up.inBlock ?_)) rfl ?_
 refine aw_iter (α := Nat × Heap) (fun a => l.length - a.1) (fun a => (.cons 0 (.int .i64 least) (.cons 7 (.slice lA l.length lc) (.cons 8 (.int .i64 (l.length : Int)) (.cons 9 (.int .i64 (a.1 : Int)) .nil))))) (fun a => a.2) (fun a => (a.1 ≤ l.length) ∧ (Spec.inF least 1099511627776 l = Spec.inF least 1099511627776 (l.drop a.1)) ∧ (Ext H a.2)) (0, H) ⟨(show 0 ≤ l.length from Nat.zero_le _), (show Spec.inF least 1099511627776 l = Spec.inF least 1099511627776 (l.drop 0) from rfl), (show Ext H H from (Ext.refl H))⟩ ?_
 rintro ⟨i, Hl1⟩ ⟨hi, hv, hxl2⟩ ih3
 replace hi : i ≤ l.length := hi
 replace hv : Spec.inF least 1099511627776 l = Spec.inF least 1099511627776 (l.drop i) := hv
 replace hxl2 : Ext H Hl1 := hxl2
 show aw _ _ _ (RL _ (.cons 0 (.int .i64 least) (.cons 7 (.slice lA l.length lc) (.cons 8 (.int .i64 (l.length : Int)) (.cons 9 (.int .i64 (i : Int)) .nil))))) Hl1 _
 have Hl1n : H.next ≤ Hl1.next := hxl2.1
 refine aw_seq ?_
 refine aw_reg ?_
 refine st_op (ev_int rfl rfl rfl) rfl rfl rfl ?_
 try show aw _ _ _ _ _ _
 refine aw_seq ?_
 by_cases hc4 : (decide ((i : Int) < (l.length : Int))) = true
 ·
  refine aw_condT hc4 rfl ?_
  try show aw _ _ _ _ _ _
  have hc4 := of_decide_eq_true hc4
  refine aw_skip ?_
  try show aw _ _ _ _ _ _
  refine aw_seq ?_
  refine aw_block ?_
  refine aw_seq ?_
  refine aw_reg ?_
  have h5 := Row.ext hl hxl2
  have hi6 : 0 ≤ ((i : Int) : Int) := by omega
  have hi7 : ((i : Int) : Int) < ((l.length : Nat) : Int) := by omega
  obtain ⟨x8, hx9⟩ : ∃ e, l[i]? = some e := ⟨_, List.getElem?_eq_getElem (by omega)⟩
  refine st_op (ev_at rfl rfl h5 (getMap i64c hx9) (by first | rfl | omega | simp) hi6 hi7 el103) rfl rfl rfl ?_
  refine st_op (ev_atL rfl h5 (getMap i64c hx9) one2 rfl) rfl rfl rfl ?_
  refine st_op (ev_assign rfl) rfl rfl rfl ?_
  try show aw _ _ _ _ _ _
  refine aw_seq ?_
  refine aw_reg ?_
  iterate 2 refine st_op (ev_move rfl) rfl rfl rfl ?_
  refine st_op (ev_int rfl rfl rfl) rfl rfl rfl ?_
  refine st_op (ev_move rfl) rfl rfl rfl ?_
  refine st_bool 16 rfl (fun hb10 => ?_) (fun hb10 => ?_)
  ·
   have hb10 := of_decide_eq_true hb10
   iterate 2 refine st_skip rfl rfl rfl ?_
   refine st_op (ev_pickT rfl rfl) rfl rfl rfl ?_
   try show aw _ _ _ _ _ _
   refine aw_cond (t := true) rfl ?_
   try show aw _ _ _ _ _ _
   refine aw_seq ?_
   refine aw_reg ?_
   refine st_op (ev_assign rfl) rfl rfl rfl ?_
   try show aw _ _ _ _ _ _
   refine aw_ret ?_
   have hres : (Spec.inF least 1099511627776 l) = false := by rw [hv, drop_at hx9, Spec.inF]; first | (rw [if_pos (by omega)]; done) | (rw [if_neg (by omega), if_pos (by omega)]; done)
   exact ⟨.bool false, rfl, by first | (rw [hres]; done) | rw [← hres], hxl2⟩
  ·
   have hb10 := of_decide_eq_false hb10
   refine st_op (ev_move rfl) rfl rfl rfl ?_
   refine st_op (ev_int rfl rfl rfl) rfl rfl rfl ?_
   refine st_op (ev_pickF rfl rfl) rfl rfl rfl ?_
   try show aw _ _ _ _ _ _
   by_cases hc11 : (decide (x8 > 1099511627776)) = true
   ·
    refine aw_condT hc11 rfl ?_
    try show aw _ _ _ _ _ _
    have hc11 := of_decide_eq_true hc11
    refine aw_seq ?_
    refine aw_reg ?_
    refine st_op (ev_assign rfl) rfl rfl rfl ?_
    try show aw _ _ _ _ _ _
    refine aw_ret ?_
    have hres : (Spec.inF least 1099511627776 l) = false := by rw [hv, drop_at hx9, Spec.inF]; first | (rw [if_pos (by omega)]; done) | (rw [if_neg (by omega), if_pos (by omega)]; done)
    exact ⟨.bool false, rfl, by first | (rw [hres]; done) | rw [← hres], hxl2⟩
   ·
    rw [Bool.not_eq_true] at hc11; refine aw_condF hc11 rfl ?_
    try show aw _ _ _ _ _ _
    have hc11 := of_decide_eq_false hc11
    refine aw_skip ?_
    try show aw _ _ _ _ _ _
    refine aw_reg ?_
    refine st_op (ev_int64 (c := (i : Int) + 1) rfl rfl rfl (by omega) (by omega)) rfl rfl rfl ?_
    refine st_op (ev_move rfl) rfl rfl rfl ?_
    try show aw _ _ _ _ _ _
    refine aw_keep [0, 7, 8, 9] (l' := (.cons 0 (.int .i64 least) (.cons 7 (.slice lA l.length lc) (.cons 8 (.int .i64 (l.length : Int)) (.cons 9 (.int .i64 ((i : Int) + 1)) .nil))))) (by repeat (first | exact Up.done | refine Up.then ?_ | refine Up.inBlock ?_)) rfl ?_
    exact ih3 (i + 1, Hl1) ⟨(show (i + 1) ≤ l.length from (by omega)), (show Spec.inF least 1099511627776 l = Spec.inF least 1099511627776 (l.drop (i + 1)) from (by rw [hv, drop_at hx9, Spec.inF, if_neg (by omega), if_neg (by omega)])), (show Ext H Hl1 from hxl2)⟩ (by simp only; omega)
 ·
  rw [Bool.not_eq_true] at hc4; refine aw_condF hc4 rfl ?_
  try show aw _ _ _ _ _ _
  have hc4 := of_decide_eq_false hc4
  refine aw_exit ?_
  try show aw _ _ _ _ _ _
  refine aw_seq ?_
  refine aw_reg ?_
  refine st_op (ev_assign rfl) rfl rfl rfl ?_
  try show aw _ _ _ _ _ _
  refine aw_ret ?_
  have hres : (Spec.inF least 1099511627776 l) = true := by rw [hv, List.drop_eq_nil_of_le (by omega)]; rfl
  exact ⟨.bool true, rfl, by first | (rw [hres]; done) | rw [← hres], hxl2⟩
theorem wal_in_spec (H : Heap) (least : Int) (hleast : -9223372036854775808 ≤ least ∧ least ≤ 9223372036854775807) (most : Int) (hmost : -9223372036854775808 ≤ most ∧ most ≤ 9223372036854775807) (lA : Option Addr) (l : List Int) (lc : Nat) (hl : Row H lA lc 1 (l.map i64c)) (cl : l.length ≤ lc) (ll : l.length ≤ 1099511627776) : ∃ v H', Spec Tryz.prog 79 [.int .i64 least, .int .i64 most, .slice lA l.length lc] H v H' ∧ ((v = .bool (Spec.inF least most l)) ∧ (Ext H H')) := by
 refine spec_go3 E0_ok 24 (f := 79) Tryz.func79 rfl rfl rfl ?_
 refine aw_seq ?_
 refine aw_reg ?_
 refine st_op (ev_assign rfl) rfl rfl rfl ?_
 try show aw _ _ _ _ _ _
 iterate 2 refine aw_seq ?_
 refine aw_reg ?_
 refine st_op (ev_move rfl) rfl rfl rfl ?_
 refine st_op (ev_lenSl rfl Tryz.underlying103) rfl rfl rfl ?_
 refine st_op (ev_move rfl) rfl rfl rfl ?_
 try show aw _ _ _ _ _ _
 refine aw_block ?_
 refine aw_keep [0, 1, 9, 10, 11] (l' := (.cons 0 (.int .i64 least) (.cons 1 (.int .i64 most) (.cons 9 (.slice lA l.length lc) (.cons 10 (.int .i64 (l.length : Int)) (.cons 11 (.int .i64 0) .nil)))))) (by repeat (first | exact Up.done | refine Up.then ?_ | refine Up.inBlock ?_)) rfl ?_
 refine aw_iter (α := Nat × Heap) (fun a => l.length - a.1) (fun a => (.cons 0 (.int .i64 least) (.cons 1 (.int .i64 most) (.cons 9 (.slice lA l.length lc) (.cons 10 (.int .i64 (l.length : Int)) (.cons 11 (.int .i64 (a.1 : Int)) .nil)))))) (fun a => a.2) (fun a => (a.1 ≤ l.length) ∧ (Spec.inF least most l = Spec.inF least most (l.drop a.1)) ∧ (Ext H a.2)) (0, H) ⟨(show 0 ≤ l.length from Nat.zero_le _), (show Spec.inF least most l = Spec.inF least most (l.drop 0) from rfl), (show Ext H H from (Ext.refl H))⟩ ?_
 rintro ⟨i, Hl1⟩ ⟨hi, hv, hxl2⟩ ih3
 replace hi : i ≤ l.length := hi
 replace hv : Spec.inF least most l = Spec.inF least most (l.drop i) := hv
 replace hxl2 : Ext H Hl1 := hxl2
 show aw _ _ _ (RL _ (.cons 0 (.int .i64 least) (.cons 1 (.int .i64 most) (.cons 9 (.slice lA l.length lc) (.cons 10 (.int .i64 (l.length : Int)) (.cons 11 (.int .i64 (i : Int)) .nil)))))) Hl1 _
 have Hl1n : H.next ≤ Hl1.next := hxl2.1
 refine aw_seq ?_
 refine aw_reg ?_
 refine st_op (ev_int rfl rfl rfl) rfl rfl rfl ?_
 try show aw _ _ _ _ _ _
 refine aw_seq ?_
 by_cases hc4 : (decide ((i : Int) < (l.length : Int))) = true
 ·
  refine aw_condT hc4 rfl ?_
  try show aw _ _ _ _ _ _
  have hc4 := of_decide_eq_true hc4
  refine aw_skip ?_
  try show aw _ _ _ _ _ _
  refine aw_seq ?_
  refine aw_block ?_
  refine aw_seq ?_
  refine aw_reg ?_
  have h5 := Row.ext hl hxl2
  have hi6 : 0 ≤ ((i : Int) : Int) := by omega
  have hi7 : ((i : Int) : Int) < ((l.length : Nat) : Int) := by omega
  obtain ⟨x8, hx9⟩ : ∃ e, l[i]? = some e := ⟨_, List.getElem?_eq_getElem (by omega)⟩
  refine st_op (ev_at rfl rfl h5 (getMap i64c hx9) (by first | rfl | omega | simp) hi6 hi7 el103) rfl rfl rfl ?_
  refine st_op (ev_atL rfl h5 (getMap i64c hx9) one2 rfl) rfl rfl rfl ?_
  refine st_op (ev_assign rfl) rfl rfl rfl ?_
  try show aw _ _ _ _ _ _
  refine aw_seq ?_
  refine aw_reg ?_
  iterate 2 refine st_op (ev_move rfl) rfl rfl rfl ?_
  refine st_op (ev_int rfl rfl rfl) rfl rfl rfl ?_
  refine st_op (ev_move rfl) rfl rfl rfl ?_
  refine st_bool 18 rfl (fun hb10 => ?_) (fun hb10 => ?_)
  ·
   have hb10 := of_decide_eq_true hb10
   iterate 3 refine st_skip rfl rfl rfl ?_
   refine st_op (ev_pickT rfl rfl) rfl rfl rfl ?_
   try show aw _ _ _ _ _ _
   refine aw_cond (t := true) rfl ?_
   try show aw _ _ _ _ _ _
   refine aw_seq ?_
   refine aw_reg ?_
   refine st_op (ev_assign rfl) rfl rfl rfl ?_
   try show aw _ _ _ _ _ _
   refine aw_ret ?_
   have hres : (Spec.inF least most l) = false := by rw [hv, drop_at hx9, Spec.inF]; first | (rw [if_pos (by omega)]; done) | (rw [if_neg (by omega), if_pos (by omega)]; done)
   exact ⟨.bool false, rfl, by first | (rw [hres]; done) | rw [← hres], hxl2⟩
  ·
   have hb10 := of_decide_eq_false hb10
   iterate 2 refine st_op (ev_move rfl) rfl rfl rfl ?_
   refine st_op (ev_int rfl rfl rfl) rfl rfl rfl ?_
   refine st_op (ev_pickF rfl rfl) rfl rfl rfl ?_
   try show aw _ _ _ _ _ _
   by_cases hc11 : (decide (x8 > most)) = true
   ·
    refine aw_condT hc11 rfl ?_
    try show aw _ _ _ _ _ _
    have hc11 := of_decide_eq_true hc11
    refine aw_seq ?_
    refine aw_reg ?_
    refine st_op (ev_assign rfl) rfl rfl rfl ?_
    try show aw _ _ _ _ _ _
    refine aw_ret ?_
    have hres : (Spec.inF least most l) = false := by rw [hv, drop_at hx9, Spec.inF]; first | (rw [if_pos (by omega)]; done) | (rw [if_neg (by omega), if_pos (by omega)]; done)
    exact ⟨.bool false, rfl, by first | (rw [hres]; done) | rw [← hres], hxl2⟩
   ·
    rw [Bool.not_eq_true] at hc11; refine aw_condF hc11 rfl ?_
    try show aw _ _ _ _ _ _
    have hc11 := of_decide_eq_false hc11
    refine aw_skip ?_
    try show aw _ _ _ _ _ _
    refine aw_reg ?_
    refine st_op (ev_int64 (c := (i : Int) + 1) rfl rfl rfl (by omega) (by omega)) rfl rfl rfl ?_
    refine st_op (ev_move rfl) rfl rfl rfl ?_
    try show aw _ _ _ _ _ _
    refine aw_keep [0, 1, 9, 10, 11] (l' := (.cons 0 (.int .i64 least) (.cons 1 (.int .i64 most) (.cons 9 (.slice lA l.length lc) (.cons 10 (.int .i64 (l.length : Int)) (.cons 11 (.int .i64 ((i : Int) + 1)) .nil)))))) (by repeat (first | exact Up.done | refine Up.then ?_ | refine Up.inBlock ?_)) rfl ?_
    exact ih3 (i + 1, Hl1) ⟨(show (i + 1) ≤ l.length from (by omega)), (show Spec.inF least most l = Spec.inF least most (l.drop (i + 1)) from (by rw [hv, drop_at hx9, Spec.inF, if_neg (by omega), if_neg (by omega)])), (show Ext H Hl1 from hxl2)⟩ (by simp only; omega)
 ·
  rw [Bool.not_eq_true] at hc4; refine aw_condF hc4 rfl ?_
  try show aw _ _ _ _ _ _
  have hc4 := of_decide_eq_false hc4
  refine aw_exit ?_
  try show aw _ _ _ _ _ _
  refine aw_seq ?_
  refine aw_reg ?_
  refine st_op (ev_assign rfl) rfl rfl rfl ?_
  try show aw _ _ _ _ _ _
  refine aw_ret ?_
  have hres : (Spec.inF least most l) = true := by rw [hv, List.drop_eq_nil_of_le (by omega)]; rfl
  exact ⟨.bool true, rfl, by first | (rw [hres]; done) | rw [← hres], hxl2⟩
theorem wal_May_spec (H : Heap) (r_hard : Bool) (r_h_term : Int) (r_h_vote : Int) (r_e_index : Int) (r_e_term : Int) (r_e_kind : Int) (r_e_data : ByteArray) : ∃ v H', Spec Tryz.prog 40 [.agg #[.bool r_hard, .int .i64 r_h_term, .int .i64 r_h_vote, .int .i64 r_e_index, .int .i64 r_e_term, .int .i64 r_e_kind, .string r_e_data]] H v H' ∧ ((v = .bool (Spec.mayF r_hard r_h_term r_h_vote r_e_index r_e_term r_e_kind r_e_data)) ∧ (Ext H H')) := by
 refine spec_go1 E0_ok 61 (f := 40) Tryz.func40 rfl rfl rfl ?_
 refine aw_seq ?_
 refine aw_reg ?_
 obtain ⟨b1, H2, he3, b1e, H2n_, hB5, f4⟩ := mem_box (P := Tryz.prog) H (v := .agg #[.bool r_hard, .int .i64 r_h_term, .int .i64 r_h_vote, .int .i64 r_e_index, .int .i64 r_e_term, .int .i64 r_e_kind, .string r_e_data]) (cs := [.bool r_hard, .int .i64 r_h_term, .int .i64 r_h_vote, .int .i64 r_e_index, .int .i64 r_e_term, .int .i64 r_e_kind, .string r_e_data]) rfl rfl
 refine st_op (he3 _ _ _ _ _ _ _ _ _ rfl) rfl rfl rfl ?_
 have hx6 : Ext H H2 := Ext.new (by omega) H2n_ f4
 have H2n : H.next ≤ H2.next := hx6.1
 refine st_op (ev_assign rfl) rfl rfl rfl ?_
 try show aw _ _ _ _ _ _
 iterate 2 refine aw_seq ?_
 refine aw_reg ?_
 refine st_op (ev_fieldAddr rfl fa76_0 (o' := 0) rfl) rfl rfl rfl ?_
 refine st_op (ev_load rfl (lvar_one one4 hB5 rfl)) rfl rfl rfl ?_
 try show aw _ _ _ _ _ _
 by_cases hc7 : r_hard = true
 ·
  refine aw_condT hc7 rfl ?_
  try show aw _ _ _ _ _ _
  refine aw_seq ?_
  refine aw_reg ?_
  refine st_op (ev_fieldAddr rfl fa76_1 (o' := 1) rfl) rfl rfl rfl ?_
  refine st_op (ev_fieldAddr rfl fa35_0 (o' := 1) rfl) rfl rfl rfl ?_
  refine st_op (ev_load rfl (lvar_one one2 hB5 rfl)) rfl rfl rfl ?_
  obtain ⟨b8, H9, he10, b8e, H9n_, hm12, f11⟩ := mem_lit H2 (xs := ([.int .i64 r_h_term] : List Value)) (m := 1) (rows := [[.int .i64 r_h_term]]) rfl eok103 (by decide) (by decide) zf2 rfl (allLen rfl) rfl
  replace hm12 : My H2 H9 (some ⟨b8, 0, none⟩) 1 1 ([r_h_term].map i64c) := hm12
  refine st_op (he10 _ _ _ _ _ _ _ _ rfl) rfl rfl rfl ?_
  have hx13 : Ext H2 H9 := Ext.new (by omega) H9n_ f11
  have H9n : H2.next ≤ H9.next := hx13.1
  refine st_call rfl rfl rfl ent79 rfl rfl rfl ?_
  obtain ⟨_, H15, hs14, hs14v, hx16⟩ := wal_in_spec H9 0 (by decide) 1099511627776 (by decide) (some ⟨b8, 0, none⟩) ([r_h_term]) 1 (My.row hm12) (My.capF hm12 (by first | omega | (simp only [List.length_append, List.length_cons, List.length_nil, List.length_map, List.length_set, List.length_replicate, Spec.bytesOf_length]; omega) | (simp; omega))) (by first | omega | (simp only [List.length_append, List.length_cons, List.length_nil, List.length_map, List.length_set, List.length_replicate, Spec.bytesOf_length]; omega) | (simp; omega))
  rw [hs14v] at hs14; clear hs14v
  refine ⟨_, H15, hs14, ?_⟩
  have H15n : H9.next ≤ H15.next := hx16.1
  refine st_op (ev_move rfl) rfl rfl rfl ?_
  refine st_bool 10 rfl (fun hb17 => ?_) (fun hb17 => ?_)
  ·
   have hb17m := Spec.inF_one hb17
   refine st_op (ev_fieldAddr rfl fa76_1 (o' := 1) rfl) rfl rfl rfl ?_
   refine st_op (ev_fieldAddr rfl fa35_1 (o' := 2) rfl) rfl rfl rfl ?_
   have hx19 : Ext H2 H15 := (Ext.trans hx13 hx16)
   have h18 := Ext.blk hx19 (by omega) hB5
   refine st_op (ev_load rfl (lvar_one one3 h18 rfl)) rfl rfl rfl ?_
   refine st_op (ev_int rfl rfl rfl) rfl rfl rfl ?_
   refine st_op (ev_pickT rfl rfl) rfl rfl rfl ?_
   refine st_op (ev_move rfl) rfl rfl rfl ?_
   refine st_bool 16 rfl (fun hb20 => ?_) (fun hb20 => ?_)
   ·
    have hb20 := of_decide_eq_true hb20
    refine st_op (ev_fieldAddr rfl fa76_1 (o' := 1) rfl) rfl rfl rfl ?_
    refine st_op (ev_fieldAddr rfl fa35_1 (o' := 2) rfl) rfl rfl rfl ?_
    refine st_op (ev_load rfl (lvar_one one3 h18 rfl)) rfl rfl rfl ?_
    refine st_op (ev_int rfl rfl rfl) rfl rfl rfl ?_
    refine st_op (ev_pickT rfl rfl) rfl rfl rfl ?_
    refine st_op (ev_move rfl) rfl rfl rfl ?_
    refine st_bool 22 rfl (fun hb21 => ?_) (fun hb21 => ?_)
    ·
     have hb21 := of_decide_eq_true hb21
     refine st_op (ev_fieldAddr rfl fa76_2 (o' := 3) rfl) rfl rfl rfl ?_
     refine st_op (ev_load rfl (lvar_part (l := [.int .i64 r_e_index, .int .i64 r_e_term, .int .i64 r_e_kind, .string r_e_data]) many31 h18 rfl rfl (by decide))) rfl rfl rfl ?_
     refine st_op (ev_build zero31 pl31 (parts := []) rfl (cs := [.int .i64 0, .int .i64 0, .int .i64 0, .string (⟨#[]⟩)]) rfl) rfl rfl rfl ?_
     obtain ⟨q22, hq23, hi24⟩ : ∃ q, bin.eqCells [.int .i64 r_e_index, .int .i64 r_e_term, .int .i64 r_e_kind, .string r_e_data] [.int .i64 0, .int .i64 0, .int .i64 0, .string (⟨#[]⟩)] = some q ∧ (q = true ↔ r_e_index = 0 ∧ r_e_term = 0 ∧ r_e_kind = 0 ∧ r_e_data = (⟨#[]⟩ : ByteArray)) := ⟨_, rfl, by simp [Bool.and_eq_true, ba_beq]⟩
     refine st_op (ev_agg rfl rfl (by rw [eqt31, show fitAgg Tryz.prog 31 (#[.int .i64 r_e_index, .int .i64 r_e_term, .int .i64 r_e_kind, .string r_e_data] : Array Value).toList = true from fit31 r_e_index r_e_term r_e_kind r_e_data]; rfl) hq23 rfl) rfl rfl rfl ?_
     refine st_op (ev_pickT rfl rfl) rfl rfl rfl ?_
     refine st_op (ev_assign rfl) rfl rfl rfl ?_
     try show aw _ _ _ _ _ _
     refine aw_ret ?_
     have hx25 : Ext H H15 := (Ext.trans (Ext.trans hx6 hx13) hx16)
     have hres : (Spec.mayF r_hard r_h_term r_h_vote r_e_index r_e_term r_e_kind r_e_data) = q22 := by rw [Bool.eq_iff_iff]; simp only [Spec.mayF]; (try simp_all [Spec.ba_empty]) <;> (try (intros; omega))
     exact ⟨.bool q22, rfl, by first | (rw [hres]; done) | rw [← hres], hx25⟩
    ·
     have hb21 := of_decide_eq_false hb21
     iterate 4 refine st_skip rfl rfl rfl ?_
     refine st_op (ev_pickF rfl rfl) rfl rfl rfl ?_
     refine st_op (ev_assign rfl) rfl rfl rfl ?_
     try show aw _ _ _ _ _ _
     refine aw_ret ?_
     have hx26 : Ext H H15 := (Ext.trans (Ext.trans hx6 hx13) hx16)
     have hres : (Spec.mayF r_hard r_h_term r_h_vote r_e_index r_e_term r_e_kind r_e_data) = false := by rw [Bool.eq_iff_iff]; simp only [Spec.mayF]; (try simp_all [Spec.ba_empty]) <;> (try (intros; omega))
     exact ⟨.bool false, rfl, by first | (rw [hres]; done) | rw [← hres], hx26⟩
   ·
    have hb20 := of_decide_eq_false hb20
    iterate 4 refine st_skip rfl rfl rfl ?_
    refine st_op (ev_pickF rfl rfl) rfl rfl rfl ?_
    refine st_op (ev_move rfl) rfl rfl rfl ?_
    iterate 4 refine st_skip rfl rfl rfl ?_
    refine st_op (ev_pickF rfl rfl) rfl rfl rfl ?_
    refine st_op (ev_assign rfl) rfl rfl rfl ?_
    try show aw _ _ _ _ _ _
    refine aw_ret ?_
    have hx27 : Ext H H15 := (Ext.trans (Ext.trans hx6 hx13) hx16)
    have hres : (Spec.mayF r_hard r_h_term r_h_vote r_e_index r_e_term r_e_kind r_e_data) = false := by rw [Bool.eq_iff_iff]; simp only [Spec.mayF]; (try simp_all [Spec.ba_empty]) <;> (try (intros; omega))
    exact ⟨.bool false, rfl, by first | (rw [hres]; done) | rw [← hres], hx27⟩
  ·
   have hb17m := Spec.inF_oneN hb17
   iterate 4 refine st_skip rfl rfl rfl ?_
   refine st_op (ev_pickF rfl rfl) rfl rfl rfl ?_
   refine st_op (ev_move rfl) rfl rfl rfl ?_
   iterate 4 refine st_skip rfl rfl rfl ?_
   refine st_op (ev_pickF rfl rfl) rfl rfl rfl ?_
   refine st_op (ev_move rfl) rfl rfl rfl ?_
   iterate 4 refine st_skip rfl rfl rfl ?_
   refine st_op (ev_pickF rfl rfl) rfl rfl rfl ?_
   refine st_op (ev_assign rfl) rfl rfl rfl ?_
   try show aw _ _ _ _ _ _
   refine aw_ret ?_
   have hx28 : Ext H H15 := (Ext.trans (Ext.trans hx6 hx13) hx16)
   have hres : (Spec.mayF r_hard r_h_term r_h_vote r_e_index r_e_term r_e_kind r_e_data) = false := by rw [Bool.eq_iff_iff]; simp only [Spec.mayF]; (try simp_all [Spec.ba_empty]) <;> (try (intros; omega))
   exact ⟨.bool false, rfl, by first | (rw [hres]; done) | rw [← hres], hx28⟩
 ·
  rw [Bool.not_eq_true] at hc7; refine aw_condF hc7 rfl ?_
  try show aw _ _ _ _ _ _
  refine aw_skip ?_
  try show aw _ _ _ _ _ _
  refine aw_seq ?_
  refine aw_reg ?_
  refine st_op (ev_fieldAddr rfl fa76_1 (o' := 1) rfl) rfl rfl rfl ?_
  refine st_op (ev_load rfl (lvar_part (l := [.int .i64 r_h_term, .int .i64 r_h_vote]) many35 hB5 rfl rfl (by decide))) rfl rfl rfl ?_
  refine st_op (ev_build zero35 pl35 (parts := []) rfl (cs := [.int .i64 0, .int .i64 0]) rfl) rfl rfl rfl ?_
  obtain ⟨q29, hq30, hi31⟩ : ∃ q, bin.eqCells [.int .i64 r_h_term, .int .i64 r_h_vote] [.int .i64 0, .int .i64 0] = some q ∧ (q = true ↔ r_h_term = 0 ∧ r_h_vote = 0) := ⟨_, rfl, by simp [Bool.and_eq_true, ba_beq]⟩
  refine st_op (ev_agg rfl rfl (by rw [eqt35, show fitAgg Tryz.prog 35 (#[.int .i64 r_h_term, .int .i64 r_h_vote] : Array Value).toList = true from fit35 r_h_term r_h_vote]; rfl) hq30 rfl) rfl rfl rfl ?_
  refine st_op (ev_move rfl) rfl rfl rfl ?_
  refine st_bool 32 rfl (fun hb32 => ?_) (fun hb32 => ?_)
  ·
   have hb32E := hi31.1 hb32
   refine st_op (ev_fieldAddr rfl fa76_2 (o' := 3) rfl) rfl rfl rfl ?_
   refine st_op (ev_fieldAddr rfl fa31_0 (o' := 3) rfl) rfl rfl rfl ?_
   refine st_op (ev_load rfl (lvar_one one2 hB5 rfl)) rfl rfl rfl ?_
   refine st_op (ev_fieldAddr rfl fa76_2 (o' := 3) rfl) rfl rfl rfl ?_
   refine st_op (ev_fieldAddr rfl fa31_1 (o' := 4) rfl) rfl rfl rfl ?_
   refine st_op (ev_load rfl (lvar_one one2 hB5 rfl)) rfl rfl rfl ?_
   obtain ⟨b33, H34, he35, b33e, H34n_, hm37, f36⟩ := mem_lit H2 (xs := ([.int .i64 r_e_index, .int .i64 r_e_term] : List Value)) (m := 2) (rows := [[.int .i64 r_e_index], [.int .i64 r_e_term]]) rfl eok103 (by decide) (by decide) zf2 rfl (allLen rfl) rfl
   replace hm37 : My H2 H34 (some ⟨b33, 0, none⟩) 2 1 ([r_e_index, r_e_term].map i64c) := hm37
   refine st_op (he35 _ _ _ _ _ _ _ _ rfl) rfl rfl rfl ?_
   have hx38 : Ext H2 H34 := Ext.new (by omega) H34n_ f36
   have H34n : H2.next ≤ H34.next := hx38.1
   refine st_call rfl rfl rfl ent79 rfl rfl rfl ?_
   obtain ⟨_, H40, hs39, hs39v, hx41⟩ := wal_in_spec H34 1 (by decide) 1099511627776 (by decide) (some ⟨b33, 0, none⟩) ([r_e_index, r_e_term]) 2 (My.row hm37) (My.capF hm37 (by first | omega | (simp only [List.length_append, List.length_cons, List.length_nil, List.length_map, List.length_set, List.length_replicate, Spec.bytesOf_length]; omega) | (simp; omega))) (by first | omega | (simp only [List.length_append, List.length_cons, List.length_nil, List.length_map, List.length_set, List.length_replicate, Spec.bytesOf_length]; omega) | (simp; omega))
   rw [hs39v] at hs39; clear hs39v
   refine ⟨_, H40, hs39, ?_⟩
   have H40n : H34.next ≤ H40.next := hx41.1
   refine st_op (ev_pickT rfl rfl) rfl rfl rfl ?_
   refine st_op (ev_move rfl) rfl rfl rfl ?_
   refine st_bool 42 rfl (fun hb42 => ?_) (fun hb42 => ?_)
   ·
    have hb42m := Spec.inF_two hb42
    refine st_op (ev_fieldAddr rfl fa76_2 (o' := 3) rfl) rfl rfl rfl ?_
    refine st_op (ev_fieldAddr rfl fa31_2 (o' := 5) rfl) rfl rfl rfl ?_
    have hx44 : Ext H2 H40 := (Ext.trans hx38 hx41)
    have h43 := Ext.blk hx44 (by omega) hB5
    refine st_op (ev_load rfl (lvar_one one3 h43 rfl)) rfl rfl rfl ?_
    refine st_op (ev_int rfl rfl rfl) rfl rfl rfl ?_
    refine st_op (ev_pickT rfl rfl) rfl rfl rfl ?_
    refine st_op (ev_move rfl) rfl rfl rfl ?_
    refine st_bool 48 rfl (fun hb45 => ?_) (fun hb45 => ?_)
    ·
     have hb45 := of_decide_eq_true hb45
     refine st_op (ev_fieldAddr rfl fa76_2 (o' := 3) rfl) rfl rfl rfl ?_
     refine st_op (ev_fieldAddr rfl fa31_2 (o' := 5) rfl) rfl rfl rfl ?_
     refine st_op (ev_load rfl (lvar_one one3 h43 rfl)) rfl rfl rfl ?_
     refine st_op (ev_int rfl rfl rfl) rfl rfl rfl ?_
     refine st_op (ev_pickT rfl rfl) rfl rfl rfl ?_
     refine st_op (ev_move rfl) rfl rfl rfl ?_
     refine st_bool 54 rfl (fun hb46 => ?_) (fun hb46 => ?_)
     ·
      have hb46 := of_decide_eq_true hb46
      refine st_op (ev_fieldAddr rfl fa76_2 (o' := 3) rfl) rfl rfl rfl ?_
      refine st_op (ev_fieldAddr rfl fa31_3 (o' := 6) rfl) rfl rfl rfl ?_
      refine st_op (ev_load rfl (lvar_one one9 h43 rfl)) rfl rfl rfl ?_
      refine st_op (ev_lenStr rfl Tryz.underlying9) rfl rfl rfl ?_
      refine st_op (ev_int rfl rfl rfl) rfl rfl rfl ?_
      refine st_op (ev_pickT rfl rfl) rfl rfl rfl ?_
      refine st_op (ev_assign rfl) rfl rfl rfl ?_
      try show aw _ _ _ _ _ _
      refine aw_ret ?_
      have hx47 : Ext H H40 := (Ext.trans (Ext.trans hx6 hx38) hx41)
      have hres : (Spec.mayF r_hard r_h_term r_h_vote r_e_index r_e_term r_e_kind r_e_data) = (decide (((r_e_data).size : Int) ≤ 2500)) := by rw [Bool.eq_iff_iff]; simp only [Spec.mayF]; (try simp_all [Spec.ba_empty]) <;> (try (intros; omega))
      exact ⟨.bool (decide (((r_e_data).size : Int) ≤ 2500)), rfl, by first | (rw [hres]; done) | rw [← hres], hx47⟩
     ·
      have hb46 := of_decide_eq_false hb46
      iterate 5 refine st_skip rfl rfl rfl ?_
      refine st_op (ev_pickF rfl rfl) rfl rfl rfl ?_
      refine st_op (ev_assign rfl) rfl rfl rfl ?_
      try show aw _ _ _ _ _ _
      refine aw_ret ?_
      have hx48 : Ext H H40 := (Ext.trans (Ext.trans hx6 hx38) hx41)
      have hres : (Spec.mayF r_hard r_h_term r_h_vote r_e_index r_e_term r_e_kind r_e_data) = false := by rw [Bool.eq_iff_iff]; simp only [Spec.mayF]; (try simp_all [Spec.ba_empty]) <;> (try (intros; omega))
      exact ⟨.bool false, rfl, by first | (rw [hres]; done) | rw [← hres], hx48⟩
    ·
     have hb45 := of_decide_eq_false hb45
     iterate 4 refine st_skip rfl rfl rfl ?_
     refine st_op (ev_pickF rfl rfl) rfl rfl rfl ?_
     refine st_op (ev_move rfl) rfl rfl rfl ?_
     iterate 5 refine st_skip rfl rfl rfl ?_
     refine st_op (ev_pickF rfl rfl) rfl rfl rfl ?_
     refine st_op (ev_assign rfl) rfl rfl rfl ?_
     try show aw _ _ _ _ _ _
     refine aw_ret ?_
     have hx49 : Ext H H40 := (Ext.trans (Ext.trans hx6 hx38) hx41)
     have hres : (Spec.mayF r_hard r_h_term r_h_vote r_e_index r_e_term r_e_kind r_e_data) = false := by rw [Bool.eq_iff_iff]; simp only [Spec.mayF]; (try simp_all [Spec.ba_empty]) <;> (try (intros; omega))
     exact ⟨.bool false, rfl, by first | (rw [hres]; done) | rw [← hres], hx49⟩
   ·
    have hb42m := Spec.inF_twoN hb42
    iterate 4 refine st_skip rfl rfl rfl ?_
    refine st_op (ev_pickF rfl rfl) rfl rfl rfl ?_
    refine st_op (ev_move rfl) rfl rfl rfl ?_
    iterate 4 refine st_skip rfl rfl rfl ?_
    refine st_op (ev_pickF rfl rfl) rfl rfl rfl ?_
    refine st_op (ev_move rfl) rfl rfl rfl ?_
    iterate 5 refine st_skip rfl rfl rfl ?_
    refine st_op (ev_pickF rfl rfl) rfl rfl rfl ?_
    refine st_op (ev_assign rfl) rfl rfl rfl ?_
    try show aw _ _ _ _ _ _
    refine aw_ret ?_
    have hx50 : Ext H H40 := (Ext.trans (Ext.trans hx6 hx38) hx41)
    have hres : (Spec.mayF r_hard r_h_term r_h_vote r_e_index r_e_term r_e_kind r_e_data) = false := by rw [Bool.eq_iff_iff]; simp only [Spec.mayF]; (try simp_all [Spec.ba_empty]) <;> (try (intros; omega))
    exact ⟨.bool false, rfl, by first | (rw [hres]; done) | rw [← hres], hx50⟩
  ·
   have hb32E : ¬ (r_h_term = 0 ∧ r_h_vote = 0) := fun e => absurd (hi31.2 e) (by rw [hb32]; decide)
   iterate 8 refine st_skip rfl rfl rfl ?_
   refine st_op (ev_pickF rfl rfl) rfl rfl rfl ?_
   refine st_op (ev_move rfl) rfl rfl rfl ?_
   iterate 4 refine st_skip rfl rfl rfl ?_
   refine st_op (ev_pickF rfl rfl) rfl rfl rfl ?_
   refine st_op (ev_move rfl) rfl rfl rfl ?_
   iterate 4 refine st_skip rfl rfl rfl ?_
   refine st_op (ev_pickF rfl rfl) rfl rfl rfl ?_
   refine st_op (ev_move rfl) rfl rfl rfl ?_
   iterate 5 refine st_skip rfl rfl rfl ?_
   refine st_op (ev_pickF rfl rfl) rfl rfl rfl ?_
   refine st_op (ev_assign rfl) rfl rfl rfl ?_
   try show aw _ _ _ _ _ _
   refine aw_ret ?_
   have hres : (Spec.mayF r_hard r_h_term r_h_vote r_e_index r_e_term r_e_kind r_e_data) = false := by rw [Bool.eq_iff_iff]; simp only [Spec.mayF]; (try simp_all [Spec.ba_empty]) <;> (try (intros; omega))
   exact ⟨.bool false, rfl, by first | (rw [hres]; done) | rw [← hres], hx6⟩
theorem raft_entries_spec (H : Heap) (kind : Int) (from_ : Int) (to_ : Int) (term : Int) (index : Int) (hindex : 0 ≤ index ∧ index ≤ 1099511627776) (logterm : Int) (commit : Int) (yes : Bool) (esA : Option Addr) (es : List Entry) (esc : Nat) (hes : Row H esA esc 4 (es.map Entry.cells)) (ces : es.length ≤ esc) (les : es.length ≤ 1048576) (s_index : Int) (s_term : Int) (s_conf : ByteArray) (hs_conf : s_conf.size ≤ 1073741824) (s_data : ByteArray) (hs_data : s_data.size ≤ 1073741824) : ∃ v H', Spec Tryz.prog 31 [.agg #[.int .i64 kind, .int .i64 from_, .int .i64 to_, .int .i64 term, .int .i64 index, .int .i64 logterm, .int .i64 commit, .bool yes, .slice esA es.length esc, .int .i64 s_index, .int .i64 s_term, .string s_conf, .string s_data]] H v H' ∧ ((v = .bool (Spec.entR term index logterm es && decide (es.length ≤ 8 ∧ (es.length = 0 ∨ kind = 3)))) ∧ (Ext H H')) := by
 refine spec_go1 E0_ok 62 (f := 31) Tryz.func31 rfl rfl rfl ?_
 refine aw_seq ?_
 refine aw_reg ?_
 obtain ⟨b1, H2, he3, b1e, H2n_, hB5, f4⟩ := mem_box (P := Tryz.prog) H (v := .agg #[.int .i64 kind, .int .i64 from_, .int .i64 to_, .int .i64 term, .int .i64 index, .int .i64 logterm, .int .i64 commit, .bool yes, .slice esA es.length esc, .int .i64 s_index, .int .i64 s_term, .string s_conf, .string s_data]) (cs := [.int .i64 kind, .int .i64 from_, .int .i64 to_, .int .i64 term, .int .i64 index, .int .i64 logterm, .int .i64 commit, .bool yes, .slice esA es.length esc, .int .i64 s_index, .int .i64 s_term, .string s_conf, .string s_data]) rfl rfl
 refine st_op (he3 _ _ _ _ _ _ _ _ _ rfl) rfl rfl rfl ?_
 have hx6 : Ext H H2 := Ext.new (by omega) H2n_ f4
 have H2n : H.next ≤ H2.next := hx6.1
 refine st_op (ev_assign rfl) rfl rfl rfl ?_
 try show aw _ _ _ _ _ _
 refine aw_seq ?_
 refine aw_marks (fun b => b < H2.next) [(false, false), (false, false), (false, false), (false, false), (false, false), (false, false)] mixed (by kernel_rfl) (by kernel_rfl) ?_
 refine sm_op (ev_fieldAddr rfl fa26_4 (o' := 4) rfl) rfl rfl rfl ?_
 refine sm_op (ev_load rfl (lvar_one one2 hB5 rfl)) rfl rfl rfl ?_
 refine sm_op (ev_fieldAddr rfl fa26_5 (o' := 5) rfl) rfl rfl rfl ?_
 refine sm_op (ev_load rfl (lvar_one one2 hB5 rfl)) rfl rfl rfl ?_
 iterate 2 refine sm_op (ev_assign rfl) rfl rfl rfl ?_
 try show aw _ _ _ _ _ _
 iterate 2 refine aw_seq ?_
 refine aw_reg ?_
 refine st_op (ev_fieldAddr rfl fa26_8 (o' := 8) rfl) rfl rfl rfl ?_
 refine st_op (ev_load rfl (lvar_one one22 hB5 rfl)) rfl rfl rfl ?_
 refine st_op (ev_lenSl rfl Tryz.underlying22) rfl rfl rfl ?_
 refine st_op (ev_move rfl) rfl rfl rfl ?_
 try show aw _ _ _ _ _ _
 refine aw_block ?_
 refine aw_keep [1, 3, 4, 12, 13, 14] (l' := (.cons 1 (.pointer (some ⟨b1, 0, none⟩)) (.cons 3 (.int .i64 index) (.cons 4 (.int .i64 logterm) (.cons 12 (.slice esA es.length esc) (.cons 13 (.int .i64 (es.length : Int)) (.cons 14 (.int .i64 0) .nil))))))) (by repeat (first | exact Up.done | refine Up.then ?_ | refine Up.inBlock ?_)) rfl ?_
 refine aw_iter (α := Nat × Int × Int × Heap) (fun a => es.length - a.1) (fun a => (.cons 1 (.pointer (some ⟨b1, 0, none⟩)) (.cons 3 (.int .i64 a.2.1) (.cons 4 (.int .i64 a.2.2.1) (.cons 12 (.slice esA es.length esc) (.cons 13 (.int .i64 (es.length : Int)) (.cons 14 (.int .i64 (a.1 : Int)) .nil))))))) (fun a => a.2.2.2) (fun a => (a.1 ≤ es.length) ∧ (Spec.entR term index logterm es = Spec.entR term a.2.1 a.2.2.1 (es.drop a.1)) ∧ (0 ≤ a.2.1 ∧ a.2.1 ≤ 1099511627776) ∧ (Ext H2 a.2.2.2)) (0, index, logterm, H2) ⟨(show 0 ≤ es.length from Nat.zero_le _), (show Spec.entR term index logterm es = Spec.entR term index logterm (es.drop 0) from rfl), (show 0 ≤ index ∧ index ≤ 1099511627776 from ⟨by omega, by omega⟩), (show Ext H2 H2 from (Ext.refl H2))⟩ ?_
 rintro ⟨i, ix, tm, Hl7⟩ ⟨hi, hv, hn8, hxl9⟩ ih10
 replace hi : i ≤ es.length := hi
 replace hv : Spec.entR term index logterm es = Spec.entR term ix tm (es.drop i) := hv
 replace hn8 : 0 ≤ ix ∧ ix ≤ 1099511627776 := hn8
 replace hxl9 : Ext H2 Hl7 := hxl9
 show aw _ _ _ (RL _ (.cons 1 (.pointer (some ⟨b1, 0, none⟩)) (.cons 3 (.int .i64 ix) (.cons 4 (.int .i64 tm) (.cons 12 (.slice esA es.length esc) (.cons 13 (.int .i64 (es.length : Int)) (.cons 14 (.int .i64 (i : Int)) .nil))))))) Hl7 _
 have Hl7n : H2.next ≤ Hl7.next := hxl9.1
 refine aw_seq ?_
 refine aw_reg ?_
 refine st_op (ev_int rfl rfl rfl) rfl rfl rfl ?_
 try show aw _ _ _ _ _ _
 refine aw_seq ?_
 by_cases hc11 : (decide ((i : Int) < (es.length : Int))) = true
 ·
  refine aw_condT hc11 rfl ?_
  try show aw _ _ _ _ _ _
  have hc11 := of_decide_eq_true hc11
  refine aw_skip ?_
  try show aw _ _ _ _ _ _
  refine aw_seq ?_
  refine aw_block ?_
  refine aw_seq ?_
  refine aw_reg ?_
  have hx13 : Ext H Hl7 := (Ext.trans hx6 hxl9)
  have h12 := Row.ext hes hx13
  have hi14 : 0 ≤ ((i : Int) : Int) := by omega
  have hi15 : ((i : Int) : Int) < ((es.length : Nat) : Int) := by omega
  obtain ⟨x16, hx17⟩ : ∃ e, es[i]? = some e := ⟨_, List.getElem?_eq_getElem (by omega)⟩
  refine st_op (ev_at rfl rfl h12 (getMap Entry.cells hx17) (by first | rfl | omega | simp) hi14 hi15 el22) rfl rfl rfl ?_
  refine st_op (ev_atN (cs := [.int .i64 x16.index, .int .i64 x16.term, .int .i64 x16.kind, .string x16.data]) rfl h12 (getMap Entry.cells hx17) many31 rfl rfl (by decide)) rfl rfl rfl ?_
  obtain ⟨b18, H19, he20, b18e, H19n_, hB22, f21⟩ := mem_alloc Hl7 zero31
  refine st_op (he20 _ _ _ _ _ _ _) rfl rfl rfl ?_
  have hx23 : Ext Hl7 H19 := Ext.new (by omega) H19n_ f21
  have H19n : Hl7.next ≤ H19.next := hx23.1
  obtain ⟨H24, he25, H24n_, hB26, f27⟩ := mem_store (v := .agg #[.int .i64 x16.index, .int .i64 x16.term, .int .i64 x16.kind, .string x16.data]) (o := 0) (cs' := [.int .i64 x16.index, .int .i64 x16.term, .int .i64 x16.kind, .string x16.data]) 4 rfl rfl size31 hB22 rfl rfl rfl
  refine st_op0 (he25 _ _ _ _ _ _ _ _ _ rfl rfl) rfl rfl ?_
  have hf28 : Fr (fun q => q = b18) H19 H24 := Fr.write H24n_ f27
  have H24n : H19.next ≤ H24.next := hf28.1
  try show aw _ _ _ _ _ _
  iterate 2 refine aw_seq ?_
  refine aw_reg ?_
  refine st_op (ev_fieldAddr rfl fa31_0 (o' := 0) rfl) rfl rfl rfl ?_
  refine st_op (ev_load rfl (lvar_one one2 hB26 rfl)) rfl rfl rfl ?_
  refine st_op (ev_move rfl) rfl rfl rfl ?_
  refine st_op (ev_int64 (c := ix + 1) rfl rfl rfl (by omega) (by omega)) rfl rfl rfl ?_
  refine st_op (ev_int rfl rfl rfl) rfl rfl rfl ?_
  refine st_op (ev_move rfl) rfl rfl rfl ?_
  refine st_bool 23 rfl (fun hb29 => ?_) (fun hb29 => ?_)
  ·
   have hb29 : ¬ (x16.index = ix + 1) := by simpa using hb29
   iterate 4 refine st_skip rfl rfl rfl ?_
   refine st_op (ev_pickT rfl rfl) rfl rfl rfl ?_
   refine st_op (ev_move rfl) rfl rfl rfl ?_
   iterate 5 refine st_skip rfl rfl rfl ?_
   refine st_op (ev_pickT rfl rfl) rfl rfl rfl ?_
   refine st_op (ev_move rfl) rfl rfl rfl ?_
   iterate 4 refine st_skip rfl rfl rfl ?_
   refine st_op (ev_pickT rfl rfl) rfl rfl rfl ?_
   try show aw _ _ _ _ _ _
   refine aw_cond (t := true) rfl ?_
   try show aw _ _ _ _ _ _
   refine aw_seq ?_
   refine aw_reg ?_
   refine st_op (ev_assign rfl) rfl rfl rfl ?_
   try show aw _ _ _ _ _ _
   refine aw_ret ?_
   have hx30 : Ext H H24 := (Ext.then (Ext.trans hx13 hx23) hf28 (fun q hq e => by omega))
   have hres : (Spec.entR term index logterm es && decide (es.length ≤ 8 ∧ (es.length = 0 ∨ kind = 3))) = false := by first | (rw [hv, drop_at hx17, Spec.entR, if_pos (by first | exact .inl (by omega) | exact .inr (.inl (by omega)) | exact .inr (.inr (.inl (by omega))) | exact .inr (.inr (.inr (by assumption))))]; rfl) | (rw [hv, List.drop_eq_nil_of_le (by omega), Spec.entR, Bool.eq_iff_iff]; simp only [Bool.true_and, decide_eq_true_eq, beq_iff_eq, Bool.false_eq_true, iff_true, iff_false]; omega)
   exact ⟨.bool false, rfl, by first | (rw [hres]; done) | rw [← hres], hx30⟩
  ·
   have hb29 : (x16.index = ix + 1) := by simpa using hb29
   refine st_op (ev_fieldAddr rfl fa31_1 (o' := 1) rfl) rfl rfl rfl ?_
   refine st_op (ev_load rfl (lvar_one one2 hB26 rfl)) rfl rfl rfl ?_
   refine st_op (ev_move rfl) rfl rfl rfl ?_
   refine st_op (ev_int rfl rfl rfl) rfl rfl rfl ?_
   refine st_op (ev_pickF rfl rfl) rfl rfl rfl ?_
   refine st_op (ev_move rfl) rfl rfl rfl ?_
   refine st_bool 29 rfl (fun hb31 => ?_) (fun hb31 => ?_)
   ·
    have hb31 := of_decide_eq_true hb31
    iterate 5 refine st_skip rfl rfl rfl ?_
    refine st_op (ev_pickT rfl rfl) rfl rfl rfl ?_
    refine st_op (ev_move rfl) rfl rfl rfl ?_
    iterate 4 refine st_skip rfl rfl rfl ?_
    refine st_op (ev_pickT rfl rfl) rfl rfl rfl ?_
    try show aw _ _ _ _ _ _
    refine aw_cond (t := true) rfl ?_
    try show aw _ _ _ _ _ _
    refine aw_seq ?_
    refine aw_reg ?_
    refine st_op (ev_assign rfl) rfl rfl rfl ?_
    try show aw _ _ _ _ _ _
    refine aw_ret ?_
    have hx32 : Ext H H24 := (Ext.then (Ext.trans hx13 hx23) hf28 (fun q hq e => by omega))
    have hres : (Spec.entR term index logterm es && decide (es.length ≤ 8 ∧ (es.length = 0 ∨ kind = 3))) = false := by first | (rw [hv, drop_at hx17, Spec.entR, if_pos (by first | exact .inl (by omega) | exact .inr (.inl (by omega)) | exact .inr (.inr (.inl (by omega))) | exact .inr (.inr (.inr (by assumption))))]; rfl) | (rw [hv, List.drop_eq_nil_of_le (by omega), Spec.entR, Bool.eq_iff_iff]; simp only [Bool.true_and, decide_eq_true_eq, beq_iff_eq, Bool.false_eq_true, iff_true, iff_false]; omega)
    exact ⟨.bool false, rfl, by first | (rw [hres]; done) | rw [← hres], hx32⟩
   ·
    have hb31 := of_decide_eq_false hb31
    refine st_op (ev_fieldAddr rfl fa31_1 (o' := 1) rfl) rfl rfl rfl ?_
    refine st_op (ev_load rfl (lvar_one one2 hB26 rfl)) rfl rfl rfl ?_
    refine st_op (ev_fieldAddr rfl fa26_3 (o' := 3) rfl) rfl rfl rfl ?_
    have hx34 : Ext H2 H24 := (Ext.then (Ext.trans hxl9 hx23) hf28 (fun q hq e => by omega))
    have h33 := Ext.blk hx34 (by omega) hB5
    refine st_op (ev_load rfl (lvar_one one2 h33 rfl)) rfl rfl rfl ?_
    refine st_op (ev_int rfl rfl rfl) rfl rfl rfl ?_
    refine st_op (ev_pickF rfl rfl) rfl rfl rfl ?_
    refine st_op (ev_move rfl) rfl rfl rfl ?_
    refine st_bool 36 rfl (fun hb35 => ?_) (fun hb35 => ?_)
    ·
     have hb35 := of_decide_eq_true hb35
     iterate 4 refine st_skip rfl rfl rfl ?_
     refine st_op (ev_pickT rfl rfl) rfl rfl rfl ?_
     try show aw _ _ _ _ _ _
     refine aw_cond (t := true) rfl ?_
     try show aw _ _ _ _ _ _
     refine aw_seq ?_
     refine aw_reg ?_
     refine st_op (ev_assign rfl) rfl rfl rfl ?_
     try show aw _ _ _ _ _ _
     refine aw_ret ?_
     have hx36 : Ext H H24 := (Ext.then (Ext.trans hx13 hx23) hf28 (fun q hq e => by omega))
     have hres : (Spec.entR term index logterm es && decide (es.length ≤ 8 ∧ (es.length = 0 ∨ kind = 3))) = false := by first | (rw [hv, drop_at hx17, Spec.entR, if_pos (by first | exact .inl (by omega) | exact .inr (.inl (by omega)) | exact .inr (.inr (.inl (by omega))) | exact .inr (.inr (.inr (by assumption))))]; rfl) | (rw [hv, List.drop_eq_nil_of_le (by omega), Spec.entR, Bool.eq_iff_iff]; simp only [Bool.true_and, decide_eq_true_eq, beq_iff_eq, Bool.false_eq_true, iff_true, iff_false]; omega)
     exact ⟨.bool false, rfl, by first | (rw [hres]; done) | rw [← hres], hx36⟩
    ·
     have hb35 := of_decide_eq_false hb35
     refine st_op (ev_load rfl (lvar_part (l := [.int .i64 x16.index, .int .i64 x16.term, .int .i64 x16.kind, .string x16.data]) many31 hB26 rfl rfl (by decide))) rfl rfl rfl ?_
     refine st_op (ev_build zero76 pl76 (parts := [(2, .agg #[.int .i64 x16.index, .int .i64 x16.term, .int .i64 x16.kind, .string x16.data])]) rfl (cs := [.bool false, .int .i64 0, .int .i64 0, .int .i64 x16.index, .int .i64 x16.term, .int .i64 x16.kind, .string x16.data]) rfl) rfl rfl rfl ?_
     refine st_call rfl rfl rfl ent40 rfl rfl rfl ?_
     obtain ⟨_, H38, hs37, hs37v, hx39⟩ := wal_May_spec H24 false (0 : Int) (0 : Int) x16.index x16.term x16.kind x16.data
     rw [hs37v] at hs37; clear hs37v
     refine ⟨_, H38, hs37, ?_⟩
     have H38n : H24.next ≤ H38.next := hx39.1
     refine st_op (ev_not rfl) rfl rfl rfl ?_
     refine st_op (ev_pickF rfl rfl) rfl rfl rfl ?_
     try show aw _ _ _ _ _ _
     by_cases hc40 : (!(Spec.mayF false (0 : Int) (0 : Int) x16.index x16.term x16.kind x16.data)) = true
     ·
      refine aw_condT hc40 rfl ?_
      try show aw _ _ _ _ _ _
      replace hc40 : (Spec.mayF false (0 : Int) (0 : Int) x16.index x16.term x16.kind x16.data) = false := by rw [Bool.not_eq_true'] at hc40; exact hc40
      refine aw_seq ?_
      refine aw_reg ?_
      refine st_op (ev_assign rfl) rfl rfl rfl ?_
      try show aw _ _ _ _ _ _
      refine aw_ret ?_
      have hx41 : Ext H H38 := (Ext.trans (Ext.then (Ext.trans hx13 hx23) hf28 (fun q hq e => by omega)) hx39)
      have hres : (Spec.entR term index logterm es && decide (es.length ≤ 8 ∧ (es.length = 0 ∨ kind = 3))) = false := by first | (rw [hv, drop_at hx17, Spec.entR, if_pos (by first | exact .inl (by omega) | exact .inr (.inl (by omega)) | exact .inr (.inr (.inl (by omega))) | exact .inr (.inr (.inr (by assumption))))]; rfl) | (rw [hv, List.drop_eq_nil_of_le (by omega), Spec.entR, Bool.eq_iff_iff]; simp only [Bool.true_and, decide_eq_true_eq, beq_iff_eq, Bool.false_eq_true, iff_true, iff_false]; omega)
      exact ⟨.bool false, rfl, by first | (rw [hres]; done) | rw [← hres], hx41⟩
     ·
      rw [Bool.not_eq_true] at hc40; refine aw_condF hc40 rfl ?_
      try show aw _ _ _ _ _ _
      replace hc40 : (Spec.mayF false (0 : Int) (0 : Int) x16.index x16.term x16.kind x16.data) = true := by rw [Bool.not_eq_false'] at hc40; exact hc40
      have hc40m := Spec.may_says hc40
      refine aw_skip ?_
      try show aw _ _ _ _ _ _
      refine aw_marks (fun b => b < H38.next) [(false, false), (false, false), (false, false), (false, false), (false, false), (false, false)] mixed (by kernel_rfl) (by kernel_rfl) ?_
      refine sm_op (ev_fieldAddr rfl fa31_0 (o' := 0) rfl) rfl rfl rfl ?_
      have h42 := Ext.blk hx39 (by omega) hB26
      refine sm_op (ev_load rfl (lvar_one one2 h42 rfl)) rfl rfl rfl ?_
      refine sm_op (ev_fieldAddr rfl fa31_1 (o' := 1) rfl) rfl rfl rfl ?_
      refine sm_op (ev_load rfl (lvar_one one2 h42 rfl)) rfl rfl rfl ?_
      iterate 2 refine sm_op (ev_assign rfl) rfl rfl rfl ?_
      try show aw _ _ _ _ _ _
      refine aw_reg ?_
      refine st_op (ev_int64 (c := (i : Int) + 1) rfl rfl rfl (by omega) (by omega)) rfl rfl rfl ?_
      refine st_op (ev_move rfl) rfl rfl rfl ?_
      try show aw _ _ _ _ _ _
      have hx43 : Ext H2 H38 := (Ext.trans hx34 hx39)
      refine aw_keep [1, 3, 4, 12, 13, 14] (l' := (.cons 1 (.pointer (some ⟨b1, 0, none⟩)) (.cons 3 (.int .i64 x16.index) (.cons 4 (.int .i64 x16.term) (.cons 12 (.slice esA es.length esc) (.cons 13 (.int .i64 (es.length : Int)) (.cons 14 (.int .i64 ((i : Int) + 1)) .nil))))))) (by repeat (first | exact Up.done | refine Up.then ?_ | refine Up.inBlock ?_)) rfl ?_
      exact ih10 (i + 1, x16.index, x16.term, H38) ⟨(show (i + 1) ≤ es.length from (by omega)), (show Spec.entR term index logterm es = Spec.entR term x16.index x16.term (es.drop (i + 1)) from (by rw [hv, drop_at hx17, Spec.entR, if_neg (fun q => by rcases q with q | q | q | q <;> first | omega | exact Bool.noConfusion (q.symm.trans (show _ = true by assumption)))])), (show 0 ≤ x16.index ∧ x16.index ≤ 1099511627776 from ⟨by omega, by omega⟩), (show Ext H2 H38 from hx43)⟩ (by simp only; omega)
 ·
  rw [Bool.not_eq_true] at hc11; refine aw_condF hc11 rfl ?_
  try show aw _ _ _ _ _ _
  have hc11 := of_decide_eq_false hc11
  refine aw_exit ?_
  try show aw _ _ _ _ _ _
  refine aw_seq ?_
  refine aw_reg ?_
  refine st_op (ev_fieldAddr rfl fa26_8 (o' := 8) rfl) rfl rfl rfl ?_
  have h44 := Ext.blk hxl9 (by omega) hB5
  refine st_op (ev_load rfl (lvar_one one22 h44 rfl)) rfl rfl rfl ?_
  refine st_op (ev_lenSl rfl Tryz.underlying22) rfl rfl rfl ?_
  refine st_op (ev_int rfl rfl rfl) rfl rfl rfl ?_
  refine st_op (ev_move rfl) rfl rfl rfl ?_
  refine st_bool 51 rfl (fun hb45 => ?_) (fun hb45 => ?_)
  ·
   have hb45 := of_decide_eq_true hb45
   refine st_op (ev_fieldAddr rfl fa26_8 (o' := 8) rfl) rfl rfl rfl ?_
   refine st_op (ev_load rfl (lvar_one one22 h44 rfl)) rfl rfl rfl ?_
   refine st_op (ev_lenSl rfl Tryz.underlying22) rfl rfl rfl ?_
   refine st_op (ev_int rfl rfl rfl) rfl rfl rfl ?_
   refine st_op (ev_move rfl) rfl rfl rfl ?_
   refine st_bool 56 rfl (fun hb46 => ?_) (fun hb46 => ?_)
   ·
    have hb46 := eq_of_beq hb46
    iterate 3 refine st_skip rfl rfl rfl ?_
    iterate 2 refine st_op (ev_pickT rfl rfl) rfl rfl rfl ?_
    refine st_op (ev_assign rfl) rfl rfl rfl ?_
    try show aw _ _ _ _ _ _
    refine aw_ret ?_
    have hx47 : Ext H Hl7 := (Ext.trans hx6 hxl9)
    have hres : (Spec.entR term index logterm es && decide (es.length ≤ 8 ∧ (es.length = 0 ∨ kind = 3))) = true := by first | (rw [hv, drop_at hx17, Spec.entR, if_pos (by first | exact .inl (by omega) | exact .inr (.inl (by omega)) | exact .inr (.inr (.inl (by omega))) | exact .inr (.inr (.inr (by assumption))))]; rfl) | (rw [hv, List.drop_eq_nil_of_le (by omega), Spec.entR, Bool.eq_iff_iff]; simp only [Bool.true_and, decide_eq_true_eq, beq_iff_eq, Bool.false_eq_true, iff_true, iff_false]; omega)
    exact ⟨.bool true, rfl, by first | (rw [hres]; done) | rw [← hres], hx47⟩
   ·
    have hb46 := ne_of_beq_false hb46
    refine st_op (ev_fieldAddr rfl fa26_0 (o' := 0) rfl) rfl rfl rfl ?_
    refine st_op (ev_load rfl (lvar_one one3 h44 rfl)) rfl rfl rfl ?_
    refine st_op (ev_int rfl rfl rfl) rfl rfl rfl ?_
    refine st_op (ev_pickF rfl rfl) rfl rfl rfl ?_
    refine st_op (ev_pickT rfl rfl) rfl rfl rfl ?_
    refine st_op (ev_assign rfl) rfl rfl rfl ?_
    try show aw _ _ _ _ _ _
    refine aw_ret ?_
    have hx48 : Ext H Hl7 := (Ext.trans hx6 hxl9)
    have hres : (Spec.entR term index logterm es && decide (es.length ≤ 8 ∧ (es.length = 0 ∨ kind = 3))) = (kind == 3) := by first | (rw [hv, drop_at hx17, Spec.entR, if_pos (by first | exact .inl (by omega) | exact .inr (.inl (by omega)) | exact .inr (.inr (.inl (by omega))) | exact .inr (.inr (.inr (by assumption))))]; rfl) | (rw [hv, List.drop_eq_nil_of_le (by omega), Spec.entR, Bool.eq_iff_iff]; simp only [Bool.true_and, decide_eq_true_eq, beq_iff_eq, Bool.false_eq_true, iff_true, iff_false]; omega)
    exact ⟨.bool (kind == 3), rfl, by first | (rw [hres]; done) | rw [← hres], hx48⟩
  ·
   have hb45 := of_decide_eq_false hb45
   iterate 9 refine st_skip rfl rfl rfl ?_
   refine st_op (ev_pickF rfl rfl) rfl rfl rfl ?_
   refine st_op (ev_assign rfl) rfl rfl rfl ?_
   try show aw _ _ _ _ _ _
   refine aw_ret ?_
   have hx49 : Ext H Hl7 := (Ext.trans hx6 hxl9)
   have hres : (Spec.entR term index logterm es && decide (es.length ≤ 8 ∧ (es.length = 0 ∨ kind = 3))) = false := by first | (rw [hv, drop_at hx17, Spec.entR, if_pos (by first | exact .inl (by omega) | exact .inr (.inl (by omega)) | exact .inr (.inr (.inl (by omega))) | exact .inr (.inr (.inr (by assumption))))]; rfl) | (rw [hv, List.drop_eq_nil_of_le (by omega), Spec.entR, Bool.eq_iff_iff]; simp only [Bool.true_and, decide_eq_true_eq, beq_iff_eq, Bool.false_eq_true, iff_true, iff_false]; omega)
   exact ⟨.bool false, rfl, by first | (rw [hres]; done) | rw [← hres], hx49⟩
theorem conf_May_spec (H : Heap) (lA : Option Addr) (l : List Int) (lc : Nat) (hl : Row H lA lc 1 (l.map i64c)) (cl : l.length ≤ lc) (ll : l.length ≤ 274877906944) : ∃ v H', Spec Tryz.prog 73 [.slice lA l.length lc] H v H' ∧ ((v = .bool (Spec.mayC l)) ∧ (Ext H H')) := by
 refine spec_go1 E0_ok 35 (f := 73) Tryz.func73 rfl rfl rfl ?_
 refine aw_seq ?_
 refine aw_reg ?_
 refine st_op (ev_assign rfl) rfl rfl rfl ?_
 try show aw _ _ _ _ _ _
 iterate 2 refine aw_seq ?_
 refine aw_reg ?_
 refine st_op (ev_move rfl) rfl rfl rfl ?_
 refine st_op (ev_lenSl rfl Tryz.underlying46) rfl rfl rfl ?_
 refine st_op (ev_move rfl) rfl rfl rfl ?_
 try show aw _ _ _ _ _ _
 refine aw_block ?_
 refine aw_keep [0, 5, 6, 7] (l' := (.cons 0 (.slice lA l.length lc) (.cons 5 (.slice lA l.length lc) (.cons 6 (.int .i64 (l.length : Int)) (.cons 7 (.int .i64 0) .nil))))) (by repeat (first | exact Up.done | refine Up.then ?_ | refine Up.inBlock ?_)) rfl ?_
 refine aw_iter (α := Nat × Int × Heap) (fun a => l.length - a.1) (fun a => (.cons 0 (.slice lA l.length lc) (.cons 5 (.slice lA l.length lc) (.cons 6 (.int .i64 (l.length : Int)) (.cons 7 (.int .i64 (a.1 : Int)) .nil))))) (fun a => a.2.2) (fun a => (a.1 ≤ l.length) ∧ (Spec.upF 0 l = Spec.upF a.2.1 (l.drop a.1)) ∧ ((a.1 = 0 → a.2.1 = 0) ∧ (0 < a.1 → l[a.1 - 1]? = some a.2.1)) ∧ (Ext H a.2.2)) (0, (0 : Int), H) ⟨(show 0 ≤ l.length from Nat.zero_le _), (show Spec.upF 0 l = Spec.upF (0 : Int) (l.drop 0) from rfl), (show (0 = 0 → (0 : Int) = 0) ∧ (0 < 0 → l[0 - 1]? = some (0 : Int)) from ⟨fun _ => rfl, fun h => absurd h (by decide)⟩), (show Ext H H from (Ext.refl H))⟩ ?_
 rintro ⟨i, pv, Hl1⟩ ⟨hi, hv, hpv, hxl2⟩ ih3
 replace hi : i ≤ l.length := hi
 replace hv : Spec.upF 0 l = Spec.upF pv (l.drop i) := hv
 replace hpv : (i = 0 → pv = 0) ∧ (0 < i → l[i - 1]? = some pv) := hpv
 replace hxl2 : Ext H Hl1 := hxl2
 show aw _ _ _ (RL _ (.cons 0 (.slice lA l.length lc) (.cons 5 (.slice lA l.length lc) (.cons 6 (.int .i64 (l.length : Int)) (.cons 7 (.int .i64 (i : Int)) .nil))))) Hl1 _
 have Hl1n : H.next ≤ Hl1.next := hxl2.1
 refine aw_seq ?_
 refine aw_reg ?_
 refine st_op (ev_int rfl rfl rfl) rfl rfl rfl ?_
 try show aw _ _ _ _ _ _
 refine aw_seq ?_
 by_cases hc4 : (decide ((i : Int) < (l.length : Int))) = true
 ·
  refine aw_condT hc4 rfl ?_
  try show aw _ _ _ _ _ _
  have hc4 := of_decide_eq_true hc4
  refine aw_skip ?_
  try show aw _ _ _ _ _ _
  refine aw_seq ?_
  refine aw_block ?_
  refine aw_seq ?_
  refine aw_reg ?_
  refine st_op (ev_move rfl) rfl rfl rfl ?_
  have h5 := Row.ext hl hxl2
  have hi6 : 0 ≤ ((i : Int) : Int) := by omega
  have hi7 : ((i : Int) : Int) < ((l.length : Nat) : Int) := by omega
  obtain ⟨x8, hx9⟩ : ∃ e, l[i]? = some e := ⟨_, List.getElem?_eq_getElem (by omega)⟩
  refine st_op (ev_at rfl rfl h5 (getMap i64c hx9) (by first | rfl | omega | simp) hi6 hi7 el46) rfl rfl rfl ?_
  refine st_op (ev_atL rfl h5 (getMap i64c hx9) one3 rfl) rfl rfl rfl ?_
  iterate 2 refine st_op (ev_assign rfl) rfl rfl rfl ?_
  try show aw _ _ _ _ _ _
  refine aw_seq ?_
  refine aw_reg ?_
  refine st_op (ev_move rfl) rfl rfl rfl ?_
  refine st_op (ev_int rfl rfl rfl) rfl rfl rfl ?_
  refine st_op (ev_move rfl) rfl rfl rfl ?_
  refine st_bool 14 rfl (fun hb10 => ?_) (fun hb10 => ?_)
  ·
   have hb10 := of_decide_eq_true hb10
   iterate 2 refine st_skip rfl rfl rfl ?_
   refine st_op (ev_pickT rfl rfl) rfl rfl rfl ?_
   refine st_op (ev_move rfl) rfl rfl rfl ?_
   iterate 11 refine st_skip rfl rfl rfl ?_
   refine st_op (ev_pickT rfl rfl) rfl rfl rfl ?_
   try show aw _ _ _ _ _ _
   refine aw_cond (t := true) rfl ?_
   try show aw _ _ _ _ _ _
   refine aw_seq ?_
   refine aw_reg ?_
   refine st_op (ev_assign rfl) rfl rfl rfl ?_
   try show aw _ _ _ _ _ _
   refine aw_ret ?_
   have hres : (Spec.mayC l) = false := by unfold Spec.mayC; rw [hv, drop_at hx9, Spec.upF, if_pos (by omega)]; rfl
   exact ⟨.bool false, rfl, by first | (rw [hres]; done) | rw [← hres], hxl2⟩
  ·
   have hb10 := of_decide_eq_false hb10
   refine st_op (ev_move rfl) rfl rfl rfl ?_
   refine st_op (ev_int rfl rfl rfl) rfl rfl rfl ?_
   refine st_op (ev_pickF rfl rfl) rfl rfl rfl ?_
   refine st_op (ev_move rfl) rfl rfl rfl ?_
   refine st_bool 18 rfl (fun hb11 => ?_) (fun hb11 => ?_)
   ·
    have hb11 := of_decide_eq_true hb11
    iterate 11 refine st_skip rfl rfl rfl ?_
    refine st_op (ev_pickT rfl rfl) rfl rfl rfl ?_
    try show aw _ _ _ _ _ _
    refine aw_cond (t := true) rfl ?_
    try show aw _ _ _ _ _ _
    refine aw_seq ?_
    refine aw_reg ?_
    refine st_op (ev_assign rfl) rfl rfl rfl ?_
    try show aw _ _ _ _ _ _
    refine aw_ret ?_
    have hres : (Spec.mayC l) = false := by unfold Spec.mayC; rw [hv, drop_at hx9, Spec.upF, if_pos (by omega)]; rfl
    exact ⟨.bool false, rfl, by first | (rw [hres]; done) | rw [← hres], hxl2⟩
   ·
    have hb11 := of_decide_eq_false hb11
    refine st_op (ev_move rfl) rfl rfl rfl ?_
    refine st_op (ev_int rfl rfl rfl) rfl rfl rfl ?_
    refine st_op (ev_move rfl) rfl rfl rfl ?_
    refine st_bool 21 rfl (fun hb12 => ?_) (fun hb12 => ?_)
    ·
     have hb12 := of_decide_eq_true hb12
     iterate 2 refine st_op (ev_move rfl) rfl rfl rfl ?_
     refine st_op (ev_int64 (c := (i : Int) - 1) rfl rfl rfl (by omega) (by omega)) rfl rfl rfl ?_
     have hi13 : 0 ≤ ((i : Int) - 1 : Int) := by omega
     have hi14 : ((i : Int) - 1 : Int) < ((l.length : Nat) : Int) := by omega
     obtain ⟨x15, hx16⟩ : ∃ e, l[(((i : Int) - 1)).toNat]? = some e := ⟨_, List.getElem?_eq_getElem (by omega)⟩
     have x15p : x15 = pv := by have q := hpv.2 (by omega); rw [show (((((i : Int) - 1)).toNat) : Nat) = i - 1 by omega] at hx16; rw [hx16] at q; cases q; rfl
     refine st_op (ev_at rfl rfl h5 (getMap i64c hx16) (by first | rfl | omega | simp) hi13 hi14 el46) rfl rfl rfl ?_
     refine st_op (ev_atL rfl h5 (getMap i64c hx16) one3 rfl) rfl rfl rfl ?_
     refine st_op (ev_move rfl) rfl rfl rfl ?_
     refine st_op (ev_int rfl rfl rfl) rfl rfl rfl ?_
     refine st_op (ev_pickT rfl rfl) rfl rfl rfl ?_
     refine st_op (ev_pickF rfl rfl) rfl rfl rfl ?_
     try show aw _ _ _ _ _ _
     by_cases hc17 : (decide (x15 ≥ x8)) = true
     ·
      refine aw_condT hc17 rfl ?_
      try show aw _ _ _ _ _ _
      have hc17 := of_decide_eq_true hc17
      refine aw_seq ?_
      refine aw_reg ?_
      refine st_op (ev_assign rfl) rfl rfl rfl ?_
      try show aw _ _ _ _ _ _
      refine aw_ret ?_
      have hres : (Spec.mayC l) = false := by unfold Spec.mayC; rw [hv, drop_at hx9, Spec.upF, if_pos (by omega)]; rfl
      exact ⟨.bool false, rfl, by first | (rw [hres]; done) | rw [← hres], hxl2⟩
     ·
      rw [Bool.not_eq_true] at hc17; refine aw_condF hc17 rfl ?_
      try show aw _ _ _ _ _ _
      have hc17 := of_decide_eq_false hc17
      refine aw_skip ?_
      try show aw _ _ _ _ _ _
      refine aw_reg ?_
      refine st_op (ev_int64 (c := (i : Int) + 1) rfl rfl rfl (by omega) (by omega)) rfl rfl rfl ?_
      refine st_op (ev_move rfl) rfl rfl rfl ?_
      try show aw _ _ _ _ _ _
      refine aw_keep [0, 5, 6, 7] (l' := (.cons 0 (.slice lA l.length lc) (.cons 5 (.slice lA l.length lc) (.cons 6 (.int .i64 (l.length : Int)) (.cons 7 (.int .i64 ((i : Int) + 1)) .nil))))) (by repeat (first | exact Up.done | refine Up.then ?_ | refine Up.inBlock ?_)) rfl ?_
      exact ih3 (i + 1, x8, Hl1) ⟨(show (i + 1) ≤ l.length from (by omega)), (show Spec.upF 0 l = Spec.upF x8 (l.drop (i + 1)) from (by rw [hv, drop_at hx9, Spec.upF, if_neg (by omega)])), (show ((i + 1) = 0 → x8 = 0) ∧ (0 < (i + 1) → l[(i + 1) - 1]? = some x8) from ⟨fun h => absurd h (by omega), fun _ => by rw [Nat.add_sub_cancel]; exact hx9⟩), (show Ext H Hl1 from hxl2)⟩ (by simp only; omega)
    ·
     have hb12 := of_decide_eq_false hb12
     iterate 7 refine st_skip rfl rfl rfl ?_
     iterate 2 refine st_op (ev_pickF rfl rfl) rfl rfl rfl ?_
     try show aw _ _ _ _ _ _
     refine aw_cond (t := false) rfl ?_
     try show aw _ _ _ _ _ _
     refine aw_skip ?_
     try show aw _ _ _ _ _ _
     refine aw_reg ?_
     refine st_op (ev_int64 (c := (i : Int) + 1) rfl rfl rfl (by omega) (by omega)) rfl rfl rfl ?_
     refine st_op (ev_move rfl) rfl rfl rfl ?_
     try show aw _ _ _ _ _ _
     refine aw_keep [0, 5, 6, 7] (l' := (.cons 0 (.slice lA l.length lc) (.cons 5 (.slice lA l.length lc) (.cons 6 (.int .i64 (l.length : Int)) (.cons 7 (.int .i64 ((i : Int) + 1)) .nil))))) (by repeat (first | exact Up.done | refine Up.then ?_ | refine Up.inBlock ?_)) rfl ?_
     exact ih3 (i + 1, x8, Hl1) ⟨(show (i + 1) ≤ l.length from (by omega)), (show Spec.upF 0 l = Spec.upF x8 (l.drop (i + 1)) from (by rw [hv, drop_at hx9, Spec.upF, if_neg (by have := hpv.1 (by omega); omega)])), (show ((i + 1) = 0 → x8 = 0) ∧ (0 < (i + 1) → l[(i + 1) - 1]? = some x8) from ⟨fun h => absurd h (by omega), fun _ => by rw [Nat.add_sub_cancel]; exact hx9⟩), (show Ext H Hl1 from hxl2)⟩ (by simp only; omega)
 ·
  rw [Bool.not_eq_true] at hc4; refine aw_condF hc4 rfl ?_
  try show aw _ _ _ _ _ _
  have hc4 := of_decide_eq_false hc4
  refine aw_exit ?_
  try show aw _ _ _ _ _ _
  refine aw_seq ?_
  refine aw_reg ?_
  refine st_op (ev_move rfl) rfl rfl rfl ?_
  refine st_op (ev_lenSl rfl Tryz.underlying46) rfl rfl rfl ?_
  refine st_op (ev_int rfl rfl rfl) rfl rfl rfl ?_
  refine st_op (ev_assign rfl) rfl rfl rfl ?_
  try show aw _ _ _ _ _ _
  refine aw_ret ?_
  have hres : (Spec.mayC l) = (decide ((l.length : Int) > 0)) := by unfold Spec.mayC; rw [hv, List.drop_eq_nil_of_le (by omega)]; simp [Spec.upF]
  exact ⟨.bool (decide ((l.length : Int) > 0)), rfl, by first | (rw [hres]; done) | rw [← hres], hxl2⟩
theorem conf_Decode_spec (H : Heap) (s : ByteArray) (hs : s.size ≤ 1073741824) : ∃ v H', Spec Tryz.prog 32 [.string s] H v H' ∧ (∃ rA0 rc0, (v = .tuple #[.slice rA0 (((Spec.decC s).1).length) rc0, .bool ((Spec.decC s).2)]) ∧ (My H H' rA0 rc0 1 (((Spec.decC s).1).map i64c)) ∧ (Ext H H')) := by
 refine spec_go1 E0_ok 24 (f := 32) Tryz.func32 rfl rfl rfl ?_
 refine aw_seq ?_
 refine aw_reg ?_
 iterate 2 refine st_op (ev_assign rfl) rfl rfl rfl ?_
 try show aw _ _ _ _ _ _
 refine aw_seq ?_
 refine aw_reg ?_
 refine st_op (ev_assign rfl) rfl rfl rfl ?_
 try show aw _ _ _ _ _ _
 iterate 2 refine aw_seq ?_
 refine aw_reg ?_
 refine st_op (ev_move rfl) rfl rfl rfl ?_
 refine st_op (ev_lenStr rfl Tryz.underlying9) rfl rfl rfl ?_
 refine st_op (ev_move rfl) rfl rfl rfl ?_
 try show aw _ _ _ _ _ _
 refine aw_block ?_
 have hm2 : My H H none 0 1 (([] : List Int).map i64c) := .nil
 refine aw_keep [0, 4, 7, 8] (l' := (.cons 0 (.string s) (.cons 4 (.slice none 0 0) (.cons 7 (.int .i64 ((s).size : Int)) (.cons 8 (.int .i64 0) .nil))))) (by repeat (first | exact Up.done | refine Up.then ?_ | refine Up.inBlock ?_)) rfl ?_
 refine aw_iter (α := Nat × Option Addr × Nat × List Int × Heap) (fun a => s.size - a.1) (fun a => (.cons 0 (.string s) (.cons 4 (.slice a.2.1 a.2.2.2.1.length a.2.2.1) (.cons 7 (.int .i64 ((s).size : Int)) (.cons 8 (.int .i64 (a.1 : Int)) .nil))))) (fun a => a.2.2.2.2) (fun a => (a.1 ≤ s.size) ∧ (a.2.2.2.1 = (Spec.digits s).take a.1) ∧ (My H a.2.2.2.2 a.2.1 a.2.2.1 1 (a.2.2.2.1.map i64c)) ∧ (Ext H a.2.2.2.2)) (0, none, 0, ([] : List Int), H) ⟨(show 0 ≤ s.size from Nat.zero_le _), (show ([] : List Int) = (Spec.digits s).take 0 from rfl), (show My H H none 0 1 (([] : List Int).map i64c) from hm2), (show Ext H H from (Ext.refl H))⟩ ?_
 rintro ⟨i, A, cp, l, Hl1⟩ ⟨hi, hl, hm3, hxl4⟩ ih5
 replace hi : i ≤ s.size := hi
 replace hl : l = (Spec.digits s).take i := hl
 replace hm3 : My H Hl1 A cp 1 (l.map i64c) := hm3
 replace hxl4 : Ext H Hl1 := hxl4
 show aw _ _ _ (RL _ (.cons 0 (.string s) (.cons 4 (.slice A l.length cp) (.cons 7 (.int .i64 ((s).size : Int)) (.cons 8 (.int .i64 (i : Int)) .nil))))) Hl1 _
 have Hl1n : H.next ≤ Hl1.next := hxl4.1
 have hll : l.length = i := by rw [hl, List.length_take, Spec.digits_len]; omega
 refine aw_seq ?_
 refine aw_reg ?_
 refine st_op (ev_int rfl rfl rfl) rfl rfl rfl ?_
 try show aw _ _ _ _ _ _
 refine aw_seq ?_
 by_cases hc6 : (decide ((i : Int) < ((s).size : Int))) = true
 ·
  refine aw_condT hc6 rfl ?_
  try show aw _ _ _ _ _ _
  have hc6 := of_decide_eq_true hc6
  refine aw_skip ?_
  try show aw _ _ _ _ _ _
  refine aw_seq ?_
  refine aw_block ?_
  refine aw_seq ?_
  refine aw_reg ?_
  refine st_op (ev_move rfl) rfl rfl rfl ?_
  refine st_op (ev_assign rfl) rfl rfl rfl ?_
  try show aw _ _ _ _ _ _
  refine aw_reg ?_
  iterate 3 refine st_op (ev_move rfl) rfl rfl rfl ?_
  obtain ⟨y7, hy8⟩ : ∃ y, (s).data.toList[i]? = some y := ⟨_, List.getElem?_eq_getElem (by simp; omega)⟩
  have y7t := y7.toNat_lt
  refine st_op (ev_ixStr Tryz.underlying9 rfl rfl (ba_get hy8)) rfl rfl rfl ?_
  refine st_op (ev_convI Tryz.underlying5 Tryz.underlying3 rfl (wrI64 (by omega) (by omega))) rfl rfl rfl ?_
  refine st_op (ev_int64 (c := (y7.toNat : Int) - 48) rfl rfl rfl (by omega) (by omega)) rfl rfl rfl ?_
  obtain ⟨b9, H10, he11, b9e, H10n_, hm13, f12⟩ := mem_lit Hl1 (xs := ([.int .i64 ((y7.toNat : Int) - 48)] : List Value)) (m := 1) (rows := [[.int .i64 ((y7.toNat : Int) - 48)]]) rfl eok46 (by decide) (by decide) zf3 rfl (allLen rfl) rfl
  replace hm13 : My Hl1 H10 (some ⟨b9, 0, none⟩) 1 1 ([(y7.toNat : Int) - 48].map i64c) := hm13
  refine st_op (he11 _ _ _ _ _ _ _ _ rfl) rfl rfl rfl ?_
  have hx14 : Ext Hl1 H10 := Ext.new (by omega) H10n_ f12
  have H10n : Hl1.next ≤ H10.next := hx14.1
  have h15 := My.ext hm3 hx14
  obtain ⟨A16, c17, H18, W19, he20, hm21, hf22⟩ := mem_append (f := i64c) (old := l) (new := [(y7.toNat : Int) - 48]) (m := l.length) (mx := 1) (c := cp) (by first | rfl | simp) (by first | rfl | simp) eok46 (by decide) hm3 h15 (by omega) (((My.row hm13)).srcF (by decide) (by first | rfl | simp)) rfl i64c_len i64c_one (by first | omega | (simp only [List.length_append, List.length_cons, List.length_nil, List.length_map, List.length_set, List.length_replicate, Spec.bytesOf_length]; omega) | (simp; omega)) (by first | omega | (simp only [List.length_append, List.length_cons, List.length_nil, List.length_map, List.length_set, List.length_replicate, Spec.bytesOf_length]; omega) | (simp; omega))
  refine st_op (he20 _ _ _ _ _ _ _ _ _ _ rfl rfl isrow46) rfl rfl rfl ?_
  have H18n : H10.next ≤ H18.next := hf22.1
  refine st_op (ev_assign rfl) rfl rfl rfl ?_
  try show aw _ _ _ _ _ _
  refine aw_reg ?_
  refine st_op (ev_int64 (c := (i : Int) + 1) rfl rfl rfl (by omega) (by omega)) rfl rfl rfl ?_
  refine st_op (ev_move rfl) rfl rfl rfl ?_
  try show aw _ _ _ _ _ _
  have hx23 : Ext H H18 := (Ext.then (Ext.trans hxl4 hx14) hf22 (fun q hq e => by omega))
  refine aw_keep [0, 4, 7, 8] (l' := (.cons 0 (.string s) (.cons 4 (.slice A16 ((l ++ [(y7.toNat : Int) - 48]).length) c17) (.cons 7 (.int .i64 ((s).size : Int)) (.cons 8 (.int .i64 ((i : Int) + 1)) .nil))))) (by repeat (first | exact Up.done | refine Up.then ?_ | refine Up.inBlock ?_)) rfl ?_
  exact ih5 (i + 1, A16, c17, (l ++ [(y7.toNat : Int) - 48]), H18) ⟨(show (i + 1) ≤ s.size from (by omega)), (show (l ++ [(y7.toNat : Int) - 48]) = (Spec.digits s).take (i + 1) from (by rw [List.take_add_one, ← hl, Spec.digits_at hy8]; rfl)), (show My H H18 A16 c17 1 ((l ++ [(y7.toNat : Int) - 48]).map i64c) from hm21), (show Ext H H18 from hx23)⟩ (by simp only; omega)
 ·
  rw [Bool.not_eq_true] at hc6; refine aw_condF hc6 rfl ?_
  try show aw _ _ _ _ _ _
  have hc6 := of_decide_eq_false hc6
  refine aw_exit ?_
  try show aw _ _ _ _ _ _
  iterate 2 refine aw_seq ?_
  refine aw_reg ?_
  refine st_op (ev_move rfl) rfl rfl rfl ?_
  refine st_call rfl rfl rfl ent73 rfl rfl rfl ?_
  obtain ⟨_, H25, hs24, hs24v, hx26⟩ := conf_May_spec Hl1 A l cp (My.row hm3) (My.capF hm3 (by omega)) (by omega)
  rw [hs24v] at hs24; clear hs24v
  refine ⟨_, H25, hs24, ?_⟩
  have H25n : Hl1.next ≤ H25.next := hx26.1
  refine st_op (ev_not rfl) rfl rfl rfl ?_
  try show aw _ _ _ _ _ _
  by_cases hc27 : (!(Spec.mayC l)) = true
  ·
   refine aw_condT hc27 rfl ?_
   try show aw _ _ _ _ _ _
   replace hc27 : (Spec.mayC l) = false := by rw [Bool.not_eq_true'] at hc27; exact hc27
   refine aw_seq ?_
   refine aw_reg ?_
   iterate 2 refine st_op (ev_assign rfl) rfl rfl rfl ?_
   try show aw _ _ _ _ _ _
   refine aw_ret ?_
   have hm28 : My H25 H25 none 0 1 (([] : List Int).map i64c) := .nil
   have hx29 : Ext H H25 := (Ext.trans hxl4 hx26)
   have hres : (Spec.decC s) = (([] : List Int), false) := by (have hd : l = Spec.digits s := by rw [hl, List.take_of_length_le (by rw [Spec.digits_len]; omega)]); unfold Spec.decC; rw [← hd]; first | (rw [if_pos (by assumption)]; done) | (rw [if_neg (fun h => Bool.noConfusion (h.symm.trans (show _ = false by assumption)))]; done)
   exact ⟨.tuple #[.slice none 0 0, .bool false], rfl, none, 0, by first | (rw [hres]; first | done | rfl | simp; done) | rfl, (by rw [hres]; exact (My.older hm28 (by omega))), hx29⟩
  ·
   rw [Bool.not_eq_true] at hc27; refine aw_condF hc27 rfl ?_
   try show aw _ _ _ _ _ _
   replace hc27 : (Spec.mayC l) = true := by rw [Bool.not_eq_false'] at hc27; exact hc27
   refine aw_skip ?_
   try show aw _ _ _ _ _ _
   refine aw_seq ?_
   refine aw_reg ?_
   refine st_op (ev_move rfl) rfl rfl rfl ?_
   iterate 2 refine st_op (ev_assign rfl) rfl rfl rfl ?_
   try show aw _ _ _ _ _ _
   refine aw_ret ?_
   have h30 := My.ext hm3 hx26
   have hx31 : Ext H H25 := (Ext.trans hxl4 hx26)
   have hres : (Spec.decC s) = (l, true) := by (have hd : l = Spec.digits s := by rw [hl, List.take_of_length_le (by rw [Spec.digits_len]; omega)]); unfold Spec.decC; rw [← hd]; first | (rw [if_pos (by assumption)]; done) | (rw [if_neg (fun h => Bool.noConfusion (h.symm.trans (show _ = false by assumption)))]; done)
   exact ⟨.tuple #[.slice A l.length cp, .bool true], rfl, A, cp, by first | (rw [hres]; first | done | rfl | simp; done) | rfl, (by rw [hres]; exact h30), hx31⟩
theorem wal_may_spec (H : Heap) (s_index : Int) (s_term : Int) (s_conf : ByteArray) (s_data : ByteArray) : ∃ v H', Spec Tryz.prog 74 [.agg #[.int .i64 s_index, .int .i64 s_term, .string s_conf, .string s_data]] H v H' ∧ ((v = .bool (Spec.mayS s_index s_term s_conf s_data)) ∧ (Ext H H')) := by
 refine spec_go1 E0_ok 21 (f := 74) Tryz.func74 rfl rfl rfl ?_
 refine aw_seq ?_
 refine aw_reg ?_
 obtain ⟨b1, H2, he3, b1e, H2n_, hB5, f4⟩ := mem_box (P := Tryz.prog) H (v := .agg #[.int .i64 s_index, .int .i64 s_term, .string s_conf, .string s_data]) (cs := [.int .i64 s_index, .int .i64 s_term, .string s_conf, .string s_data]) rfl rfl
 refine st_op (he3 _ _ _ _ _ _ _ _ _ rfl) rfl rfl rfl ?_
 have hx6 : Ext H H2 := Ext.new (by omega) H2n_ f4
 have H2n : H.next ≤ H2.next := hx6.1
 refine st_op (ev_assign rfl) rfl rfl rfl ?_
 try show aw _ _ _ _ _ _
 refine aw_seq ?_
 refine aw_reg ?_
 refine st_op (ev_fieldAddr rfl fa24_0 (o' := 0) rfl) rfl rfl rfl ?_
 refine st_op (ev_load rfl (lvar_one one2 hB5 rfl)) rfl rfl rfl ?_
 refine st_op (ev_fieldAddr rfl fa24_1 (o' := 1) rfl) rfl rfl rfl ?_
 refine st_op (ev_load rfl (lvar_one one2 hB5 rfl)) rfl rfl rfl ?_
 obtain ⟨b7, H8, he9, b7e, H8n_, hm11, f10⟩ := mem_lit H2 (xs := ([.int .i64 s_index, .int .i64 s_term] : List Value)) (m := 2) (rows := [[.int .i64 s_index], [.int .i64 s_term]]) rfl eok103 (by decide) (by decide) zf2 rfl (allLen rfl) rfl
 replace hm11 : My H2 H8 (some ⟨b7, 0, none⟩) 2 1 ([s_index, s_term].map i64c) := hm11
 refine st_op (he9 _ _ _ _ _ _ _ _ rfl) rfl rfl rfl ?_
 have hx12 : Ext H2 H8 := Ext.new (by omega) H8n_ f10
 have H8n : H2.next ≤ H8.next := hx12.1
 refine st_call rfl rfl rfl ent79 rfl rfl rfl ?_
 obtain ⟨_, H14, hs13, hs13v, hx15⟩ := wal_in_spec H8 0 (by decide) 1099511627776 (by decide) (some ⟨b7, 0, none⟩) ([s_index, s_term]) 2 (My.row hm11) (My.capF hm11 (by first | omega | (simp only [List.length_append, List.length_cons, List.length_nil, List.length_map, List.length_set, List.length_replicate, Spec.bytesOf_length]; omega) | (simp; omega))) (by first | omega | (simp only [List.length_append, List.length_cons, List.length_nil, List.length_map, List.length_set, List.length_replicate, Spec.bytesOf_length]; omega) | (simp; omega))
 rw [hs13v] at hs13; clear hs13v
 refine ⟨_, H14, hs13, ?_⟩
 have H14n : H8.next ≤ H14.next := hx15.1
 refine st_op (ev_move rfl) rfl rfl rfl ?_
 refine st_bool 9 rfl (fun hb16 => ?_) (fun hb16 => ?_)
 ·
  have hb16m := Spec.inF_two hb16
  refine st_op (ev_fieldAddr rfl fa24_2 (o' := 2) rfl) rfl rfl rfl ?_
  have hx18 : Ext H2 H14 := (Ext.trans hx12 hx15)
  have h17 := Ext.blk hx18 (by omega) hB5
  refine st_op (ev_load rfl (lvar_one one9 h17 rfl)) rfl rfl rfl ?_
  refine st_op (ev_lenStr rfl Tryz.underlying9) rfl rfl rfl ?_
  refine st_op (ev_int rfl rfl rfl) rfl rfl rfl ?_
  refine st_op (ev_pickT rfl rfl) rfl rfl rfl ?_
  refine st_op (ev_move rfl) rfl rfl rfl ?_
  refine st_bool 15 rfl (fun hb19 => ?_) (fun hb19 => ?_)
  ·
   have hb19 := of_decide_eq_true hb19
   refine st_op (ev_fieldAddr rfl fa24_3 (o' := 3) rfl) rfl rfl rfl ?_
   refine st_op (ev_load rfl (lvar_one one9 h17 rfl)) rfl rfl rfl ?_
   refine st_op (ev_lenStr rfl Tryz.underlying9) rfl rfl rfl ?_
   refine st_op (ev_int rfl rfl rfl) rfl rfl rfl ?_
   refine st_op (ev_pickT rfl rfl) rfl rfl rfl ?_
   refine st_op (ev_assign rfl) rfl rfl rfl ?_
   try show aw _ _ _ _ _ _
   refine aw_ret ?_
   have hx20 : Ext H H14 := (Ext.trans (Ext.trans hx6 hx12) hx15)
   have hres : (Spec.mayS s_index s_term s_conf s_data) = (decide (((s_data).size : Int) ≤ 200000)) := by simp only [Spec.mayS]; (try simp_all) <;> (try (intros; omega))
   exact ⟨.bool (decide (((s_data).size : Int) ≤ 200000)), rfl, by first | (rw [hres]; done) | rw [← hres], hx20⟩
  ·
   have hb19 := of_decide_eq_false hb19
   iterate 4 refine st_skip rfl rfl rfl ?_
   refine st_op (ev_pickF rfl rfl) rfl rfl rfl ?_
   refine st_op (ev_assign rfl) rfl rfl rfl ?_
   try show aw _ _ _ _ _ _
   refine aw_ret ?_
   have hx21 : Ext H H14 := (Ext.trans (Ext.trans hx6 hx12) hx15)
   have hres : (Spec.mayS s_index s_term s_conf s_data) = false := by simp only [Spec.mayS]; (try simp_all) <;> (try (intros; omega))
   exact ⟨.bool false, rfl, by first | (rw [hres]; done) | rw [← hres], hx21⟩
 ·
  have hb16m := Spec.inF_twoN hb16
  iterate 4 refine st_skip rfl rfl rfl ?_
  refine st_op (ev_pickF rfl rfl) rfl rfl rfl ?_
  refine st_op (ev_move rfl) rfl rfl rfl ?_
  iterate 4 refine st_skip rfl rfl rfl ?_
  refine st_op (ev_pickF rfl rfl) rfl rfl rfl ?_
  refine st_op (ev_assign rfl) rfl rfl rfl ?_
  try show aw _ _ _ _ _ _
  refine aw_ret ?_
  have hx22 : Ext H H14 := (Ext.trans (Ext.trans hx6 hx12) hx15)
  have hres : (Spec.mayS s_index s_term s_conf s_data) = false := by simp only [Spec.mayS]; (try simp_all) <;> (try (intros; omega))
  exact ⟨.bool false, rfl, by first | (rw [hres]; done) | rw [← hres], hx22⟩
theorem num_Put_spec (H : Heap) (bH : Heap) (bA : Option Addr) (b : List Int) (bc : Nat) (hb : My bH H bA bc 1 (b.map u8c)) (nb : bH.next ≤ H.next) (lb : b.length ≤ 1099511627756) (n : Int) (hn : -9223372036854775808 ≤ n ∧ n ≤ 9223372036854775807) : ∃ v H', Spec Tryz.prog 76 [.slice bA b.length bc, .int .i64 n] H v H' ∧ (∃ rA0 rc0, (v = .slice rA0 ((b ++ Spec.enc (Spec.zig n)).length) rc0) ∧ (My bH H' rA0 rc0 1 ((b ++ Spec.enc (Spec.zig n)).map u8c)) ∧ ((Spec.enc (Spec.zig n)).length ≤ 10) ∧ (Fr (fun q => (bH.next ≤ q ∧ q < H.next ∧ ZB H q 1)) H H')) := by
 refine spec_go2 E0_ok 28 (f := 76) Tryz.func76 rfl rfl rfl ?_
 refine aw_seq ?_
 refine aw_reg ?_
 refine st_op (ev_assign rfl) rfl rfl rfl ?_
 try show aw _ _ _ _ _ _
 refine aw_seq ?_
 refine aw_reg ?_
 refine st_op (ev_move rfl) rfl rfl rfl ?_
 have hw1 : 0 ≤ (IntKind.u64.wrap n) ∧ (IntKind.u64.wrap n) ≤ 18446744073709551615 := wrapU64 _
 refine st_op (ev_convInt Tryz.underlying2 Tryz.underlying121 rfl) rfl rfl rfl ?_
 have hw2 : 0 ≤ (Spec.shl .u64 (IntKind.u64.wrap n) 1) ∧ (Spec.shl .u64 (IntKind.u64.wrap n) 1) ≤ 18446744073709551615 := wrapU64 _
 refine st_op (ev_shlV rfl rfl (by omega)) rfl rfl rfl ?_
 refine st_op (ev_assign rfl) rfl rfl rfl ?_
 try show aw _ _ _ _ _ _
 iterate 2 refine aw_seq ?_
 refine aw_reg ?_
 refine st_op (ev_move rfl) rfl rfl rfl ?_
 refine st_op (ev_int rfl rfl rfl) rfl rfl rfl ?_
 try show aw _ _ _ _ _ _
 by_cases hc3 : (decide (n < 0)) = true
 ·
  refine aw_condT hc3 rfl ?_
  try show aw _ _ _ _ _ _
  have hc3 := of_decide_eq_true hc3
  refine aw_reg ?_
  refine st_op (ev_move rfl) rfl rfl rfl ?_
  have hw4 : 0 ≤ (Go.bits .xor .u64 (IntKind.max .u64) (Spec.shl .u64 (IntKind.u64.wrap n) 1)) ∧ (Go.bits .xor .u64 (IntKind.max .u64) (Spec.shl .u64 (IntKind.u64.wrap n) 1)) ≤ 18446744073709551615 := bitsU64 _ _ _
  refine st_op (ev_comU rfl rfl) rfl rfl rfl ?_
  refine st_op (ev_assign rfl) rfl rfl rfl ?_
  try show aw _ _ _ _ _ _
  refine aw_seq ?_
  refine aw_block ?_
  have hz5 : (Go.bits .xor .u64 (IntKind.max .u64) (Spec.shl .u64 (IntKind.u64.wrap n) 1)) = ((Spec.zig n : Nat) : Int) := by first | (rw [shl1_u64]; (try rw [Spec.not_u64 (by omega) (by omega)]); unfold Spec.zig; split <;> omega) | (simp only [Spec.wrap_u64]; (try rw [Spec.not_u64 (by omega) (by omega)]); unfold Spec.zig; split <;> omega)
  have hz5l := Spec.zig_lt hn.1 hn.2
  refine aw_keep [0, 5] (l' := (.cons 0 (.slice bA b.length bc) (.cons 5 (.int .u64 (Go.bits .xor .u64 (IntKind.max .u64) (Spec.shl .u64 (IntKind.u64.wrap n) 1))) .nil))) (by repeat (first | exact Up.done | refine Up.then ?_ | refine Up.inBlock ?_)) rfl ?_
  refine aw_iter (α := Int × Option Addr × Nat × List Int × Nat × Heap) (fun a => a.2.2.2.2.1) (fun a => (.cons 0 (.slice a.2.1 a.2.2.2.1.length a.2.2.1) (.cons 5 (.int .u64 a.1) .nil))) (fun a => a.2.2.2.2.2) (fun a => (a.1 = (a.2.2.2.2.1 : Int)) ∧ (a.2.2.2.1 ++ Spec.enc a.2.2.2.2.1 = b ++ Spec.enc (Spec.zig n)) ∧ (a.2.2.2.2.1 < 18446744073709551616) ∧ (a.2.2.2.1.length + (Spec.enc a.2.2.2.2.1).length ≤ 1099511627770) ∧ (0 ≤ a.1 ∧ a.1 ≤ 18446744073709551615) ∧ (My bH a.2.2.2.2.2 a.2.1 a.2.2.1 1 (a.2.2.2.1.map u8c)) ∧ (Fr (fun q => (bH.next ≤ q ∧ q < H.next ∧ ZB H q 1)) H a.2.2.2.2.2)) ((Go.bits .xor .u64 (IntKind.max .u64) (Spec.shl .u64 (IntKind.u64.wrap n) 1)), bA, bc, b, (Spec.zig n), H) ⟨(show (Go.bits .xor .u64 (IntKind.max .u64) (Spec.shl .u64 (IntKind.u64.wrap n) 1)) = ((Spec.zig n) : Int) from hz5), (show b ++ Spec.enc (Spec.zig n) = b ++ Spec.enc (Spec.zig n) from rfl), (show (Spec.zig n) < 18446744073709551616 from hz5l), (show b.length + (Spec.enc (Spec.zig n)).length ≤ 1099511627770 from (by have := Spec.enc_len10 hz5l; simp; omega)), (show 0 ≤ (Go.bits .xor .u64 (IntKind.max .u64) (Spec.shl .u64 (IntKind.u64.wrap n) 1)) ∧ (Go.bits .xor .u64 (IntKind.max .u64) (Spec.shl .u64 (IntKind.u64.wrap n) 1)) ≤ 18446744073709551615 from ⟨by omega, by omega⟩), (show My bH H bA bc 1 (b.map u8c) from hb), (show Fr (fun q => (bH.next ≤ q ∧ q < H.next ∧ ZB H q 1)) H H from (Fr.refl _ H))⟩ ?_
  rintro ⟨v, A, cp, l, u, Hl6⟩ ⟨hv, hl, hu, hL, hn7, hm8, hxl9⟩ ih10
  replace hv : v = (u : Int) := hv
  replace hl : l ++ Spec.enc u = b ++ Spec.enc (Spec.zig n) := hl
  replace hu : u < 18446744073709551616 := hu
  replace hL : l.length + (Spec.enc u).length ≤ 1099511627770 := hL
  replace hn7 : 0 ≤ v ∧ v ≤ 18446744073709551615 := hn7
  replace hm8 : My bH Hl6 A cp 1 (l.map u8c) := hm8
  replace hxl9 : Fr (fun q => (bH.next ≤ q ∧ q < H.next ∧ ZB H q 1)) H Hl6 := hxl9
  show aw _ _ _ (RL _ (.cons 0 (.slice A l.length cp) (.cons 5 (.int .u64 v) .nil))) Hl6 _
  have Hl6n : H.next ≤ Hl6.next := hxl9.1
  have hpos := Spec.enc_pos u
  iterate 2 refine aw_seq ?_
  refine aw_reg ?_
  refine st_op (ev_move rfl) rfl rfl rfl ?_
  refine st_op (ev_int rfl rfl rfl) rfl rfl rfl ?_
  try show aw _ _ _ _ _ _
  by_cases hc11 : (decide (v > 127)) = true
  ·
   refine aw_condT hc11 rfl ?_
   try show aw _ _ _ _ _ _
   have hc11 := of_decide_eq_true hc11
   refine aw_skip ?_
   try show aw _ _ _ _ _ _
   refine aw_block ?_
   refine aw_seq ?_
   refine aw_reg ?_
   iterate 2 refine st_op (ev_move rfl) rfl rfl rfl ?_
   have hw12 : 0 ≤ (IntKind.u8.wrap v) ∧ (IntKind.u8.wrap v) ≤ 255 := wrapU8 _
   refine st_op (ev_convInt Tryz.underlying121 Tryz.underlying5 rfl) rfl rfl rfl ?_
   have hw13 : 0 ≤ (Go.bits .or .u8 (IntKind.u8.wrap v) 128) ∧ (Go.bits .or .u8 (IntKind.u8.wrap v) 128) ≤ 255 := bitsU8 _ _ _
   refine st_op (ev_bits rfl rfl rfl) rfl rfl rfl ?_
   obtain ⟨b14, H15, he16, b14e, H15n_, hm18, f17⟩ := mem_lit Hl6 (xs := ([.int .u8 (Go.bits .or .u8 (IntKind.u8.wrap v) 128)] : List Value)) (m := 1) (rows := [[.int .u8 (Go.bits .or .u8 (IntKind.u8.wrap v) 128)]]) rfl eok68 (by decide) (by decide) zf5 rfl (allLen rfl) rfl
   replace hm18 : My Hl6 H15 (some ⟨b14, 0, none⟩) 1 1 ([(Go.bits .or .u8 (IntKind.u8.wrap v) 128)].map u8c) := hm18
   refine st_op (he16 _ _ _ _ _ _ _ _ rfl) rfl rfl rfl ?_
   have hx19 : Ext Hl6 H15 := Ext.new (by omega) H15n_ f17
   have H15n : Hl6.next ≤ H15.next := hx19.1
   have h20 := My.ext hm8 hx19
   obtain ⟨A21, c22, H23, W24, he25, hm26, hf27⟩ := mem_append (f := u8c) (old := l) (new := [(Go.bits .or .u8 (IntKind.u8.wrap v) 128)]) (m := l.length) (mx := 1) (c := cp) (by first | rfl | simp) (by first | rfl | simp) eok68 (by decide) hm8 h20 (by omega) (((My.row hm18)).srcF (by decide) (by first | rfl | simp)) rfl u8c_len u8c_one (by first | omega | (simp only [List.length_append, List.length_cons, List.length_nil, List.length_map, List.length_set, List.length_replicate, Spec.bytesOf_length]; omega) | (simp; omega)) (by first | omega | (simp only [List.length_append, List.length_cons, List.length_nil, List.length_map, List.length_set, List.length_replicate, Spec.bytesOf_length]; omega) | (simp; omega))
   refine st_op (he25 _ _ _ _ _ _ _ _ _ _ rfl rfl isrow68) rfl rfl rfl ?_
   have H23n : H15.next ≤ H23.next := hf27.1
   refine st_op (ev_assign rfl) rfl rfl rfl ?_
   try show aw _ _ _ _ _ _
   refine aw_reg ?_
   refine st_op (ev_move rfl) rfl rfl rfl ?_
   refine st_op (ev_shr (a := v) (c := 128) rfl rfl (by decide) (by decide)) rfl rfl rfl ?_
   refine st_op (ev_assign rfl) rfl rfl rfl ?_
   try show aw _ _ _ _ _ _
   refine aw_keep [0, 5] (l' := (.cons 0 (.slice A21 ((l ++ [(Go.bits .or .u8 (IntKind.u8.wrap v) 128)]).length) c22) (.cons 5 (.int .u64 (v / 128)) .nil))) (by repeat (first | exact Up.done | refine Up.then ?_ | refine Up.inBlock ?_)) rfl ?_
   exact ih10 ((v / 128), A21, c22, (l ++ [(Go.bits .or .u8 (IntKind.u8.wrap v) 128)]), (u / 128), H23) ⟨(show (v / 128) = ((u / 128) : Int) from (by subst hv; omega)), (show (l ++ [(Go.bits .or .u8 (IntKind.u8.wrap v) 128)]) ++ Spec.enc (u / 128) = b ++ Spec.enc (Spec.zig n) from (by rw [← hl, Spec.enc_step (u := u) (by omega), List.append_assoc]; congr 2; subst hv; rw [List.cons_append, List.nil_append]; congr 1 <;> first | (rw [IntKind.wrap_u8, Spec.or128 (by omega) (by omega)]; omega) | (rw [IntKind.wrap_u8]; omega) | omega)), (show (u / 128) < 18446744073709551616 from (by omega)), (show (l ++ [(Go.bits .or .u8 (IntKind.u8.wrap v) 128)]).length + (Spec.enc (u / 128)).length ≤ 1099511627770 from (by rw [Spec.enc_step (u := u) (by omega), List.length_cons] at hL; rw [List.length_append, List.length_singleton]; omega)), (show 0 ≤ (v / 128) ∧ (v / 128) ≤ 18446744073709551615 from ⟨by omega, by omega⟩), (show My bH H23 A21 c22 1 ((l ++ [(Go.bits .or .u8 (IntKind.u8.wrap v) 128)]).map u8c) from hm26), (show Fr (fun q => (bH.next ≤ q ∧ q < H.next ∧ ZB H q 1)) H H23 from (Fr.transG (Fr.trans (Fr.transG (Fr.refl (fun q => (bH.next ≤ q ∧ q < H.next ∧ ZB H q 1)) H) hxl9 (fun q hq hE e => (⟨by omega, by omega, ZB.back hE e.2.2⟩))) (hx19.fr fun _ => False) (fun q hq (e : False) => e.elim)) hf27 (fun q hq hE e => (⟨by omega, by omega, ZB.back hE e.2.2⟩))))⟩ (by simp only; omega)
  ·
   rw [Bool.not_eq_true] at hc11; refine aw_condF hc11 rfl ?_
   try show aw _ _ _ _ _ _
   have hc11 := of_decide_eq_false hc11
   refine aw_exit ?_
   try show aw _ _ _ _ _ _
   refine aw_seq ?_
   refine aw_reg ?_
   iterate 2 refine st_op (ev_move rfl) rfl rfl rfl ?_
   refine st_op (ev_convI Tryz.underlying121 Tryz.underlying5 rfl (wrU8 (by omega) (by omega))) rfl rfl rfl ?_
   obtain ⟨b28, H29, he30, b28e, H29n_, hm32, f31⟩ := mem_lit Hl6 (xs := ([.int .u8 v] : List Value)) (m := 1) (rows := [[.int .u8 v]]) rfl eok68 (by decide) (by decide) zf5 rfl (allLen rfl) rfl
   replace hm32 : My Hl6 H29 (some ⟨b28, 0, none⟩) 1 1 ([v].map u8c) := hm32
   refine st_op (he30 _ _ _ _ _ _ _ _ rfl) rfl rfl rfl ?_
   have hx33 : Ext Hl6 H29 := Ext.new (by omega) H29n_ f31
   have H29n : Hl6.next ≤ H29.next := hx33.1
   have h34 := My.ext hm8 hx33
   obtain ⟨A35, c36, H37, W38, he39, hm40, hf41⟩ := mem_append (f := u8c) (old := l) (new := [v]) (m := l.length) (mx := 1) (c := cp) (by first | rfl | simp) (by first | rfl | simp) eok68 (by decide) hm8 h34 (by omega) (((My.row hm32)).srcF (by decide) (by first | rfl | simp)) rfl u8c_len u8c_one (by first | omega | (simp only [List.length_append, List.length_cons, List.length_nil, List.length_map, List.length_set, List.length_replicate, Spec.bytesOf_length]; omega) | (simp; omega)) (by first | omega | (simp only [List.length_append, List.length_cons, List.length_nil, List.length_map, List.length_set, List.length_replicate, Spec.bytesOf_length]; omega) | (simp; omega))
   refine st_op (he39 _ _ _ _ _ _ _ _ _ _ rfl rfl isrow68) rfl rfl rfl ?_
   have H37n : H29.next ≤ H37.next := hf41.1
   refine st_op (ev_assign rfl) rfl rfl rfl ?_
   try show aw _ _ _ _ _ _
   refine aw_ret ?_
   have hres : (b ++ Spec.enc (Spec.zig n)) = (l ++ [v]) := by rw [← hl, Spec.enc_small (u := u) (by omega)]; congr 2; subst hv; first | done | omega | (rw [IntKind.wrap_u8]; omega)
   exact ⟨.slice A35 ((l ++ [v]).length) c36, rfl, A35, c36, by first | (rw [hres]; first | done | rfl | simp; done) | rfl, (by rw [hres]; exact hm40), (by exact Spec.zig_i64 hn), (Fr.transG (Fr.trans (Fr.transG (Fr.refl (fun q => (bH.next ≤ q ∧ q < H.next ∧ ZB H q 1)) H) hxl9 (fun q hq hE e => (⟨by omega, by omega, ZB.back hE e.2.2⟩))) (hx33.fr fun _ => False) (fun q hq (e : False) => e.elim)) hf41 (fun q hq hE e => (⟨by omega, by omega, ZB.back hE e.2.2⟩)))⟩
 ·
  rw [Bool.not_eq_true] at hc3; refine aw_condF hc3 rfl ?_
  try show aw _ _ _ _ _ _
  have hc3 := of_decide_eq_false hc3
  refine aw_skip ?_
  try show aw _ _ _ _ _ _
  refine aw_seq ?_
  refine aw_block ?_
  have hz42 : (Spec.shl .u64 (IntKind.u64.wrap n) 1) = ((Spec.zig n : Nat) : Int) := by first | (rw [shl1_u64]; (try rw [Spec.not_u64 (by omega) (by omega)]); unfold Spec.zig; split <;> omega) | (simp only [Spec.wrap_u64]; (try rw [Spec.not_u64 (by omega) (by omega)]); unfold Spec.zig; split <;> omega)
  have hz42l := Spec.zig_lt hn.1 hn.2
  refine aw_keep [0, 5] (l' := (.cons 0 (.slice bA b.length bc) (.cons 5 (.int .u64 (Spec.shl .u64 (IntKind.u64.wrap n) 1)) .nil))) (by repeat (first | exact Up.done | refine Up.then ?_ | refine Up.inBlock ?_)) rfl ?_
  refine aw_iter (α := Int × Option Addr × Nat × List Int × Nat × Heap) (fun a => a.2.2.2.2.1) (fun a => (.cons 0 (.slice a.2.1 a.2.2.2.1.length a.2.2.1) (.cons 5 (.int .u64 a.1) .nil))) (fun a => a.2.2.2.2.2) (fun a => (a.1 = (a.2.2.2.2.1 : Int)) ∧ (a.2.2.2.1 ++ Spec.enc a.2.2.2.2.1 = b ++ Spec.enc (Spec.zig n)) ∧ (a.2.2.2.2.1 < 18446744073709551616) ∧ (a.2.2.2.1.length + (Spec.enc a.2.2.2.2.1).length ≤ 1099511627770) ∧ (0 ≤ a.1 ∧ a.1 ≤ 18446744073709551615) ∧ (My bH a.2.2.2.2.2 a.2.1 a.2.2.1 1 (a.2.2.2.1.map u8c)) ∧ (Fr (fun q => (bH.next ≤ q ∧ q < H.next ∧ ZB H q 1)) H a.2.2.2.2.2)) ((Spec.shl .u64 (IntKind.u64.wrap n) 1), bA, bc, b, (Spec.zig n), H) ⟨(show (Spec.shl .u64 (IntKind.u64.wrap n) 1) = ((Spec.zig n) : Int) from hz42), (show b ++ Spec.enc (Spec.zig n) = b ++ Spec.enc (Spec.zig n) from rfl), (show (Spec.zig n) < 18446744073709551616 from hz42l), (show b.length + (Spec.enc (Spec.zig n)).length ≤ 1099511627770 from (by have := Spec.enc_len10 hz42l; simp; omega)), (show 0 ≤ (Spec.shl .u64 (IntKind.u64.wrap n) 1) ∧ (Spec.shl .u64 (IntKind.u64.wrap n) 1) ≤ 18446744073709551615 from ⟨by omega, by omega⟩), (show My bH H bA bc 1 (b.map u8c) from hb), (show Fr (fun q => (bH.next ≤ q ∧ q < H.next ∧ ZB H q 1)) H H from (Fr.refl _ H))⟩ ?_
  rintro ⟨v, A, cp, l, u, Hl43⟩ ⟨hv, hl, hu, hL, hn44, hm45, hxl46⟩ ih47
  replace hv : v = (u : Int) := hv
  replace hl : l ++ Spec.enc u = b ++ Spec.enc (Spec.zig n) := hl
  replace hu : u < 18446744073709551616 := hu
  replace hL : l.length + (Spec.enc u).length ≤ 1099511627770 := hL
  replace hn44 : 0 ≤ v ∧ v ≤ 18446744073709551615 := hn44
  replace hm45 : My bH Hl43 A cp 1 (l.map u8c) := hm45
  replace hxl46 : Fr (fun q => (bH.next ≤ q ∧ q < H.next ∧ ZB H q 1)) H Hl43 := hxl46
  show aw _ _ _ (RL _ (.cons 0 (.slice A l.length cp) (.cons 5 (.int .u64 v) .nil))) Hl43 _
  have Hl43n : H.next ≤ Hl43.next := hxl46.1
  have hpos := Spec.enc_pos u
  iterate 2 refine aw_seq ?_
  refine aw_reg ?_
  refine st_op (ev_move rfl) rfl rfl rfl ?_
  refine st_op (ev_int rfl rfl rfl) rfl rfl rfl ?_
  try show aw _ _ _ _ _ _
  by_cases hc48 : (decide (v > 127)) = true
  ·
   refine aw_condT hc48 rfl ?_
   try show aw _ _ _ _ _ _
   have hc48 := of_decide_eq_true hc48
   refine aw_skip ?_
   try show aw _ _ _ _ _ _
   refine aw_block ?_
   refine aw_seq ?_
   refine aw_reg ?_
   iterate 2 refine st_op (ev_move rfl) rfl rfl rfl ?_
   have hw49 : 0 ≤ (IntKind.u8.wrap v) ∧ (IntKind.u8.wrap v) ≤ 255 := wrapU8 _
   refine st_op (ev_convInt Tryz.underlying121 Tryz.underlying5 rfl) rfl rfl rfl ?_
   have hw50 : 0 ≤ (Go.bits .or .u8 (IntKind.u8.wrap v) 128) ∧ (Go.bits .or .u8 (IntKind.u8.wrap v) 128) ≤ 255 := bitsU8 _ _ _
   refine st_op (ev_bits rfl rfl rfl) rfl rfl rfl ?_
   obtain ⟨b51, H52, he53, b51e, H52n_, hm55, f54⟩ := mem_lit Hl43 (xs := ([.int .u8 (Go.bits .or .u8 (IntKind.u8.wrap v) 128)] : List Value)) (m := 1) (rows := [[.int .u8 (Go.bits .or .u8 (IntKind.u8.wrap v) 128)]]) rfl eok68 (by decide) (by decide) zf5 rfl (allLen rfl) rfl
   replace hm55 : My Hl43 H52 (some ⟨b51, 0, none⟩) 1 1 ([(Go.bits .or .u8 (IntKind.u8.wrap v) 128)].map u8c) := hm55
   refine st_op (he53 _ _ _ _ _ _ _ _ rfl) rfl rfl rfl ?_
   have hx56 : Ext Hl43 H52 := Ext.new (by omega) H52n_ f54
   have H52n : Hl43.next ≤ H52.next := hx56.1
   have h57 := My.ext hm45 hx56
   obtain ⟨A58, c59, H60, W61, he62, hm63, hf64⟩ := mem_append (f := u8c) (old := l) (new := [(Go.bits .or .u8 (IntKind.u8.wrap v) 128)]) (m := l.length) (mx := 1) (c := cp) (by first | rfl | simp) (by first | rfl | simp) eok68 (by decide) hm45 h57 (by omega) (((My.row hm55)).srcF (by decide) (by first | rfl | simp)) rfl u8c_len u8c_one (by first | omega | (simp only [List.length_append, List.length_cons, List.length_nil, List.length_map, List.length_set, List.length_replicate, Spec.bytesOf_length]; omega) | (simp; omega)) (by first | omega | (simp only [List.length_append, List.length_cons, List.length_nil, List.length_map, List.length_set, List.length_replicate, Spec.bytesOf_length]; omega) | (simp; omega))
   refine st_op (he62 _ _ _ _ _ _ _ _ _ _ rfl rfl isrow68) rfl rfl rfl ?_
   have H60n : H52.next ≤ H60.next := hf64.1
   refine st_op (ev_assign rfl) rfl rfl rfl ?_
   try show aw _ _ _ _ _ _
   refine aw_reg ?_
   refine st_op (ev_move rfl) rfl rfl rfl ?_
   refine st_op (ev_shr (a := v) (c := 128) rfl rfl (by decide) (by decide)) rfl rfl rfl ?_
   refine st_op (ev_assign rfl) rfl rfl rfl ?_
   try show aw _ _ _ _ _ _
   refine aw_keep [0, 5] (l' := (.cons 0 (.slice A58 ((l ++ [(Go.bits .or .u8 (IntKind.u8.wrap v) 128)]).length) c59) (.cons 5 (.int .u64 (v / 128)) .nil))) (by repeat (first | exact Up.done | refine Up.then ?_ | refine Up.inBlock ?_)) rfl ?_
   exact ih47 ((v / 128), A58, c59, (l ++ [(Go.bits .or .u8 (IntKind.u8.wrap v) 128)]), (u / 128), H60) ⟨(show (v / 128) = ((u / 128) : Int) from (by subst hv; omega)), (show (l ++ [(Go.bits .or .u8 (IntKind.u8.wrap v) 128)]) ++ Spec.enc (u / 128) = b ++ Spec.enc (Spec.zig n) from (by rw [← hl, Spec.enc_step (u := u) (by omega), List.append_assoc]; congr 2; subst hv; rw [List.cons_append, List.nil_append]; congr 1 <;> first | (rw [IntKind.wrap_u8, Spec.or128 (by omega) (by omega)]; omega) | (rw [IntKind.wrap_u8]; omega) | omega)), (show (u / 128) < 18446744073709551616 from (by omega)), (show (l ++ [(Go.bits .or .u8 (IntKind.u8.wrap v) 128)]).length + (Spec.enc (u / 128)).length ≤ 1099511627770 from (by rw [Spec.enc_step (u := u) (by omega), List.length_cons] at hL; rw [List.length_append, List.length_singleton]; omega)), (show 0 ≤ (v / 128) ∧ (v / 128) ≤ 18446744073709551615 from ⟨by omega, by omega⟩), (show My bH H60 A58 c59 1 ((l ++ [(Go.bits .or .u8 (IntKind.u8.wrap v) 128)]).map u8c) from hm63), (show Fr (fun q => (bH.next ≤ q ∧ q < H.next ∧ ZB H q 1)) H H60 from (Fr.transG (Fr.trans (Fr.transG (Fr.refl (fun q => (bH.next ≤ q ∧ q < H.next ∧ ZB H q 1)) H) hxl46 (fun q hq hE e => (⟨by omega, by omega, ZB.back hE e.2.2⟩))) (hx56.fr fun _ => False) (fun q hq (e : False) => e.elim)) hf64 (fun q hq hE e => (⟨by omega, by omega, ZB.back hE e.2.2⟩))))⟩ (by simp only; omega)
  ·
   rw [Bool.not_eq_true] at hc48; refine aw_condF hc48 rfl ?_
   try show aw _ _ _ _ _ _
   have hc48 := of_decide_eq_false hc48
   refine aw_exit ?_
   try show aw _ _ _ _ _ _
   refine aw_seq ?_
   refine aw_reg ?_
   iterate 2 refine st_op (ev_move rfl) rfl rfl rfl ?_
   refine st_op (ev_convI Tryz.underlying121 Tryz.underlying5 rfl (wrU8 (by omega) (by omega))) rfl rfl rfl ?_
   obtain ⟨b65, H66, he67, b65e, H66n_, hm69, f68⟩ := mem_lit Hl43 (xs := ([.int .u8 v] : List Value)) (m := 1) (rows := [[.int .u8 v]]) rfl eok68 (by decide) (by decide) zf5 rfl (allLen rfl) rfl
   replace hm69 : My Hl43 H66 (some ⟨b65, 0, none⟩) 1 1 ([v].map u8c) := hm69
   refine st_op (he67 _ _ _ _ _ _ _ _ rfl) rfl rfl rfl ?_
   have hx70 : Ext Hl43 H66 := Ext.new (by omega) H66n_ f68
   have H66n : Hl43.next ≤ H66.next := hx70.1
   have h71 := My.ext hm45 hx70
   obtain ⟨A72, c73, H74, W75, he76, hm77, hf78⟩ := mem_append (f := u8c) (old := l) (new := [v]) (m := l.length) (mx := 1) (c := cp) (by first | rfl | simp) (by first | rfl | simp) eok68 (by decide) hm45 h71 (by omega) (((My.row hm69)).srcF (by decide) (by first | rfl | simp)) rfl u8c_len u8c_one (by first | omega | (simp only [List.length_append, List.length_cons, List.length_nil, List.length_map, List.length_set, List.length_replicate, Spec.bytesOf_length]; omega) | (simp; omega)) (by first | omega | (simp only [List.length_append, List.length_cons, List.length_nil, List.length_map, List.length_set, List.length_replicate, Spec.bytesOf_length]; omega) | (simp; omega))
   refine st_op (he76 _ _ _ _ _ _ _ _ _ _ rfl rfl isrow68) rfl rfl rfl ?_
   have H74n : H66.next ≤ H74.next := hf78.1
   refine st_op (ev_assign rfl) rfl rfl rfl ?_
   try show aw _ _ _ _ _ _
   refine aw_ret ?_
   have hres : (b ++ Spec.enc (Spec.zig n)) = (l ++ [v]) := by rw [← hl, Spec.enc_small (u := u) (by omega)]; congr 2; subst hv; first | done | omega | (rw [IntKind.wrap_u8]; omega)
   exact ⟨.slice A72 ((l ++ [v]).length) c73, rfl, A72, c73, by first | (rw [hres]; first | done | rfl | simp; done) | rfl, (by rw [hres]; exact hm77), (by exact Spec.zig_i64 hn), (Fr.transG (Fr.trans (Fr.transG (Fr.refl (fun q => (bH.next ≤ q ∧ q < H.next ∧ ZB H q 1)) H) hxl46 (fun q hq hE e => (⟨by omega, by omega, ZB.back hE e.2.2⟩))) (hx70.fr fun _ => False) (fun q hq (e : False) => e.elim)) hf78 (fun q hq hE e => (⟨by omega, by omega, ZB.back hE e.2.2⟩)))⟩
theorem num_PutText_spec (H : Heap) (bH : Heap) (bA : Option Addr) (b : List Int) (bc : Nat) (hb : My bH H bA bc 1 (b.map u8c)) (nb : bH.next ≤ H.next) (lb : b.length ≤ 824633720832) (s : ByteArray) (hs : s.size ≤ 137438953472) : ∃ v H', Spec Tryz.prog 75 [.slice bA b.length bc, .string s] H v H' ∧ (∃ rA0 rc0, (v = .slice rA0 ((b ++ Spec.enc (Spec.zig (s.size : Int)) ++ Spec.bytesOf s).length) rc0) ∧ (My bH H' rA0 rc0 1 ((b ++ Spec.enc (Spec.zig (s.size : Int)) ++ Spec.bytesOf s).map u8c)) ∧ ((Spec.enc (Spec.zig (s.size : Int))).length ≤ 10) ∧ (Fr (fun q => (bH.next ≤ q ∧ q < H.next ∧ ZB H q 1)) H H')) := by
 refine spec_go2 E0_ok 11 (f := 75) Tryz.func75 rfl rfl rfl ?_
 refine aw_seq ?_
 refine aw_reg ?_
 refine st_op (ev_assign rfl) rfl rfl rfl ?_
 try show aw _ _ _ _ _ _
 refine aw_seq ?_
 refine aw_reg ?_
 iterate 2 refine st_op (ev_move rfl) rfl rfl rfl ?_
 refine st_op (ev_lenStr rfl Tryz.underlying9) rfl rfl rfl ?_
 refine st_call rfl rfl rfl ent76 rfl rfl rfl ?_
 obtain ⟨_, H2, hs1, A4, c5, hs1v, hm6, hq7, hx3⟩ := num_Put_spec H bH bA b bc hb (by omega) (by omega) ((s).size : Int) ⟨by omega, by omega⟩
 rw [hs1v] at hs1; clear hs1v
 refine ⟨_, H2, hs1, ?_⟩
 have H2n : H.next ≤ H2.next := hx3.1
 refine st_op (ev_move rfl) rfl rfl rfl ?_
 obtain ⟨A8, c9, H10, W11, he12, hm13, hf14⟩ := mem_append (f := u8c) (old := (b ++ Spec.enc (Spec.zig ((s).size : Int)))) (new := (Spec.bytesOf s)) (m := (b ++ Spec.enc (Spec.zig ((s).size : Int))).length) (mx := (Spec.bytesOf s).length) (c := c5) (by first | rfl | simp) (by first | rfl | simp) eok68 (by decide) hm6 hm6 (by omega) (str_src s) (by simp [lenA, Spec.bytesOf_length]) u8c_len u8c_one (by first | omega | (simp only [List.length_append, List.length_cons, List.length_nil, List.length_map, List.length_set, List.length_replicate, Spec.bytesOf_length]; omega) | (simp; omega)) (by first | omega | (simp only [List.length_append, List.length_cons, List.length_nil, List.length_map, List.length_set, List.length_replicate, Spec.bytesOf_length]; omega) | (simp; omega))
 refine st_op (he12 _ _ _ _ _ _ _ _ _ _ rfl rfl isrow9) rfl rfl rfl ?_
 have H10n : H2.next ≤ H10.next := hf14.1
 refine st_op (ev_assign rfl) rfl rfl rfl ?_
 try show aw _ _ _ _ _ _
 refine aw_ret ?_
 have hres : (b ++ Spec.enc (Spec.zig (s.size : Int)) ++ Spec.bytesOf s) = ((b ++ Spec.enc (Spec.zig ((s).size : Int))) ++ (Spec.bytesOf s)) := by rfl
 exact ⟨.slice A8 (((b ++ Spec.enc (Spec.zig ((s).size : Int))) ++ (Spec.bytesOf s)).length) c9, rfl, A8, c9, by first | (rw [hres]; first | done | rfl | simp; done) | rfl, (by rw [hres]; exact hm13), (by exact Spec.zig_i64 ⟨by omega, by omega⟩), (Fr.transG (Fr.transG (Fr.refl (fun q => (bH.next ≤ q ∧ q < H.next ∧ ZB H q 1)) H) hx3 (fun q hq hE e => (⟨by omega, by omega, ZB.back hE e.2.2⟩))) hf14 (fun q hq hE e => (⟨by omega, by omega, ZB.back hE e.2.2⟩)))⟩
theorem crc_More_spec (H : Heap) (s : Int) (hs : 0 ≤ s ∧ s ≤ 4294967295) (bA : Option Addr) (b : List Int) (bc : Nat) (hb : Row H bA bc 1 (b.map u8c)) (cb : b.length ≤ bc) (lb : b.length ≤ 1099511627776) (bb : Spec.Bytes b) : ∃ v H', Spec Tryz.prog 99 [.int .u32 s, .slice bA b.length bc] H v H' ∧ ((v = .int .u32 ((Spec.crcMore s.toNat b : Nat) : Int)) ∧ (0 ≤ ((Spec.crcMore s.toNat b : Nat) : Int) ∧ ((Spec.crcMore s.toNat b : Nat) : Int) ≤ 4294967295) ∧ (Ext H H')) := by
 refine spec_go2 E0_ok 33 (f := 99) Tryz.func99 rfl rfl rfl ?_
 refine aw_seq ?_
 refine aw_reg ?_
 refine st_op (ev_assign rfl) rfl rfl rfl ?_
 try show aw _ _ _ _ _ _
 refine aw_seq ?_
 refine aw_reg ?_
 refine st_op (ev_move rfl) rfl rfl rfl ?_
 have hw1 : 0 ≤ (Go.bits .xor .u32 (IntKind.max .u32) s) ∧ (Go.bits .xor .u32 (IntKind.max .u32) s) ≤ 4294967295 := bitsU32 _ _ _
 refine st_op (ev_comU rfl rfl) rfl rfl rfl ?_
 refine st_op (ev_assign rfl) rfl rfl rfl ?_
 try show aw _ _ _ _ _ _
 iterate 2 refine aw_seq ?_
 refine aw_reg ?_
 refine st_op (ev_move rfl) rfl rfl rfl ?_
 refine st_op (ev_lenSl rfl Tryz.underlying68) rfl rfl rfl ?_
 refine st_op (ev_move rfl) rfl rfl rfl ?_
 try show aw _ _ _ _ _ _
 refine aw_block ?_
 refine aw_keep [5, 10, 11, 12] (l' := (.cons 5 (.int .u32 (Go.bits .xor .u32 (IntKind.max .u32) s)) (.cons 10 (.slice bA b.length bc) (.cons 11 (.int .i64 (b.length : Int)) (.cons 12 (.int .i64 0) .nil))))) (by repeat (first | exact Up.done | refine Up.then ?_ | refine Up.inBlock ?_)) rfl ?_
 refine aw_iter (α := Nat × Int × Heap) (fun a => b.length - a.1) (fun a => (.cons 5 (.int .u32 a.2.1) (.cons 10 (.slice bA b.length bc) (.cons 11 (.int .i64 (b.length : Int)) (.cons 12 (.int .i64 (a.1 : Int)) .nil))))) (fun a => a.2.2) (fun a => (a.1 ≤ b.length) ∧ (Spec.crcRun (4294967295 - s.toNat) b = Spec.crcRun a.2.1.toNat (b.drop a.1)) ∧ (0 ≤ a.2.1 ∧ a.2.1 ≤ 4294967295) ∧ (Ext H a.2.2)) (0, (Go.bits .xor .u32 (IntKind.max .u32) s), H) ⟨(show 0 ≤ b.length from Nat.zero_le _), (show Spec.crcRun (4294967295 - s.toNat) b = Spec.crcRun (Go.bits .xor .u32 (IntKind.max .u32) s).toNat (b.drop 0) from (by first | rfl | (rw [Spec.not_u32 hs.1 (by omega), List.drop_zero]; congr 1; omega))), (show 0 ≤ (Go.bits .xor .u32 (IntKind.max .u32) s) ∧ (Go.bits .xor .u32 (IntKind.max .u32) s) ≤ 4294967295 from ⟨by omega, by omega⟩), (show Ext H H from (Ext.refl H))⟩ ?_
 rintro ⟨i, x, Hl2⟩ ⟨hi, hx, hn3, hxl4⟩ ih5
 replace hi : i ≤ b.length := hi
 replace hx : Spec.crcRun (4294967295 - s.toNat) b = Spec.crcRun x.toNat (b.drop i) := hx
 replace hn3 : 0 ≤ x ∧ x ≤ 4294967295 := hn3
 replace hxl4 : Ext H Hl2 := hxl4
 show aw _ _ _ (RL _ (.cons 5 (.int .u32 x) (.cons 10 (.slice bA b.length bc) (.cons 11 (.int .i64 (b.length : Int)) (.cons 12 (.int .i64 (i : Int)) .nil))))) Hl2 _
 have Hl2n : H.next ≤ Hl2.next := hxl4.1
 refine aw_seq ?_
 refine aw_reg ?_
 refine st_op (ev_int rfl rfl rfl) rfl rfl rfl ?_
 try show aw _ _ _ _ _ _
 refine aw_seq ?_
 by_cases hc6 : (decide ((i : Int) < (b.length : Int))) = true
 ·
  refine aw_condT hc6 rfl ?_
  try show aw _ _ _ _ _ _
  have hc6 := of_decide_eq_true hc6
  refine aw_skip ?_
  try show aw _ _ _ _ _ _
  refine aw_seq ?_
  refine aw_block ?_
  refine aw_seq ?_
  refine aw_reg ?_
  have h7 := Row.ext hb hxl4
  have hi8 : 0 ≤ ((i : Int) : Int) := by omega
  have hi9 : ((i : Int) : Int) < ((b.length : Nat) : Int) := by omega
  obtain ⟨x10, hx11⟩ : ∃ e, b[i]? = some e := ⟨_, List.getElem?_eq_getElem (by omega)⟩
  have x10b : 0 ≤ x10 ∧ x10 < 256 := ((by assumption) : Spec.Bytes b) _ (List.mem_of_getElem? hx11)
  refine st_op (ev_at rfl rfl h7 (getMap u8c hx11) (by first | rfl | omega | simp) hi8 hi9 el68) rfl rfl rfl ?_
  refine st_op (ev_atL rfl h7 (getMap u8c hx11) one5 rfl) rfl rfl rfl ?_
  refine st_op (ev_assign rfl) rfl rfl rfl ?_
  try show aw _ _ _ _ _ _
  refine aw_seq ?_
  refine aw_reg ?_
  iterate 2 refine st_op (ev_move rfl) rfl rfl rfl ?_
  refine st_op (ev_convI Tryz.underlying5 Tryz.underlying123 rfl (wrU32 (by omega) (by omega))) rfl rfl rfl ?_
  have hw12 : 0 ≤ (Go.bits .xor .u32 x x10) ∧ (Go.bits .xor .u32 x x10) ≤ 4294967295 := bitsU32 _ _ _
  refine st_op (ev_bits rfl rfl rfl) rfl rfl rfl ?_
  refine st_op (ev_assign rfl) rfl rfl rfl ?_
  try show aw _ _ _ _ _ _
  refine aw_seq ?_
  refine aw_reg ?_
  refine st_op (ev_move rfl) rfl rfl rfl ?_
  try show aw _ _ _ _ _ _
  refine aw_block ?_
  refine aw_keep [5, 10, 11, 12, 20] (l' := (.cons 5 (.int .u32 (Go.bits .xor .u32 x x10)) (.cons 10 (.slice bA b.length bc) (.cons 11 (.int .i64 (b.length : Int)) (.cons 12 (.int .i64 (i : Int)) (.cons 20 (.int .i64 0) .nil)))))) (by repeat (first | exact Up.done | refine Up.then ?_ | refine Up.inBlock ?_)) rfl ?_
  refine aw_iter (α := Nat × Int × Heap) (fun a => 8 - a.1) (fun a => (.cons 5 (.int .u32 a.2.1) (.cons 10 (.slice bA b.length bc) (.cons 11 (.int .i64 (b.length : Int)) (.cons 12 (.int .i64 (i : Int)) (.cons 20 (.int .i64 (a.1 : Int)) .nil)))))) (fun a => a.2.2) (fun a => (a.1 ≤ 8) ∧ (Spec.crcSteps 8 (Go.bits .xor .u32 x x10).toNat = Spec.crcSteps (8 - a.1) a.2.1.toNat) ∧ (0 ≤ a.2.1 ∧ a.2.1 ≤ 4294967295) ∧ (Ext Hl2 a.2.2)) (0, (Go.bits .xor .u32 x x10), Hl2) ⟨(show 0 ≤ 8 from (by decide)), (show Spec.crcSteps 8 (Go.bits .xor .u32 x x10).toNat = Spec.crcSteps (8 - 0) (Go.bits .xor .u32 x x10).toNat from rfl), (show 0 ≤ (Go.bits .xor .u32 x x10) ∧ (Go.bits .xor .u32 x x10) ≤ 4294967295 from ⟨by omega, by omega⟩), (show Ext Hl2 Hl2 from (Ext.refl Hl2))⟩ ?_
  rintro ⟨j, y, Hl13⟩ ⟨hj, hy, hn14, hxl15⟩ ih16
  replace hj : j ≤ 8 := hj
  replace hy : Spec.crcSteps 8 (Go.bits .xor .u32 x x10).toNat = Spec.crcSteps (8 - j) y.toNat := hy
  replace hn14 : 0 ≤ y ∧ y ≤ 4294967295 := hn14
  replace hxl15 : Ext Hl2 Hl13 := hxl15
  show aw _ _ _ (RL _ (.cons 5 (.int .u32 y) (.cons 10 (.slice bA b.length bc) (.cons 11 (.int .i64 (b.length : Int)) (.cons 12 (.int .i64 (i : Int)) (.cons 20 (.int .i64 (j : Int)) .nil)))))) Hl13 _
  have Hl13n : Hl2.next ≤ Hl13.next := hxl15.1
  have hn : 0 ≤ y ∧ y ≤ 4294967295 := by omega
  refine aw_seq ?_
  refine aw_reg ?_
  refine st_op (ev_int rfl rfl rfl) rfl rfl rfl ?_
  try show aw _ _ _ _ _ _
  refine aw_seq ?_
  by_cases hc17 : (decide ((j : Int) < 8)) = true
  ·
   refine aw_condT hc17 rfl ?_
   try show aw _ _ _ _ _ _
   have hc17 := of_decide_eq_true hc17
   refine aw_skip ?_
   try show aw _ _ _ _ _ _
   refine aw_seq ?_
   refine aw_block ?_
   refine aw_reg ?_
   refine st_op (ev_move rfl) rfl rfl rfl ?_
   refine st_op (ev_shr (a := y) (c := 2) rfl rfl (by decide) (by decide)) rfl rfl rfl ?_
   refine st_op (ev_move rfl) rfl rfl rfl ?_
   have hw18 : 0 ≤ (Go.bits .and .u32 y 1) ∧ (Go.bits .and .u32 y 1) ≤ 4294967295 := bitsU32 _ _ _
   refine st_op (ev_bits rfl rfl rfl) rfl rfl rfl ?_
   have hw19 : 0 ≤ (IntKind.u32.wrap (0 - (Go.bits .and .u32 y 1))) ∧ (IntKind.u32.wrap (0 - (Go.bits .and .u32 y 1))) ≤ 4294967295 := wrapU32 _
   refine st_op (ev_neg rfl) rfl rfl rfl ?_
   have hw20 : 0 ≤ (Go.bits .and .u32 3988292384 (IntKind.u32.wrap (0 - (Go.bits .and .u32 y 1)))) ∧ (Go.bits .and .u32 3988292384 (IntKind.u32.wrap (0 - (Go.bits .and .u32 y 1)))) ≤ 4294967295 := bitsU32 _ _ _
   refine st_op (ev_bits rfl rfl rfl) rfl rfl rfl ?_
   have hw21 : 0 ≤ (Go.bits .xor .u32 (y / 2) (Go.bits .and .u32 3988292384 (IntKind.u32.wrap (0 - (Go.bits .and .u32 y 1))))) ∧ (Go.bits .xor .u32 (y / 2) (Go.bits .and .u32 3988292384 (IntKind.u32.wrap (0 - (Go.bits .and .u32 y 1))))) ≤ 4294967295 := bitsU32 _ _ _
   refine st_op (ev_bits rfl rfl rfl) rfl rfl rfl ?_
   refine st_op (ev_assign rfl) rfl rfl rfl ?_
   try show aw _ _ _ _ _ _
   refine aw_reg ?_
   refine st_op (ev_int64 (c := (j : Int) + 1) rfl rfl rfl (by omega) (by omega)) rfl rfl rfl ?_
   refine st_op (ev_move rfl) rfl rfl rfl ?_
   try show aw _ _ _ _ _ _
   refine aw_keep [5, 10, 11, 12, 20] (l' := (.cons 5 (.int .u32 (Go.bits .xor .u32 (y / 2) (Go.bits .and .u32 3988292384 (IntKind.u32.wrap (0 - (Go.bits .and .u32 y 1)))))) (.cons 10 (.slice bA b.length bc) (.cons 11 (.int .i64 (b.length : Int)) (.cons 12 (.int .i64 (i : Int)) (.cons 20 (.int .i64 ((j : Int) + 1)) .nil)))))) (by repeat (first | exact Up.done | refine Up.then ?_ | refine Up.inBlock ?_)) rfl ?_
   exact ih16 (j + 1, (Go.bits .xor .u32 (y / 2) (Go.bits .and .u32 3988292384 (IntKind.u32.wrap (0 - (Go.bits .and .u32 y 1))))), Hl13) ⟨(show (j + 1) ≤ 8 from (by omega)), (show Spec.crcSteps 8 (Go.bits .xor .u32 x x10).toNat = Spec.crcSteps (8 - (j + 1)) (Go.bits .xor .u32 (y / 2) (Go.bits .and .u32 3988292384 (IntKind.u32.wrap (0 - (Go.bits .and .u32 y 1))))).toNat from (by rw [hy, show 8 - j = (8 - (j + 1)) + 1 by omega]; show Spec.crcSteps (8 - (j + 1)) (Spec.crcStep y.toNat) = _; congr 1; rw [Spec.crc_one hn]; rfl)), (show 0 ≤ (Go.bits .xor .u32 (y / 2) (Go.bits .and .u32 3988292384 (IntKind.u32.wrap (0 - (Go.bits .and .u32 y 1))))) ∧ (Go.bits .xor .u32 (y / 2) (Go.bits .and .u32 3988292384 (IntKind.u32.wrap (0 - (Go.bits .and .u32 y 1))))) ≤ 4294967295 from ⟨by omega, by omega⟩), (show Ext Hl2 Hl13 from hxl15)⟩ (by simp only; omega)
  ·
   rw [Bool.not_eq_true] at hc17; refine aw_condF hc17 rfl ?_
   try show aw _ _ _ _ _ _
   have hc17 := of_decide_eq_false hc17
   refine aw_exit ?_
   try show aw _ _ _ _ _ _
   refine aw_reg ?_
   refine st_op (ev_int64 (c := (i : Int) + 1) rfl rfl rfl (by omega) (by omega)) rfl rfl rfl ?_
   refine st_op (ev_move rfl) rfl rfl rfl ?_
   try show aw _ _ _ _ _ _
   have hx22 : Ext H Hl13 := (Ext.trans hxl4 hxl15)
   refine aw_keep [5, 10, 11, 12] (l' := (.cons 5 (.int .u32 y) (.cons 10 (.slice bA b.length bc) (.cons 11 (.int .i64 (b.length : Int)) (.cons 12 (.int .i64 ((i : Int) + 1)) .nil))))) (by repeat (first | exact Up.done | refine Up.then ?_ | refine Up.inBlock ?_)) rfl ?_
   exact ih5 (i + 1, y, Hl13) ⟨(show (i + 1) ≤ b.length from (by omega)), (show Spec.crcRun (4294967295 - s.toNat) b = Spec.crcRun y.toNat (b.drop (i + 1)) from (by rw [hx, drop_at hx11, Spec.crc_more (by omega) x10b, hy, show 8 - j = 0 by omega]; rfl)), (show 0 ≤ y ∧ y ≤ 4294967295 from ⟨by omega, by omega⟩), (show Ext H Hl13 from hx22)⟩ (by simp only; omega)
 ·
  rw [Bool.not_eq_true] at hc6; refine aw_condF hc6 rfl ?_
  try show aw _ _ _ _ _ _
  have hc6 := of_decide_eq_false hc6
  refine aw_exit ?_
  try show aw _ _ _ _ _ _
  refine aw_seq ?_
  refine aw_reg ?_
  refine st_op (ev_move rfl) rfl rfl rfl ?_
  have hw23 : 0 ≤ (Go.bits .xor .u32 (IntKind.max .u32) x) ∧ (Go.bits .xor .u32 (IntKind.max .u32) x) ≤ 4294967295 := bitsU32 _ _ _
  refine st_op (ev_comU rfl rfl) rfl rfl rfl ?_
  refine st_op (ev_assign rfl) rfl rfl rfl ?_
  try show aw _ _ _ _ _ _
  refine aw_ret ?_
  have hres : ((Spec.crcMore s.toNat b : Nat) : Int) = (Go.bits .xor .u32 (IntKind.max .u32) x) := by exact Spec.crc_fin hs (by omega) (by rw [hx, List.drop_eq_nil_of_le (by omega)]; rfl)
  exact ⟨.int .u32 (Go.bits .xor .u32 (IntKind.max .u32) x), rfl, by first | (rw [hres]; done) | rw [← hres], (by exact ⟨by omega, by have := Spec.crcMore_lt s.toNat b; omega⟩), hxl4⟩
theorem crc_Sum_spec (H : Heap) (bA : Option Addr) (b : List Int) (bc : Nat) (hb : Row H bA bc 1 (b.map u8c)) (cb : b.length ≤ bc) (lb : b.length ≤ 1099511627776) (bb : Spec.Bytes b) : ∃ v H', Spec Tryz.prog 100 [.slice bA b.length bc] H v H' ∧ ((v = .int .u32 ((Spec.crcMore 0 b : Nat) : Int)) ∧ (0 ≤ ((Spec.crcMore 0 b : Nat) : Int) ∧ ((Spec.crcMore 0 b : Nat) : Int) ≤ 4294967295) ∧ (Ext H H')) := by
 refine spec_go1 E0_ok 5 (f := 100) Tryz.func100 rfl rfl rfl ?_
 refine aw_seq ?_
 refine aw_reg ?_
 refine st_op (ev_assign rfl) rfl rfl rfl ?_
 try show aw _ _ _ _ _ _
 refine aw_seq ?_
 refine aw_reg ?_
 refine st_op (ev_move rfl) rfl rfl rfl ?_
 refine st_call rfl rfl rfl ent99 rfl rfl rfl ?_
 obtain ⟨_, H2, hs1, hs1v, hq4, hx3⟩ := crc_More_spec H 0 (by decide) bA b bc hb cb (by omega) (by assumption)
 rw [hs1v] at hs1; clear hs1v
 refine ⟨_, H2, hs1, ?_⟩
 have H2n : H.next ≤ H2.next := hx3.1
 refine st_op (ev_assign rfl) rfl rfl rfl ?_
 try show aw _ _ _ _ _ _
 refine aw_ret ?_
 have hres : ((Spec.crcMore 0 b : Nat) : Int) = ((Spec.crcMore (0 : Int).toNat b : Nat) : Int) := by rfl
 exact ⟨.int .u32 ((Spec.crcMore (0 : Int).toNat b : Nat) : Int), rfl, by first | (rw [hres]; done) | rw [← hres], (by exact ⟨by omega, by have := Spec.crcMore_lt 0 b; omega⟩), hx3⟩
theorem num_Four_spec (H : Heap) (s : Int) (hs : 0 ≤ s ∧ s ≤ 4294967295) : ∃ v H', Spec Tryz.prog 101 [.int .u32 s] H v H' ∧ (∃ rA0 rc0, (v = .slice rA0 ((Spec.four s.toNat).length) rc0) ∧ (My H H' rA0 rc0 1 ((Spec.four s.toNat).map u8c)) ∧ (((Spec.four s.toNat)).length = 4) ∧ (Ext H H')) := by
 refine spec_go1 E0_ok 15 (f := 101) Tryz.func101 rfl rfl rfl ?_
 refine aw_seq ?_
 refine aw_reg ?_
 refine st_op (ev_assign rfl) rfl rfl rfl ?_
 try show aw _ _ _ _ _ _
 refine aw_seq ?_
 refine aw_reg ?_
 refine st_op (ev_move rfl) rfl rfl rfl ?_
 refine st_op (ev_shr (a := s) (c := 16777216) rfl rfl (by decide) (by decide)) rfl rfl rfl ?_
 refine st_op (ev_convI Tryz.underlying123 Tryz.underlying5 rfl (wrU8 (by omega) (by omega))) rfl rfl rfl ?_
 refine st_op (ev_move rfl) rfl rfl rfl ?_
 refine st_op (ev_shr (a := s) (c := 65536) rfl rfl (by decide) (by decide)) rfl rfl rfl ?_
 have hw1 : 0 ≤ (IntKind.u8.wrap (s / 65536)) ∧ (IntKind.u8.wrap (s / 65536)) ≤ 255 := wrapU8 _
 refine st_op (ev_convInt Tryz.underlying123 Tryz.underlying5 rfl) rfl rfl rfl ?_
 refine st_op (ev_move rfl) rfl rfl rfl ?_
 refine st_op (ev_shr (a := s) (c := 256) rfl rfl (by decide) (by decide)) rfl rfl rfl ?_
 have hw2 : 0 ≤ (IntKind.u8.wrap (s / 256)) ∧ (IntKind.u8.wrap (s / 256)) ≤ 255 := wrapU8 _
 refine st_op (ev_convInt Tryz.underlying123 Tryz.underlying5 rfl) rfl rfl rfl ?_
 refine st_op (ev_move rfl) rfl rfl rfl ?_
 have hw3 : 0 ≤ (IntKind.u8.wrap s) ∧ (IntKind.u8.wrap s) ≤ 255 := wrapU8 _
 refine st_op (ev_convInt Tryz.underlying123 Tryz.underlying5 rfl) rfl rfl rfl ?_
 obtain ⟨b4, H5, he6, b4e, H5n_, hm8, f7⟩ := mem_lit H (xs := ([.int .u8 (s / 16777216), .int .u8 (IntKind.u8.wrap (s / 65536)), .int .u8 (IntKind.u8.wrap (s / 256)), .int .u8 (IntKind.u8.wrap s)] : List Value)) (m := 4) (rows := [[.int .u8 (s / 16777216)], [.int .u8 (IntKind.u8.wrap (s / 65536))], [.int .u8 (IntKind.u8.wrap (s / 256))], [.int .u8 (IntKind.u8.wrap s)]]) rfl eok68 (by decide) (by decide) zf5 rfl (allLen rfl) rfl
 replace hm8 : My H H5 (some ⟨b4, 0, none⟩) 4 1 ([(s / 16777216), (IntKind.u8.wrap (s / 65536)), (IntKind.u8.wrap (s / 256)), (IntKind.u8.wrap s)].map u8c) := hm8
 refine st_op (he6 _ _ _ _ _ _ _ _ rfl) rfl rfl rfl ?_
 have hx9 : Ext H H5 := Ext.new (by omega) H5n_ f7
 have H5n : H.next ≤ H5.next := hx9.1
 refine st_op (ev_assign rfl) rfl rfl rfl ?_
 try show aw _ _ _ _ _ _
 refine aw_ret ?_
 have hres : (Spec.four s.toNat) = [(s / 16777216), (IntKind.u8.wrap (s / 65536)), (IntKind.u8.wrap (s / 256)), (IntKind.u8.wrap s)] := by rw [← Spec.four_is, show ((s.toNat : Nat) : Int) = s from Int.toNat_of_nonneg hs.1, IntKind.wrap_u8, IntKind.wrap_u8, IntKind.wrap_u8, show s / 16777216 % 256 = s / 16777216 by omega]
 exact ⟨.slice (some ⟨b4, 0, none⟩) 4 4, rfl, (some ⟨b4, 0, none⟩), 4, by first | (rw [hres]; first | done | rfl | simp; done) | rfl, (by rw [hres]; exact hm8), (by rfl), hx9⟩
theorem frame_Seal_spec (H : Heap) (kind : Int) (hkind : -9223372036854775808 ≤ kind ∧ kind ≤ 9223372036854775807) (bA : Option Addr) (b : List Int) (bc : Nat) (hb : Row H bA bc 1 (b.map u8c)) (cb : b.length ≤ bc) (lb : b.length ≤ 1099511627776) (bb : Spec.Bytes b) : ∃ v H', Spec Tryz.prog 77 [.int .i64 kind, .slice bA b.length bc] H v H' ∧ (∃ rA0 rc0, (v = .slice rA0 ((Spec.sealF kind b).length) rc0) ∧ (My H H' rA0 rc0 1 ((Spec.sealF kind b).map u8c)) ∧ (((Spec.sealF kind b)).length ≤ 4007) ∧ (Spec.Bytes (Spec.sealF kind b)) ∧ (Ext H H')) := by
 refine spec_go2 E0_ok 34 (f := 77) Tryz.func77 rfl rfl rfl ?_
 refine aw_seq ?_
 refine aw_reg ?_
 refine st_op (ev_assign rfl) rfl rfl rfl ?_
 try show aw _ _ _ _ _ _
 iterate 2 refine aw_seq ?_
 refine aw_reg ?_
 refine st_op (ev_move rfl) rfl rfl rfl ?_
 refine st_op (ev_int rfl rfl rfl) rfl rfl rfl ?_
 refine st_op (ev_move rfl) rfl rfl rfl ?_
 refine st_bool 9 rfl (fun hb1 => ?_) (fun hb1 => ?_)
 ·
  have hb1 := of_decide_eq_true hb1
  iterate 2 refine st_skip rfl rfl rfl ?_
  refine st_op (ev_pickT rfl rfl) rfl rfl rfl ?_
  refine st_op (ev_move rfl) rfl rfl rfl ?_
  iterate 3 refine st_skip rfl rfl rfl ?_
  refine st_op (ev_pickT rfl rfl) rfl rfl rfl ?_
  try show aw _ _ _ _ _ _
  refine aw_cond (t := true) rfl ?_
  try show aw _ _ _ _ _ _
  refine aw_seq ?_
  refine aw_reg ?_
  refine st_op (ev_assign rfl) rfl rfl rfl ?_
  try show aw _ _ _ _ _ _
  refine aw_ret ?_
  have hm2 : My H H none 0 1 (([] : List Int).map u8c) := .nil
  have hres : (Spec.sealF kind b) = ([] : List Int) := by unfold Spec.sealF; rw [if_pos (by omega)]
  exact ⟨.slice none 0 0, rfl, none, 0, by first | (rw [hres]; first | done | rfl | simp; done) | rfl, (by rw [hres]; exact hm2), (by exact Spec.sealF_len), (by exact Spec.sealF_bytes bb), (Ext.refl H)⟩
 ·
  have hb1 := of_decide_eq_false hb1
  refine st_op (ev_move rfl) rfl rfl rfl ?_
  refine st_op (ev_int rfl rfl rfl) rfl rfl rfl ?_
  refine st_op (ev_pickF rfl rfl) rfl rfl rfl ?_
  refine st_op (ev_move rfl) rfl rfl rfl ?_
  refine st_bool 13 rfl (fun hb3 => ?_) (fun hb3 => ?_)
  ·
   have hb3 := of_decide_eq_true hb3
   iterate 3 refine st_skip rfl rfl rfl ?_
   refine st_op (ev_pickT rfl rfl) rfl rfl rfl ?_
   try show aw _ _ _ _ _ _
   refine aw_cond (t := true) rfl ?_
   try show aw _ _ _ _ _ _
   refine aw_seq ?_
   refine aw_reg ?_
   refine st_op (ev_assign rfl) rfl rfl rfl ?_
   try show aw _ _ _ _ _ _
   refine aw_ret ?_
   have hm4 : My H H none 0 1 (([] : List Int).map u8c) := .nil
   have hres : (Spec.sealF kind b) = ([] : List Int) := by unfold Spec.sealF; rw [if_pos (by omega)]
   exact ⟨.slice none 0 0, rfl, none, 0, by first | (rw [hres]; first | done | rfl | simp; done) | rfl, (by rw [hres]; exact hm4), (by exact Spec.sealF_len), (by exact Spec.sealF_bytes bb), (Ext.refl H)⟩
  ·
   have hb3 := of_decide_eq_false hb3
   refine st_op (ev_move rfl) rfl rfl rfl ?_
   refine st_op (ev_lenSl rfl Tryz.underlying68) rfl rfl rfl ?_
   refine st_op (ev_int rfl rfl rfl) rfl rfl rfl ?_
   refine st_op (ev_pickF rfl rfl) rfl rfl rfl ?_
   try show aw _ _ _ _ _ _
   by_cases hc5 : (decide ((b.length : Int) > 4000)) = true
   ·
    refine aw_condT hc5 rfl ?_
    try show aw _ _ _ _ _ _
    have hc5 := of_decide_eq_true hc5
    refine aw_seq ?_
    refine aw_reg ?_
    refine st_op (ev_assign rfl) rfl rfl rfl ?_
    try show aw _ _ _ _ _ _
    refine aw_ret ?_
    have hm6 : My H H none 0 1 (([] : List Int).map u8c) := .nil
    have hres : (Spec.sealF kind b) = ([] : List Int) := by unfold Spec.sealF; rw [if_pos (by omega)]
    exact ⟨.slice none 0 0, rfl, none, 0, by first | (rw [hres]; first | done | rfl | simp; done) | rfl, (by rw [hres]; exact hm6), (by exact Spec.sealF_len), (by exact Spec.sealF_bytes bb), (Ext.refl H)⟩
   ·
    rw [Bool.not_eq_true] at hc5; refine aw_condF hc5 rfl ?_
    try show aw _ _ _ _ _ _
    have hc5 := of_decide_eq_false hc5
    refine aw_skip ?_
    try show aw _ _ _ _ _ _
    refine aw_seq ?_
    refine aw_reg ?_
    refine st_op (ev_move rfl) rfl rfl rfl ?_
    refine st_op (ev_convI Tryz.underlying3 Tryz.underlying5 rfl (wrU8 (by omega) (by omega))) rfl rfl rfl ?_
    obtain ⟨b7, H8, he9, b7e, H8n_, hm11, f10⟩ := mem_lit H (xs := ([.int .u8 kind] : List Value)) (m := 1) (rows := [[.int .u8 kind]]) rfl eok68 (by decide) (by decide) zf5 rfl (allLen rfl) rfl
    replace hm11 : My H H8 (some ⟨b7, 0, none⟩) 1 1 ([kind].map u8c) := hm11
    refine st_op (he9 _ _ _ _ _ _ _ _ rfl) rfl rfl rfl ?_
    have hx12 : Ext H H8 := Ext.new (by omega) H8n_ f10
    have H8n : H.next ≤ H8.next := hx12.1
    refine st_op (ev_move rfl) rfl rfl rfl ?_
    refine st_op (ev_lenSl rfl Tryz.underlying68) rfl rfl rfl ?_
    refine st_call rfl rfl rfl ent76 rfl rfl rfl ?_
    obtain ⟨_, H14, hs13, A16, c17, hs13v, hm18, hq19, hx15⟩ := num_Put_spec H8 H (some ⟨b7, 0, none⟩) ([kind]) 1 hm11 (by omega) (by first | omega | (simp only [List.length_append, List.length_cons, List.length_nil, List.length_map, List.length_set, List.length_replicate, Spec.bytesOf_length]; omega) | (simp; omega)) (b.length : Int) ⟨by omega, by omega⟩
    rw [hs13v] at hs13; clear hs13v
    refine ⟨_, H14, hs13, ?_⟩
    have H14n : H8.next ≤ H14.next := hx15.1
    refine st_op (ev_assign rfl) rfl rfl rfl ?_
    try show aw _ _ _ _ _ _
    refine aw_seq ?_
    refine aw_reg ?_
    refine st_op (ev_move rfl) rfl rfl rfl ?_
    refine st_call rfl rfl rfl ent100 rfl rfl rfl ?_
    obtain ⟨_, H21, hs20, hs20v, hq23, hx22⟩ := crc_Sum_spec H14 A16 (([kind]) ++ Spec.enc (Spec.zig (b.length : Int))) c17 (My.row hm18) (My.capF hm18 (by first | omega | (simp only [List.length_append, List.length_cons, List.length_nil, List.length_map, List.length_set, List.length_replicate, Spec.bytesOf_length]; omega) | (simp; omega))) (by first | omega | (simp only [List.length_append, List.length_cons, List.length_nil, List.length_map, List.length_set, List.length_replicate, Spec.bytesOf_length]; omega) | (simp; omega)) (by first | assumption | exact Spec.Bytes.nil | exact Spec.bytes_of _ | (repeat' first | assumption | exact Spec.Bytes.nil | exact Spec.bytes_of _ | exact Spec.enc_bytes _ | exact Spec.four_bytes _ | exact Spec.sealF_bytes (by assumption) | apply Spec.Bytes.append | apply Spec.Bytes.cons (by omega) | apply Spec.Bytes.take | apply Spec.Bytes.drop))
    rw [hs20v] at hs20; clear hs20v
    refine ⟨_, H21, hs20, ?_⟩
    have H21n : H14.next ≤ H21.next := hx22.1
    refine st_op (ev_move rfl) rfl rfl rfl ?_
    refine st_call rfl rfl rfl ent99 rfl rfl rfl ?_
    have hx25 : Ext H H21 := (Ext.trans (Ext.then hx12 hx15 (fun q hq e => by omega)) hx22)
    have h24 := Row.ext hb hx25
    obtain ⟨_, H27, hs26, hs26v, hq29, hx28⟩ := crc_More_spec H21 ((Spec.crcMore 0 (([kind]) ++ Spec.enc (Spec.zig (b.length : Int))) : Nat) : Int) ⟨by omega, by omega⟩ bA b bc h24 cb (by first | omega | (simp only [List.length_append, List.length_cons, List.length_nil, List.length_map, List.length_set, List.length_replicate, Spec.bytesOf_length]; omega) | (simp; omega)) (by assumption)
    rw [hs26v] at hs26; clear hs26v
    refine ⟨_, H27, hs26, ?_⟩
    have H27n : H21.next ≤ H27.next := hx28.1
    refine st_op (ev_assign rfl) rfl rfl rfl ?_
    try show aw _ _ _ _ _ _
    refine aw_seq ?_
    refine aw_reg ?_
    iterate 2 refine st_op (ev_move rfl) rfl rfl rfl ?_
    refine st_call rfl rfl rfl ent101 rfl rfl rfl ?_
    obtain ⟨_, H31, hs30, A33, c34, hs30v, hm35, hq36, hx32⟩ := num_Four_spec H27 ((Spec.crcMore ((Spec.crcMore 0 (([kind]) ++ Spec.enc (Spec.zig (b.length : Int))) : Nat) : Int).toNat b : Nat) : Int) ⟨by omega, by omega⟩
    rw [hs30v] at hs30; clear hs30v
    refine ⟨_, H31, hs30, ?_⟩
    have H31n : H27.next ≤ H31.next := hx32.1
    have hx38 : Ext H14 H31 := (Ext.trans (Ext.trans hx22 hx28) hx32)
    have h37 := My.ext hm18 hx38
    obtain ⟨A39, c40, H41, W42, he43, hm44, hf45⟩ := mem_append (f := u8c) (old := (([kind]) ++ Spec.enc (Spec.zig (b.length : Int)))) (new := (Spec.four ((Spec.crcMore ((Spec.crcMore 0 (([kind]) ++ Spec.enc (Spec.zig (b.length : Int))) : Nat) : Int).toNat b : Nat) : Int).toNat)) (m := (([kind]) ++ Spec.enc (Spec.zig (b.length : Int))).length) (mx := (Spec.four ((Spec.crcMore ((Spec.crcMore 0 (([kind]) ++ Spec.enc (Spec.zig (b.length : Int))) : Nat) : Int).toNat b : Nat) : Int).toNat).length) (c := c17) (by first | rfl | simp) (by first | rfl | simp) eok68 (by decide) hm18 h37 (by omega) (((My.row hm35)).srcF (by decide) (by first | rfl | simp)) rfl u8c_len u8c_one (by first | omega | (simp only [List.length_append, List.length_cons, List.length_nil, List.length_map, List.length_set, List.length_replicate, Spec.bytesOf_length]; omega) | (simp; omega)) (by first | omega | (simp only [List.length_append, List.length_cons, List.length_nil, List.length_map, List.length_set, List.length_replicate, Spec.bytesOf_length]; omega) | (simp; omega))
    refine st_op (he43 _ _ _ _ _ _ _ _ _ _ rfl rfl isrow68) rfl rfl rfl ?_
    have H41n : H31.next ≤ H41.next := hf45.1
    refine st_op (ev_move rfl) rfl rfl rfl ?_
    have hx47 : Ext H H41 := (Ext.then (Ext.trans (Ext.trans hx25 hx28) hx32) hf45 (fun q hq e => by omega))
    have h46 := Row.ext hb hx47
    obtain ⟨A48, c49, H50, W51, he52, hm53, hf54⟩ := mem_append (f := u8c) (old := ((([kind]) ++ Spec.enc (Spec.zig (b.length : Int))) ++ (Spec.four ((Spec.crcMore ((Spec.crcMore 0 (([kind]) ++ Spec.enc (Spec.zig (b.length : Int))) : Nat) : Int).toNat b : Nat) : Int).toNat))) (new := b) (m := ((([kind]) ++ Spec.enc (Spec.zig (b.length : Int))) ++ (Spec.four ((Spec.crcMore ((Spec.crcMore 0 (([kind]) ++ Spec.enc (Spec.zig (b.length : Int))) : Nat) : Int).toNat b : Nat) : Int).toNat)).length) (mx := b.length) (c := c40) (by first | rfl | simp) (by first | rfl | simp) eok68 (by decide) hm44 hm44 (by omega) ((h46).srcF (by decide) (by first | rfl | simp)) rfl u8c_len u8c_one (by first | omega | (simp only [List.length_append, List.length_cons, List.length_nil, List.length_map, List.length_set, List.length_replicate, Spec.bytesOf_length]; omega) | (simp; omega)) (by first | omega | (simp only [List.length_append, List.length_cons, List.length_nil, List.length_map, List.length_set, List.length_replicate, Spec.bytesOf_length]; omega) | (simp; omega))
    refine st_op (he52 _ _ _ _ _ _ _ _ _ _ rfl rfl isrow68) rfl rfl rfl ?_
    have H50n : H41.next ≤ H50.next := hf54.1
    refine st_op (ev_assign rfl) rfl rfl rfl ?_
    try show aw _ _ _ _ _ _
    refine aw_ret ?_
    have hx55 : Ext H H50 := (Ext.then hx47 hf54 (fun q hq e => by omega))
    have hres : (Spec.sealF kind b) = (((([kind]) ++ Spec.enc (Spec.zig (b.length : Int))) ++ (Spec.four ((Spec.crcMore ((Spec.crcMore 0 (([kind]) ++ Spec.enc (Spec.zig (b.length : Int))) : Nat) : Int).toNat b : Nat) : Int).toNat)) ++ b) := by unfold Spec.sealF; rw [if_neg (by omega)]; exact (Spec.seal_is (by omega)).symm
    exact ⟨.slice A48 ((((([kind]) ++ Spec.enc (Spec.zig (b.length : Int))) ++ (Spec.four ((Spec.crcMore ((Spec.crcMore 0 (([kind]) ++ Spec.enc (Spec.zig (b.length : Int))) : Nat) : Int).toNat b : Nat) : Int).toNat)) ++ b).length) c49, rfl, A48, c49, by first | (rw [hres]; first | done | rfl | simp; done) | rfl, (by rw [hres]; exact hm53), (by exact Spec.sealF_len), (by exact Spec.sealF_bytes bb), hx55⟩
theorem wal_PutSnap_spec (H : Heap) (s_index : Int) (s_term : Int) (s_conf : ByteArray) (s_data : ByteArray) : ∃ v H', Spec Tryz.prog 33 [.agg #[.int .i64 s_index, .int .i64 s_term, .string s_conf, .string s_data]] H v H' ∧ (∃ rA0 rc0, (v = .slice rA0 ((Spec.snapF s_index s_term s_conf s_data).length) rc0) ∧ (My H H' rA0 rc0 1 ((Spec.snapF s_index s_term s_conf s_data).map u8c)) ∧ (Spec.Bytes (Spec.snapF s_index s_term s_conf s_data)) ∧ (((Spec.snapF s_index s_term s_conf s_data)).length ≤ 1700000) ∧ (rA0 = none ↔ Spec.mayS s_index s_term s_conf s_data = false) ∧ (Ext H H')) := by
 refine spec_go1 E0_ok 43 (f := 33) Tryz.func33 rfl rfl rfl ?_
 refine aw_seq ?_
 refine aw_reg ?_
 obtain ⟨b1, H2, he3, b1e, H2n_, hB5, f4⟩ := mem_box (P := Tryz.prog) H (v := .agg #[.int .i64 s_index, .int .i64 s_term, .string s_conf, .string s_data]) (cs := [.int .i64 s_index, .int .i64 s_term, .string s_conf, .string s_data]) rfl rfl
 refine st_op (he3 _ _ _ _ _ _ _ _ _ rfl) rfl rfl rfl ?_
 have hx6 : Ext H H2 := Ext.new (by omega) H2n_ f4
 have H2n : H.next ≤ H2.next := hx6.1
 refine st_op (ev_assign rfl) rfl rfl rfl ?_
 try show aw _ _ _ _ _ _
 iterate 2 refine aw_seq ?_
 refine aw_reg ?_
 refine st_op (ev_load rfl (lvar_part (l := [.int .i64 s_index, .int .i64 s_term, .string s_conf, .string s_data]) many24 hB5 rfl rfl (by decide))) rfl rfl rfl ?_
 refine st_call rfl rfl rfl ent74 rfl rfl rfl ?_
 obtain ⟨_, H8, hs7, hs7v, hx9⟩ := wal_may_spec H2 s_index s_term s_conf s_data
 rw [hs7v] at hs7; clear hs7v
 refine ⟨_, H8, hs7, ?_⟩
 have H8n : H2.next ≤ H8.next := hx9.1
 refine st_op (ev_not rfl) rfl rfl rfl ?_
 try show aw _ _ _ _ _ _
 by_cases hc10 : (!(Spec.mayS s_index s_term s_conf s_data)) = true
 ·
  refine aw_condT hc10 rfl ?_
  try show aw _ _ _ _ _ _
  replace hc10 : (Spec.mayS s_index s_term s_conf s_data) = false := by rw [Bool.not_eq_true'] at hc10; exact hc10
  refine aw_seq ?_
  refine aw_reg ?_
  refine st_op (ev_assign rfl) rfl rfl rfl ?_
  try show aw _ _ _ _ _ _
  refine aw_ret ?_
  have hm11 : My H8 H8 none 0 1 (([] : List Int).map u8c) := .nil
  have hx12 : Ext H H8 := (Ext.trans hx6 hx9)
  have hres : (Spec.snapF s_index s_term s_conf s_data) = ([] : List Int) := by unfold Spec.snapF; rw [if_neg (by simp_all)]
  exact ⟨.slice none 0 0, rfl, none, 0, by first | (rw [hres]; first | done | rfl | simp; done) | rfl, (by rw [hres]; exact (My.older hm11 (by omega))), (by exact Spec.snapF_bytes _ _ _ _), (by exact Spec.snapF_len _ _ _ _), (by exact ⟨fun _ => by simp_all, fun _ => rfl⟩), hx12⟩
 ·
  rw [Bool.not_eq_true] at hc10; refine aw_condF hc10 rfl ?_
  try show aw _ _ _ _ _ _
  replace hc10 : (Spec.mayS s_index s_term s_conf s_data) = true := by rw [Bool.not_eq_false'] at hc10; exact hc10
  have hc10m := Spec.mayS_says hc10
  refine aw_skip ?_
  try show aw _ _ _ _ _ _
  refine aw_seq ?_
  refine aw_marks (fun b => b < H8.next) [(false, false), (false, false), (false, true), (false, false), (true, false), (false, true), (false, false), (true, false), (false, false), (false, false)] mixed (by kernel_rfl) (by kernel_rfl) ?_
  refine sm_op (ev_fieldAddr rfl fa24_0 (o' := 0) rfl) rfl rfl rfl ?_
  have h13 := Ext.blk hx9 (by omega) hB5
  refine sm_op (ev_load rfl (lvar_one one2 h13 rfl)) rfl rfl rfl ?_
  refine sm_call rfl rfl rfl ent76 rfl rfl rfl ?_
  have hm14 : My H8 H8 none 0 1 (([] : List Int).map u8c) := .nil
  obtain ⟨_, H16, hs15, A18, c19, hs15v, hm20, hq21, hx17⟩ := num_Put_spec H8 H8 none ([] : List Int) 0 hm14 (by omega) (by first | omega | (simp only [List.length_append, List.length_cons, List.length_nil, List.length_map, List.length_set, List.length_replicate, Spec.bytesOf_length]; omega) | (simp; omega)) s_index ⟨by omega, by omega⟩
  rw [hs15v] at hs15; clear hs15v
  refine ⟨_, H16, hs15, (fun _ b hb => hx17.2 b (by omega) (fun e => by omega)), ?_⟩
  have H16n : H8.next ≤ H16.next := hx17.1
  refine sm_op (ev_fieldAddr rfl fa24_1 (o' := 1) rfl) rfl rfl rfl ?_
  have hx23 : Ext H8 H16 := (Ext.then (Ext.refl H8) hx17 (fun q hq e => by omega))
  have h22 := Ext.blk hx23 (by omega) h13
  refine sm_read (ev_load rfl (lvar_one one2 h22 rfl)) rfl rfl rfl (fun b hb => by cases hb; dsimp only <;> omega) ?_
  refine sm_call rfl rfl rfl ent76 rfl rfl rfl ?_
  obtain ⟨_, H25, hs24, A27, c28, hs24v, hm29, hq30, hx26⟩ := num_Put_spec H16 H8 A18 (([] : List Int) ++ Spec.enc (Spec.zig s_index)) c19 hm20 (by omega) (by first | omega | (simp only [List.length_append, List.length_cons, List.length_nil, List.length_map, List.length_set, List.length_replicate, Spec.bytesOf_length]; omega) | (simp; omega)) s_term ⟨by omega, by omega⟩
  rw [hs24v] at hs24; clear hs24v
  refine ⟨_, H25, hs24, (fun _ b hb => hx26.2 b (by omega) (fun e => by omega)), ?_⟩
  have H25n : H16.next ≤ H25.next := hx26.1
  refine sm_op (ev_fieldAddr rfl fa24_2 (o' := 2) rfl) rfl rfl rfl ?_
  have hx32 : Ext H8 H25 := (Ext.then hx23 hx26 (fun q hq e => by omega))
  have h31 := Ext.blk hx32 (by omega) h13
  refine sm_read (ev_load rfl (lvar_one one9 h31 rfl)) rfl rfl rfl (fun b hb => by cases hb; dsimp only <;> omega) ?_
  refine sm_call rfl rfl rfl ent75 rfl rfl rfl ?_
  obtain ⟨_, H34, hs33, A36, c37, hs33v, hm38, hq39, hx35⟩ := num_PutText_spec H25 H8 A27 ((([] : List Int) ++ Spec.enc (Spec.zig s_index)) ++ Spec.enc (Spec.zig s_term)) c28 hm29 (by omega) (by first | omega | (simp only [List.length_append, List.length_cons, List.length_nil, List.length_map, List.length_set, List.length_replicate, Spec.bytesOf_length]; omega) | (simp; omega)) s_conf (by omega)
  rw [hs33v] at hs33; clear hs33v
  refine ⟨_, H34, hs33, (fun h => nomatch h), ?_⟩
  have H34n : H25.next ≤ H34.next := hx35.1
  refine sm_op (ev_assign rfl) rfl rfl rfl ?_
  try show aw _ _ _ _ _ _
  refine aw_seq ?_
  refine aw_reg ?_
  refine st_op (ev_move rfl) rfl rfl rfl ?_
  refine st_op (ev_fieldAddr rfl fa24_3 (o' := 3) rfl) rfl rfl rfl ?_
  have hx41 : Ext H8 H34 := (Ext.then hx32 hx35 (fun q hq e => by omega))
  have h40 := Ext.blk hx41 (by omega) h13
  refine st_op (ev_load rfl (lvar_one one9 h40 rfl)) rfl rfl rfl ?_
  refine st_op (ev_lenStr rfl Tryz.underlying9) rfl rfl rfl ?_
  refine st_call rfl rfl rfl ent76 rfl rfl rfl ?_
  obtain ⟨_, H43, hs42, A45, c46, hs42v, hm47, hq48, hx44⟩ := num_Put_spec H34 H8 A36 (((([] : List Int) ++ Spec.enc (Spec.zig s_index)) ++ Spec.enc (Spec.zig s_term)) ++ Spec.enc (Spec.zig (s_conf.size : Int)) ++ Spec.bytesOf s_conf) c37 hm38 (by omega) (by first | omega | (simp only [List.length_append, List.length_cons, List.length_nil, List.length_map, List.length_set, List.length_replicate, Spec.bytesOf_length]; omega) | (simp; omega)) ((s_data).size : Int) ⟨by omega, by omega⟩
  rw [hs42v] at hs42; clear hs42v
  refine ⟨_, H43, hs42, ?_⟩
  have H43n : H34.next ≤ H43.next := hx44.1
  refine st_call rfl rfl rfl ent77 rfl rfl rfl ?_
  obtain ⟨_, H50, hs49, A52, c53, hs49v, hm54, hq55, hq56, hx51⟩ := frame_Seal_spec H43 3 (by decide) A45 ((((([] : List Int) ++ Spec.enc (Spec.zig s_index)) ++ Spec.enc (Spec.zig s_term)) ++ Spec.enc (Spec.zig (s_conf.size : Int)) ++ Spec.bytesOf s_conf) ++ Spec.enc (Spec.zig ((s_data).size : Int))) c46 (My.row hm47) (My.capF hm47 (by first | omega | (simp only [List.length_append, List.length_cons, List.length_nil, List.length_map, List.length_set, List.length_replicate, Spec.bytesOf_length]; omega) | (simp; omega))) (by first | omega | (simp only [List.length_append, List.length_cons, List.length_nil, List.length_map, List.length_set, List.length_replicate, Spec.bytesOf_length]; omega) | (simp; omega)) (by first | assumption | exact Spec.Bytes.nil | exact Spec.bytes_of _ | (repeat' first | assumption | exact Spec.Bytes.nil | exact Spec.bytes_of _ | exact Spec.enc_bytes _ | exact Spec.four_bytes _ | exact Spec.sealF_bytes (by assumption) | apply Spec.Bytes.append | apply Spec.Bytes.cons (by omega) | apply Spec.Bytes.take | apply Spec.Bytes.drop))
  rw [hs49v] at hs49; clear hs49v
  refine ⟨_, H50, hs49, ?_⟩
  have H50n : H43.next ≤ H50.next := hx51.1
  refine st_op (ev_assign rfl) rfl rfl rfl ?_
  try show aw _ _ _ _ _ _
  iterate 2 refine aw_seq ?_
  refine aw_reg ?_
  refine st_op (ev_fieldAddr rfl fa24_3 (o' := 3) rfl) rfl rfl rfl ?_
  have hx58 : Ext H8 H50 := (Ext.trans (Ext.then hx41 hx44 (fun q hq e => by omega)) hx51)
  have h57 := Ext.blk hx58 (by omega) h13
  refine st_op (ev_load rfl (lvar_one one9 h57 rfl)) rfl rfl rfl ?_
  refine st_op (ev_assign rfl) rfl rfl rfl ?_
  try show aw _ _ _ _ _ _
  refine aw_block ?_
  refine aw_keep [4, 5] (l' := (.cons 4 (.slice A52 ((Spec.sealF (3 : Int) ((((([] : List Int) ++ Spec.enc (Spec.zig s_index)) ++ Spec.enc (Spec.zig s_term)) ++ Spec.enc (Spec.zig (s_conf.size : Int)) ++ Spec.bytesOf s_conf) ++ Spec.enc (Spec.zig ((s_data).size : Int)))).length) c53) (.cons 5 (.string s_data) .nil))) (by repeat (first | exact Up.done | refine Up.then ?_ | refine Up.inBlock ?_)) rfl ?_
  refine aw_iter (α := ByteArray × Option Addr × Nat × List Int × Heap) (fun a => a.1.size) (fun a => (.cons 4 (.slice a.2.1 a.2.2.2.1.length a.2.2.1) (.cons 5 (.string a.1) .nil))) (fun a => a.2.2.2.2) (fun a => ((Spec.sealF (3 : Int) ((((([] : List Int) ++ Spec.enc (Spec.zig s_index)) ++ Spec.enc (Spec.zig s_term)) ++ Spec.enc (Spec.zig (s_conf.size : Int)) ++ Spec.bytesOf s_conf) ++ Spec.enc (Spec.zig ((s_data).size : Int)))) ++ Spec.partsF (Spec.bytesOf s_data) = a.2.2.2.1 ++ Spec.partsF (Spec.bytesOf a.1)) ∧ (a.1.size ≤ 200000) ∧ (a.2.2.2.1.length + 10000 * a.1.size ≤ 4100000000) ∧ (My H43 a.2.2.2.2 a.2.1 a.2.2.1 1 (a.2.2.2.1.map u8c)) ∧ (Fr (fun q => (H43.next ≤ q ∧ q < H50.next ∧ ZB H50 q 1)) H50 a.2.2.2.2)) (s_data, A52, c53, (Spec.sealF (3 : Int) ((((([] : List Int) ++ Spec.enc (Spec.zig s_index)) ++ Spec.enc (Spec.zig s_term)) ++ Spec.enc (Spec.zig (s_conf.size : Int)) ++ Spec.bytesOf s_conf) ++ Spec.enc (Spec.zig ((s_data).size : Int)))), H50) ⟨(show (Spec.sealF (3 : Int) ((((([] : List Int) ++ Spec.enc (Spec.zig s_index)) ++ Spec.enc (Spec.zig s_term)) ++ Spec.enc (Spec.zig (s_conf.size : Int)) ++ Spec.bytesOf s_conf) ++ Spec.enc (Spec.zig ((s_data).size : Int)))) ++ Spec.partsF (Spec.bytesOf s_data) = (Spec.sealF (3 : Int) ((((([] : List Int) ++ Spec.enc (Spec.zig s_index)) ++ Spec.enc (Spec.zig s_term)) ++ Spec.enc (Spec.zig (s_conf.size : Int)) ++ Spec.bytesOf s_conf) ++ Spec.enc (Spec.zig ((s_data).size : Int)))) ++ Spec.partsF (Spec.bytesOf s_data) from rfl), (show s_data.size ≤ 200000 from (by omega)), (show (Spec.sealF (3 : Int) ((((([] : List Int) ++ Spec.enc (Spec.zig s_index)) ++ Spec.enc (Spec.zig s_term)) ++ Spec.enc (Spec.zig (s_conf.size : Int)) ++ Spec.bytesOf s_conf) ++ Spec.enc (Spec.zig ((s_data).size : Int)))).length + 10000 * s_data.size ≤ 4100000000 from (by have : (Spec.sealF (3 : Int) ((((([] : List Int) ++ Spec.enc (Spec.zig s_index)) ++ Spec.enc (Spec.zig s_term)) ++ Spec.enc (Spec.zig (s_conf.size : Int)) ++ Spec.bytesOf s_conf) ++ Spec.enc (Spec.zig ((s_data).size : Int)))).length ≤ 4007 := Spec.sealF_len; omega)), (show My H43 H50 A52 c53 1 ((Spec.sealF (3 : Int) ((((([] : List Int) ++ Spec.enc (Spec.zig s_index)) ++ Spec.enc (Spec.zig s_term)) ++ Spec.enc (Spec.zig (s_conf.size : Int)) ++ Spec.bytesOf s_conf) ++ Spec.enc (Spec.zig ((s_data).size : Int)))).map u8c) from hm54), (show Fr (fun q => (H43.next ≤ q ∧ q < H50.next ∧ ZB H50 q 1)) H50 H50 from (Fr.refl _ H50))⟩ ?_
  rintro ⟨rest, A, cp, out, Hl59⟩ ⟨hS, hsz, hL, hm60, hxl61⟩ ih62
  replace hS : (Spec.sealF (3 : Int) ((((([] : List Int) ++ Spec.enc (Spec.zig s_index)) ++ Spec.enc (Spec.zig s_term)) ++ Spec.enc (Spec.zig (s_conf.size : Int)) ++ Spec.bytesOf s_conf) ++ Spec.enc (Spec.zig ((s_data).size : Int)))) ++ Spec.partsF (Spec.bytesOf s_data) = out ++ Spec.partsF (Spec.bytesOf rest) := hS
  replace hsz : rest.size ≤ 200000 := hsz
  replace hL : out.length + 10000 * rest.size ≤ 4100000000 := hL
  replace hm60 : My H43 Hl59 A cp 1 (out.map u8c) := hm60
  replace hxl61 : Fr (fun q => (H43.next ≤ q ∧ q < H50.next ∧ ZB H50 q 1)) H50 Hl59 := hxl61
  show aw _ _ _ (RL _ (.cons 4 (.slice A out.length cp) (.cons 5 (.string rest) .nil))) Hl59 _
  have Hl59n : H50.next ≤ Hl59.next := hxl61.1
  iterate 2 refine aw_seq ?_
  refine aw_reg ?_
  refine st_op (ev_move rfl) rfl rfl rfl ?_
  refine st_op (ev_str rfl rfl rfl) rfl rfl rfl ?_
  try show aw _ _ _ _ _ _
  by_cases hc63 : (!((rest).toList == (⟨#[]⟩ : ByteArray).toList)) = true
  ·
   refine aw_condT hc63 rfl ?_
   try show aw _ _ _ _ _ _
   replace hc63 : ((rest).toList == (⟨#[]⟩ : ByteArray).toList) = false := by rw [Bool.not_eq_true'] at hc63; exact hc63
   have hc63 := ne_of_beq_false hc63
   refine aw_skip ?_
   try show aw _ _ _ _ _ _
   refine aw_block ?_
   refine aw_seq ?_
   refine aw_reg ?_
   refine st_op (ev_move rfl) rfl rfl rfl ?_
   refine st_op (ev_lenStr rfl Tryz.underlying9) rfl rfl rfl ?_
   obtain ⟨z64, hz65, hz66⟩ : ∃ z, (if 3000 < ((rest).size : Int) then 3000 else ((rest).size : Int)) = z ∧ (((rest).size : Int) ≥ z ∧ 3000 ≥ z ∧ (z = ((rest).size : Int) ∨ z = 3000)) := ⟨_, rfl, by split <;> omega⟩
   refine st_op (ev_minE hz65 rfl rfl) rfl rfl rfl ?_
   have hP := Spec.parts_next (s := rest) (z := z64) (by assumption) hz65.symm
   refine st_op (ev_assign rfl) rfl rfl rfl ?_
   try show aw _ _ _ _ _ _
   refine aw_seq ?_
   refine aw_reg ?_
   iterate 3 refine st_op (ev_move rfl) rfl rfl rfl ?_
   refine st_op (ev_slStr Tryz.underlying9 rfl rfl rfl (bound_int (by omega) (by omega) rfl) rfl) rfl rfl rfl ?_
   obtain ⟨A67, c68, H69, he70, hm71, hx72⟩ := mem_bytes Hl59 ((rest).extract 0 ((z64).toNat)) slu8_68 isstr_9 (by omega)
   refine st_op (he70 _ _ _ _ _ _ _ _ rfl) rfl rfl rfl ?_
   have H69n : Hl59.next ≤ H69.next := hx72.1
   refine st_call rfl rfl rfl ent77 rfl rfl rfl ?_
   obtain ⟨_, H74, hs73, A76, c77, hs73v, hm78, hq79, hq80, hx75⟩ := frame_Seal_spec H69 4 (by decide) A67 (Spec.bytesOf ((rest).extract 0 ((z64).toNat))) c68 (My.row hm71) (My.capF hm71 (by first | omega | (simp only [List.length_append, List.length_cons, List.length_nil, List.length_map, List.length_set, List.length_replicate, Spec.bytesOf_length]; omega) | (simp; omega))) (by first | omega | (simp only [List.length_append, List.length_cons, List.length_nil, List.length_map, List.length_set, List.length_replicate, Spec.bytesOf_length]; omega) | (simp; omega)) (by first | assumption | exact Spec.Bytes.nil | exact Spec.bytes_of _ | (repeat' first | assumption | exact Spec.Bytes.nil | exact Spec.bytes_of _ | exact Spec.enc_bytes _ | exact Spec.four_bytes _ | exact Spec.sealF_bytes (by assumption) | apply Spec.Bytes.append | apply Spec.Bytes.cons (by omega) | apply Spec.Bytes.take | apply Spec.Bytes.drop))
   rw [hs73v] at hs73; clear hs73v
   refine ⟨_, H74, hs73, ?_⟩
   have H74n : H69.next ≤ H74.next := hx75.1
   have hx82 : Ext Hl59 H74 := (Ext.trans hx72 hx75)
   have h81 := My.ext hm60 hx82
   obtain ⟨A83, c84, H85, W86, he87, hm88, hf89⟩ := mem_append (f := u8c) (old := out) (new := (Spec.sealF (4 : Int) (Spec.bytesOf ((rest).extract 0 ((z64).toNat))))) (m := out.length) (mx := (Spec.sealF (4 : Int) (Spec.bytesOf ((rest).extract 0 ((z64).toNat)))).length) (c := cp) (by first | rfl | simp) (by first | rfl | simp) eok68 (by decide) hm60 h81 (by omega) (((My.row hm78)).srcF (by decide) (by first | rfl | simp)) rfl u8c_len u8c_one (by first | omega | (simp only [List.length_append, List.length_cons, List.length_nil, List.length_map, List.length_set, List.length_replicate, Spec.bytesOf_length]; omega) | (simp; omega)) (by first | omega | (simp only [List.length_append, List.length_cons, List.length_nil, List.length_map, List.length_set, List.length_replicate, Spec.bytesOf_length]; omega) | (simp; omega))
   refine st_op (he87 _ _ _ _ _ _ _ _ _ _ rfl rfl isrow68) rfl rfl rfl ?_
   have H85n : H74.next ≤ H85.next := hf89.1
   refine st_op (ev_assign rfl) rfl rfl rfl ?_
   try show aw _ _ _ _ _ _
   refine aw_reg ?_
   iterate 2 refine st_op (ev_move rfl) rfl rfl rfl ?_
   refine st_op (ev_slStr Tryz.underlying9 rfl rfl rfl rfl (bound_int (by omega) (by omega) rfl)) rfl rfl rfl ?_
   refine st_op (ev_assign rfl) rfl rfl rfl ?_
   try show aw _ _ _ _ _ _
   refine aw_keep [4, 5] (l' := (.cons 4 (.slice A83 ((out ++ (Spec.sealF (4 : Int) (Spec.bytesOf ((rest).extract 0 ((z64).toNat))))).length) c84) (.cons 5 (.string ((rest).extract (z64).toNat ((rest).size))) .nil))) (by repeat (first | exact Up.done | refine Up.then ?_ | refine Up.inBlock ?_)) rfl ?_
   exact ih62 (((rest).extract (z64).toNat ((rest).size)), A83, c84, (out ++ (Spec.sealF (4 : Int) (Spec.bytesOf ((rest).extract 0 ((z64).toNat))))), H85) ⟨(show (Spec.sealF (3 : Int) ((((([] : List Int) ++ Spec.enc (Spec.zig s_index)) ++ Spec.enc (Spec.zig s_term)) ++ Spec.enc (Spec.zig (s_conf.size : Int)) ++ Spec.bytesOf s_conf) ++ Spec.enc (Spec.zig ((s_data).size : Int)))) ++ Spec.partsF (Spec.bytesOf s_data) = (out ++ (Spec.sealF (4 : Int) (Spec.bytesOf ((rest).extract 0 ((z64).toNat))))) ++ Spec.partsF (Spec.bytesOf ((rest).extract (z64).toNat ((rest).size))) from (by rw [hS, hP.2.1, List.append_assoc])), (show ((rest).extract (z64).toNat ((rest).size)).size ≤ 200000 from (by omega)), (show (out ++ (Spec.sealF (4 : Int) (Spec.bytesOf ((rest).extract 0 ((z64).toNat))))).length + 10000 * ((rest).extract (z64).toNat ((rest).size)).size ≤ 4100000000 from (by rw [List.length_append]; have := @Spec.sealF_len 4 (Spec.bytesOf (rest.extract 0 z64.toNat)); have := hP.2.2.2; omega)), (show My H43 H85 A83 c84 1 ((out ++ (Spec.sealF (4 : Int) (Spec.bytesOf ((rest).extract 0 ((z64).toNat))))).map u8c) from hm88), (show Fr (fun q => (H43.next ≤ q ∧ q < H50.next ∧ ZB H50 q 1)) H50 H85 from (Fr.transG (Fr.trans (Fr.trans (Fr.transG (Fr.refl (fun q => (H43.next ≤ q ∧ q < H50.next ∧ ZB H50 q 1)) H50) hxl61 (fun q hq hE e => (⟨by omega, by omega, ZB.back hE e.2.2⟩))) (hx72.fr fun _ => False) (fun q hq (e : False) => e.elim)) (hx75.fr fun _ => False) (fun q hq (e : False) => e.elim)) hf89 (fun q hq hE e => (⟨by omega, by omega, ZB.back hE e.2.2⟩))))⟩ (by simp only; omega)
  ·
   rw [Bool.not_eq_true] at hc63; refine aw_condF hc63 rfl ?_
   try show aw _ _ _ _ _ _
   replace hc63 : ((rest).toList == (⟨#[]⟩ : ByteArray).toList) = true := by rw [Bool.not_eq_false'] at hc63; exact hc63
   have hc63 := eq_of_beq hc63
   refine aw_exit ?_
   try show aw _ _ _ _ _ _
   refine aw_seq ?_
   refine aw_reg ?_
   refine st_op (ev_move rfl) rfl rfl rfl ?_
   refine st_op (ev_assign rfl) rfl rfl rfl ?_
   try show aw _ _ _ _ _ _
   refine aw_ret ?_
   have hx90 : Ext H Hl59 := (Ext.then (Ext.trans (Ext.then (Ext.then (Ext.then (Ext.then (Ext.trans hx6 hx9) hx17 (fun q hq e => by omega)) hx26 (fun q hq e => by omega)) hx35 (fun q hq e => by omega)) hx44 (fun q hq e => by omega)) hx51) hxl61 (fun q hq e => by omega))
   have hres : (Spec.snapF s_index s_term s_conf s_data) = out := by rw [Spec.snap_head (by assumption)]; exact hS.trans (by rw [show rest = ⟨#[]⟩ from Spec.toList_inj (by assumption)]; simp [Spec.bytesOf, Spec.partsF_nil])
   exact ⟨.slice A out.length cp, rfl, A, cp, by first | (rw [hres]; first | done | rfl | simp; done) | rfl, (by rw [hres]; exact (My.older hm60 (by omega))), (by exact Spec.snapF_bytes _ _ _ _), (by exact Spec.snapF_len _ _ _ _), (by exact ⟨fun h => absurd h (My.neF hm60 (by have := Spec.snapF_pos hc10; rw [hres] at this; omega)), fun h => Bool.noConfusion (h.symm.trans hc10)⟩), hx90⟩
theorem raft_May_spec (H : Heap) (kind : Int) (from_ : Int) (to_ : Int) (term : Int) (index : Int) (logterm : Int) (commit : Int) (yes : Bool) (esA : Option Addr) (es : List Entry) (esc : Nat) (hes : Row H esA esc 4 (es.map Entry.cells)) (ces : es.length ≤ esc) (les : es.length ≤ 1048576) (s_index : Int) (s_term : Int) (s_conf : ByteArray) (hs_conf : s_conf.size ≤ 1073741824) (s_data : ByteArray) (hs_data : s_data.size ≤ 1073741824) : ∃ v H', Spec Tryz.prog 11 [.agg #[.int .i64 kind, .int .i64 from_, .int .i64 to_, .int .i64 term, .int .i64 index, .int .i64 logterm, .int .i64 commit, .bool yes, .slice esA es.length esc, .int .i64 s_index, .int .i64 s_term, .string s_conf, .string s_data]] H v H' ∧ ((v = .bool (Spec.mayMsg kind from_ to_ term index logterm commit yes es s_index s_term s_conf s_data)) ∧ (Ext H H')) := by
 refine spec_go1 E0_ok 81 (f := 11) Tryz.func11 rfl rfl rfl ?_
 refine aw_seq ?_
 refine aw_reg ?_
 obtain ⟨b1, H2, he3, b1e, H2n_, hB5, f4⟩ := mem_box (P := Tryz.prog) H (v := .agg #[.int .i64 kind, .int .i64 from_, .int .i64 to_, .int .i64 term, .int .i64 index, .int .i64 logterm, .int .i64 commit, .bool yes, .slice esA es.length esc, .int .i64 s_index, .int .i64 s_term, .string s_conf, .string s_data]) (cs := [.int .i64 kind, .int .i64 from_, .int .i64 to_, .int .i64 term, .int .i64 index, .int .i64 logterm, .int .i64 commit, .bool yes, .slice esA es.length esc, .int .i64 s_index, .int .i64 s_term, .string s_conf, .string s_data]) rfl rfl
 refine st_op (he3 _ _ _ _ _ _ _ _ _ rfl) rfl rfl rfl ?_
 have hx6 : Ext H H2 := Ext.new (by omega) H2n_ f4
 have H2n : H.next ≤ H2.next := hx6.1
 refine st_op (ev_assign rfl) rfl rfl rfl ?_
 try show aw _ _ _ _ _ _
 iterate 2 refine aw_seq ?_
 refine aw_reg ?_
 refine st_op (ev_fieldAddr rfl fa26_0 (o' := 0) rfl) rfl rfl rfl ?_
 refine st_op (ev_load rfl (lvar_one one3 hB5 rfl)) rfl rfl rfl ?_
 refine st_op (ev_int rfl rfl rfl) rfl rfl rfl ?_
 refine st_op (ev_move rfl) rfl rfl rfl ?_
 refine st_bool 8 rfl (fun hb7 => ?_) (fun hb7 => ?_)
 ·
  have hb7 := of_decide_eq_true hb7
  iterate 3 refine st_skip rfl rfl rfl ?_
  refine st_op (ev_pickT rfl rfl) rfl rfl rfl ?_
  refine st_op (ev_move rfl) rfl rfl rfl ?_
  iterate 4 refine st_skip rfl rfl rfl ?_
  refine st_op (ev_pickT rfl rfl) rfl rfl rfl ?_
  refine st_op (ev_move rfl) rfl rfl rfl ?_
  iterate 4 refine st_skip rfl rfl rfl ?_
  refine st_op (ev_pickT rfl rfl) rfl rfl rfl ?_
  refine st_op (ev_move rfl) rfl rfl rfl ?_
  iterate 5 refine st_skip rfl rfl rfl ?_
  refine st_op (ev_pickT rfl rfl) rfl rfl rfl ?_
  refine st_op (ev_move rfl) rfl rfl rfl ?_
  iterate 9 refine st_skip rfl rfl rfl ?_
  refine st_op (ev_pickT rfl rfl) rfl rfl rfl ?_
  refine st_op (ev_move rfl) rfl rfl rfl ?_
  iterate 3 refine st_skip rfl rfl rfl ?_
  refine st_op (ev_pickT rfl rfl) rfl rfl rfl ?_
  try show aw _ _ _ _ _ _
  refine aw_cond (t := true) rfl ?_
  try show aw _ _ _ _ _ _
  refine aw_seq ?_
  refine aw_reg ?_
  refine st_op (ev_assign rfl) rfl rfl rfl ?_
  try show aw _ _ _ _ _ _
  refine aw_ret ?_
  have hres : (Spec.mayMsg kind from_ to_ term index logterm commit yes es s_index s_term s_conf s_data) = false := by first | exact Spec.mayMsg_f1 (by omega) | exact Spec.mayMsg_f2 (by assumption) | exact Spec.mayMsg_f3 (by assumption) (by omega) (by omega) | (rw [Spec.mayMsg_last (by omega) (by assumption) (fun h => by first | omega | exact Bool.noConfusion (h.symm.trans (show yes = false by assumption)))]; rw [if_pos (by omega), show (Spec.decC s_conf).2 = false by assumption]; rfl)
  exact ⟨.bool false, rfl, by first | (rw [hres]; done) | rw [← hres], hx6⟩
 ·
  have hb7 := of_decide_eq_false hb7
  refine st_op (ev_fieldAddr rfl fa26_0 (o' := 0) rfl) rfl rfl rfl ?_
  refine st_op (ev_load rfl (lvar_one one3 hB5 rfl)) rfl rfl rfl ?_
  refine st_op (ev_int rfl rfl rfl) rfl rfl rfl ?_
  refine st_op (ev_pickF rfl rfl) rfl rfl rfl ?_
  refine st_op (ev_move rfl) rfl rfl rfl ?_
  refine st_bool 13 rfl (fun hb8 => ?_) (fun hb8 => ?_)
  ·
   have hb8 := of_decide_eq_true hb8
   iterate 4 refine st_skip rfl rfl rfl ?_
   refine st_op (ev_pickT rfl rfl) rfl rfl rfl ?_
   refine st_op (ev_move rfl) rfl rfl rfl ?_
   iterate 4 refine st_skip rfl rfl rfl ?_
   refine st_op (ev_pickT rfl rfl) rfl rfl rfl ?_
   refine st_op (ev_move rfl) rfl rfl rfl ?_
   iterate 5 refine st_skip rfl rfl rfl ?_
   refine st_op (ev_pickT rfl rfl) rfl rfl rfl ?_
   refine st_op (ev_move rfl) rfl rfl rfl ?_
   iterate 9 refine st_skip rfl rfl rfl ?_
   refine st_op (ev_pickT rfl rfl) rfl rfl rfl ?_
   refine st_op (ev_move rfl) rfl rfl rfl ?_
   iterate 3 refine st_skip rfl rfl rfl ?_
   refine st_op (ev_pickT rfl rfl) rfl rfl rfl ?_
   try show aw _ _ _ _ _ _
   refine aw_cond (t := true) rfl ?_
   try show aw _ _ _ _ _ _
   refine aw_seq ?_
   refine aw_reg ?_
   refine st_op (ev_assign rfl) rfl rfl rfl ?_
   try show aw _ _ _ _ _ _
   refine aw_ret ?_
   have hres : (Spec.mayMsg kind from_ to_ term index logterm commit yes es s_index s_term s_conf s_data) = false := by first | exact Spec.mayMsg_f1 (by omega) | exact Spec.mayMsg_f2 (by assumption) | exact Spec.mayMsg_f3 (by assumption) (by omega) (by omega) | (rw [Spec.mayMsg_last (by omega) (by assumption) (fun h => by first | omega | exact Bool.noConfusion (h.symm.trans (show yes = false by assumption)))]; rw [if_pos (by omega), show (Spec.decC s_conf).2 = false by assumption]; rfl)
   exact ⟨.bool false, rfl, by first | (rw [hres]; done) | rw [← hres], hx6⟩
  ·
   have hb8 := of_decide_eq_false hb8
   refine st_op (ev_fieldAddr rfl fa26_1 (o' := 1) rfl) rfl rfl rfl ?_
   refine st_op (ev_load rfl (lvar_one one3 hB5 rfl)) rfl rfl rfl ?_
   refine st_call rfl rfl rfl ent29 rfl rfl rfl ?_
   obtain ⟨_, H10, hs9, hs9v, hx11⟩ := raft_server_spec H2 from_
   rw [hs9v] at hs9; clear hs9v
   refine ⟨_, H10, hs9, ?_⟩
   have H10n : H2.next ≤ H10.next := hx11.1
   refine st_op (ev_not rfl) rfl rfl rfl ?_
   refine st_op (ev_pickF rfl rfl) rfl rfl rfl ?_
   refine st_op (ev_move rfl) rfl rfl rfl ?_
   refine st_bool 19 rfl (fun hb12 => ?_) (fun hb12 => ?_)
   ·
    replace hb12 : (decide (1 ≤ from_ ∧ from_ ≤ 7)) = false := by rw [Bool.not_eq_true'] at hb12; exact hb12
    have hb12 := of_decide_eq_false hb12
    iterate 4 refine st_skip rfl rfl rfl ?_
    refine st_op (ev_pickT rfl rfl) rfl rfl rfl ?_
    refine st_op (ev_move rfl) rfl rfl rfl ?_
    iterate 5 refine st_skip rfl rfl rfl ?_
    refine st_op (ev_pickT rfl rfl) rfl rfl rfl ?_
    refine st_op (ev_move rfl) rfl rfl rfl ?_
    iterate 9 refine st_skip rfl rfl rfl ?_
    refine st_op (ev_pickT rfl rfl) rfl rfl rfl ?_
    refine st_op (ev_move rfl) rfl rfl rfl ?_
    iterate 3 refine st_skip rfl rfl rfl ?_
    refine st_op (ev_pickT rfl rfl) rfl rfl rfl ?_
    try show aw _ _ _ _ _ _
    refine aw_cond (t := true) rfl ?_
    try show aw _ _ _ _ _ _
    refine aw_seq ?_
    refine aw_reg ?_
    refine st_op (ev_assign rfl) rfl rfl rfl ?_
    try show aw _ _ _ _ _ _
    refine aw_ret ?_
    have hx13 : Ext H H10 := (Ext.trans hx6 hx11)
    have hres : (Spec.mayMsg kind from_ to_ term index logterm commit yes es s_index s_term s_conf s_data) = false := by first | exact Spec.mayMsg_f1 (by omega) | exact Spec.mayMsg_f2 (by assumption) | exact Spec.mayMsg_f3 (by assumption) (by omega) (by omega) | (rw [Spec.mayMsg_last (by omega) (by assumption) (fun h => by first | omega | exact Bool.noConfusion (h.symm.trans (show yes = false by assumption)))]; rw [if_pos (by omega), show (Spec.decC s_conf).2 = false by assumption]; rfl)
    exact ⟨.bool false, rfl, by first | (rw [hres]; done) | rw [← hres], hx13⟩
   ·
    replace hb12 : (decide (1 ≤ from_ ∧ from_ ≤ 7)) = true := by rw [Bool.not_eq_false'] at hb12; exact hb12
    have hb12 := of_decide_eq_true hb12
    refine st_op (ev_fieldAddr rfl fa26_2 (o' := 2) rfl) rfl rfl rfl ?_
    have h14 := Ext.blk hx11 (by omega) hB5
    refine st_op (ev_load rfl (lvar_one one3 h14 rfl)) rfl rfl rfl ?_
    refine st_call rfl rfl rfl ent29 rfl rfl rfl ?_
    obtain ⟨_, H16, hs15, hs15v, hx17⟩ := raft_server_spec H10 to_
    rw [hs15v] at hs15; clear hs15v
    refine ⟨_, H16, hs15, ?_⟩
    have H16n : H10.next ≤ H16.next := hx17.1
    refine st_op (ev_not rfl) rfl rfl rfl ?_
    refine st_op (ev_pickF rfl rfl) rfl rfl rfl ?_
    refine st_op (ev_move rfl) rfl rfl rfl ?_
    refine st_bool 25 rfl (fun hb18 => ?_) (fun hb18 => ?_)
    ·
     replace hb18 : (decide (1 ≤ to_ ∧ to_ ≤ 7)) = false := by rw [Bool.not_eq_true'] at hb18; exact hb18
     have hb18 := of_decide_eq_false hb18
     iterate 5 refine st_skip rfl rfl rfl ?_
     refine st_op (ev_pickT rfl rfl) rfl rfl rfl ?_
     refine st_op (ev_move rfl) rfl rfl rfl ?_
     iterate 9 refine st_skip rfl rfl rfl ?_
     refine st_op (ev_pickT rfl rfl) rfl rfl rfl ?_
     refine st_op (ev_move rfl) rfl rfl rfl ?_
     iterate 3 refine st_skip rfl rfl rfl ?_
     refine st_op (ev_pickT rfl rfl) rfl rfl rfl ?_
     try show aw _ _ _ _ _ _
     refine aw_cond (t := true) rfl ?_
     try show aw _ _ _ _ _ _
     refine aw_seq ?_
     refine aw_reg ?_
     refine st_op (ev_assign rfl) rfl rfl rfl ?_
     try show aw _ _ _ _ _ _
     refine aw_ret ?_
     have hx19 : Ext H H16 := (Ext.trans (Ext.trans hx6 hx11) hx17)
     have hres : (Spec.mayMsg kind from_ to_ term index logterm commit yes es s_index s_term s_conf s_data) = false := by first | exact Spec.mayMsg_f1 (by omega) | exact Spec.mayMsg_f2 (by assumption) | exact Spec.mayMsg_f3 (by assumption) (by omega) (by omega) | (rw [Spec.mayMsg_last (by omega) (by assumption) (fun h => by first | omega | exact Bool.noConfusion (h.symm.trans (show yes = false by assumption)))]; rw [if_pos (by omega), show (Spec.decC s_conf).2 = false by assumption]; rfl)
     exact ⟨.bool false, rfl, by first | (rw [hres]; done) | rw [← hres], hx19⟩
    ·
     replace hb18 : (decide (1 ≤ to_ ∧ to_ ≤ 7)) = true := by rw [Bool.not_eq_false'] at hb18; exact hb18
     have hb18 := of_decide_eq_true hb18
     refine st_op (ev_fieldAddr rfl fa26_3 (o' := 3) rfl) rfl rfl rfl ?_
     have h20 := Ext.blk hx17 (by omega) h14
     refine st_op (ev_load rfl (lvar_one one2 h20 rfl)) rfl rfl rfl ?_
     obtain ⟨b21, H22, he23, b21e, H22n_, hm25, f24⟩ := mem_lit H16 (xs := ([.int .i64 term] : List Value)) (m := 1) (rows := [[.int .i64 term]]) rfl eok103 (by decide) (by decide) zf2 rfl (allLen rfl) rfl
     replace hm25 : My H16 H22 (some ⟨b21, 0, none⟩) 1 1 ([term].map i64c) := hm25
     refine st_op (he23 _ _ _ _ _ _ _ _ rfl) rfl rfl rfl ?_
     have hx26 : Ext H16 H22 := Ext.new (by omega) H22n_ f24
     have H22n : H16.next ≤ H22.next := hx26.1
     refine st_call rfl rfl rfl ent30 rfl rfl rfl ?_
     obtain ⟨_, H28, hs27, hs27v, hx29⟩ := raft_in_spec H22 1 (by decide) (some ⟨b21, 0, none⟩) ([term]) 1 (My.row hm25) (My.capF hm25 (by first | omega | (simp only [List.length_append, List.length_cons, List.length_nil, List.length_map, List.length_set, List.length_replicate, Spec.bytesOf_length]; omega) | (simp; omega))) (by first | omega | (simp only [List.length_append, List.length_cons, List.length_nil, List.length_map, List.length_set, List.length_replicate, Spec.bytesOf_length]; omega) | (simp; omega))
     rw [hs27v] at hs27; clear hs27v
     refine ⟨_, H28, hs27, ?_⟩
     have H28n : H22.next ≤ H28.next := hx29.1
     refine st_op (ev_not rfl) rfl rfl rfl ?_
     refine st_op (ev_pickF rfl rfl) rfl rfl rfl ?_
     refine st_op (ev_move rfl) rfl rfl rfl ?_
     refine st_bool 32 rfl (fun hb30 => ?_) (fun hb30 => ?_)
     ·
      replace hb30 : (Spec.inF (1 : Int) 1099511627776 ([term])) = false := by rw [Bool.not_eq_true'] at hb30; exact hb30
      have hb30m := Spec.inF_oneN hb30
      iterate 9 refine st_skip rfl rfl rfl ?_
      refine st_op (ev_pickT rfl rfl) rfl rfl rfl ?_
      refine st_op (ev_move rfl) rfl rfl rfl ?_
      iterate 3 refine st_skip rfl rfl rfl ?_
      refine st_op (ev_pickT rfl rfl) rfl rfl rfl ?_
      try show aw _ _ _ _ _ _
      refine aw_cond (t := true) rfl ?_
      try show aw _ _ _ _ _ _
      refine aw_seq ?_
      refine aw_reg ?_
      refine st_op (ev_assign rfl) rfl rfl rfl ?_
      try show aw _ _ _ _ _ _
      refine aw_ret ?_
      have hx31 : Ext H H28 := (Ext.trans (Ext.trans (Ext.trans (Ext.trans hx6 hx11) hx17) hx26) hx29)
      have hres : (Spec.mayMsg kind from_ to_ term index logterm commit yes es s_index s_term s_conf s_data) = false := by first | exact Spec.mayMsg_f1 (by omega) | exact Spec.mayMsg_f2 (by assumption) | exact Spec.mayMsg_f3 (by assumption) (by omega) (by omega) | (rw [Spec.mayMsg_last (by omega) (by assumption) (fun h => by first | omega | exact Bool.noConfusion (h.symm.trans (show yes = false by assumption)))]; rw [if_pos (by omega), show (Spec.decC s_conf).2 = false by assumption]; rfl)
      exact ⟨.bool false, rfl, by first | (rw [hres]; done) | rw [← hres], hx31⟩
     ·
      replace hb30 : (Spec.inF (1 : Int) 1099511627776 ([term])) = true := by rw [Bool.not_eq_false'] at hb30; exact hb30
      have hb30m := Spec.inF_one hb30
      refine st_op (ev_fieldAddr rfl fa26_4 (o' := 4) rfl) rfl rfl rfl ?_
      have hx33 : Ext H16 H28 := (Ext.trans hx26 hx29)
      have h32 := Ext.blk hx33 (by omega) h20
      refine st_op (ev_load rfl (lvar_one one2 h32 rfl)) rfl rfl rfl ?_
      refine st_op (ev_fieldAddr rfl fa26_5 (o' := 5) rfl) rfl rfl rfl ?_
      refine st_op (ev_load rfl (lvar_one one2 h32 rfl)) rfl rfl rfl ?_
      refine st_op (ev_fieldAddr rfl fa26_6 (o' := 6) rfl) rfl rfl rfl ?_
      refine st_op (ev_load rfl (lvar_one one2 h32 rfl)) rfl rfl rfl ?_
      obtain ⟨b34, H35, he36, b34e, H35n_, hm38, f37⟩ := mem_lit H28 (xs := ([.int .i64 index, .int .i64 logterm, .int .i64 commit] : List Value)) (m := 3) (rows := [[.int .i64 index], [.int .i64 logterm], [.int .i64 commit]]) rfl eok103 (by decide) (by decide) zf2 rfl (allLen rfl) rfl
      replace hm38 : My H28 H35 (some ⟨b34, 0, none⟩) 3 1 ([index, logterm, commit].map i64c) := hm38
      refine st_op (he36 _ _ _ _ _ _ _ _ rfl) rfl rfl rfl ?_
      have hx39 : Ext H28 H35 := Ext.new (by omega) H35n_ f37
      have H35n : H28.next ≤ H35.next := hx39.1
      refine st_call rfl rfl rfl ent30 rfl rfl rfl ?_
      obtain ⟨_, H41, hs40, hs40v, hx42⟩ := raft_in_spec H35 0 (by decide) (some ⟨b34, 0, none⟩) ([index, logterm, commit]) 3 (My.row hm38) (My.capF hm38 (by first | omega | (simp only [List.length_append, List.length_cons, List.length_nil, List.length_map, List.length_set, List.length_replicate, Spec.bytesOf_length]; omega) | (simp; omega))) (by first | omega | (simp only [List.length_append, List.length_cons, List.length_nil, List.length_map, List.length_set, List.length_replicate, Spec.bytesOf_length]; omega) | (simp; omega))
      rw [hs40v] at hs40; clear hs40v
      refine ⟨_, H41, hs40, ?_⟩
      have H41n : H35.next ≤ H41.next := hx42.1
      refine st_op (ev_not rfl) rfl rfl rfl ?_
      refine st_op (ev_pickF rfl rfl) rfl rfl rfl ?_
      refine st_op (ev_move rfl) rfl rfl rfl ?_
      refine st_bool 43 rfl (fun hb43 => ?_) (fun hb43 => ?_)
      ·
       replace hb43 : (Spec.inF (0 : Int) 1099511627776 ([index, logterm, commit])) = false := by rw [Bool.not_eq_true'] at hb43; exact hb43
       have hb43m := Spec.inF_threeN hb43
       iterate 3 refine st_skip rfl rfl rfl ?_
       refine st_op (ev_pickT rfl rfl) rfl rfl rfl ?_
       try show aw _ _ _ _ _ _
       refine aw_cond (t := true) rfl ?_
       try show aw _ _ _ _ _ _
       refine aw_seq ?_
       refine aw_reg ?_
       refine st_op (ev_assign rfl) rfl rfl rfl ?_
       try show aw _ _ _ _ _ _
       refine aw_ret ?_
       have hx44 : Ext H H41 := (Ext.trans (Ext.trans (Ext.trans (Ext.trans (Ext.trans (Ext.trans hx6 hx11) hx17) hx26) hx29) hx39) hx42)
       have hres : (Spec.mayMsg kind from_ to_ term index logterm commit yes es s_index s_term s_conf s_data) = false := by first | exact Spec.mayMsg_f1 (by omega) | exact Spec.mayMsg_f2 (by assumption) | exact Spec.mayMsg_f3 (by assumption) (by omega) (by omega) | (rw [Spec.mayMsg_last (by omega) (by assumption) (fun h => by first | omega | exact Bool.noConfusion (h.symm.trans (show yes = false by assumption)))]; rw [if_pos (by omega), show (Spec.decC s_conf).2 = false by assumption]; rfl)
       exact ⟨.bool false, rfl, by first | (rw [hres]; done) | rw [← hres], hx44⟩
      ·
       replace hb43 : (Spec.inF (0 : Int) 1099511627776 ([index, logterm, commit])) = true := by rw [Bool.not_eq_false'] at hb43; exact hb43
       have hb43m := Spec.inF_three hb43
       have hx46 : Ext H28 H41 := (Ext.trans hx39 hx42)
       have h45 := Ext.blk hx46 (by omega) h32
       refine st_op (ev_load rfl (lvar_part (l := [.int .i64 kind, .int .i64 from_, .int .i64 to_, .int .i64 term, .int .i64 index, .int .i64 logterm, .int .i64 commit, .bool yes, .slice esA es.length esc, .int .i64 s_index, .int .i64 s_term, .string s_conf, .string s_data]) many26 h45 rfl rfl (by decide))) rfl rfl rfl ?_
       refine st_call rfl rfl rfl ent31 rfl rfl rfl ?_
       have hx48 : Ext H H41 := (Ext.trans (Ext.trans (Ext.trans (Ext.trans (Ext.trans (Ext.trans hx6 hx11) hx17) hx26) hx29) hx39) hx42)
       have h47 := Row.ext hes hx48
       obtain ⟨_, H50, hs49, hs49v, hx51⟩ := raft_entries_spec H41 kind from_ to_ term index ⟨by omega, by omega⟩ logterm commit yes esA es esc h47 ces (by first | omega | (simp only [List.length_append, List.length_cons, List.length_nil, List.length_map, List.length_set, List.length_replicate, Spec.bytesOf_length]; omega) | (simp; omega)) s_index s_term s_conf (by first | omega | (simp only [List.length_append, List.length_cons, List.length_nil, List.length_map, List.length_set, List.length_replicate, Spec.bytesOf_length]; omega) | (simp; omega)) s_data (by first | omega | (simp only [List.length_append, List.length_cons, List.length_nil, List.length_map, List.length_set, List.length_replicate, Spec.bytesOf_length]; omega) | (simp; omega))
       rw [hs49v] at hs49; clear hs49v
       refine ⟨_, H50, hs49, ?_⟩
       have H50n : H41.next ≤ H50.next := hx51.1
       refine st_op (ev_not rfl) rfl rfl rfl ?_
       refine st_op (ev_pickF rfl rfl) rfl rfl rfl ?_
       try show aw _ _ _ _ _ _
       by_cases hc52 : (!(Spec.entR term index logterm es && decide (es.length ≤ 8 ∧ (es.length = 0 ∨ kind = 3)))) = true
       ·
        refine aw_condT hc52 rfl ?_
        try show aw _ _ _ _ _ _
        replace hc52 : (Spec.entR term index logterm es && decide (es.length ≤ 8 ∧ (es.length = 0 ∨ kind = 3))) = false := by rw [Bool.not_eq_true'] at hc52; exact hc52
        refine aw_seq ?_
        refine aw_reg ?_
        refine st_op (ev_assign rfl) rfl rfl rfl ?_
        try show aw _ _ _ _ _ _
        refine aw_ret ?_
        have hx53 : Ext H H50 := (Ext.trans hx48 hx51)
        have hres : (Spec.mayMsg kind from_ to_ term index logterm commit yes es s_index s_term s_conf s_data) = false := by first | exact Spec.mayMsg_f1 (by omega) | exact Spec.mayMsg_f2 (by assumption) | exact Spec.mayMsg_f3 (by assumption) (by omega) (by omega) | (rw [Spec.mayMsg_last (by omega) (by assumption) (fun h => by first | omega | exact Bool.noConfusion (h.symm.trans (show yes = false by assumption)))]; rw [if_pos (by omega), show (Spec.decC s_conf).2 = false by assumption]; rfl)
        exact ⟨.bool false, rfl, by first | (rw [hres]; done) | rw [← hres], hx53⟩
       ·
        rw [Bool.not_eq_true] at hc52; refine aw_condF hc52 rfl ?_
        try show aw _ _ _ _ _ _
        replace hc52 : (Spec.entR term index logterm es && decide (es.length ≤ 8 ∧ (es.length = 0 ∨ kind = 3))) = true := by rw [Bool.not_eq_false'] at hc52; exact hc52
        refine aw_skip ?_
        try show aw _ _ _ _ _ _
        iterate 2 refine aw_seq ?_
        refine aw_reg ?_
        refine st_op (ev_fieldAddr rfl fa26_7 (o' := 7) rfl) rfl rfl rfl ?_
        have h54 := Ext.blk hx51 (by omega) h45
        refine st_op (ev_load rfl (lvar_one one4 h54 rfl)) rfl rfl rfl ?_
        refine st_op (ev_move rfl) rfl rfl rfl ?_
        refine st_bool 50 rfl (fun hb55 => ?_) (fun hb55 => ?_)
        ·
         refine st_op (ev_fieldAddr rfl fa26_0 (o' := 0) rfl) rfl rfl rfl ?_
         refine st_op (ev_load rfl (lvar_one one3 h54 rfl)) rfl rfl rfl ?_
         refine st_op (ev_int rfl rfl rfl) rfl rfl rfl ?_
         refine st_op (ev_pickT rfl rfl) rfl rfl rfl ?_
         refine st_op (ev_move rfl) rfl rfl rfl ?_
         refine st_bool 55 rfl (fun hb56 => ?_) (fun hb56 => ?_)
         ·
          have hb56 : ¬ (kind = 2) := by simpa using hb56
          refine st_op (ev_fieldAddr rfl fa26_0 (o' := 0) rfl) rfl rfl rfl ?_
          refine st_op (ev_load rfl (lvar_one one3 h54 rfl)) rfl rfl rfl ?_
          refine st_op (ev_int rfl rfl rfl) rfl rfl rfl ?_
          refine st_op (ev_pickT rfl rfl) rfl rfl rfl ?_
          try show aw _ _ _ _ _ _
          by_cases hc57 : (kind != 4) = true
          ·
           refine aw_condT hc57 rfl ?_
           try show aw _ _ _ _ _ _
           have hc57 : ¬ (kind = 4) := by simpa using hc57
           refine aw_seq ?_
           refine aw_reg ?_
           refine st_op (ev_assign rfl) rfl rfl rfl ?_
           try show aw _ _ _ _ _ _
           refine aw_ret ?_
           have hx58 : Ext H H50 := (Ext.trans hx48 hx51)
           have hres : (Spec.mayMsg kind from_ to_ term index logterm commit yes es s_index s_term s_conf s_data) = false := by first | exact Spec.mayMsg_f1 (by omega) | exact Spec.mayMsg_f2 (by assumption) | exact Spec.mayMsg_f3 (by assumption) (by omega) (by omega) | (rw [Spec.mayMsg_last (by omega) (by assumption) (fun h => by first | omega | exact Bool.noConfusion (h.symm.trans (show yes = false by assumption)))]; rw [if_pos (by omega), show (Spec.decC s_conf).2 = false by assumption]; rfl)
           exact ⟨.bool false, rfl, by first | (rw [hres]; done) | rw [← hres], hx58⟩
          ·
           rw [Bool.not_eq_true] at hc57; refine aw_condF hc57 rfl ?_
           try show aw _ _ _ _ _ _
           have hc57 : (kind = 4) := by simpa using hc57
           refine aw_skip ?_
           try show aw _ _ _ _ _ _
           iterate 2 refine aw_seq ?_
           refine aw_reg ?_
           refine st_op (ev_fieldAddr rfl fa26_0 (o' := 0) rfl) rfl rfl rfl ?_
           refine st_op (ev_load rfl (lvar_one one3 h54 rfl)) rfl rfl rfl ?_
           refine st_op (ev_int rfl rfl rfl) rfl rfl rfl ?_
           try show aw _ _ _ _ _ _
           by_cases hc59 : (kind != 5) = true
           ·
            refine aw_condT hc59 rfl ?_
            try show aw _ _ _ _ _ _
            have hc59 : ¬ (kind = 5) := by simpa using hc59
            refine aw_seq ?_
            refine aw_reg ?_
            refine st_op (ev_fieldAddr rfl fa26_9 (o' := 9) rfl) rfl rfl rfl ?_
            refine st_op (ev_load rfl (lvar_part (l := [.int .i64 s_index, .int .i64 s_term, .string s_conf, .string s_data]) many24 h54 rfl rfl (by decide))) rfl rfl rfl ?_
            refine st_op (ev_build zero24 pl24 (parts := []) rfl (cs := [.int .i64 0, .int .i64 0, .string (⟨#[]⟩), .string (⟨#[]⟩)]) rfl) rfl rfl rfl ?_
            obtain ⟨q60, hq61, hi62⟩ : ∃ q, bin.eqCells [.int .i64 s_index, .int .i64 s_term, .string s_conf, .string s_data] [.int .i64 0, .int .i64 0, .string (⟨#[]⟩), .string (⟨#[]⟩)] = some q ∧ (q = true ↔ s_index = 0 ∧ s_term = 0 ∧ s_conf = (⟨#[]⟩ : ByteArray) ∧ s_data = (⟨#[]⟩ : ByteArray)) := ⟨_, rfl, by simp [Bool.and_eq_true, ba_beq]⟩
            refine st_op (ev_agg rfl rfl (by rw [eqt24, show fitAgg Tryz.prog 24 (#[.int .i64 s_index, .int .i64 s_term, .string s_conf, .string s_data] : Array Value).toList = true from fit24 s_index s_term s_conf s_data]; rfl) hq61 rfl) rfl rfl rfl ?_
            refine st_op (ev_assign rfl) rfl rfl rfl ?_
            try show aw _ _ _ _ _ _
            refine aw_ret ?_
            have hx63 : Ext H H50 := (Ext.trans hx48 hx51)
            have hres : (Spec.mayMsg kind from_ to_ term index logterm commit yes es s_index s_term s_conf s_data) = q60 := by rw [Spec.mayMsg_last (by omega) (by assumption) (fun h => by first | omega | exact Bool.noConfusion (h.symm.trans (show yes = false by assumption)))]; rw [if_neg (by omega)]; exact Spec.snap0_iff (by assumption)
            exact ⟨.bool q60, rfl, by first | (rw [hres]; done) | rw [← hres], hx63⟩
           ·
            rw [Bool.not_eq_true] at hc59; refine aw_condF hc59 rfl ?_
            try show aw _ _ _ _ _ _
            have hc59 : (kind = 5) := by simpa using hc59
            exfalso; omega
         ·
          have hb56 : (kind = 2) := by simpa using hb56
          iterate 3 refine st_skip rfl rfl rfl ?_
          refine st_op (ev_pickF rfl rfl) rfl rfl rfl ?_
          try show aw _ _ _ _ _ _
          refine aw_cond (t := false) rfl ?_
          try show aw _ _ _ _ _ _
          refine aw_skip ?_
          try show aw _ _ _ _ _ _
          iterate 2 refine aw_seq ?_
          refine aw_reg ?_
          refine st_op (ev_fieldAddr rfl fa26_0 (o' := 0) rfl) rfl rfl rfl ?_
          refine st_op (ev_load rfl (lvar_one one3 h54 rfl)) rfl rfl rfl ?_
          refine st_op (ev_int rfl rfl rfl) rfl rfl rfl ?_
          try show aw _ _ _ _ _ _
          by_cases hc64 : (kind != 5) = true
          ·
           refine aw_condT hc64 rfl ?_
           try show aw _ _ _ _ _ _
           have hc64 : ¬ (kind = 5) := by simpa using hc64
           refine aw_seq ?_
           refine aw_reg ?_
           refine st_op (ev_fieldAddr rfl fa26_9 (o' := 9) rfl) rfl rfl rfl ?_
           refine st_op (ev_load rfl (lvar_part (l := [.int .i64 s_index, .int .i64 s_term, .string s_conf, .string s_data]) many24 h54 rfl rfl (by decide))) rfl rfl rfl ?_
           refine st_op (ev_build zero24 pl24 (parts := []) rfl (cs := [.int .i64 0, .int .i64 0, .string (⟨#[]⟩), .string (⟨#[]⟩)]) rfl) rfl rfl rfl ?_
           obtain ⟨q65, hq66, hi67⟩ : ∃ q, bin.eqCells [.int .i64 s_index, .int .i64 s_term, .string s_conf, .string s_data] [.int .i64 0, .int .i64 0, .string (⟨#[]⟩), .string (⟨#[]⟩)] = some q ∧ (q = true ↔ s_index = 0 ∧ s_term = 0 ∧ s_conf = (⟨#[]⟩ : ByteArray) ∧ s_data = (⟨#[]⟩ : ByteArray)) := ⟨_, rfl, by simp [Bool.and_eq_true, ba_beq]⟩
           refine st_op (ev_agg rfl rfl (by rw [eqt24, show fitAgg Tryz.prog 24 (#[.int .i64 s_index, .int .i64 s_term, .string s_conf, .string s_data] : Array Value).toList = true from fit24 s_index s_term s_conf s_data]; rfl) hq66 rfl) rfl rfl rfl ?_
           refine st_op (ev_assign rfl) rfl rfl rfl ?_
           try show aw _ _ _ _ _ _
           refine aw_ret ?_
           have hx68 : Ext H H50 := (Ext.trans hx48 hx51)
           have hres : (Spec.mayMsg kind from_ to_ term index logterm commit yes es s_index s_term s_conf s_data) = q65 := by rw [Spec.mayMsg_last (by omega) (by assumption) (fun h => by first | omega | exact Bool.noConfusion (h.symm.trans (show yes = false by assumption)))]; rw [if_neg (by omega)]; exact Spec.snap0_iff (by assumption)
           exact ⟨.bool q65, rfl, by first | (rw [hres]; done) | rw [← hres], hx68⟩
          ·
           rw [Bool.not_eq_true] at hc64; refine aw_condF hc64 rfl ?_
           try show aw _ _ _ _ _ _
           have hc64 : (kind = 5) := by simpa using hc64
           exfalso; omega
        ·
         iterate 3 refine st_skip rfl rfl rfl ?_
         refine st_op (ev_pickF rfl rfl) rfl rfl rfl ?_
         refine st_op (ev_move rfl) rfl rfl rfl ?_
         iterate 3 refine st_skip rfl rfl rfl ?_
         refine st_op (ev_pickF rfl rfl) rfl rfl rfl ?_
         try show aw _ _ _ _ _ _
         refine aw_cond (t := false) rfl ?_
         try show aw _ _ _ _ _ _
         refine aw_skip ?_
         try show aw _ _ _ _ _ _
         iterate 2 refine aw_seq ?_
         refine aw_reg ?_
         refine st_op (ev_fieldAddr rfl fa26_0 (o' := 0) rfl) rfl rfl rfl ?_
         refine st_op (ev_load rfl (lvar_one one3 h54 rfl)) rfl rfl rfl ?_
         refine st_op (ev_int rfl rfl rfl) rfl rfl rfl ?_
         try show aw _ _ _ _ _ _
         by_cases hc69 : (kind != 5) = true
         ·
          refine aw_condT hc69 rfl ?_
          try show aw _ _ _ _ _ _
          have hc69 : ¬ (kind = 5) := by simpa using hc69
          refine aw_seq ?_
          refine aw_reg ?_
          refine st_op (ev_fieldAddr rfl fa26_9 (o' := 9) rfl) rfl rfl rfl ?_
          refine st_op (ev_load rfl (lvar_part (l := [.int .i64 s_index, .int .i64 s_term, .string s_conf, .string s_data]) many24 h54 rfl rfl (by decide))) rfl rfl rfl ?_
          refine st_op (ev_build zero24 pl24 (parts := []) rfl (cs := [.int .i64 0, .int .i64 0, .string (⟨#[]⟩), .string (⟨#[]⟩)]) rfl) rfl rfl rfl ?_
          obtain ⟨q70, hq71, hi72⟩ : ∃ q, bin.eqCells [.int .i64 s_index, .int .i64 s_term, .string s_conf, .string s_data] [.int .i64 0, .int .i64 0, .string (⟨#[]⟩), .string (⟨#[]⟩)] = some q ∧ (q = true ↔ s_index = 0 ∧ s_term = 0 ∧ s_conf = (⟨#[]⟩ : ByteArray) ∧ s_data = (⟨#[]⟩ : ByteArray)) := ⟨_, rfl, by simp [Bool.and_eq_true, ba_beq]⟩
          refine st_op (ev_agg rfl rfl (by rw [eqt24, show fitAgg Tryz.prog 24 (#[.int .i64 s_index, .int .i64 s_term, .string s_conf, .string s_data] : Array Value).toList = true from fit24 s_index s_term s_conf s_data]; rfl) hq71 rfl) rfl rfl rfl ?_
          refine st_op (ev_assign rfl) rfl rfl rfl ?_
          try show aw _ _ _ _ _ _
          refine aw_ret ?_
          have hx73 : Ext H H50 := (Ext.trans hx48 hx51)
          have hres : (Spec.mayMsg kind from_ to_ term index logterm commit yes es s_index s_term s_conf s_data) = q70 := by rw [Spec.mayMsg_last (by omega) (by assumption) (fun h => by first | omega | exact Bool.noConfusion (h.symm.trans (show yes = false by assumption)))]; rw [if_neg (by omega)]; exact Spec.snap0_iff (by assumption)
          exact ⟨.bool q70, rfl, by first | (rw [hres]; done) | rw [← hres], hx73⟩
         ·
          rw [Bool.not_eq_true] at hc69; refine aw_condF hc69 rfl ?_
          try show aw _ _ _ _ _ _
          have hc69 : (kind = 5) := by simpa using hc69
          refine aw_skip ?_
          try show aw _ _ _ _ _ _
          refine aw_seq ?_
          refine aw_reg ?_
          refine st_op (ev_fieldAddr rfl fa26_9 (o' := 9) rfl) rfl rfl rfl ?_
          refine st_op (ev_fieldAddr rfl fa24_2 (o' := 11) rfl) rfl rfl rfl ?_
          refine st_op (ev_load rfl (lvar_one one9 h54 rfl)) rfl rfl rfl ?_
          refine st_call rfl rfl rfl ent32 rfl rfl rfl ?_
          obtain ⟨_, H75, hs74, A77, c78, hs74v, hm79, hx76⟩ := conf_Decode_spec H50 s_conf (by omega)
          rw [hs74v] at hs74; clear hs74v
          refine ⟨_, H75, hs74, ?_⟩
          have H75n : H50.next ≤ H75.next := hx76.1
          refine st_op (ev_move rfl) rfl rfl rfl ?_
          iterate 2 refine st_op (ev_extract rfl rfl) rfl rfl rfl ?_
          iterate 2 refine st_op (ev_assign rfl) rfl rfl rfl ?_
          try show aw _ _ _ _ _ _
          refine aw_seq ?_
          refine aw_reg ?_
          iterate 2 refine st_op (ev_move rfl) rfl rfl rfl ?_
          refine st_bool 75 rfl (fun hb80 => ?_) (fun hb80 => ?_)
          ·
           refine st_op (ev_fieldAddr rfl fa26_9 (o' := 9) rfl) rfl rfl rfl ?_
           have h81 := Ext.blk hx76 (by omega) h54
           refine st_op (ev_load rfl (lvar_part (l := [.int .i64 s_index, .int .i64 s_term, .string s_conf, .string s_data]) many24 h81 rfl rfl (by decide))) rfl rfl rfl ?_
           refine st_call rfl rfl rfl ent33 rfl rfl rfl ?_
           obtain ⟨_, H83, hs82, A85, c86, hs82v, hm87, hq88, hq89, hq90, hx84⟩ := wal_PutSnap_spec H75 s_index s_term s_conf s_data
           rw [hs82v] at hs82; clear hs82v
           refine ⟨_, H83, hs82, ?_⟩
           have H83n : H75.next ≤ H83.next := hx84.1
           refine st_op (ev_nilSlNe rfl rfl Tryz.underlying68) rfl rfl rfl ?_
           refine st_op (ev_pickT rfl rfl) rfl rfl rfl ?_
           refine st_op (ev_assign rfl) rfl rfl rfl ?_
           try show aw _ _ _ _ _ _
           refine aw_ret ?_
           have hx91 : Ext H H83 := (Ext.trans (Ext.trans (Ext.trans hx48 hx51) hx76) hx84)
           have hres : (Spec.mayMsg kind from_ to_ term index logterm commit yes es s_index s_term s_conf s_data) = (!(Option.isNone A85)) := by rw [Spec.mayMsg_last (by omega) (by assumption) (fun h => by first | omega | exact Bool.noConfusion (h.symm.trans (show yes = false by assumption)))]; rw [if_pos (by omega), show (Spec.decC s_conf).2 = true by assumption, Bool.true_and]; exact (Spec.nil_iff (by assumption)).symm
           exact ⟨.bool (!(Option.isNone A85)), rfl, by first | (rw [hres]; done) | rw [← hres], hx91⟩
          ·
           iterate 4 refine st_skip rfl rfl rfl ?_
           refine st_op (ev_pickF rfl rfl) rfl rfl rfl ?_
           refine st_op (ev_assign rfl) rfl rfl rfl ?_
           try show aw _ _ _ _ _ _
           refine aw_ret ?_
           have hx92 : Ext H H75 := (Ext.trans (Ext.trans hx48 hx51) hx76)
           have hres : (Spec.mayMsg kind from_ to_ term index logterm commit yes es s_index s_term s_conf s_data) = false := by first | exact Spec.mayMsg_f1 (by omega) | exact Spec.mayMsg_f2 (by assumption) | exact Spec.mayMsg_f3 (by assumption) (by omega) (by omega) | (rw [Spec.mayMsg_last (by omega) (by assumption) (fun h => by first | omega | exact Bool.noConfusion (h.symm.trans (show yes = false by assumption)))]; rw [if_pos (by omega), show (Spec.decC s_conf).2 = false by assumption]; rfl)
           exact ⟨.bool false, rfl, by first | (rw [hres]; done) | rw [← hres], hx92⟩
theorem law24_begun_ran : okF (runF Tryz.prog X0 1000 40 9 [] Hp.nil) = true := by kernel_rfl
theorem law24_begun_spec (H : Heap) : ∃ v H', Spec Tryz.prog 9 [] H v H' ∧ (v = .bool true ∧ H' = H) := ⟨_, _, okF_any mixed law24_begun_ran H, rfl, rfl⟩
theorem raft_say0_spec (H : Heap) (rid : Int) (hrid : 1 ≤ rid ∧ rid ≤ 7) (rt : Int) (rv : Int) (x : Int) (hx : 0 ≤ x ∧ x ≤ 2199023255552) (tm : Int) (cf : ByteArray) (hcf : cf.size ≤ 1073741824) (dt : ByteArray) (lA : Option Addr) (l : List Entry) (lc : Nat) (hl : Row H lA lc 4 (l.map Entry.cells)) (cl : l.length ≤ lc) (ll : l.length ≤ 200) (g : Nat) (hg : g < H.next) (Bg : H.blk g = some ⟨[.int .i64 x, .int .i64 tm, .string cf, .string dt, .slice lA l.length lc], 0, false, false⟩) (uk : Spec.LogOk x tm l) (cmt : Int) (role : Int) (ldr : Int) (hrd : Bool)   (msH : Heap) (msA : Option Addr) (ms : List MsgC) (msc : Nat) (hms : My msH H msA msc 13 (ms.map MsgC.cells)) (nms : msH.next ≤ H.next) (lms : ms.length ≤ 100) (msE : Heap) (ems : Each MsgC.sub msE H ms) (nems : msE.next ≤ H.next) (oh : Bool) (of_ : Int) (os_ : Bool) (r : Nat) (hr : r < H.next) (Br : H.blk r = some ⟨[.int .i64 rid, .int .i64 rt, .int .i64 rv, .pointer (some ⟨g, 0, none⟩), .int .i64 cmt, .int .i64 role, .int .i64 ldr, .bool hrd, .pointer none, .pointer none, .slice msA ms.length msc, .bool oh, .int .i64 of_, .bool os_], 0, false, false⟩) (ugr : g < r) (kind : Int) (from_ : Int) (to_ : Int) (term : Int) (index : Int) (logterm : Int) (commit : Int) (yes : Bool)  (s_index : Int) (s_term : Int) (s_conf : ByteArray) (s_data : ByteArray) : ∃ v H', Spec Tryz.prog 45 [.pointer (some ⟨r, 0, none⟩), .agg #[.int .i64 kind, .int .i64 from_, .int .i64 to_, .int .i64 term, .int .i64 index, .int .i64 logterm, .int .i64 commit, .bool yes, .slice none 0 0, .int .i64 s_index, .int .i64 s_term, .string s_conf, .string s_data]] H v H' ∧ (∃ rA0 rc0, (v = .tuple #[]) ∧ (My msH H' rA0 rc0 13 ((ms ++ [(⟨kind, rid, to_, rt, index, logterm, commit, yes, [], none, 0, ⟨s_index, s_term, s_conf, s_data⟩⟩ : MsgC)]).map MsgC.cells)) ∧ (Each MsgC.sub msE H' (ms ++ [(⟨kind, rid, to_, rt, index, logterm, commit, yes, [], none, 0, ⟨s_index, s_term, s_conf, s_data⟩⟩ : MsgC)])) ∧ (H'.blk r = some ⟨[.int .i64 rid, .int .i64 rt, .int .i64 rv, .pointer (some ⟨g, 0, none⟩), .int .i64 cmt, .int .i64 role, .int .i64 ldr, .bool hrd, .pointer none, .pointer none, .slice rA0 ((ms ++ [(⟨kind, rid, to_, rt, index, logterm, commit, yes, [], none, 0, ⟨s_index, s_term, s_conf, s_data⟩⟩ : MsgC)]).length) rc0, .bool oh, .int .i64 of_, .bool os_], 0, false, false⟩) ∧ (Fr (fun q => q = r ∨ (msH.next ≤ q ∧ q < H.next ∧ ZB H q 13)) H H')) := by
 refine spec_go2 E0_ok 27 (f := 45) Tryz.func45 rfl rfl rfl ?_
 refine aw_seq ?_
 refine aw_reg ?_
 obtain ⟨b1, H2, he3, b1e, H2n_, hB5, f4⟩ := mem_box (P := Tryz.prog) H (v := .agg #[.int .i64 kind, .int .i64 from_, .int .i64 to_, .int .i64 term, .int .i64 index, .int .i64 logterm, .int .i64 commit, .bool yes, .slice none 0 0, .int .i64 s_index, .int .i64 s_term, .string s_conf, .string s_data]) (cs := [.int .i64 kind, .int .i64 from_, .int .i64 to_, .int .i64 term, .int .i64 index, .int .i64 logterm, .int .i64 commit, .bool yes, .slice none 0 0, .int .i64 s_index, .int .i64 s_term, .string s_conf, .string s_data]) rfl rfl
 refine st_op (he3 _ _ _ _ _ _ _ _ _ rfl) rfl rfl rfl ?_
 have hx6 : Ext H H2 := Ext.new (by omega) H2n_ f4
 have H2n : H.next ≤ H2.next := hx6.1
 try show aw _ _ _ _ _ _
 refine aw_seq ?_
 refine aw_marks (fun b => b < H2.next ∧ b ≠ b1) [(false, false), (false, false), (false, false), (false, false), (false, false), (false, false), (false, false), (false, false), (true, false), (false, false), (false, true), (false, false), (false, false)] mixed (by kernel_rfl) (by kernel_rfl) ?_
 refine sm_op (ev_move rfl) rfl rfl rfl ?_
 refine sm_op (ev_nilCheck rfl) rfl rfl rfl ?_
 refine sm_op (ev_fieldAddr rfl fa80_0 (o' := 0) rfl) rfl rfl rfl ?_
 have h7 := Ext.blk hx6 (by omega) Br
 refine sm_op (ev_load rfl (lvar_one one3 h7 rfl)) rfl rfl rfl ?_
 refine sm_op (ev_move rfl) rfl rfl rfl ?_
 refine sm_op (ev_nilCheck rfl) rfl rfl rfl ?_
 refine sm_op (ev_fieldAddr rfl fa80_1 (o' := 1) rfl) rfl rfl rfl ?_
 refine sm_op (ev_fieldAddr rfl fa35_0 (o' := 1) rfl) rfl rfl rfl ?_
 refine sm_read (ev_load rfl (lvar_one one2 h7 rfl)) rfl rfl rfl (fun b hb => by cases hb; dsimp only <;> omega) ?_
 refine sm_op (ev_fieldAddr rfl fa26_1 (o' := 1) rfl) rfl rfl rfl ?_
 obtain ⟨H8, he9, H8n_, hB10, f11⟩ := mem_store (v := .int .i64 rid) (o := 1) (cs' := [.int .i64 kind, .int .i64 rid, .int .i64 to_, .int .i64 term, .int .i64 index, .int .i64 logterm, .int .i64 commit, .bool yes, .slice none 0 0, .int .i64 s_index, .int .i64 s_term, .string s_conf, .string s_data]) 1 rfl rfl size3 hB5 rfl rfl rfl
 refine sm_act0 (he9 _ _ _ _ _ _ _ _ _ rfl rfl) rfl rfl (fun q hq => f11 q (by omega)) ?_
 have hf12 : Fr (fun q => q = b1) H2 H8 := Fr.write H8n_ f11
 have H8n : H2.next ≤ H8.next := hf12.1
 refine sm_op (ev_fieldAddr rfl fa26_3 (o' := 3) rfl) rfl rfl rfl ?_
 obtain ⟨H13, he14, H13n_, hB15, f16⟩ := mem_store (v := .int .i64 rt) (o := 3) (cs' := [.int .i64 kind, .int .i64 rid, .int .i64 to_, .int .i64 rt, .int .i64 index, .int .i64 logterm, .int .i64 commit, .bool yes, .slice none 0 0, .int .i64 s_index, .int .i64 s_term, .string s_conf, .string s_data]) 1 rfl rfl size2 hB10 rfl rfl rfl
 refine sm_op0 (he14 _ _ _ _ _ _ _ _ _ rfl rfl) rfl rfl ?_
 have hf17 : Fr (fun q => q = b1) H8 H13 := Fr.write H13n_ f16
 have H13n : H8.next ≤ H13.next := hf17.1
 try show aw _ _ _ _ _ _
 refine aw_marks (fun b => b < H13.next) [(false, false), (false, false), (false, false), (false, false), (false, false), (true, false), (false, false), (false, true), (false, false), (false, false), (false, false), (false, false), (false, false)] mixed (by kernel_rfl) (by kernel_rfl) ?_
 iterate 2 refine sm_op (ev_move rfl) rfl rfl rfl ?_
 refine sm_op (ev_nilCheck rfl) rfl rfl rfl ?_
 refine sm_op (ev_fieldAddr rfl fa80_9 (o' := 10) rfl) rfl rfl rfl ?_
 refine sm_op (ev_fieldAddr rfl fa40_0 (o' := 10) rfl) rfl rfl rfl ?_
 have hx19 : Ext H H13 := (Ext.then (Ext.then hx6 hf12 (fun q hq e => by omega)) hf17 (fun q hq e => by omega))
 have h18 := Ext.blk hx19 (by omega) Br
 refine sm_read (ev_load rfl (lvar_one one38 h18 rfl)) rfl rfl rfl (fun b hb => by cases hb; dsimp only <;> omega) ?_
 refine sm_op (ev_load rfl (lvar_part (l := [.int .i64 kind, .int .i64 rid, .int .i64 to_, .int .i64 rt, .int .i64 index, .int .i64 logterm, .int .i64 commit, .bool yes, .slice none 0 0, .int .i64 s_index, .int .i64 s_term, .string s_conf, .string s_data]) many26 hB15 rfl rfl (by decide))) rfl rfl rfl ?_
 obtain ⟨b20, H21, he22, b20e, H21n_, hm24, f23⟩ := mem_lit H13 (xs := ([.agg #[.int .i64 kind, .int .i64 rid, .int .i64 to_, .int .i64 rt, .int .i64 index, .int .i64 logterm, .int .i64 commit, .bool yes, .slice none 0 0, .int .i64 s_index, .int .i64 s_term, .string s_conf, .string s_data]] : List Value)) (m := 1) (rows := [[.int .i64 kind, .int .i64 rid, .int .i64 to_, .int .i64 rt, .int .i64 index, .int .i64 logterm, .int .i64 commit, .bool yes, .slice none 0 0, .int .i64 s_index, .int .i64 s_term, .string s_conf, .string s_data]]) rfl eok38 (by decide) (by decide) zf26 rfl (allLen rfl) rfl
 replace hm24 : My H13 H21 (some ⟨b20, 0, none⟩) 1 13 ([(⟨kind, rid, to_, rt, index, logterm, commit, yes, ([] : List Entry), none, 0, (⟨s_index, s_term, s_conf, s_data⟩ : Snap)⟩ : MsgC)].map MsgC.cells) := hm24
 refine sm_act (he22 _ _ _ _ _ _ _ _ rfl) rfl rfl rfl (fun q hq => f23 q (by omega)) ?_
 have hx25 : Ext H13 H21 := Ext.new (by omega) H21n_ f23
 have H21n : H13.next ≤ H21.next := hx25.1
 have hE26 : Each MsgC.sub H21 H21 ([(⟨kind, rid, to_, rt, index, logterm, commit, yes, ([] : List Entry), none, 0, (⟨s_index, s_term, s_conf, s_data⟩ : Snap)⟩ : MsgC)]) := Each.one (My.nil)
 have hx28 : Ext H H21 := (Ext.trans hx19 hx25)
 have h27 := My.ext hms hx28
 obtain ⟨A29, c30, H31, W32, he33, hm34, hf35⟩ := mem_append (f := MsgC.cells) (old := ms) (new := [(⟨kind, rid, to_, rt, index, logterm, commit, yes, ([] : List Entry), none, 0, (⟨s_index, s_term, s_conf, s_data⟩ : Snap)⟩ : MsgC)]) (m := ms.length) (mx := 1) (c := msc) (by first | rfl | simp) (by first | rfl | simp) eok38 (by decide) hms h27 (by omega) (((My.row hm24)).srcF (by decide) (by first | rfl | simp)) rfl MsgC.cells_len MsgC.cells_one (by first | omega | (simp only [List.length_append, List.length_cons, List.length_nil, List.length_map, List.length_set, List.length_replicate, Spec.bytesOf_length]; omega) | (simp; omega)) (by first | omega | (simp only [List.length_append, List.length_cons, List.length_nil, List.length_map, List.length_set, List.length_replicate, Spec.bytesOf_length]; omega) | (simp; omega))
 refine sm_op (he33 _ _ _ _ _ _ _ _ _ _ rfl rfl isrow38) rfl rfl rfl ?_
 have H31n : H21.next ≤ H31.next := hf35.1
 have h37 := Each.ext ems hx28
 have h38 := Each.frS h37 hf35 (fun q hq e => (ZB.ne e.2.2 (show (13 : Nat) ≠ 4 by decide)))
 have h39 := Each.frS hE26 hf35 (fun q hq e => (ZB.ne e.2.2 (show (13 : Nat) ≠ 4 by decide)))
 have hE36 : Each MsgC.sub msE H31 (ms ++ [(⟨kind, rid, to_, rt, index, logterm, commit, yes, ([] : List Entry), none, 0, (⟨s_index, s_term, s_conf, s_data⟩ : Snap)⟩ : MsgC)]) := Each.append h38 (Each.older h39 (by omega))
 refine sm_op (ev_nilCheck rfl) rfl rfl rfl ?_
 refine sm_op (ev_fieldAddr rfl fa80_9 (o' := 10) rfl) rfl rfl rfl ?_
 refine sm_op (ev_fieldAddr rfl fa40_0 (o' := 10) rfl) rfl rfl rfl ?_
 have h40 := Ext.blk hx25 (by omega) h18
 have h41 := Fr.blk hf35 (by omega) (fun e => (zb_ne h40 e.2.2 (show (0 : Nat) ≠ 13 by decide))) h40
 obtain ⟨H42, he43, H42n_, hB44, f45⟩ := mem_store (v := .slice A29 ((ms ++ [(⟨kind, rid, to_, rt, index, logterm, commit, yes, ([] : List Entry), none, 0, (⟨s_index, s_term, s_conf, s_data⟩ : Snap)⟩ : MsgC)]).length) c30) (o := 10) (cs' := [.int .i64 rid, .int .i64 rt, .int .i64 rv, .pointer (some ⟨g, 0, none⟩), .int .i64 cmt, .int .i64 role, .int .i64 ldr, .bool hrd, .pointer none, .pointer none, .slice A29 ((ms ++ [(⟨kind, rid, to_, rt, index, logterm, commit, yes, ([] : List Entry), none, 0, (⟨s_index, s_term, s_conf, s_data⟩ : Snap)⟩ : MsgC)]).length) c30, .bool oh, .int .i64 of_, .bool os_]) 1 rfl rfl size38 h41 rfl rfl rfl
 refine sm_op0 (he43 _ _ _ _ _ _ _ _ _ rfl rfl) rfl rfl ?_
 have hf46 : Fr (fun q => q = r) H31 H42 := Fr.write H42n_ f45
 have H42n : H31.next ≤ H42.next := hf46.1
 try show aw _ _ _ _ _ _
 have h47 := My.frS hm34 hf46 (fun q hq e => ⟨_, e ▸ h41, show (0 : Nat) ≠ 13 by decide⟩)
 have h48 := Each.frS hE36 hf46 (fun q hq e => ⟨_, e ▸ h41, show (0 : Nat) ≠ 4 by decide⟩)
 have hres : (ms ++ [(⟨kind, rid, to_, rt, index, logterm, commit, yes, [], none, 0, ⟨s_index, s_term, s_conf, s_data⟩⟩ : MsgC)]) = (ms ++ [(⟨kind, rid, to_, rt, index, logterm, commit, yes, ([] : List Entry), none, 0, (⟨s_index, s_term, s_conf, s_data⟩ : Snap)⟩ : MsgC)]) := by first | rfl | simp
 exact ⟨.tuple #[], rfl, A29, c30, rfl, (by rw [hres]; exact h47), (by rw [hres]; exact h48), (by rw [hres]; exact hB44), (Fr.transG (Fr.transG (Fr.trans (Fr.transG (Fr.transG (Fr.trans (Fr.refl (fun q => q = r ∨ (msH.next ≤ q ∧ q < H.next ∧ ZB H q 13)) H) (hx6.fr fun _ => False) (fun q hq (e : False) => e.elim)) hf12 (fun q hq hE e => absurd hq (by omega))) hf17 (fun q hq hE e => absurd hq (by omega))) (hx25.fr fun _ => False) (fun q hq (e : False) => e.elim)) hf35 (fun q hq hE e => Or.inr ((⟨by omega, by omega, ZB.back hE e.2.2⟩)))) hf46 (fun q hq hE e => Or.inl (e)))⟩
theorem raft_did_spec (H : Heap) (rid : Int) (hrid : 1 ≤ rid ∧ rid ≤ 7) (rt : Int) (rv : Int) (x : Int) (hx : 0 ≤ x ∧ x ≤ 2199023255552) (tm : Int) (cf : ByteArray) (hcf : cf.size ≤ 1073741824) (dt : ByteArray) (lA : Option Addr) (l : List Entry) (lc : Nat) (hl : Row H lA lc 4 (l.map Entry.cells)) (cl : l.length ≤ lc) (ll : l.length ≤ 200) (g : Nat) (hg : g < H.next) (Bg : H.blk g = some ⟨[.int .i64 x, .int .i64 tm, .string cf, .string dt, .slice lA l.length lc], 0, false, false⟩) (uk : Spec.LogOk x tm l) (cmt : Int) (role : Int) (ldr : Int) (hrd : Bool)   (msH : Heap) (msA : Option Addr) (ms : List MsgC) (msc : Nat) (hms : My msH H msA msc 13 (ms.map MsgC.cells)) (nms : msH.next ≤ H.next) (lms : ms.length ≤ 100) (msE : Heap) (ems : Each MsgC.sub msE H ms) (nems : msE.next ≤ H.next) (oh : Bool) (of_ : Int) (os_ : Bool) (r : Nat) (hr : r < H.next) (Br : H.blk r = some ⟨[.int .i64 rid, .int .i64 rt, .int .i64 rv, .pointer (some ⟨g, 0, none⟩), .int .i64 cmt, .int .i64 role, .int .i64 ldr, .bool hrd, .pointer none, .pointer none, .slice msA ms.length msc, .bool oh, .int .i64 of_, .bool os_], 0, false, false⟩) (ugr : g < r) : ∃ v H', Spec Tryz.prog 46 [.pointer (some ⟨r, 0, none⟩)] H v H' ∧ (∃ rA0 rc0, (v = .agg #[.slice rA0 ms.length rc0, .bool oh, .int .i64 of_, .bool os_]) ∧ (My msH H' rA0 rc0 13 (ms.map MsgC.cells)) ∧ (Each MsgC.sub msE H' ms) ∧ (H'.blk r = some ⟨[.int .i64 rid, .int .i64 rt, .int .i64 rv, .pointer (some ⟨g, 0, none⟩), .int .i64 cmt, .int .i64 role, .int .i64 ldr, .bool hrd, .pointer none, .pointer none, .slice none 0 0, .bool false, .int .i64 0, .bool false], 0, false, false⟩) ∧ (Fr (fun q => q = r ∨ (msH.next ≤ q ∧ q < H.next ∧ ZB H q 13)) H H')) := by
 refine spec_go1 E0_ok 13 (f := 46) Tryz.func46 rfl rfl rfl ?_
 refine aw_seq ?_
 refine aw_reg ?_
 obtain ⟨b1, H2, he3, b1e, H2n_, hB5, f4⟩ := mem_alloc H zero40
 refine st_op (he3 _ _ _ _ _ _ _) rfl rfl rfl ?_
 have hx6 : Ext H H2 := Ext.new (by omega) H2n_ f4
 have H2n : H.next ≤ H2.next := hx6.1
 try show aw _ _ _ _ _ _
 refine aw_seq ?_
 refine aw_reg ?_
 refine st_op (ev_move rfl) rfl rfl rfl ?_
 refine st_op (ev_nilCheck rfl) rfl rfl rfl ?_
 refine st_op (ev_fieldAddr rfl fa80_9 (o' := 10) rfl) rfl rfl rfl ?_
 have h7 := Ext.blk hx6 (by omega) Br
 refine st_op (ev_load rfl (lvar_part (l := [.slice msA ms.length msc, .bool oh, .int .i64 of_, .bool os_]) many40 h7 rfl rfl (by decide))) rfl rfl rfl ?_
 obtain ⟨b8, H9, he10, b8e, H9n_, hB12, f11⟩ := mem_alloc H2 zero40
 refine st_op (he10 _ _ _ _ _ _ _) rfl rfl rfl ?_
 have hx13 : Ext H2 H9 := Ext.new (by omega) H9n_ f11
 have H9n : H2.next ≤ H9.next := hx13.1
 obtain ⟨H14, he15, H14n_, hB16, f17⟩ := mem_store (v := .agg #[.slice msA ms.length msc, .bool oh, .int .i64 of_, .bool os_]) (o := 0) (cs' := [.slice msA ms.length msc, .bool oh, .int .i64 of_, .bool os_]) 4 rfl rfl size40 hB12 rfl rfl rfl
 refine st_op0 (he15 _ _ _ _ _ _ _ _ _ rfl rfl) rfl rfl ?_
 have hf18 : Fr (fun q => q = b8) H9 H14 := Fr.write H14n_ f17
 have H14n : H9.next ≤ H14.next := hf18.1
 try show aw _ _ _ _ _ _
 refine aw_seq ?_
 refine aw_reg ?_
 refine st_op (ev_move rfl) rfl rfl rfl ?_
 refine st_op (ev_build zero40 pl40 (parts := []) rfl (cs := [.slice none 0 0, .bool false, .int .i64 0, .bool false]) rfl) rfl rfl rfl ?_
 refine st_op (ev_nilCheck rfl) rfl rfl rfl ?_
 refine st_op (ev_fieldAddr rfl fa80_9 (o' := 10) rfl) rfl rfl rfl ?_
 have hx20 : Ext H2 H14 := (Ext.then hx13 hf18 (fun q hq e => by omega))
 have h19 := Ext.blk hx20 (by omega) h7
 obtain ⟨H21, he22, H21n_, hB23, f24⟩ := mem_store (v := .agg #[.slice none 0 0, .bool false, .int .i64 0, .bool false]) (o := 10) (cs' := [.int .i64 rid, .int .i64 rt, .int .i64 rv, .pointer (some ⟨g, 0, none⟩), .int .i64 cmt, .int .i64 role, .int .i64 ldr, .bool hrd, .pointer none, .pointer none, .slice none 0 0, .bool false, .int .i64 0, .bool false]) 4 rfl rfl size40 h19 rfl rfl rfl
 refine st_op0 (he22 _ _ _ _ _ _ _ _ _ rfl rfl) rfl rfl ?_
 have hf25 : Fr (fun q => q = r) H14 H21 := Fr.write H21n_ f24
 have H21n : H14.next ≤ H21.next := hf25.1
 try show aw _ _ _ _ _ _
 refine aw_seq ?_
 refine aw_reg ?_
 have h26 := Fr.blk hf25 (by omega) (fun e => (by omega)) hB16
 refine st_op (ev_load rfl (lvar_part (l := [.slice msA ms.length msc, .bool oh, .int .i64 of_, .bool os_]) many40 h26 rfl rfl (by decide))) rfl rfl rfl ?_
 have h27 := Ext.blk hx20 (by omega) hB5
 have h28 := Fr.blk hf25 (by omega) (fun e => (by omega)) h27
 obtain ⟨H29, he30, H29n_, hB31, f32⟩ := mem_store (v := .agg #[.slice msA ms.length msc, .bool oh, .int .i64 of_, .bool os_]) (o := 0) (cs' := [.slice msA ms.length msc, .bool oh, .int .i64 of_, .bool os_]) 4 rfl rfl size40 h28 rfl rfl rfl
 refine st_op0 (he30 _ _ _ _ _ _ _ _ _ rfl rfl) rfl rfl ?_
 have hf33 : Fr (fun q => q = b1) H21 H29 := Fr.write H29n_ f32
 have H29n : H21.next ≤ H29.next := hf33.1
 try show aw _ _ _ _ _ _
 refine aw_ret ?_
 have hx35 : Ext H H14 := (Ext.then (Ext.trans hx6 hx13) hf18 (fun q hq e => by omega))
 have h34 := My.ext hms hx35
 have h36 := My.frS h34 hf25 (fun q hq e => ⟨_, e ▸ h19, show (0 : Nat) ≠ 13 by decide⟩)
 have h37 := My.frS h36 hf33 (fun q hq e => ⟨_, e ▸ h28, show (0 : Nat) ≠ 13 by decide⟩)
 have hx39 : Ext H H14 := (Ext.then (Ext.trans hx6 hx13) hf18 (fun q hq e => by omega))
 have h38 := Each.ext ems hx39
 have h40 := Each.frS h38 hf25 (fun q hq e => ⟨_, e ▸ h19, show (0 : Nat) ≠ 4 by decide⟩)
 have h41 := Each.frS h40 hf33 (fun q hq e => ⟨_, e ▸ h28, show (0 : Nat) ≠ 4 by decide⟩)
 have h42 := Fr.blk hf33 (by omega) (fun e => (by omega)) hB23
 have hres : ms = ms := by rfl
 exact ⟨.agg #[.slice msA ms.length msc, .bool oh, .int .i64 of_, .bool os_], (resA_of (resL_cell rfl (lvar_part (l := [.slice msA ms.length msc, .bool oh, .int .i64 of_, .bool os_]) many40 hB31 rfl rfl (by decide)) resL_nil) rfl), msA, msc, by first | (rw [hres]; first | done | rfl | simp; done) | rfl, (by first | exact h37 | (rw [hres]; exact h37)), (by first | exact h41 | (rw [hres]; exact h41)), (by first | exact h42 | (rw [hres]; exact h42)), (Fr.transG (Fr.transG (Fr.transG (Fr.trans (Fr.trans (Fr.refl (fun q => q = r ∨ (msH.next ≤ q ∧ q < H.next ∧ ZB H q 13)) H) (hx6.fr fun _ => False) (fun q hq (e : False) => e.elim)) (hx13.fr fun _ => False) (fun q hq (e : False) => e.elim)) hf18 (fun q hq hE e => absurd hq (by omega))) hf25 (fun q hq hE e => Or.inl (e))) hf33 (fun q hq hE e => absurd hq (by omega)))⟩
theorem raft_hard_spec (H : Heap) (rid : Int) (hrid : 1 ≤ rid ∧ rid ≤ 7) (rt : Int) (rv : Int) (x : Int) (hx : 0 ≤ x ∧ x ≤ 2199023255552) (tm : Int) (cf : ByteArray) (hcf : cf.size ≤ 1073741824) (dt : ByteArray) (lA : Option Addr) (l : List Entry) (lc : Nat) (hl : Row H lA lc 4 (l.map Entry.cells)) (cl : l.length ≤ lc) (ll : l.length ≤ 200) (g : Nat) (hg : g < H.next) (Bg : H.blk g = some ⟨[.int .i64 x, .int .i64 tm, .string cf, .string dt, .slice lA l.length lc], 0, false, false⟩) (uk : Spec.LogOk x tm l) (cmt : Int) (role : Int) (ldr : Int) (hrd : Bool)    (oh : Bool) (of_ : Int) (os_ : Bool) (r : Nat) (hr : r < H.next) (Br : H.blk r = some ⟨[.int .i64 rid, .int .i64 rt, .int .i64 rv, .pointer (some ⟨g, 0, none⟩), .int .i64 cmt, .int .i64 role, .int .i64 ldr, .bool hrd, .pointer none, .pointer none, .slice none 0 0, .bool oh, .int .i64 of_, .bool os_], 0, false, false⟩) (ugr : g < r) (h_term : Int) (h_vote : Int) : ∃ v H', Spec Tryz.prog 56 [.pointer (some ⟨r, 0, none⟩), .agg #[.int .i64 h_term, .int .i64 h_vote]] H v H' ∧ ((v = .tuple #[]) ∧ (H'.blk r = some ⟨[.int .i64 rid, .int .i64 h_term, .int .i64 h_vote, .pointer (some ⟨g, 0, none⟩), .int .i64 cmt, .int .i64 role, .int .i64 ldr, .bool hrd, .pointer none, .pointer none, .slice none 0 0, .bool (oh || decide (h_term ≠ rt ∨ h_vote ≠ rv)), .int .i64 of_, .bool os_], 0, false, false⟩) ∧ (Fr (fun q => q = r) H H')) := by
 refine spec_go2 E0_ok 25 (f := 56) Tryz.func56 rfl rfl rfl ?_
 refine aw_seq ?_
 refine aw_reg ?_
 obtain ⟨b1, H2, he3, b1e, H2n_, hB5, f4⟩ := mem_box (P := Tryz.prog) H (v := .agg #[.int .i64 h_term, .int .i64 h_vote]) (cs := [.int .i64 h_term, .int .i64 h_vote]) rfl rfl
 refine st_op (he3 _ _ _ _ _ _ _ _ _ rfl) rfl rfl rfl ?_
 have hx6 : Ext H H2 := Ext.new (by omega) H2n_ f4
 have H2n : H.next ≤ H2.next := hx6.1
 try show aw _ _ _ _ _ _
 refine aw_seq ?_
 refine aw_marks (fun b => b < H2.next) [(false, false), (false, false), (false, false), (false, false), (false, false), (false, false), (false, false), (false, false), (false, false), (false, false), (false, false), (false, false), (false, false), (false, false), (false, false), (false, false), (false, false), (false, false)] mixed (by kernel_rfl) (by kernel_rfl) ?_
 iterate 2 refine sm_op (ev_move rfl) rfl rfl rfl ?_
 refine sm_op (ev_nilCheck rfl) rfl rfl rfl ?_
 refine sm_op (ev_fieldAddr rfl fa80_9 (o' := 10) rfl) rfl rfl rfl ?_
 refine sm_op (ev_fieldAddr rfl fa40_1 (o' := 11) rfl) rfl rfl rfl ?_
 have h7 := Ext.blk hx6 (by omega) Br
 refine sm_op (ev_load rfl (lvar_one one4 h7 rfl)) rfl rfl rfl ?_
 refine sm_op (ev_move rfl) rfl rfl rfl ?_
 refine sm_bool 10 rfl (fun hb8 => ?_) (fun hb8 => ?_)
 ·
  iterate 6 refine sm_skip rfl rfl rfl ?_
  refine sm_op (ev_pickT rfl rfl) rfl rfl rfl ?_
  refine sm_op (ev_nilCheck rfl) rfl rfl rfl ?_
  refine sm_op (ev_fieldAddr rfl fa80_9 (o' := 10) rfl) rfl rfl rfl ?_
  refine sm_op (ev_fieldAddr rfl fa40_1 (o' := 11) rfl) rfl rfl rfl ?_
  obtain ⟨H9, he10, H9n_, hB11, f12⟩ := mem_store (v := .bool true) (o := 11) (cs' := [.int .i64 rid, .int .i64 rt, .int .i64 rv, .pointer (some ⟨g, 0, none⟩), .int .i64 cmt, .int .i64 role, .int .i64 ldr, .bool hrd, .pointer none, .pointer none, .slice none 0 0, .bool true, .int .i64 of_, .bool os_]) 1 rfl rfl size4 h7 rfl rfl rfl
  refine sm_op0 (he10 _ _ _ _ _ _ _ _ _ rfl rfl) rfl rfl ?_
  have hf13 : Fr (fun q => q = r) H2 H9 := Fr.write H9n_ f12
  have H9n : H2.next ≤ H9.next := hf13.1
  try show aw _ _ _ _ _ _
  refine aw_reg ?_
  refine st_op (ev_move rfl) rfl rfl rfl ?_
  have h14 := Fr.blk hf13 (by omega) (fun e => (by omega)) hB5
  refine st_op (ev_load rfl (lvar_part (l := [.int .i64 h_term, .int .i64 h_vote]) many35 h14 rfl rfl (by decide))) rfl rfl rfl ?_
  refine st_op (ev_nilCheck rfl) rfl rfl rfl ?_
  refine st_op (ev_fieldAddr rfl fa80_1 (o' := 1) rfl) rfl rfl rfl ?_
  obtain ⟨H15, he16, H15n_, hB17, f18⟩ := mem_store (v := .agg #[.int .i64 h_term, .int .i64 h_vote]) (o := 1) (cs' := [.int .i64 rid, .int .i64 h_term, .int .i64 h_vote, .pointer (some ⟨g, 0, none⟩), .int .i64 cmt, .int .i64 role, .int .i64 ldr, .bool hrd, .pointer none, .pointer none, .slice none 0 0, .bool true, .int .i64 of_, .bool os_]) 2 rfl rfl size35 hB11 rfl rfl rfl
  refine st_op0 (he16 _ _ _ _ _ _ _ _ _ rfl rfl) rfl rfl ?_
  have hf19 : Fr (fun q => q = r) H9 H15 := Fr.write H15n_ f18
  have H15n : H9.next ≤ H15.next := hf19.1
  try show aw _ _ _ _ _ _
  have hres : (oh || decide (h_term ≠ rt ∨ h_vote ≠ rv)) = true := by simp_all
  exact ⟨.tuple #[], rfl, rfl, (by rw [hres]; exact hB17), (Fr.transG (Fr.transG (Fr.trans (Fr.refl (fun q => q = r) H) (hx6.fr fun _ => False) (fun q hq (e : False) => e.elim)) hf13 (fun q hq hE e => (e))) hf19 (fun q hq hE e => (e)))⟩
 ·
  refine sm_op (ev_load rfl (lvar_part (l := [.int .i64 h_term, .int .i64 h_vote]) many35 hB5 rfl rfl (by decide))) rfl rfl rfl ?_
  refine sm_op (ev_move rfl) rfl rfl rfl ?_
  refine sm_op (ev_nilCheck rfl) rfl rfl rfl ?_
  refine sm_op (ev_fieldAddr rfl fa80_1 (o' := 1) rfl) rfl rfl rfl ?_
  refine sm_op (ev_load rfl (lvar_part (l := [.int .i64 rt, .int .i64 rv]) many35 h7 rfl rfl (by decide))) rfl rfl rfl ?_
  obtain ⟨q20, hq21, hi22⟩ : ∃ q, bin.eqCells [.int .i64 h_term, .int .i64 h_vote] [.int .i64 rt, .int .i64 rv] = some q ∧ (q = true ↔ h_term = rt ∧ h_vote = rv) := ⟨_, rfl, by simp [Bool.and_eq_true, ba_beq]⟩
  refine sm_op (ev_aggNe rfl rfl (by rw [eqt35, show fitAgg Tryz.prog 35 (#[.int .i64 h_term, .int .i64 h_vote] : Array Value).toList = true from fit35 h_term h_vote]; rfl) hq21 rfl) rfl rfl rfl ?_
  refine sm_op (ev_pickF rfl rfl) rfl rfl rfl ?_
  refine sm_op (ev_nilCheck rfl) rfl rfl rfl ?_
  refine sm_op (ev_fieldAddr rfl fa80_9 (o' := 10) rfl) rfl rfl rfl ?_
  refine sm_op (ev_fieldAddr rfl fa40_1 (o' := 11) rfl) rfl rfl rfl ?_
  obtain ⟨H23, he24, H23n_, hB25, f26⟩ := mem_store (v := .bool (!q20)) (o := 11) (cs' := [.int .i64 rid, .int .i64 rt, .int .i64 rv, .pointer (some ⟨g, 0, none⟩), .int .i64 cmt, .int .i64 role, .int .i64 ldr, .bool hrd, .pointer none, .pointer none, .slice none 0 0, .bool (!q20), .int .i64 of_, .bool os_]) 1 rfl rfl size4 h7 rfl rfl rfl
  refine sm_op0 (he24 _ _ _ _ _ _ _ _ _ rfl rfl) rfl rfl ?_
  have hf27 : Fr (fun q => q = r) H2 H23 := Fr.write H23n_ f26
  have H23n : H2.next ≤ H23.next := hf27.1
  try show aw _ _ _ _ _ _
  refine aw_reg ?_
  refine st_op (ev_move rfl) rfl rfl rfl ?_
  have h28 := Fr.blk hf27 (by omega) (fun e => (by omega)) hB5
  refine st_op (ev_load rfl (lvar_part (l := [.int .i64 h_term, .int .i64 h_vote]) many35 h28 rfl rfl (by decide))) rfl rfl rfl ?_
  refine st_op (ev_nilCheck rfl) rfl rfl rfl ?_
  refine st_op (ev_fieldAddr rfl fa80_1 (o' := 1) rfl) rfl rfl rfl ?_
  obtain ⟨H29, he30, H29n_, hB31, f32⟩ := mem_store (v := .agg #[.int .i64 h_term, .int .i64 h_vote]) (o := 1) (cs' := [.int .i64 rid, .int .i64 h_term, .int .i64 h_vote, .pointer (some ⟨g, 0, none⟩), .int .i64 cmt, .int .i64 role, .int .i64 ldr, .bool hrd, .pointer none, .pointer none, .slice none 0 0, .bool (!q20), .int .i64 of_, .bool os_]) 2 rfl rfl size35 hB25 rfl rfl rfl
  refine st_op0 (he30 _ _ _ _ _ _ _ _ _ rfl rfl) rfl rfl ?_
  have hf33 : Fr (fun q => q = r) H23 H29 := Fr.write H29n_ f32
  have H29n : H23.next ≤ H29.next := hf33.1
  try show aw _ _ _ _ _ _
  have hres : (oh || decide (h_term ≠ rt ∨ h_vote ≠ rv)) = (!q20) := by cases q20 <;> simp_all <;> omega
  exact ⟨.tuple #[], rfl, rfl, (by rw [hres]; exact hB31), (Fr.transG (Fr.transG (Fr.trans (Fr.refl (fun q => q = r) H) (hx6.fr fun _ => False) (fun q hq (e : False) => e.elim)) hf27 (fun q hq hE e => (e))) hf33 (fun q hq hE e => (e)))⟩
theorem raft_yield_spec (H : Heap) (rid : Int) (hrid : 1 ≤ rid ∧ rid ≤ 7) (rt : Int) (rv : Int) (x : Int) (hx : 0 ≤ x ∧ x ≤ 2199023255552) (tm : Int) (cf : ByteArray) (hcf : cf.size ≤ 1073741824) (dt : ByteArray) (lA : Option Addr) (l : List Entry) (lc : Nat) (hl : Row H lA lc 4 (l.map Entry.cells)) (cl : l.length ≤ lc) (ll : l.length ≤ 200) (g : Nat) (hg : g < H.next) (Bg : H.blk g = some ⟨[.int .i64 x, .int .i64 tm, .string cf, .string dt, .slice lA l.length lc], 0, false, false⟩) (uk : Spec.LogOk x tm l) (cmt : Int) (role : Int) (ldr : Int) (hrd : Bool)    (oh : Bool) (of_ : Int) (os_ : Bool) (r : Nat) (hr : r < H.next) (Br : H.blk r = some ⟨[.int .i64 rid, .int .i64 rt, .int .i64 rv, .pointer (some ⟨g, 0, none⟩), .int .i64 cmt, .int .i64 role, .int .i64 ldr, .bool hrd, .pointer none, .pointer none, .slice none 0 0, .bool oh, .int .i64 of_, .bool os_], 0, false, false⟩) (ugr : g < r) (tq : Int) : ∃ v H', Spec Tryz.prog 44 [.pointer (some ⟨r, 0, none⟩), .int .i64 tq] H v H' ∧ ((v = .tuple #[]) ∧ (H'.blk r = some ⟨[.int .i64 rid, .int .i64 tq, .int .i64 0, .pointer (some ⟨g, 0, none⟩), .int .i64 cmt, .int .i64 0, .int .i64 0, .bool hrd, .pointer none, .pointer none, .slice none 0 0, .bool (oh || decide (tq ≠ rt ∨ 0 ≠ rv)), .int .i64 of_, .bool os_], 0, false, false⟩) ∧ (Fr (fun q => q = r) H H')) := by
 refine spec_go2 E0_ok 14 (f := 44) Tryz.func44 rfl rfl rfl ?_
 refine aw_seq ?_
 refine aw_reg ?_
 iterate 2 refine st_op (ev_move rfl) rfl rfl rfl ?_
 refine st_op (ev_build zero35 pl35 (parts := [(0, .int .i64 tq)]) rfl (cs := [.int .i64 tq, .int .i64 0]) rfl) rfl rfl rfl ?_
 refine st_call rfl rfl rfl ent56 rfl rfl rfl ?_
 obtain ⟨_, H2, hs1, hs1v, hB4, hx3⟩ := raft_hard_spec H rid ⟨by omega, by omega⟩ rt rv x ⟨by omega, by omega⟩ tm cf (by omega) dt lA l lc hl cl (by omega) g (by omega) Bg (by assumption) cmt role ldr hrd    oh of_ os_ r (by omega) Br (by omega) tq (0 : Int)
 rw [hs1v] at hs1; clear hs1v
 refine ⟨_, H2, hs1, ?_⟩
 have H2n : H.next ≤ H2.next := hx3.1
 try show aw _ _ _ _ _ _
 refine aw_reg ?_
 iterate 2 refine st_op (ev_move rfl) rfl rfl rfl ?_
 refine st_op (ev_nilCheck rfl) rfl rfl rfl ?_
 refine st_op (ev_fieldAddr rfl fa80_4 (o' := 5) rfl) rfl rfl rfl ?_
 obtain ⟨H5, he6, H5n_, hB7, f8⟩ := mem_store (v := .int .i64 0) (o := 5) (cs' := [.int .i64 rid, .int .i64 tq, .int .i64 (0 : Int), .pointer (some ⟨g, 0, none⟩), .int .i64 cmt, .int .i64 0, .int .i64 ldr, .bool hrd, .pointer none, .pointer none, .slice none 0 0, .bool (oh || decide (tq ≠ rt ∨ (0 : Int) ≠ rv)), .int .i64 of_, .bool os_]) 1 rfl rfl size3 hB4 rfl rfl rfl
 refine st_op0 (he6 _ _ _ _ _ _ _ _ _ rfl rfl) rfl rfl ?_
 have hf9 : Fr (fun q => q = r) H2 H5 := Fr.write H5n_ f8
 have H5n : H2.next ≤ H5.next := hf9.1
 refine st_op (ev_nilCheck rfl) rfl rfl rfl ?_
 refine st_op (ev_fieldAddr rfl fa80_5 (o' := 6) rfl) rfl rfl rfl ?_
 obtain ⟨H10, he11, H10n_, hB12, f13⟩ := mem_store (v := .int .i64 0) (o := 6) (cs' := [.int .i64 rid, .int .i64 tq, .int .i64 (0 : Int), .pointer (some ⟨g, 0, none⟩), .int .i64 cmt, .int .i64 0, .int .i64 0, .bool hrd, .pointer none, .pointer none, .slice none 0 0, .bool (oh || decide (tq ≠ rt ∨ (0 : Int) ≠ rv)), .int .i64 of_, .bool os_]) 1 rfl rfl size3 hB7 rfl rfl rfl
 refine st_op0 (he11 _ _ _ _ _ _ _ _ _ rfl rfl) rfl rfl ?_
 have hf14 : Fr (fun q => q = r) H5 H10 := Fr.write H10n_ f13
 have H10n : H5.next ≤ H10.next := hf14.1
 try show aw _ _ _ _ _ _
 have hres : (oh || decide (tq ≠ rt ∨ 0 ≠ rv)) = (oh || decide (tq ≠ rt ∨ (0 : Int) ≠ rv)) := by rfl
 exact ⟨.tuple #[], rfl, rfl, (by rw [hres]; exact hB12), (Fr.transG (Fr.transG (Fr.transG (Fr.refl (fun q => q = r) H) hx3 (fun q hq hE e => (e))) hf9 (fun q hq hE e => (e))) hf14 (fun q hq hE e => (e)))⟩
theorem rlog_First_spec (H : Heap) (x : Int) (hx : 0 ≤ x ∧ x ≤ 2199023255552) (tm : Int) (cf : ByteArray) (hcf : cf.size ≤ 1073741824) (dt : ByteArray) (lA : Option Addr) (l : List Entry) (lc : Nat) (hl : Row H lA lc 4 (l.map Entry.cells)) (cl : l.length ≤ lc) (ll : l.length ≤ 200) (g : Nat) (hg : g < H.next) (Bg : H.blk g = some ⟨[.int .i64 x, .int .i64 tm, .string cf, .string dt, .slice lA l.length lc], 0, false, false⟩) (uk : Spec.LogOk x tm l) : ∃ v H', Spec Tryz.prog 66 [.pointer (some ⟨g, 0, none⟩)] H v H' ∧ ((v = .int .i64 (x + 1)) ∧ (Ext H H')) := by
 refine spec_go1 E0_ok 11 (f := 66) Tryz.func66 rfl rfl rfl ?_
 refine aw_seq ?_
 refine aw_reg ?_
 refine st_op (ev_assign rfl) rfl rfl rfl ?_
 try show aw _ _ _ _ _ _
 iterate 2 refine aw_seq ?_
 refine aw_reg ?_
 refine st_op (ev_move rfl) rfl rfl rfl ?_
 refine st_op (ev_nilEq rfl rfl Tryz.underlying36) rfl rfl rfl ?_
 try show aw _ _ _ _ _ _
 refine aw_cond (t := false) rfl ?_
 try show aw _ _ _ _ _ _
 refine aw_skip ?_
 try show aw _ _ _ _ _ _
 refine aw_seq ?_
 refine aw_reg ?_
 refine st_op (ev_move rfl) rfl rfl rfl ?_
 refine st_op (ev_nilCheck rfl) rfl rfl rfl ?_
 refine st_op (ev_fieldAddr rfl fa85_0 (o' := 0) rfl) rfl rfl rfl ?_
 refine st_op (ev_fieldAddr rfl fa24_0 (o' := 0) rfl) rfl rfl rfl ?_
 refine st_op (ev_load rfl (lvar_one one2 Bg rfl)) rfl rfl rfl ?_
 refine st_op (ev_int64 (c := x + 1) rfl rfl rfl (by omega) (by omega)) rfl rfl rfl ?_
 refine st_op (ev_assign rfl) rfl rfl rfl ?_
 try show aw _ _ _ _ _ _
 refine aw_ret ?_
 have hres : (x + 1) = x + 1 := by rfl
 exact ⟨.int .i64 (x + 1), rfl, by first | (rw [hres]; done) | rw [← hres], (Ext.refl H)⟩
theorem rlog_Term_spec (H : Heap) (x : Int) (hx : 0 ≤ x ∧ x ≤ 2199023255552) (tm : Int) (cf : ByteArray) (hcf : cf.size ≤ 1073741824) (dt : ByteArray) (lA : Option Addr) (l : List Entry) (lc : Nat) (hl : Row H lA lc 4 (l.map Entry.cells)) (cl : l.length ≤ lc) (ll : l.length ≤ 200) (g : Nat) (hg : g < H.next) (Bg : H.blk g = some ⟨[.int .i64 x, .int .i64 tm, .string cf, .string dt, .slice lA l.length lc], 0, false, false⟩) (uk : Spec.LogOk x tm l) (i : Int) : ∃ v H', Spec Tryz.prog 61 [.pointer (some ⟨g, 0, none⟩), .int .i64 i] H v H' ∧ ((v = .tuple #[.int .i64 ((Spec.termF x tm l i).1), .bool ((Spec.termF x tm l i).2)]) ∧ (Ext H H')) := by
 refine spec_go2 E0_ok 48 (f := 61) Tryz.func61 rfl rfl rfl ?_
 refine aw_seq ?_
 refine aw_reg ?_
 iterate 2 refine st_op (ev_assign rfl) rfl rfl rfl ?_
 try show aw _ _ _ _ _ _
 refine aw_seq ?_
 refine aw_block ?_
 refine aw_seq ?_
 refine aw_reg ?_
 refine st_op (ev_move rfl) rfl rfl rfl ?_
 refine st_op (ev_nilEq rfl rfl Tryz.underlying36) rfl rfl rfl ?_
 iterate 3 refine st_op (ev_move rfl) rfl rfl rfl ?_
 refine st_op (ev_nilCheck rfl) rfl rfl rfl ?_
 refine st_op (ev_fieldAddr rfl fa85_0 (o' := 0) rfl) rfl rfl rfl ?_
 refine st_op (ev_fieldAddr rfl fa24_0 (o' := 0) rfl) rfl rfl rfl ?_
 refine st_op (ev_load rfl (lvar_one one2 Bg rfl)) rfl rfl rfl ?_
 refine st_op (ev_int rfl rfl rfl) rfl rfl rfl ?_
 refine st_op (ev_pickF rfl rfl) rfl rfl rfl ?_
 refine st_op (ev_move rfl) rfl rfl rfl ?_
 refine st_bool 18 rfl (fun hb1 => ?_) (fun hb1 => ?_)
 ·
  have hb1 := of_decide_eq_true hb1
  iterate 4 refine st_skip rfl rfl rfl ?_
  refine st_op (ev_pickT rfl rfl) rfl rfl rfl ?_
  refine st_op (ev_assign rfl) rfl rfl rfl ?_
  try show aw _ _ _ _ _ _
  refine aw_cond (t := true) rfl ?_
  try show aw _ _ _ _ _ _
  refine aw_seq ?_
  refine aw_reg ?_
  iterate 2 refine st_op (ev_assign rfl) rfl rfl rfl ?_
  try show aw _ _ _ _ _ _
  refine aw_ret ?_
  have hres : (Spec.termF x tm l i) = (0, false) := by exact Spec.termF_out (by omega)
  exact ⟨.tuple #[.int .i64 0, .bool false], rfl, by first | (rw [hres]; done) | rw [← hres], (Ext.refl H)⟩
 ·
  have hb1 := of_decide_eq_false hb1
  iterate 2 refine st_op (ev_move rfl) rfl rfl rfl ?_
  refine st_call rfl rfl rfl ent18 rfl rfl rfl ?_
  obtain ⟨_, H3, hs2, hs2v, hx4⟩ := rlog_Last_spec H x ⟨by omega, by omega⟩ tm cf (by omega) dt lA l lc hl cl (by omega) g (by omega) Bg (by assumption)
  rw [hs2v] at hs2; clear hs2v
  refine ⟨_, H3, hs2, ?_⟩
  have H3n : H.next ≤ H3.next := hx4.1
  refine st_op (ev_int rfl rfl rfl) rfl rfl rfl ?_
  refine st_op (ev_pickF rfl rfl) rfl rfl rfl ?_
  refine st_op (ev_assign rfl) rfl rfl rfl ?_
  try show aw _ _ _ _ _ _
  by_cases hc5 : (decide (i > (x + (l.length : Int)))) = true
  ·
   refine aw_condT hc5 rfl ?_
   try show aw _ _ _ _ _ _
   have hc5 := of_decide_eq_true hc5
   refine aw_seq ?_
   refine aw_reg ?_
   iterate 2 refine st_op (ev_assign rfl) rfl rfl rfl ?_
   try show aw _ _ _ _ _ _
   refine aw_ret ?_
   have hres : (Spec.termF x tm l i) = (0, false) := by exact Spec.termF_out (by omega)
   exact ⟨.tuple #[.int .i64 0, .bool false], rfl, by first | (rw [hres]; done) | rw [← hres], hx4⟩
  ·
   rw [Bool.not_eq_true] at hc5; refine aw_condF hc5 rfl ?_
   try show aw _ _ _ _ _ _
   have hc5 := of_decide_eq_false hc5
   refine aw_seq ?_
   refine aw_reg ?_
   iterate 2 refine st_op (ev_move rfl) rfl rfl rfl ?_
   refine st_op (ev_nilCheck rfl) rfl rfl rfl ?_
   refine st_op (ev_fieldAddr rfl fa85_0 (o' := 0) rfl) rfl rfl rfl ?_
   refine st_op (ev_fieldAddr rfl fa24_0 (o' := 0) rfl) rfl rfl rfl ?_
   have h6 := Ext.blk hx4 (by omega) Bg
   refine st_op (ev_load rfl (lvar_one one2 h6 rfl)) rfl rfl rfl ?_
   refine st_op (ev_int rfl rfl rfl) rfl rfl rfl ?_
   refine st_op (ev_assign rfl) rfl rfl rfl ?_
   try show aw _ _ _ _ _ _
   by_cases hc7 : (i == x) = true
   ·
    refine aw_condT hc7 rfl ?_
    try show aw _ _ _ _ _ _
    have hc7 := eq_of_beq hc7
    refine aw_seq ?_
    refine aw_reg ?_
    refine st_op (ev_move rfl) rfl rfl rfl ?_
    refine st_op (ev_nilCheck rfl) rfl rfl rfl ?_
    refine st_op (ev_fieldAddr rfl fa85_0 (o' := 0) rfl) rfl rfl rfl ?_
    refine st_op (ev_fieldAddr rfl fa24_1 (o' := 1) rfl) rfl rfl rfl ?_
    refine st_op (ev_load rfl (lvar_one one2 h6 rfl)) rfl rfl rfl ?_
    iterate 2 refine st_op (ev_assign rfl) rfl rfl rfl ?_
    try show aw _ _ _ _ _ _
    refine aw_ret ?_
    have hres : (Spec.termF x tm l i) = (tm, true) := by rw [show i = x by omega]; exact Spec.termF_base
    exact ⟨.tuple #[.int .i64 tm, .bool true], rfl, by first | (rw [hres]; done) | rw [← hres], hx4⟩
   ·
    rw [Bool.not_eq_true] at hc7; refine aw_condF hc7 rfl ?_
    try show aw _ _ _ _ _ _
    have hc7 := ne_of_beq_false hc7
    refine aw_skip ?_
    try show aw _ _ _ _ _ _
    refine aw_seq ?_
    refine aw_marks (fun b => b < H3.next) [(false, false), (false, false), (false, false), (true, false), (false, false), (false, false), (false, true), (false, false), (false, false), (false, false), (false, false), (false, false), (false, false)] mixed (by kernel_rfl) (by kernel_rfl) ?_
    refine sm_op (ev_move rfl) rfl rfl rfl ?_
    refine sm_op (ev_nilCheck rfl) rfl rfl rfl ?_
    refine sm_op (ev_fieldAddr rfl fa85_1 (o' := 4) rfl) rfl rfl rfl ?_
    refine sm_read (ev_load rfl (lvar_one one22 h6 rfl)) rfl rfl rfl (fun b hb => by cases hb; dsimp only <;> omega) ?_
    iterate 2 refine sm_op (ev_move rfl) rfl rfl rfl ?_
    refine sm_call rfl rfl rfl ent66 rfl rfl rfl ?_
    have h8 := Row.ext hl hx4
    obtain ⟨_, H10, hs9, hs9v, hx11⟩ := rlog_First_spec H3 x ⟨by omega, by omega⟩ tm cf (by omega) dt lA l lc h8 cl (by omega) g (by omega) h6 (by assumption)
    rw [hs9v] at hs9; clear hs9v
    refine ⟨_, H10, hs9, (fun _ b hb => hx11.2 b (by omega)), ?_⟩
    have H10n : H3.next ≤ H10.next := hx11.1
    refine sm_op (ev_int64 (c := i - (x + 1)) rfl rfl rfl (by omega) (by omega)) rfl rfl rfl ?_
    have h12 := Row.ext h8 hx11
    have hi13 : 0 ≤ (i - (x + 1) : Int) := by omega
    have hi14 : (i - (x + 1) : Int) < ((l.length : Nat) : Int) := by omega
    obtain ⟨x15, hx16⟩ : ∃ e, l[((i - (x + 1))).toNat]? = some e := ⟨_, List.getElem?_eq_getElem (by omega)⟩
    have x15i := uk.at_ hx16; have x15d := (uk.ents _ (List.mem_of_getElem? hx16)).2
    refine sm_op (ev_at rfl rfl h12 (getMap Entry.cells hx16) (by first | rfl | omega | simp) hi13 hi14 el22) rfl rfl rfl ?_
    refine sm_op (ev_atF rfl h12 (getMap Entry.cells hx16) fa31_1 rfl) rfl rfl rfl ?_
    refine sm_op (ev_atL rfl h12 (getMap Entry.cells hx16) one2 rfl) rfl rfl rfl ?_
    iterate 2 refine sm_op (ev_assign rfl) rfl rfl rfl ?_
    try show aw _ _ _ _ _ _
    refine aw_ret ?_
    have hx17 : Ext H H10 := (Ext.trans hx4 hx11)
    have hres : (Spec.termF x tm l i) = (x15.term, true) := by exact Spec.termF_at (by omega) (by omega) (by first | exact hx16 | (rw [show (i - (x + 1)).toNat = (i - x - 1).toNat by omega]; exact hx16))
    exact ⟨.tuple #[.int .i64 x15.term, .bool true], rfl, by first | (rw [hres]; done) | rw [← hres], hx17⟩
theorem rlog_Newer_spec (H : Heap) (x : Int) (hx : 0 ≤ x ∧ x ≤ 2199023255552) (tm : Int) (cf : ByteArray) (hcf : cf.size ≤ 1073741824) (dt : ByteArray) (lA : Option Addr) (l : List Entry) (lc : Nat) (hl : Row H lA lc 4 (l.map Entry.cells)) (cl : l.length ≤ lc) (ll : l.length ≤ 200) (g : Nat) (hg : g < H.next) (Bg : H.blk g = some ⟨[.int .i64 x, .int .i64 tm, .string cf, .string dt, .slice lA l.length lc], 0, false, false⟩) (uk : Spec.LogOk x tm l) (i : Int) (t : Int) : ∃ v H', Spec Tryz.prog 82 [.pointer (some ⟨g, 0, none⟩), .int .i64 i, .int .i64 t] H v H' ∧ ((v = .bool (Spec.newerF x tm l i t)) ∧ (Ext H H')) := by
 refine spec_go3 E0_ok 32 (f := 82) Tryz.func82 rfl rfl rfl ?_
 refine aw_seq ?_
 refine aw_reg ?_
 refine st_op (ev_assign rfl) rfl rfl rfl ?_
 try show aw _ _ _ _ _ _
 iterate 2 refine aw_seq ?_
 refine aw_reg ?_
 refine st_op (ev_move rfl) rfl rfl rfl ?_
 refine st_op (ev_nilEq rfl rfl Tryz.underlying36) rfl rfl rfl ?_
 try show aw _ _ _ _ _ _
 refine aw_cond (t := false) rfl ?_
 try show aw _ _ _ _ _ _
 refine aw_skip ?_
 try show aw _ _ _ _ _ _
 refine aw_seq ?_
 refine aw_reg ?_
 iterate 2 refine st_op (ev_move rfl) rfl rfl rfl ?_
 refine st_call rfl rfl rfl ent18 rfl rfl rfl ?_
 obtain ⟨_, H2, hs1, hs1v, hx3⟩ := rlog_Last_spec H x ⟨by omega, by omega⟩ tm cf (by omega) dt lA l lc hl cl (by omega) g (by omega) Bg (by assumption)
 rw [hs1v] at hs1; clear hs1v
 refine ⟨_, H2, hs1, ?_⟩
 have H2n : H.next ≤ H2.next := hx3.1
 refine st_call rfl rfl rfl ent61 rfl rfl rfl ?_
 have h4 := Row.ext hl hx3
 have h5 := Ext.blk hx3 (by omega) Bg
 obtain ⟨_, H7, hs6, hs6v, hx8⟩ := rlog_Term_spec H2 x ⟨by omega, by omega⟩ tm cf (by omega) dt lA l lc h4 cl (by omega) g (by omega) h5 (by assumption) (x + (l.length : Int))
 rw [hs6v] at hs6; clear hs6v
 refine ⟨_, H7, hs6, ?_⟩
 have H7n : H2.next ≤ H7.next := hx8.1
 refine st_op (ev_move rfl) rfl rfl rfl ?_
 iterate 2 refine st_op (ev_extract rfl rfl) rfl rfl rfl ?_
 iterate 2 refine st_op (ev_assign rfl) rfl rfl rfl ?_
 try show aw _ _ _ _ _ _
 refine aw_seq ?_
 refine aw_reg ?_
 iterate 2 refine st_op (ev_move rfl) rfl rfl rfl ?_
 refine st_op (ev_int rfl rfl rfl) rfl rfl rfl ?_
 refine st_op (ev_move rfl) rfl rfl rfl ?_
 refine st_bool 21 rfl (fun hb9 => ?_) (fun hb9 => ?_)
 ·
  have hb9 := of_decide_eq_true hb9
  iterate 9 refine st_skip rfl rfl rfl ?_
  refine st_op (ev_pickT rfl rfl) rfl rfl rfl ?_
  refine st_op (ev_assign rfl) rfl rfl rfl ?_
  try show aw _ _ _ _ _ _
  refine aw_ret ?_
  have hx10 : Ext H H7 := (Ext.trans hx3 hx8)
  have hres : (Spec.newerF x tm l i t) = true := by unfold Spec.newerF; rw [Bool.eq_iff_iff]; simp only [decide_eq_true_eq, Bool.false_eq_true, iff_false, iff_true, not_or, not_and, Int.not_le, gt_iff_lt, ge_iff_le] at *; omega
  exact ⟨.bool true, rfl, by first | (rw [hres]; done) | rw [← hres], hx10⟩
 ·
  have hb9 := of_decide_eq_false hb9
  iterate 2 refine st_op (ev_move rfl) rfl rfl rfl ?_
  refine st_op (ev_int rfl rfl rfl) rfl rfl rfl ?_
  refine st_op (ev_move rfl) rfl rfl rfl ?_
  refine st_bool 25 rfl (fun hb11 => ?_) (fun hb11 => ?_)
  ·
   have hb11 := eq_of_beq hb11
   iterate 2 refine st_op (ev_move rfl) rfl rfl rfl ?_
   refine st_call rfl rfl rfl ent18 rfl rfl rfl ?_
   have h12 := Row.ext h4 hx8
   have h13 := Ext.blk hx8 (by omega) h5
   obtain ⟨_, H15, hs14, hs14v, hx16⟩ := rlog_Last_spec H7 x ⟨by omega, by omega⟩ tm cf (by omega) dt lA l lc h12 cl (by omega) g (by omega) h13 (by assumption)
   rw [hs14v] at hs14; clear hs14v
   refine ⟨_, H15, hs14, ?_⟩
   have H15n : H7.next ≤ H15.next := hx16.1
   refine st_op (ev_int rfl rfl rfl) rfl rfl rfl ?_
   refine st_op (ev_pickT rfl rfl) rfl rfl rfl ?_
   refine st_op (ev_pickF rfl rfl) rfl rfl rfl ?_
   refine st_op (ev_assign rfl) rfl rfl rfl ?_
   try show aw _ _ _ _ _ _
   refine aw_ret ?_
   have hx17 : Ext H H15 := (Ext.trans (Ext.trans hx3 hx8) hx16)
   have hres : (Spec.newerF x tm l i t) = (decide (i ≥ (x + (l.length : Int)))) := by unfold Spec.newerF; rw [Bool.eq_iff_iff]; simp only [decide_eq_true_eq, Bool.false_eq_true, iff_false, iff_true, not_or, not_and, Int.not_le, gt_iff_lt, ge_iff_le] at *; omega
   exact ⟨.bool (decide (i ≥ (x + (l.length : Int)))), rfl, by first | (rw [hres]; done) | rw [← hres], hx17⟩
  ·
   have hb11 := ne_of_beq_false hb11
   iterate 4 refine st_skip rfl rfl rfl ?_
   iterate 2 refine st_op (ev_pickF rfl rfl) rfl rfl rfl ?_
   refine st_op (ev_assign rfl) rfl rfl rfl ?_
   try show aw _ _ _ _ _ _
   refine aw_ret ?_
   have hx18 : Ext H H7 := (Ext.trans hx3 hx8)
   have hres : (Spec.newerF x tm l i t) = false := by unfold Spec.newerF; rw [Bool.eq_iff_iff]; simp only [decide_eq_true_eq, Bool.false_eq_true, iff_false, iff_true, not_or, not_and, Int.not_le, gt_iff_lt, ge_iff_le] at *; omega
   exact ⟨.bool false, rfl, by first | (rw [hres]; done) | rw [← hres], hx18⟩

end Go.AM
