/- Part of a machine of its own for this claim: the program's code over memory without draws. -/
import Derived.Test.YtfodghhmglbapabSAmPNet2
import Derived.Test.YtfodghhmglbapabSAmPCf3
import Derived.Test.YtfodghhmglbapabSAmOpenK2
import Derived.Test.YtfodghhmglbapabSAmRep18
import Derived.Test.YtfodghhmglbapabSAmD
import Derived.Test.YtfodghhmglbapabSAmE
import Derived.Test.YtfodghhmglbapabProg
import Derived.KernelRfl
set_option linter.unusedVariables false
set_option linter.unusedSimpArgs false
set_option linter.unnecessarySimpa false
set_option linter.unusedVariables false
set_option linter.unusedSimpArgs false
set_option linter.unnecessarySimpa false
namespace Go.AM
open Go Go.Proofs

noncomputable def E0 : TypeId → Bool := eqTy Try.prog
theorem E0_ok : EqOk Try.prog E0 := eqTy_ok
theorem mixed : Try.prog.follows .mixedOrders = true := by kernel_rfl

noncomputable def X0 (f : FuncId) : List Tmp := (bif_ (Nat.ble 67 f) (bif_ (Nat.ble 100 f) (bif_ (Nat.ble 117 f) (bif_ (Nat.ble 125 f) (bif_ (Nat.ble 129 f) (bif_ (Nat.ble 131 f) (bif_ (Nat.ble 132 f) (bif_ (Nat.ble 133 f) [0, 1, 2, 3, 8, 9, 18] [0, 2, 3, 4, 5, 6, 7, 14, 18, 25]) [0, 1, 2, 3, 8, 9, 18]) (bif_ (Nat.ble 130 f) [0, 2] [0, 1, 2, 3, 4, 10])) (bif_ (Nat.ble 127 f) (bif_ (Nat.ble 128 f) [0, 1, 2, 6] [0, 1, 2, 3, 8, 9, 16, 36, 52]) (bif_ (Nat.ble 126 f) [0, 1, 2, 6, 8, 9, 10, 11, 12, 22] [0, 2]))) (bif_ (Nat.ble 121 f) (bif_ (Nat.ble 123 f) (bif_ (Nat.ble 124 f) [0, 2, 3, 4, 5, 30] [0, 2, 3, 4, 5, 30]) (bif_ (Nat.ble 122 f) [0, 2, 3, 4, 5, 6, 7, 8, 9, 10, 11, 12, 21, 31, 37, 43] [0, 2])) (bif_ (Nat.ble 119 f) (bif_ (Nat.ble 120 f) [0, 1, 2, 3, 4, 10] [0, 1, 2, 6]) (bif_ (Nat.ble 118 f) [0, 2] [0, 2])))) (bif_ (Nat.ble 108 f) (bif_ (Nat.ble 112 f) (bif_ (Nat.ble 114 f) (bif_ (Nat.ble 115 f) (bif_ (Nat.ble 116 f) [0, 1, 2, 3, 8, 9, 16, 36, 52] [0, 1, 2, 3, 8, 9, 10, 11, 43, 60, 65, 112, 129, 134]) [0, 1, 2, 3, 8, 9, 10, 43, 59, 64]) (bif_ (Nat.ble 113 f) [0, 1, 4] [0, 1, 2, 6, 7, 8, 9, 10, 14, 32, 37, 41, 61, 65, 78, 98, 103, 116])) (bif_ (Nat.ble 110 f) (bif_ (Nat.ble 111 f) [0, 1, 2, 6, 7, 13] [0, 1, 2, 6, 7, 8, 9, 10, 11, 12, 32, 34, 49, 51, 54]) (bif_ (Nat.ble 109 f) [0, 1, 2, 6, 7, 8, 9, 10, 15, 33, 43] [0, 1, 2, 6, 7, 8, 9, 10, 19, 30]))) (bif_ (Nat.ble 104 f) (bif_ (Nat.ble 106 f) (bif_ (Nat.ble 107 f) [0, 1, 2, 6, 7, 12, 30] [0, 1, 4]) (bif_ (Nat.ble 105 f) [0, 1, 2] [0, 1, 2, 4])) (bif_ (Nat.ble 102 f) (bif_ (Nat.ble 103 f) [0, 2, 3, 4, 5, 6, 7, 8, 9, 10, 11, 12, 13, 14, 15, 16, 25, 59, 62, 73, 84] [0, 1, 2, 21]) (bif_ (Nat.ble 101 f) [0, 2, 3, 4, 5, 6, 7, 8, 9, 10, 19, 28, 29, 39, 72] [0, 2, 3, 4, 5]))))) (bif_ (Nat.ble 83 f) (bif_ (Nat.ble 91 f) (bif_ (Nat.ble 95 f) (bif_ (Nat.ble 97 f) (bif_ (Nat.ble 98 f) (bif_ (Nat.ble 99 f) [0, 2, 3, 4, 5, 6, 7, 8, 9, 10, 11, 12, 16, 28, 36, 56, 76] [0, 2]) [0, 2]) (bif_ (Nat.ble 96 f) [0, 1, 4, 5, 7, 10, 11, 12, 13, 20, 21] [0, 1, 2, 3, 4, 8])) (bif_ (Nat.ble 93 f) (bif_ (Nat.ble 94 f) [0, 2, 4, 8, 14] [0, 2, 4, 8]) (bif_ (Nat.ble 92 f) [0, 1, 2, 3, 8, 9, 10, 11, 43, 60, 65, 112, 129, 134] [0, 1, 2, 3, 8, 9, 10, 43, 59, 64]))) (bif_ (Nat.ble 87 f) (bif_ (Nat.ble 89 f) (bif_ (Nat.ble 90 f) [0, 1, 4] [0, 1, 2, 6, 7, 8, 9, 10, 14, 32, 37, 41, 61, 65, 78, 98, 103, 116]) (bif_ (Nat.ble 88 f) [0, 1, 2, 6, 7, 13] [0, 1, 2, 6, 7, 8, 9, 10, 11, 12, 32, 34, 49, 51, 54])) (bif_ (Nat.ble 85 f) (bif_ (Nat.ble 86 f) [0, 1, 2, 6, 7, 8, 9, 10, 15, 33, 43] [0, 1, 2, 6, 7, 8, 9, 10, 19, 30]) (bif_ (Nat.ble 84 f) [0, 1, 2, 6, 7, 12, 30] [0, 1, 4, 5, 7, 8, 9, 16])))) (bif_ (Nat.ble 75 f) (bif_ (Nat.ble 79 f) (bif_ (Nat.ble 81 f) (bif_ (Nat.ble 82 f) [0, 1, 4, 5, 7, 8, 9, 16] [0, 1, 2, 3, 8, 9, 10, 11, 12, 13, 14, 15, 16, 17, 18, 23, 29, 35, 50, 68, 72, 87, 113]) (bif_ (Nat.ble 80 f) [0, 1, 2, 3, 4] [0, 2, 3, 7, 37])) (bif_ (Nat.ble 77 f) (bif_ (Nat.ble 78 f) [0, 1, 4, 8] [0, 1, 4, 5, 7, 8, 9, 16]) (bif_ (Nat.ble 76 f) [0, 1, 2, 3, 4, 5, 6, 9, 28] [0, 1, 2, 3, 4, 6, 12, 13, 14, 15, 41]))) (bif_ (Nat.ble 71 f) (bif_ (Nat.ble 73 f) (bif_ (Nat.ble 74 f) [0, 1, 4, 6, 7, 8, 9, 10, 19] [0, 2]) (bif_ (Nat.ble 72 f) [0, 1, 4] [0, 2, 3, 4, 5, 6, 7, 8, 9, 10, 50, 82])) (bif_ (Nat.ble 69 f) (bif_ (Nat.ble 70 f) [0, 2, 3, 4, 5, 6, 7, 8, 9, 13, 24] [0, 1, 4, 5, 10, 14]) (bif_ (Nat.ble 68 f) [0, 1, 4, 5, 6, 17] [0, 1, 2, 3, 4, 6, 8, 10, 29, 30, 31, 32, 40, 41, 42, 43, 54])))))) (bif_ (Nat.ble 33 f) (bif_ (Nat.ble 50 f) (bif_ (Nat.ble 58 f) (bif_ (Nat.ble 62 f) (bif_ (Nat.ble 64 f) (bif_ (Nat.ble 65 f) (bif_ (Nat.ble 66 f) [0, 2, 4] [0, 2]) [0, 1, 2, 3, 8, 9, 10, 11, 12, 13, 14, 15, 16, 17, 18, 23, 29, 35, 50, 68, 72, 87, 113]) (bif_ (Nat.ble 63 f) [0, 1, 4] [0, 1, 3])) (bif_ (Nat.ble 60 f) (bif_ (Nat.ble 61 f) [0, 1, 4, 5, 6, 7, 12, 19, 29] [0, 2]) (bif_ (Nat.ble 59 f) [0, 2, 4] [0, 1, 4, 5, 10, 14, 26]))) (bif_ (Nat.ble 54 f) (bif_ (Nat.ble 56 f) (bif_ (Nat.ble 57 f) [0, 1, 2] [0, 2, 3, 4, 5, 9, 22]) (bif_ (Nat.ble 55 f) [0, 1, 2, 3, 4] [0, 1, 2])) (bif_ (Nat.ble 52 f) (bif_ (Nat.ble 53 f) [0, 2] [0, 2]) (bif_ (Nat.ble 51 f) [0, 1, 2] [0, 1, 4, 5, 6, 7, 16])))) (bif_ (Nat.ble 41 f) (bif_ (Nat.ble 45 f) (bif_ (Nat.ble 47 f) (bif_ (Nat.ble 48 f) (bif_ (Nat.ble 49 f) [0, 1, 2, 3] [0, 1, 4, 5, 6, 7, 12, 19, 29]) [0, 1, 2, 6, 7, 16]) (bif_ (Nat.ble 46 f) [0, 1, 2, 4, 47, 59, 62] [0, 2, 3, 4, 6, 7, 8, 9, 10, 11, 17, 18, 19, 20, 25, 51])) (bif_ (Nat.ble 43 f) (bif_ (Nat.ble 44 f) [0, 1, 2, 3, 4, 5, 8, 17] [0, 1, 2]) (bif_ (Nat.ble 42 f) [0, 2] [0, 1, 4, 5, 6, 8, 17]))) (bif_ (Nat.ble 37 f) (bif_ (Nat.ble 39 f) (bif_ (Nat.ble 40 f) [0, 2, 3, 5, 8, 9, 10, 11, 12] [0, 1, 4, 5, 10, 14, 25]) (bif_ (Nat.ble 38 f) [0, 2, 3, 4, 5, 7, 8, 9, 22] [0, 2])) (bif_ (Nat.ble 35 f) (bif_ (Nat.ble 36 f) [0, 1, 4] [0, 1, 4]) (bif_ (Nat.ble 34 f) [0, 1, 3, 4, 5, 6, 24] [0, 1, 4, 5, 6, 21]))))) (bif_ (Nat.ble 16 f) (bif_ (Nat.ble 24 f) (bif_ (Nat.ble 28 f) (bif_ (Nat.ble 30 f) (bif_ (Nat.ble 31 f) (bif_ (Nat.ble 32 f) [0, 1, 2, 3, 4] [0, 1, 2, 3, 4, 5, 7, 61, 84, 91, 124, 129]) [0, 1, 2]) (bif_ (Nat.ble 29 f) [0] [0, 1, 3, 4, 5, 9])) (bif_ (Nat.ble 26 f) (bif_ (Nat.ble 27 f) [0, 1, 4, 12] [0, 2, 4]) (bif_ (Nat.ble 25 f) [0, 1, 3, 4, 19] [0, 1, 2, 3, 4, 6]))) (bif_ (Nat.ble 20 f) (bif_ (Nat.ble 22 f) (bif_ (Nat.ble 23 f) [0, 1, 4, 5, 13] [0, 1, 4, 5, 6, 7]) (bif_ (Nat.ble 21 f) [0, 1, 4, 5, 7, 8, 9, 10, 11, 16] [0, 1, 4, 5, 7, 8, 11, 12, 13, 14, 15, 21])) (bif_ (Nat.ble 18 f) (bif_ (Nat.ble 19 f) [0, 2, 3, 4, 5, 6, 7, 8, 30] [0, 2, 3, 4, 6, 14]) (bif_ (Nat.ble 17 f) [0, 1, 2, 3, 4] [0, 2, 3, 4, 7, 10, 11])))) (bif_ (Nat.ble 8 f) (bif_ (Nat.ble 12 f) (bif_ (Nat.ble 14 f) (bif_ (Nat.ble 15 f) [0, 1, 2, 3, 8, 9, 11, 18] [0, 1, 2, 6, 7, 16]) (bif_ (Nat.ble 13 f) [0, 1, 2, 6, 7, 16] [0, 1, 4, 8])) (bif_ (Nat.ble 10 f) (bif_ (Nat.ble 11 f) [0, 1, 4, 8] [0, 1, 2, 3, 6]) (bif_ (Nat.ble 9 f) [0, 1, 2, 12] [0, 1, 2, 3, 8, 9, 10, 11, 12, 13, 14, 15, 18, 32, 44, 59, 63, 87]))) (bif_ (Nat.ble 4 f) (bif_ (Nat.ble 6 f) (bif_ (Nat.ble 7 f) [0, 2, 3, 4, 5, 6, 7, 8, 9, 10, 11, 12, 13, 14, 15, 18, 27, 48, 52, 62, 79, 81, 88, 90, 95, 110, 138, 139, 157, 162, 169, 170, 222] [0, 1, 3, 5]) (bif_ (Nat.ble 5 f) [0, 1, 4, 5, 6, 7, 8, 9, 10, 11, 14, 24, 31, 40, 50, 60] [0, 1, 4, 5, 6, 7, 8, 9, 10, 13, 19, 29, 37, 44, 52, 61, 79])) (bif_ (Nat.ble 2 f) (bif_ (Nat.ble 3 f) [0, 1] []) []))))))

theorem ElemInfo.mk3 : ∃ i, Try.prog.info? 3 = some i ∧ i.size = 1 ∧ i.bytes = 8 ∧ (i.zero.map fun z => z.cells.size) = some 1 := elemInfo (by kernel_rfl)
theorem ElemInfo.mk2 : ∃ i, Try.prog.info? 2 = some i ∧ i.size = 1 ∧ i.bytes = 8 ∧ (i.zero.map fun z => z.cells.size) = some 1 := elemInfo (by kernel_rfl)
theorem ElemInfo.mk84 : ∃ i, Try.prog.info? 84 = some i ∧ i.size = 4 ∧ i.bytes = 40 ∧ (i.zero.map fun z => z.cells.size) = some 4 := elemInfo (by kernel_rfl)
theorem ElemInfo.mk46 : ∃ i, Try.prog.info? 46 = some i ∧ i.size = 13 ∧ i.bytes = 136 ∧ (i.zero.map fun z => z.cells.size) = some 13 := elemInfo (by kernel_rfl)
theorem ElemInfo.mk5 : ∃ i, Try.prog.info? 5 = some i ∧ i.size = 1 ∧ i.bytes = 1 ∧ (i.zero.map fun z => z.cells.size) = some 1 := elemInfo (by kernel_rfl)
theorem zf2 : ∃ i z, Try.prog.info? 2 = some i ∧ i.zero = some z ∧ z.cells.toList.all flat = true := zeroFlat (by kernel_rfl)
theorem zf3 : ∃ i z, Try.prog.info? 3 = some i ∧ i.zero = some z ∧ z.cells.toList.all flat = true := zeroFlat (by kernel_rfl)
theorem zf46 : ∃ i z, Try.prog.info? 46 = some i ∧ i.zero = some z ∧ z.cells.toList.all flat = true := zeroFlat (by kernel_rfl)
theorem zf5 : ∃ i z, Try.prog.info? 5 = some i ∧ i.zero = some z ∧ z.cells.toList.all flat = true := zeroFlat (by kernel_rfl)
theorem zf84 : ∃ i z, Try.prog.info? 84 = some i ∧ i.zero = some z ∧ z.cells.toList.all flat = true := zeroFlat (by kernel_rfl)
theorem el28 : elemIs Try.prog 28 1 = true := by kernel_rfl
theorem el35 : elemIs Try.prog 35 1 = true := by kernel_rfl
theorem el42 : elemIs Try.prog 42 4 = true := by kernel_rfl
theorem el55 : elemIs Try.prog 55 13 = true := by kernel_rfl
theorem el74 : elemIs Try.prog 74 1 = true := by kernel_rfl
theorem ent104 : enters Try.prog 104 = true := by kernel_rfl
theorem ent105 : enters Try.prog 105 = true := by kernel_rfl
theorem ent106 : enters Try.prog 106 = true := by kernel_rfl
theorem ent126 : enters Try.prog 126 = true := by kernel_rfl
theorem ent19 : enters Try.prog 19 = true := by kernel_rfl
theorem ent23 : enters Try.prog 23 = true := by kernel_rfl
theorem ent26 : enters Try.prog 26 = true := by kernel_rfl
theorem ent27 : enters Try.prog 27 = true := by kernel_rfl
theorem ent38 : enters Try.prog 38 = true := by kernel_rfl
theorem ent43 : enters Try.prog 43 = true := by kernel_rfl
theorem ent46 : enters Try.prog 46 = true := by kernel_rfl
theorem ent47 : enters Try.prog 47 = true := by kernel_rfl
theorem ent48 : enters Try.prog 48 = true := by kernel_rfl
theorem ent49 : enters Try.prog 49 = true := by kernel_rfl
theorem ent50 : enters Try.prog 50 = true := by kernel_rfl
theorem ent51 : enters Try.prog 51 = true := by kernel_rfl
theorem ent52 : enters Try.prog 52 = true := by kernel_rfl
theorem ent53 : enters Try.prog 53 = true := by kernel_rfl
theorem ent54 : enters Try.prog 54 = true := by kernel_rfl
theorem ent55 : enters Try.prog 55 = true := by kernel_rfl
theorem ent56 : enters Try.prog 56 = true := by kernel_rfl
theorem ent57 : enters Try.prog 57 = true := by kernel_rfl
theorem ent58 : enters Try.prog 58 = true := by kernel_rfl
theorem ent66 : enters Try.prog 66 = true := by kernel_rfl
theorem ent68 : enters Try.prog 68 = true := by kernel_rfl
theorem ent69 : enters Try.prog 69 = true := by kernel_rfl
theorem ent73 : enters Try.prog 73 = true := by kernel_rfl
theorem ent74 : enters Try.prog 74 = true := by kernel_rfl
theorem ent75 : enters Try.prog 75 = true := by kernel_rfl
theorem ent76 : enters Try.prog 76 = true := by kernel_rfl
theorem ent77 : enters Try.prog 77 = true := by kernel_rfl
theorem ent78 : enters Try.prog 78 = true := by kernel_rfl
theorem ent79 : enters Try.prog 79 = true := by kernel_rfl
theorem ent80 : enters Try.prog 80 = true := by kernel_rfl
theorem ent96 : enters Try.prog 96 = true := by kernel_rfl
theorem ent97 : enters Try.prog 97 = true := by kernel_rfl
theorem ent98 : enters Try.prog 98 = true := by kernel_rfl
theorem eok28 : ElemOk Try.prog 28 3 1 8 := ⟨Try.underlying28, ElemInfo.mk3⟩
theorem eok35 : ElemOk Try.prog 35 2 1 8 := ⟨Try.underlying35, ElemInfo.mk2⟩
theorem eok42 : ElemOk Try.prog 42 84 4 40 := ⟨Try.underlying42, ElemInfo.mk84⟩
theorem eok55 : ElemOk Try.prog 55 46 13 136 := ⟨Try.underlying55, ElemInfo.mk46⟩
theorem eok74 : ElemOk Try.prog 74 5 1 1 := ⟨Try.underlying74, ElemInfo.mk5⟩
theorem eqt130 : E0 130 = true := by kernel_rfl
theorem eqt44 : E0 44 = true := by kernel_rfl
theorem eqt84 : E0 84 = true := by kernel_rfl
theorem fa130_0 : fieldIs Try.prog 130 0 0 = true := by kernel_rfl
theorem fa130_1 : fieldIs Try.prog 130 1 1 = true := by kernel_rfl
theorem fa132_0 : fieldIs Try.prog 132 0 0 = true := by kernel_rfl
theorem fa132_1 : fieldIs Try.prog 132 1 1 = true := by kernel_rfl
theorem fa132_2 : fieldIs Try.prog 132 2 3 = true := by kernel_rfl
theorem fa44_0 : fieldIs Try.prog 44 0 0 = true := by kernel_rfl
theorem fa44_1 : fieldIs Try.prog 44 1 1 = true := by kernel_rfl
theorem fa44_2 : fieldIs Try.prog 44 2 2 = true := by kernel_rfl
theorem fa44_3 : fieldIs Try.prog 44 3 3 = true := by kernel_rfl
theorem fa46_0 : fieldIs Try.prog 46 0 0 = true := by kernel_rfl
theorem fa46_1 : fieldIs Try.prog 46 1 1 = true := by kernel_rfl
theorem fa46_2 : fieldIs Try.prog 46 2 2 = true := by kernel_rfl
theorem fa46_3 : fieldIs Try.prog 46 3 3 = true := by kernel_rfl
theorem fa46_4 : fieldIs Try.prog 46 4 4 = true := by kernel_rfl
theorem fa46_5 : fieldIs Try.prog 46 5 5 = true := by kernel_rfl
theorem fa46_6 : fieldIs Try.prog 46 6 6 = true := by kernel_rfl
theorem fa46_7 : fieldIs Try.prog 46 7 7 = true := by kernel_rfl
theorem fa46_8 : fieldIs Try.prog 46 8 8 = true := by kernel_rfl
theorem fa46_9 : fieldIs Try.prog 46 9 9 = true := by kernel_rfl
theorem fa73_0 : fieldIs Try.prog 73 0 0 = true := by kernel_rfl
theorem fa84_0 : fieldIs Try.prog 84 0 0 = true := by kernel_rfl
theorem fa84_1 : fieldIs Try.prog 84 1 1 = true := by kernel_rfl
theorem fa84_2 : fieldIs Try.prog 84 2 2 = true := by kernel_rfl
theorem fa84_3 : fieldIs Try.prog 84 3 3 = true := by kernel_rfl
theorem fit130 (a0 : Int) (a1 : Int) : fitAgg Try.prog 130 [.int .i64 a0, .int .i64 a1] = true := by kernel_rfl
theorem fit44 (a0 : Int) (a1 : Int) (a2 : ByteArray) (a3 : ByteArray) : fitAgg Try.prog 44 [.int .i64 a0, .int .i64 a1, .string a2, .string a3] = true := by kernel_rfl
theorem fit84 (a0 : Int) (a1 : Int) (a2 : Int) (a3 : ByteArray) : fitAgg Try.prog 84 [.int .i64 a0, .int .i64 a1, .int .i64 a2, .string a3] = true := by kernel_rfl
theorem isbool4 : isBoolT Try.prog 4 = true := by kernel_rfl
theorem isrow28 : isRow Try.prog (some 28) = true := by kernel_rfl
theorem isrow42 : isRow Try.prog (some 42) = true := by kernel_rfl
theorem isrow55 : isRow Try.prog (some 55) = true := by kernel_rfl
theorem isrow74 : isRow Try.prog (some 74) = true := by kernel_rfl
theorem isrow9 : isRow Try.prog (some 9) = true := by kernel_rfl
theorem isstr_9 : isStr Try.prog 9 = true := by kernel_rfl
theorem many130 : manyB Try.prog 130 2 = true := by kernel_rfl
theorem many44 : manyB Try.prog 44 4 = true := by kernel_rfl
theorem many46 : manyB Try.prog 46 13 = true := by kernel_rfl
theorem many84 : manyB Try.prog 84 4 = true := by kernel_rfl
theorem one2 : oneB Try.prog 2 = true := by kernel_rfl
theorem one3 : oneB Try.prog 3 = true := by kernel_rfl
theorem one4 : oneB Try.prog 4 = true := by kernel_rfl
theorem one42 : oneB Try.prog 42 = true := by kernel_rfl
theorem one5 : oneB Try.prog 5 = true := by kernel_rfl
theorem one55 : oneB Try.prog 55 = true := by kernel_rfl
theorem one9 : oneB Try.prog 9 = true := by kernel_rfl
theorem pl130 : placesOf Try.prog 130 = some [(0, 1), (1, 1)] := by kernel_rfl
theorem pl132 : placesOf Try.prog 132 = some [(0, 1), (1, 2), (3, 4)] := by kernel_rfl
theorem pl44 : placesOf Try.prog 44 = some [(0, 1), (1, 1), (2, 1), (3, 1)] := by kernel_rfl
theorem pl46 : placesOf Try.prog 46 = some [(0, 1), (1, 1), (2, 1), (3, 1), (4, 1), (5, 1), (6, 1), (7, 1), (8, 1), (9, 4)] := by kernel_rfl
theorem pl73 : placesOf Try.prog 73 = some [(0, 1)] := by kernel_rfl
theorem pl84 : placesOf Try.prog 84 = some [(0, 1), (1, 1), (2, 1), (3, 1)] := by kernel_rfl
theorem size42 : sizeIs Try.prog 42 1 = true := by kernel_rfl
theorem size44 : sizeIs Try.prog 44 4 = true := by kernel_rfl
theorem size46 : sizeIs Try.prog 46 13 = true := by kernel_rfl
theorem size55 : sizeIs Try.prog 55 1 = true := by kernel_rfl
theorem size84 : sizeIs Try.prog 84 4 = true := by kernel_rfl
theorem size9 : sizeIs Try.prog 9 1 = true := by kernel_rfl
theorem slu8_74 : slU8 Try.prog 74 = true := by kernel_rfl
theorem zero130 : ZeroIs Try.prog 130 [.int .i64 0, .int .i64 0] := ⟨.agg #[.int .i64 0, .int .i64 0], by kernel_rfl, rfl, rfl, rfl⟩
theorem zero132 : ZeroIs Try.prog 132 [.bool false, .int .i64 0, .int .i64 0, .int .i64 0, .int .i64 0, .int .i64 0, .string (⟨#[]⟩)] := ⟨.agg #[.bool false, .int .i64 0, .int .i64 0, .int .i64 0, .int .i64 0, .int .i64 0, .string (⟨#[]⟩)], by kernel_rfl, rfl, rfl, rfl⟩
theorem zero44 : ZeroIs Try.prog 44 [.int .i64 0, .int .i64 0, .string (⟨#[]⟩), .string (⟨#[]⟩)] := ⟨.agg #[.int .i64 0, .int .i64 0, .string (⟨#[]⟩), .string (⟨#[]⟩)], by kernel_rfl, rfl, rfl, rfl⟩
theorem zero46 : ZeroIs Try.prog 46 [.int .i64 0, .int .i64 0, .int .i64 0, .int .i64 0, .int .i64 0, .int .i64 0, .int .i64 0, .bool false, .slice none 0 0, .int .i64 0, .int .i64 0, .string (⟨#[]⟩), .string (⟨#[]⟩)] := ⟨.agg #[.int .i64 0, .int .i64 0, .int .i64 0, .int .i64 0, .int .i64 0, .int .i64 0, .int .i64 0, .bool false, .slice none 0 0, .int .i64 0, .int .i64 0, .string (⟨#[]⟩), .string (⟨#[]⟩)], by kernel_rfl, rfl, rfl, rfl⟩
theorem zero73 : ZeroIs Try.prog 73 [.slice none 0 0] := ⟨.agg #[.slice none 0 0], by kernel_rfl, rfl, rfl, rfl⟩
theorem zero84 : ZeroIs Try.prog 84 [.int .i64 0, .int .i64 0, .int .i64 0, .string (⟨#[]⟩)] := ⟨.agg #[.int .i64 0, .int .i64 0, .int .i64 0, .string (⟨#[]⟩)], by kernel_rfl, rfl, rfl, rfl⟩
theorem net_Len_spec (H : Heap) (lH : Heap) (lA : Option Addr) (l : List MsgC) (lc : Nat) (hl : My lH H lA lc 13 (l.map MsgC.cells)) (nl : lH.next ≤ H.next) (ll : l.length ≤ 400) (bl : Spec.Short l) (lE : Heap) (el : Each MsgC.sub lE H l) (nel : lE.next ≤ H.next) (n : Nat) (hn : n < H.next) (Bn : H.blk n = some ⟨[.slice lA l.length lc], 0, false, false⟩) : ∃ v H', Spec Try.prog 26 [.pointer (some ⟨n, 0, none⟩)] H v H' ∧ ((v = .int .i64 (l.length : Int)) ∧ (Ext H H')) := by
 refine spec_go1 E0_ok 10 (f := 26) Try.func26 rfl rfl rfl ?_
 refine aw_seq ?_
 refine aw_reg ?_
 refine st_op (ev_assign rfl) rfl rfl rfl ?_
 try show aw _ _ _ _ _ _
 iterate 2 refine aw_seq ?_
 refine aw_reg ?_
 refine st_op (ev_move rfl) rfl rfl rfl ?_
 refine st_op (ev_nilEq rfl rfl Try.underlying41) rfl rfl rfl ?_
 try show aw _ _ _ _ _ _
 refine aw_cond (t := false) rfl ?_
 try show aw _ _ _ _ _ _
 refine aw_skip ?_
 try show aw _ _ _ _ _ _
 refine aw_seq ?_
 refine aw_reg ?_
 refine st_op (ev_move rfl) rfl rfl rfl ?_
 refine st_op (ev_nilCheck rfl) rfl rfl rfl ?_
 refine st_op (ev_fieldAddr rfl fa73_0 (o' := 0) rfl) rfl rfl rfl ?_
 refine st_op (ev_load rfl (lvar_one one55 Bn rfl)) rfl rfl rfl ?_
 refine st_op (ev_lenSl rfl Try.underlying55) rfl rfl rfl ?_
 refine st_op (ev_assign rfl) rfl rfl rfl ?_
 try show aw _ _ _ _ _ _
 refine aw_ret ?_
 have hres : (l.length : Int) = (l.length : Int) := by rfl
 exact ⟨.int .i64 (l.length : Int), rfl, by first | (rw [hres]; done) | rw [← hres], (Ext.refl H)⟩
theorem net_Clear1_spec (H : Heap) (kind : Int) (from_ : Int) (to_ : Int) (term : Int) (index : Int) (logterm : Int) (commit : Int) (yes : Bool) (esA : Option Addr) (es esc : Nat) (s_index : Int) (s_term : Int) (s_conf : ByteArray) (s_data : ByteArray) (id : Int) (cl : Nat) (hcl : cl < H.next) (Bcl : H.blk cl = some ⟨[.int .i64 id], 0, false, false⟩) : ∃ v H', Spec Try.prog 49 [.agg #[.int .i64 kind, .int .i64 from_, .int .i64 to_, .int .i64 term, .int .i64 index, .int .i64 logterm, .int .i64 commit, .bool yes, .slice esA es esc, .int .i64 s_index, .int .i64 s_term, .string s_conf, .string s_data], .pointer (some ⟨cl, 0, none⟩)] H v H' ∧ ((v = .bool (to_ == id)) ∧ (Ext H H')) := by
 refine spec_go2 E0_ok 8 (f := 49) Try.func49 rfl rfl rfl ?_
 refine aw_seq ?_
 refine aw_reg ?_
 obtain ⟨b1, H2, he3, b1e, H2n_, hB5, f4⟩ := mem_box (P := Try.prog) H (v := .agg #[.int .i64 kind, .int .i64 from_, .int .i64 to_, .int .i64 term, .int .i64 index, .int .i64 logterm, .int .i64 commit, .bool yes, .slice esA es esc, .int .i64 s_index, .int .i64 s_term, .string s_conf, .string s_data]) (cs := [.int .i64 kind, .int .i64 from_, .int .i64 to_, .int .i64 term, .int .i64 index, .int .i64 logterm, .int .i64 commit, .bool yes, .slice esA es esc, .int .i64 s_index, .int .i64 s_term, .string s_conf, .string s_data]) rfl rfl
 refine st_op (he3 _ _ _ _ _ _ _ _ _ rfl) rfl rfl rfl ?_
 have hx6 : Ext H H2 := Ext.new (by omega) H2n_ f4
 have H2n : H.next ≤ H2.next := hx6.1
 refine st_op (ev_assign rfl) rfl rfl rfl ?_
 try show aw _ _ _ _ _ _
 refine aw_seq ?_
 refine aw_reg ?_
 refine st_op (ev_fieldAddr rfl fa46_2 (o' := 2) rfl) rfl rfl rfl ?_
 refine st_op (ev_load rfl (lvar_one one3 hB5 rfl)) rfl rfl rfl ?_
 have h7 := Ext.blk hx6 (by omega) Bcl
 refine st_op (ev_load rfl (lvar_one one3 h7 rfl)) rfl rfl rfl ?_
 refine st_op (ev_int rfl rfl rfl) rfl rfl rfl ?_
 refine st_op (ev_assign rfl) rfl rfl rfl ?_
 try show aw _ _ _ _ _ _
 refine aw_ret ?_
 have hres : (to_ == id) = (to_ == id) := by rfl
 exact ⟨.bool (to_ == id), rfl, by first | (rw [hres]; done) | rw [← hres], hx6⟩
theorem mcl_find_spec (H : Heap) (lA : Option Addr) (l : List MsgC) (lc : Nat) (hl : Row H lA lc 13 (l.map MsgC.cells)) (cl : l.length ≤ lc) (ll : l.length ≤ 1099511627776) (id : Int) (cl : Nat) (hcl : cl < H.next) (Bcl : H.blk cl = some ⟨[.int .i64 id], 0, false, false⟩) : ∃ v H', Spec Try.prog 77 [.slice lA l.length lc, .func (.func 49) #[] #[.pointer (some ⟨cl, 0, none⟩)]] H v H' ∧ ((v = .int .i64 (Spec.findF (fun (y : MsgC) => y.to_ == id) l 0)) ∧ (-1 ≤ (Spec.findF (fun (y : MsgC) => y.to_ == id) l 0) ∧ (Spec.findF (fun (y : MsgC) => y.to_ == id) l 0) < (l.length : Int)) ∧ (Ext H H')) := by
 refine spec_go2 E0_ok 19 (f := 77) Try.func77 rfl rfl rfl ?_
 refine aw_seq ?_
 refine aw_reg ?_
 refine st_op (ev_assign rfl) rfl rfl rfl ?_
 try show aw _ _ _ _ _ _
 iterate 2 refine aw_seq ?_
 refine aw_reg ?_
 refine st_op (ev_move rfl) rfl rfl rfl ?_
 refine st_op (ev_lenSl rfl Try.underlying55) rfl rfl rfl ?_
 refine st_op (ev_move rfl) rfl rfl rfl ?_
 try show aw _ _ _ _ _ _
 refine aw_block ?_
 refine aw_keep [0, 1, 7, 8] (l' := (.cons 0 (.slice lA l.length lc) (.cons 1 (.func (.func 49) #[] #[.pointer (some ⟨cl, 0, none⟩)]) (.cons 7 (.int .i64 (l.length : Int)) (.cons 8 (.int .i64 0) .nil))))) (by repeat (first | exact Up.done | refine Up.then ?_ | refine Up.inBlock ?_)) rfl ?_
 refine aw_iter (α := Nat × Heap) (fun a => l.length - a.1) (fun a => (.cons 0 (.slice lA l.length lc) (.cons 1 (.func (.func 49) #[] #[.pointer (some ⟨cl, 0, none⟩)]) (.cons 7 (.int .i64 (l.length : Int)) (.cons 8 (.int .i64 (a.1 : Int)) .nil))))) (fun a => a.2) (fun a => (a.1 ≤ l.length) ∧ (Spec.findF (fun (y : MsgC) => y.to_ == id) l 0 = Spec.findF (fun (y : MsgC) => y.to_ == id) (l.drop a.1) (a.1 : Int)) ∧ (Ext H a.2)) (0, H) ⟨(show 0 ≤ l.length from Nat.zero_le _), (show Spec.findF (fun (y : MsgC) => y.to_ == id) l 0 = Spec.findF (fun (y : MsgC) => y.to_ == id) (l.drop 0) (0 : Int) from rfl), (show Ext H H from (Ext.refl H))⟩ ?_
 rintro ⟨i, Hl1⟩ ⟨hi, hv, hxl2⟩ ih3
 replace hi : i ≤ l.length := hi
 replace hv : Spec.findF (fun (y : MsgC) => y.to_ == id) l 0 = Spec.findF (fun (y : MsgC) => y.to_ == id) (l.drop i) (i : Int) := hv
 replace hxl2 : Ext H Hl1 := hxl2
 show aw _ _ _ (RL _ (.cons 0 (.slice lA l.length lc) (.cons 1 (.func (.func 49) #[] #[.pointer (some ⟨cl, 0, none⟩)]) (.cons 7 (.int .i64 (l.length : Int)) (.cons 8 (.int .i64 (i : Int)) .nil))))) Hl1 _
 have Hl1n : H.next ≤ Hl1.next := hxl2.1
 refine aw_seq ?_
 refine aw_reg ?_
 refine st_op (ev_int rfl rfl rfl) rfl rfl rfl ?_
 try show aw _ _ _ _ _ _
 refine aw_seq ?_
 by_cases hc4 : (decide ((i : Int) < (l.length : Int))) = true
 ·
  refine aw_condT hc4 rfl ?_
  try show aw _ _ _ _ _ _
  have hc4 := of_decide_eq_true hc4
  refine aw_skip ?_
  try show aw _ _ _ _ _ _
  refine aw_seq ?_
  refine aw_block ?_
  refine aw_seq ?_
  refine aw_reg ?_
  refine st_op (ev_move rfl) rfl rfl rfl ?_
  refine st_op (ev_assign rfl) rfl rfl rfl ?_
  try show aw _ _ _ _ _ _
  refine aw_seq ?_
  refine aw_reg ?_
  iterate 3 refine st_op (ev_move rfl) rfl rfl rfl ?_
  have h5 := Row.ext hl hxl2
  have hi6 : 0 ≤ ((i : Int) : Int) := by omega
  have hi7 : ((i : Int) : Int) < ((l.length : Nat) : Int) := by omega
  obtain ⟨x8, hx9⟩ : ∃ e, l[i]? = some e := ⟨_, List.getElem?_eq_getElem (by omega)⟩
  refine st_op (ev_at rfl rfl h5 (getMap MsgC.cells hx9) (by first | rfl | omega | simp) hi6 hi7 el55) rfl rfl rfl ?_
  refine st_op (ev_atN (cs := [.int .i64 x8.kind, .int .i64 x8.from_, .int .i64 x8.to_, .int .i64 x8.term, .int .i64 x8.index, .int .i64 x8.logterm, .int .i64 x8.commit, .bool x8.yes, .slice x8.esA x8.es.length x8.esc, .int .i64 x8.snap.index, .int .i64 x8.snap.term, .string x8.snap.conf, .string x8.snap.data]) rfl h5 (getMap MsgC.cells hx9) many46 rfl rfl (by decide)) rfl rfl rfl ?_
  refine st_callv rfl rfl rfl rfl rfl ent49 rfl rfl rfl ?_
  have h10 := Ext.blk hxl2 (by omega) Bcl
  obtain ⟨_, H12, hs11, hs11v, hx13⟩ := net_Clear1_spec Hl1 x8.kind x8.from_ x8.to_ x8.term x8.index x8.logterm x8.commit x8.yes x8.esA x8.es.length x8.esc x8.snap.index x8.snap.term x8.snap.conf x8.snap.data id cl (by omega) h10
  rw [hs11v] at hs11; clear hs11v
  refine ⟨_, H12, hs11, ?_⟩
  have H12n : Hl1.next ≤ H12.next := hx13.1
  try show aw _ _ _ _ _ _
  by_cases hc14 : (x8.to_ == id) = true
  ·
   refine aw_condT hc14 rfl ?_
   try show aw _ _ _ _ _ _
   have hc14 := eq_of_beq hc14
   refine aw_seq ?_
   refine aw_reg ?_
   refine st_op (ev_move rfl) rfl rfl rfl ?_
   refine st_op (ev_assign rfl) rfl rfl rfl ?_
   try show aw _ _ _ _ _ _
   refine aw_ret ?_
   have hx15 : Ext H H12 := (Ext.trans hxl2 hx13)
   have hres : (Spec.findF (fun (y : MsgC) => y.to_ == id) l 0) = (i : Int) := by rw [hv, drop_at hx9, Spec.findF, if_pos (by exact beq_iff_eq.2 (by assumption))]
   exact ⟨.int .i64 (i : Int), rfl, by first | (rw [hres]; done) | rw [← hres], (by exact Spec.findF_bd _ _), hx15⟩
  ·
   rw [Bool.not_eq_true] at hc14; refine aw_condF hc14 rfl ?_
   try show aw _ _ _ _ _ _
   have hc14 := ne_of_beq_false hc14
   refine aw_skip ?_
   try show aw _ _ _ _ _ _
   refine aw_reg ?_
   refine st_op (ev_int64 (c := (i : Int) + 1) rfl rfl rfl (by omega) (by omega)) rfl rfl rfl ?_
   refine st_op (ev_move rfl) rfl rfl rfl ?_
   try show aw _ _ _ _ _ _
   have hx16 : Ext H H12 := (Ext.trans hxl2 hx13)
   refine aw_keep [0, 1, 7, 8] (l' := (.cons 0 (.slice lA l.length lc) (.cons 1 (.func (.func 49) #[] #[.pointer (some ⟨cl, 0, none⟩)]) (.cons 7 (.int .i64 (l.length : Int)) (.cons 8 (.int .i64 ((i : Int) + 1)) .nil))))) (by repeat (first | exact Up.done | refine Up.then ?_ | refine Up.inBlock ?_)) rfl ?_
   exact ih3 (i + 1, H12) ⟨(show (i + 1) ≤ l.length from (by omega)), (show Spec.findF (fun (y : MsgC) => y.to_ == id) l 0 = Spec.findF (fun (y : MsgC) => y.to_ == id) (l.drop (i + 1)) ((i + 1) : Int) from (by rw [hv, drop_at hx9, Spec.findF, if_neg (by first | exact beq_eq_false_iff_ne.2 (by assumption) | simp_all)] <;> rfl)), (show Ext H H12 from hx16)⟩ (by simp only; omega)
 ·
  rw [Bool.not_eq_true] at hc4; refine aw_condF hc4 rfl ?_
  try show aw _ _ _ _ _ _
  have hc4 := of_decide_eq_false hc4
  refine aw_exit ?_
  try show aw _ _ _ _ _ _
  refine aw_seq ?_
  refine aw_reg ?_
  refine st_op (ev_assign rfl) rfl rfl rfl ?_
  try show aw _ _ _ _ _ _
  refine aw_ret ?_
  have hres : (Spec.findF (fun (y : MsgC) => y.to_ == id) l 0) = (-1) := by rw [hv, List.drop_eq_nil_of_le (by omega)]; rfl
  exact ⟨.int .i64 (-1), rfl, by first | (rw [hres]; done) | rw [← hres], (by exact Spec.findF_bd _ _), hxl2⟩
theorem mcl_del_spec (H : Heap) (lH : Heap) (lA : Option Addr) (l : List MsgC) (lc : Nat) (hl : My lH H lA lc 13 (l.map MsgC.cells)) (nl : lH.next ≤ H.next) (ll : l.length ≤ 400) (lE : Heap) (el : Each MsgC.sub lE H l) (nel : lE.next ≤ H.next) (id : Int) (cl : Nat) (hcl : cl < H.next) (Bcl : H.blk cl = some ⟨[.int .i64 id], 0, false, false⟩) : ∃ v H', Spec Try.prog 48 [.slice lA l.length lc, .func (.func 49) #[] #[.pointer (some ⟨cl, 0, none⟩)]] H v H' ∧ (∃ rA0 rc0, (v = .slice rA0 ((l.filter (Spec.notp (fun (y : MsgC) => y.to_ == id))).length) rc0) ∧ (My lH H' rA0 rc0 13 ((l.filter (Spec.notp (fun (y : MsgC) => y.to_ == id))).map MsgC.cells)) ∧ (Each MsgC.sub lE H' (l.filter (Spec.notp (fun (y : MsgC) => y.to_ == id)))) ∧ (((l.filter (Spec.notp (fun (y : MsgC) => y.to_ == id)))).length ≤ l.length) ∧ (Fr (fun q => (lH.next ≤ q ∧ q < H.next ∧ ZB H q 13)) H H')) := by
 refine spec_go2 E0_ok 42 (f := 48) Try.func48 rfl rfl rfl ?_
 refine aw_seq ?_
 refine aw_reg ?_
 refine st_op (ev_assign rfl) rfl rfl rfl ?_
 try show aw _ _ _ _ _ _
 refine aw_seq ?_
 refine aw_reg ?_
 iterate 2 refine st_op (ev_move rfl) rfl rfl rfl ?_
 refine st_call rfl rfl rfl ent77 rfl rfl rfl ?_
 obtain ⟨_, H2, hs1, hs1v, hq4, hx3⟩ := mcl_find_spec H lA l lc (My.row hl) (My.capF hl (by omega)) (by omega) id cl (by omega) Bcl
 rw [hs1v] at hs1; clear hs1v
 generalize hR6 : (Spec.findF (fun (y : MsgC) => y.to_ == id) l 0) = r5 at hs1 hq4
 refine ⟨_, H2, hs1, ?_⟩
 have H2n : H.next ≤ H2.next := hx3.1
 refine st_op (ev_assign rfl) rfl rfl rfl ?_
 try show aw _ _ _ _ _ _
 iterate 2 refine aw_seq ?_
 refine aw_reg ?_
 refine st_op (ev_move rfl) rfl rfl rfl ?_
 refine st_op (ev_int rfl rfl rfl) rfl rfl rfl ?_
 try show aw _ _ _ _ _ _
 by_cases hc7 : (r5 == (-1)) = true
 ·
  refine aw_condT hc7 rfl ?_
  try show aw _ _ _ _ _ _
  have hc7 := eq_of_beq hc7
  refine aw_seq ?_
  refine aw_reg ?_
  refine st_op (ev_move rfl) rfl rfl rfl ?_
  refine st_op (ev_assign rfl) rfl rfl rfl ?_
  try show aw _ _ _ _ _ _
  refine aw_ret ?_
  have h8 := My.ext hl hx3
  have h9 := Each.ext el hx3
  have hres : (l.filter (Spec.notp (fun (y : MsgC) => y.to_ == id))) = l := by exact Spec.findF_none (by first | assumption | (rw [hR6]; assumption))
  exact ⟨.slice lA l.length lc, rfl, lA, lc, by first | (rw [hres]; first | done | rfl | simp; done) | rfl, (by rw [hres]; exact h8), (by rw [hres]; exact (Each.sub h9 (fun _ h => by first | exact h | exact (List.mem_filter.1 h).1 | (rw [← hres] at h; exact (List.mem_filter.1 h).1)))), (by exact List.length_filter_le _ _), (Fr.trans (Fr.refl (fun q => (lH.next ≤ q ∧ q < H.next ∧ ZB H q 13)) H) (hx3.fr fun _ => False) (fun q hq (e : False) => e.elim))⟩
 ·
  rw [Bool.not_eq_true] at hc7; refine aw_condF hc7 rfl ?_
  try show aw _ _ _ _ _ _
  have hc7 := ne_of_beq_false hc7
  refine aw_skip ?_
  try show aw _ _ _ _ _ _
  iterate 2 refine aw_seq ?_
  refine aw_reg ?_
  refine st_op (ev_move rfl) rfl rfl rfl ?_
  refine st_op (ev_int64 (c := r5 + 1) rfl rfl rfl (by omega) (by omega)) rfl rfl rfl ?_
  refine st_op (ev_assign rfl) rfl rfl rfl ?_
  try show aw _ _ _ _ _ _
  refine aw_block ?_
  obtain ⟨hdi, hr0⟩ := Spec.DelInv.begin (p := (fun (y : MsgC) => y.to_ == id)) (l := l) hR6 (by assumption)
  have hdi0 := hdi.le
  have h13 := My.ext hl hx3
  refine aw_keep [0, 1, 5, 6] (l' := (.cons 0 (.slice lA l.length lc) (.cons 1 (.func (.func 49) #[] #[.pointer (some ⟨cl, 0, none⟩)]) (.cons 5 (.int .i64 r5) (.cons 6 (.int .i64 (r5 + 1)) .nil))))) (by repeat (first | exact Up.done | refine Up.then ?_ | refine Up.inBlock ?_)) rfl ?_
  refine aw_iter (α := Int × Int × List MsgC × Heap) (fun a => l.length - a.2.1.toNat) (fun a => (.cons 0 (.slice lA l.length lc) (.cons 1 (.func (.func 49) #[] #[.pointer (some ⟨cl, 0, none⟩)]) (.cons 5 (.int .i64 a.1) (.cons 6 (.int .i64 a.2.1) .nil))))) (fun a => a.2.2.2) (fun a => (a.1 < a.2.1) ∧ (Spec.DelInv (fun (y : MsgC) => y.to_ == id) l a.2.2.1 a.1.toNat a.2.1.toNat) ∧ (0 ≤ a.1 ∧ a.1 ≤ 274877906944) ∧ (0 ≤ a.2.1 ∧ a.2.1 ≤ 274877906944) ∧ (My lH a.2.2.2 lA lc 13 (a.2.2.1.map MsgC.cells)) ∧ (Fr (fun q => (lH.next ≤ q ∧ q < H2.next ∧ ZB H2 q 13)) H2 a.2.2.2)) (r5, r5 + 1, l, H2) ⟨(show r5 < (r5 + 1) from (by omega)), (show Spec.DelInv (fun (y : MsgC) => y.to_ == id) l l r5.toNat (r5 + 1).toNat from hdi), (show 0 ≤ r5 ∧ r5 ≤ 274877906944 from ⟨by omega, by omega⟩), (show 0 ≤ (r5 + 1) ∧ (r5 + 1) ≤ 274877906944 from ⟨by omega, by omega⟩), (show My lH H2 lA lc 13 (l.map MsgC.cells) from h13), (show Fr (fun q => (lH.next ≤ q ∧ q < H2.next ∧ ZB H2 q 13)) H2 H2 from (Fr.refl _ H2))⟩ ?_
  rintro ⟨i, j, l1, Hl10⟩ ⟨hij, hinv, hn11, hn12, hm14, hxl15⟩ ih16
  replace hij : i < j := hij
  replace hinv : Spec.DelInv (fun (y : MsgC) => y.to_ == id) l l1 i.toNat j.toNat := hinv
  replace hn11 : 0 ≤ i ∧ i ≤ 274877906944 := hn11
  replace hn12 : 0 ≤ j ∧ j ≤ 274877906944 := hn12
  replace hm14 : My lH Hl10 lA lc 13 (l1.map MsgC.cells) := hm14
  replace hxl15 : Fr (fun q => (lH.next ≤ q ∧ q < H2.next ∧ ZB H2 q 13)) H2 Hl10 := hxl15
  show aw _ _ _ (RL _ (.cons 0 (.slice lA l.length lc) (.cons 1 (.func (.func 49) #[] #[.pointer (some ⟨cl, 0, none⟩)]) (.cons 5 (.int .i64 i) (.cons 6 (.int .i64 j) .nil))))) Hl10 _
  have Hl10n : H2.next ≤ Hl10.next := hxl15.1
  have hle1 := hinv.len
  have hlt1 := hinv.lt
  have hle2 := hinv.le
  iterate 2 refine aw_seq ?_
  refine aw_reg ?_
  iterate 2 refine st_op (ev_move rfl) rfl rfl rfl ?_
  refine st_op (ev_lenSl rfl Try.underlying55) rfl rfl rfl ?_
  refine st_op (ev_int rfl rfl rfl) rfl rfl rfl ?_
  try show aw _ _ _ _ _ _
  by_cases hc17 : (decide (j < (l.length : Int))) = true
  ·
   refine aw_condT hc17 rfl ?_
   try show aw _ _ _ _ _ _
   have hc17 := of_decide_eq_true hc17
   refine aw_skip ?_
   try show aw _ _ _ _ _ _
   refine aw_seq ?_
   refine aw_block ?_
   refine aw_seq ?_
   refine aw_reg ?_
   iterate 2 refine st_op (ev_move rfl) rfl rfl rfl ?_
   have hi18 : 0 ≤ (j : Int) := by omega
   have hi19 : (j : Int) < ((l.length : Nat) : Int) := by omega
   obtain ⟨x20, hx21⟩ : ∃ e, l1[(j).toNat]? = some e := ⟨_, List.getElem?_eq_getElem (by omega)⟩
   refine st_op (ev_at rfl rfl (My.row hm14) (getMap MsgC.cells hx21) (by first | rfl | omega | simp) hi18 hi19 el55) rfl rfl rfl ?_
   refine st_op (ev_atN (cs := [.int .i64 x20.kind, .int .i64 x20.from_, .int .i64 x20.to_, .int .i64 x20.term, .int .i64 x20.index, .int .i64 x20.logterm, .int .i64 x20.commit, .bool x20.yes, .slice x20.esA x20.es.length x20.esc, .int .i64 x20.snap.index, .int .i64 x20.snap.term, .string x20.snap.conf, .string x20.snap.data]) rfl (My.row hm14) (getMap MsgC.cells hx21) many46 rfl rfl (by decide)) rfl rfl rfl ?_
   obtain ⟨b22, H23, he24, b22e, H23n_, hB26, f25⟩ := mem_alloc Hl10 zero46
   refine st_op (he24 _ _ _ _ _ _ _) rfl rfl rfl ?_
   have hx27 : Ext Hl10 H23 := Ext.new (by omega) H23n_ f25
   have H23n : Hl10.next ≤ H23.next := hx27.1
   obtain ⟨H28, he29, H28n_, hB30, f31⟩ := mem_store (v := .agg #[.int .i64 x20.kind, .int .i64 x20.from_, .int .i64 x20.to_, .int .i64 x20.term, .int .i64 x20.index, .int .i64 x20.logterm, .int .i64 x20.commit, .bool x20.yes, .slice x20.esA x20.es.length x20.esc, .int .i64 x20.snap.index, .int .i64 x20.snap.term, .string x20.snap.conf, .string x20.snap.data]) (o := 0) (cs' := [.int .i64 x20.kind, .int .i64 x20.from_, .int .i64 x20.to_, .int .i64 x20.term, .int .i64 x20.index, .int .i64 x20.logterm, .int .i64 x20.commit, .bool x20.yes, .slice x20.esA x20.es.length x20.esc, .int .i64 x20.snap.index, .int .i64 x20.snap.term, .string x20.snap.conf, .string x20.snap.data]) 13 rfl rfl size46 hB26 rfl rfl rfl
   refine st_op0 (he29 _ _ _ _ _ _ _ _ _ rfl rfl) rfl rfl ?_
   have hf32 : Fr (fun q => q = b22) H23 H28 := Fr.write H28n_ f31
   have H28n : H23.next ≤ H28.next := hf32.1
   try show aw _ _ _ _ _ _
   refine aw_seq ?_
   refine aw_reg ?_
   refine st_op (ev_move rfl) rfl rfl rfl ?_
   refine st_op (ev_load rfl (lvar_part (l := [.int .i64 x20.kind, .int .i64 x20.from_, .int .i64 x20.to_, .int .i64 x20.term, .int .i64 x20.index, .int .i64 x20.logterm, .int .i64 x20.commit, .bool x20.yes, .slice x20.esA x20.es.length x20.esc, .int .i64 x20.snap.index, .int .i64 x20.snap.term, .string x20.snap.conf, .string x20.snap.data]) many46 hB30 rfl rfl (by decide))) rfl rfl rfl ?_
   refine st_callv rfl rfl rfl rfl rfl ent49 rfl rfl rfl ?_
   have h33 := Ext.blk hx3 (by omega) Bcl
   have h34 := Fr.blk hxl15 (by omega) (fun e => (zb_ne h33 e.2.2 (show (0 : Nat) ≠ 13 by decide))) h33
   have hx36 : Ext Hl10 H28 := (Ext.then hx27 hf32 (fun q hq e => by omega))
   have h35 := Ext.blk hx36 (by omega) h34
   obtain ⟨_, H38, hs37, hs37v, hx39⟩ := net_Clear1_spec H28 x20.kind x20.from_ x20.to_ x20.term x20.index x20.logterm x20.commit x20.yes x20.esA x20.es.length x20.esc x20.snap.index x20.snap.term x20.snap.conf x20.snap.data id cl (by omega) h35
   rw [hs37v] at hs37; clear hs37v
   refine ⟨_, H38, hs37, ?_⟩
   have H38n : H28.next ≤ H38.next := hx39.1
   refine st_op (ev_not rfl) rfl rfl rfl ?_
   try show aw _ _ _ _ _ _
   by_cases hc40 : (!(x20.to_ == id)) = true
   ·
    refine aw_condT hc40 rfl ?_
    try show aw _ _ _ _ _ _
    replace hc40 : (x20.to_ == id) = false := by rw [Bool.not_eq_true'] at hc40; exact hc40
    have hc40 := ne_of_beq_false hc40
    refine aw_seq ?_
    refine aw_reg ?_
    iterate 2 refine st_op (ev_move rfl) rfl rfl rfl ?_
    have h41 := Ext.blk hx39 (by omega) hB30
    refine st_op (ev_load rfl (lvar_part (l := [.int .i64 x20.kind, .int .i64 x20.from_, .int .i64 x20.to_, .int .i64 x20.term, .int .i64 x20.index, .int .i64 x20.logterm, .int .i64 x20.commit, .bool x20.yes, .slice x20.esA x20.es.length x20.esc, .int .i64 x20.snap.index, .int .i64 x20.snap.term, .string x20.snap.conf, .string x20.snap.data]) many46 h41 rfl rfl (by decide))) rfl rfl rfl ?_
    have hx43 : Ext Hl10 H38 := (Ext.trans hx36 hx39)
    have h42 := My.ext hm14 hx43
    have hi44 : 0 ≤ (i : Int) := by omega
    have hi45 : (i : Int) < ((l.length : Nat) : Int) := by omega
    obtain ⟨x46, hx47⟩ : ∃ e, l1[(i).toNat]? = some e := ⟨_, List.getElem?_eq_getElem (by omega)⟩
    refine st_op (ev_at rfl rfl (My.row h42) (getMap MsgC.cells hx47) (by first | rfl | omega | simp) hi44 hi45 el55) rfl rfl rfl ?_
    obtain ⟨H48, W49, he50, hm51, hf52, H48n_⟩ := mem_storeAtN (i := (i).toNat) (e1 := x20) (cs := #[.int .i64 x20.kind, .int .i64 x20.from_, .int .i64 x20.to_, .int .i64 x20.term, .int .i64 x20.index, .int .i64 x20.logterm, .int .i64 x20.commit, .bool x20.yes, .slice x20.esA x20.es.length x20.esc, .int .i64 x20.snap.index, .int .i64 x20.snap.term, .string x20.snap.conf, .string x20.snap.data]) size46 rfl rfl rfl (MsgC.cells_one _) hm14 h42 (by omega)
    refine st_op0 (he50 _ _ _ _ _ _ _ _ _ rfl rfl) rfl rfl ?_
    have H48n : H38.next ≤ H48.next := hf52.1
    try show aw _ _ _ _ _ _
    refine aw_reg ?_
    refine st_op (ev_move rfl) rfl rfl rfl ?_
    refine st_op (ev_int64 (c := i + 1) rfl rfl rfl (by omega) (by omega)) rfl rfl rfl ?_
    refine st_op (ev_assign rfl) rfl rfl rfl ?_
    try show aw _ _ _ _ _ _
    refine aw_reg ?_
    refine st_op (ev_move rfl) rfl rfl rfl ?_
    refine st_op (ev_int64 (c := j + 1) rfl rfl rfl (by omega) (by omega)) rfl rfl rfl ?_
    refine st_op (ev_assign rfl) rfl rfl rfl ?_
    try show aw _ _ _ _ _ _
    refine aw_keep [0, 1, 5, 6] (l' := (.cons 0 (.slice lA l.length lc) (.cons 1 (.func (.func 49) #[] #[.pointer (some ⟨cl, 0, none⟩)]) (.cons 5 (.int .i64 (i + 1)) (.cons 6 (.int .i64 (j + 1)) .nil))))) (by repeat (first | exact Up.done | refine Up.then ?_ | refine Up.inBlock ?_)) rfl ?_
    exact ih16 (i + 1, j + 1, (l1.set ((i).toNat) x20), H48) ⟨(show (i + 1) < (j + 1) from (by omega)), (show Spec.DelInv (fun (y : MsgC) => y.to_ == id) l (l1.set ((i).toNat) x20) (i + 1).toNat (j + 1).toNat from (by rw [show (i + 1).toNat = i.toNat + 1 by omega, show (j + 1).toNat = j.toNat + 1 by omega]; first | exact hinv.keep hx21 (by first | exact beq_eq_false_iff_ne.2 (by assumption) | simp_all) | exact hinv.skip hx21 (by exact beq_iff_eq.2 (by assumption)))), (show 0 ≤ (i + 1) ∧ (i + 1) ≤ 274877906944 from ⟨by omega, by omega⟩), (show 0 ≤ (j + 1) ∧ (j + 1) ≤ 274877906944 from ⟨by omega, by omega⟩), (show My lH H48 lA lc 13 ((l1.set ((i).toNat) x20).map MsgC.cells) from hm51), (show Fr (fun q => (lH.next ≤ q ∧ q < H2.next ∧ ZB H2 q 13)) H2 H48 from (Fr.transG (Fr.trans (Fr.transG (Fr.trans (Fr.transG (Fr.refl (fun q => (lH.next ≤ q ∧ q < H2.next ∧ ZB H2 q 13)) H2) hxl15 (fun q hq hE e => (⟨by omega, by omega, ZB.back hE e.2.2⟩))) (hx27.fr fun _ => False) (fun q hq (e : False) => e.elim)) hf32 (fun q hq hE e => absurd hq (by omega))) (hx39.fr fun _ => False) (fun q hq (e : False) => e.elim)) hf52 (fun q hq hE e => (⟨by omega, by omega, ZB.back hE e.2.2⟩))))⟩ (by simp only; omega)
   ·
    rw [Bool.not_eq_true] at hc40; refine aw_condF hc40 rfl ?_
    try show aw _ _ _ _ _ _
    replace hc40 : (x20.to_ == id) = true := by rw [Bool.not_eq_false'] at hc40; exact hc40
    have hc40 := eq_of_beq hc40
    refine aw_skip ?_
    try show aw _ _ _ _ _ _
    refine aw_reg ?_
    refine st_op (ev_move rfl) rfl rfl rfl ?_
    refine st_op (ev_int64 (c := j + 1) rfl rfl rfl (by omega) (by omega)) rfl rfl rfl ?_
    refine st_op (ev_assign rfl) rfl rfl rfl ?_
    try show aw _ _ _ _ _ _
    have hx54 : Ext Hl10 H38 := (Ext.trans hx36 hx39)
    have h53 := My.ext hm14 hx54
    refine aw_keep [0, 1, 5, 6] (l' := (.cons 0 (.slice lA l.length lc) (.cons 1 (.func (.func 49) #[] #[.pointer (some ⟨cl, 0, none⟩)]) (.cons 5 (.int .i64 i) (.cons 6 (.int .i64 (j + 1)) .nil))))) (by repeat (first | exact Up.done | refine Up.then ?_ | refine Up.inBlock ?_)) rfl ?_
    exact ih16 (i, j + 1, l1, H38) ⟨(show i < (j + 1) from (by omega)), (show Spec.DelInv (fun (y : MsgC) => y.to_ == id) l l1 i.toNat (j + 1).toNat from (by rw [show (j + 1).toNat = j.toNat + 1 by omega]; first | exact hinv.keep hx21 (by first | exact beq_eq_false_iff_ne.2 (by assumption) | simp_all) | exact hinv.skip hx21 (by exact beq_iff_eq.2 (by assumption)))), (show 0 ≤ i ∧ i ≤ 274877906944 from ⟨by omega, by omega⟩), (show 0 ≤ (j + 1) ∧ (j + 1) ≤ 274877906944 from ⟨by omega, by omega⟩), (show My lH H38 lA lc 13 (l1.map MsgC.cells) from h53), (show Fr (fun q => (lH.next ≤ q ∧ q < H2.next ∧ ZB H2 q 13)) H2 H38 from (Fr.trans (Fr.transG (Fr.trans (Fr.transG (Fr.refl (fun q => (lH.next ≤ q ∧ q < H2.next ∧ ZB H2 q 13)) H2) hxl15 (fun q hq hE e => (⟨by omega, by omega, ZB.back hE e.2.2⟩))) (hx27.fr fun _ => False) (fun q hq (e : False) => e.elim)) hf32 (fun q hq hE e => absurd hq (by omega))) (hx39.fr fun _ => False) (fun q hq (e : False) => e.elim)))⟩ (by simp only; omega)
  ·
   rw [Bool.not_eq_true] at hc17; refine aw_condF hc17 rfl ?_
   try show aw _ _ _ _ _ _
   have hc17 := of_decide_eq_false hc17
   refine aw_exit ?_
   try show aw _ _ _ _ _ _
   refine aw_seq ?_
   refine aw_reg ?_
   iterate 2 refine st_op (ev_move rfl) rfl rfl rfl ?_
   obtain ⟨A55, c56, L57, hL58, hl59, hs60, hr61⟩ := sliceA_my MsgC.cells el55 (by decide) hm14 (by omega) (lo := some (.int .i64 i)) (hi := none) (p := (i).toNat) (q := l1.length) rfl (bound_int (by omega) (by omega) (by first | rfl | omega)) (by omega) (by omega) (.inl rfl)
   rw [show l1.length = l.length from by first | rfl | (simp; done) | omega] at hs60
   refine st_op (ev_slice rfl rfl rfl rfl hs60) rfl rfl rfl ?_
   obtain ⟨H63, W64, he65, hm66, hf67, H63n_⟩ := mem_clear (e0 := ((⟨0, 0, 0, 0, 0, 0, 0, false, ([] : List Entry), none, 0, (⟨0, 0, (⟨#[]⟩ : ByteArray), (⟨#[]⟩ : ByteArray)⟩ : Snap)⟩ : MsgC) : MsgC)) (p := (i).toNat) eok55 el55 zero46 rfl hm14 hm14 hs60 (.inr ⟨_, _, rfl, by first | rfl | simp⟩) (by omega)
   refine st_op0 (he65 _ _ _ _ _ _ _ _ rfl) rfl rfl ?_
   have H63n : Hl10.next ≤ H63.next := hf67.1
   have hl68 : (l1.take ((i).toNat) ++ List.replicate L57.length ((⟨0, 0, 0, 0, 0, 0, 0, false, ([] : List Entry), none, 0, (⟨0, 0, (⟨#[]⟩ : ByteArray), (⟨#[]⟩ : ByteArray)⟩ : Snap)⟩ : MsgC) : MsgC) ++ l1.drop ((i).toNat + L57.length)).length = l1.length := by simp only [List.length_append, List.length_take, List.length_replicate, List.length_drop]; omega
   try show aw _ _ _ _ _ _
   refine aw_seq ?_
   refine aw_reg ?_
   iterate 2 refine st_op (ev_move rfl) rfl rfl rfl ?_
   obtain ⟨A69, c70, L71, hL72, hl73, hs74, hr75⟩ := sliceA_my MsgC.cells el55 (by decide) hm66 (by first | omega | (simp only [List.length_append, List.length_cons, List.length_nil, List.length_map, List.length_set, List.length_replicate, Spec.bytesOf_length]; omega) | (simp; omega)) (lo := none) (hi := some (.int .i64 i)) (p := 0) (q := (i).toNat) (by rw [Option.isSome_some, if_pos rfl]; exact bound_int (by first | omega | (simp only [List.length_append, List.length_cons, List.length_nil, List.length_map, List.length_set, List.length_replicate, Spec.bytesOf_length]; omega) | (simp; omega)) (by first | omega | (simp only [List.length_append, List.length_cons, List.length_nil, List.length_map, List.length_set, List.length_replicate, Spec.bytesOf_length]; omega) | (simp; omega)) (by first | rfl | omega)) rfl (by first | omega | (simp only [List.length_append, List.length_cons, List.length_nil, List.length_map, List.length_set, List.length_replicate, Spec.bytesOf_length]; omega) | (simp; omega)) (by first | omega | (simp only [List.length_append, List.length_cons, List.length_nil, List.length_map, List.length_set, List.length_replicate, Spec.bytesOf_length]; omega) | (simp; omega)) (.inr ⟨_, _, rfl⟩)
   rw [show (l1.take ((i).toNat) ++ List.replicate L57.length ((⟨0, 0, 0, 0, 0, 0, 0, false, ([] : List Entry), none, 0, (⟨0, 0, (⟨#[]⟩ : ByteArray), (⟨#[]⟩ : ByteArray)⟩ : Snap)⟩ : MsgC) : MsgC) ++ l1.drop ((i).toNat + L57.length)).length = l.length from by first | rfl | (simp; done) | omega] at hs74
   refine st_op (ev_slice rfl rfl rfl rfl hs74) rfl rfl rfl ?_
   refine st_op (ev_assign rfl) rfl rfl rfl ?_
   try show aw _ _ _ _ _ _
   refine aw_ret ?_
   have h77 := Each.ext el hx3
   have h78 := Each.frS h77 hxl15 (fun q hq e => (ZB.ne e.2.2 (show (13 : Nat) ≠ 4 by decide)))
   have h79 := Each.frS h78 hf67 (fun q hq e => (ZB.ne e.2.2 (show (13 : Nat) ≠ 4 by decide)))
   have hres : (l.filter (Spec.notp (fun (y : MsgC) => y.to_ == id))) = L71 := by rw [hL72]; rw [List.drop_zero, Nat.sub_zero, Spec.del_take (by omega), hinv.done (by omega)]
   exact ⟨.slice A69 L71.length c70, rfl, A69, c70, by first | (rw [hres]; first | done | rfl | simp; done) | rfl, (by rw [hres]; exact hr75), (by rw [hres]; exact (Each.sub h79 (fun _ h => by first | exact h | exact (List.mem_filter.1 h).1 | (rw [← hres] at h; exact (List.mem_filter.1 h).1)))), (by exact List.length_filter_le _ _), (Fr.transG (Fr.transG (Fr.trans (Fr.refl (fun q => (lH.next ≤ q ∧ q < H.next ∧ ZB H q 13)) H) (hx3.fr fun _ => False) (fun q hq (e : False) => e.elim)) hxl15 (fun q hq hE e => (⟨by omega, by omega, ZB.back hE e.2.2⟩))) hf67 (fun q hq hE e => (⟨by omega, by omega, ZB.back hE e.2.2⟩)))⟩
theorem net_Clear_spec (H : Heap) (lH : Heap) (lA : Option Addr) (l : List MsgC) (lc : Nat) (hl : My lH H lA lc 13 (l.map MsgC.cells)) (nl : lH.next ≤ H.next) (ll : l.length ≤ 400) (bl : Spec.Short l) (lE : Heap) (el : Each MsgC.sub lE H l) (nel : lE.next ≤ H.next) (n : Nat) (hn : n < H.next) (Bn : H.blk n = some ⟨[.slice lA l.length lc], 0, false, false⟩) (k : Int) : ∃ v H', Spec Try.prog 28 [.pointer (some ⟨n, 0, none⟩), .int .i64 k] H v H' ∧ (∃ rA1 rc1, ∃ rl1 : List MsgC, (v = .int .i64 ((Spec.clearF (l.map MsgC.val) k).1)) ∧ (rl1.map MsgC.val = ((Spec.clearF (l.map MsgC.val) k).2)) ∧ (My lH H' rA1 rc1 13 (rl1.map MsgC.cells)) ∧ (Each MsgC.sub lE H' rl1) ∧ (H'.blk n = some ⟨[.slice rA1 rl1.length rc1], 0, false, false⟩) ∧ (Spec.Short rl1) ∧ ((Spec.clearF (l.map MsgC.val) k).2.length ≤ l.length) ∧ (Fr (fun q => q = n ∨ (lH.next ≤ q ∧ q < H.next ∧ ZB H q 13)) H H')) := by
 refine spec_go2 E0_ok 23 (f := 28) Try.func28 rfl rfl rfl ?_
 refine aw_seq ?_
 refine aw_reg ?_
 obtain ⟨b1, H2, he3, b1e, H2n_, hB5, f4⟩ := mem_box (P := Try.prog) H (v := .int .i64 k) (cs := [.int .i64 k]) rfl rfl
 refine st_op (he3 _ _ _ _ _ _ _ _ _ rfl) rfl rfl rfl ?_
 have hx6 : Ext H H2 := Ext.new (by omega) H2n_ f4
 have H2n : H.next ≤ H2.next := hx6.1
 refine st_op (ev_assign rfl) rfl rfl rfl ?_
 try show aw _ _ _ _ _ _
 refine aw_seq ?_
 refine aw_reg ?_
 refine st_op (ev_move rfl) rfl rfl rfl ?_
 refine st_call rfl rfl rfl ent26 rfl rfl rfl ?_
 have h7 := Each.ext el hx6
 have h8 := My.ext hl hx6
 have h9 := Ext.blk hx6 (by omega) Bn
 obtain ⟨_, H11, hs10, hs10v, hx12⟩ := net_Len_spec H2 lH lA l lc h8 (by omega) (by omega) (by first | assumption | omega | decide | (simp_all; done)) lE h7 (by omega) n (by omega) h9
 rw [hs10v] at hs10; clear hs10v
 refine ⟨_, H11, hs10, ?_⟩
 have H11n : H2.next ≤ H11.next := hx12.1
 refine st_op (ev_assign rfl) rfl rfl rfl ?_
 try show aw _ _ _ _ _ _
 iterate 2 refine aw_seq ?_
 refine aw_reg ?_
 refine st_op (ev_move rfl) rfl rfl rfl ?_
 refine st_op (ev_nilNe rfl rfl Try.underlying41) rfl rfl rfl ?_
 try show aw _ _ _ _ _ _
 refine aw_cond (t := true) rfl ?_
 try show aw _ _ _ _ _ _
 refine aw_reg ?_
 iterate 2 refine st_op (ev_move rfl) rfl rfl rfl ?_
 refine st_op (ev_nilCheck rfl) rfl rfl rfl ?_
 refine st_op (ev_fieldAddr rfl fa73_0 (o' := 0) rfl) rfl rfl rfl ?_
 have h13 := Ext.blk hx12 (by omega) h9
 refine st_op (ev_load rfl (lvar_one one55 h13 rfl)) rfl rfl rfl ?_
 refine st_op (ev_makeFunc rfl) rfl rfl rfl ?_
 refine st_call rfl rfl rfl ent48 rfl rfl rfl ?_
 have h14 := Each.ext h7 hx12
 have h15 := My.ext h8 hx12
 have h16 := Ext.blk hx12 (by omega) hB5
 obtain ⟨_, H18, hs17, A20, c21, hs17v, hm22, hE24, hq23, hx19⟩ := mcl_del_spec H11 lH lA l lc h15 (by omega) (by omega) lE h14 (by omega) k b1 (by omega) h16
 rw [hs17v] at hs17; clear hs17v
 generalize hR26 : (l.filter (Spec.notp (fun (y : MsgC) => y.to_ == k))) = r25 at hs17 hm22 hE24 hq23
 refine ⟨_, H18, hs17, ?_⟩
 have H18n : H11.next ≤ H18.next := hx19.1
 refine st_op (ev_nilCheck rfl) rfl rfl rfl ?_
 refine st_op (ev_fieldAddr rfl fa73_0 (o' := 0) rfl) rfl rfl rfl ?_
 have h27 := Fr.blk hx19 (by omega) (fun e => (zb_ne h13 e.2.2 (show (0 : Nat) ≠ 13 by decide))) h13
 obtain ⟨H28, he29, H28n_, hB30, f31⟩ := mem_store (v := .slice A20 r25.length c21) (o := 0) (cs' := [.slice A20 r25.length c21]) 1 rfl rfl size55 h27 rfl rfl rfl
 refine st_op0 (he29 _ _ _ _ _ _ _ _ _ rfl rfl) rfl rfl ?_
 have hf32 : Fr (fun q => q = n) H18 H28 := Fr.write H28n_ f31
 have H28n : H18.next ≤ H28.next := hf32.1
 try show aw _ _ _ _ _ _
 refine aw_seq ?_
 refine aw_reg ?_
 iterate 2 refine st_op (ev_move rfl) rfl rfl rfl ?_
 refine st_call rfl rfl rfl ent26 rfl rfl rfl ?_
 have h33 := Each.frS hE24 hf32 (fun q hq e => ⟨_, e ▸ h27, show (0 : Nat) ≠ 4 by decide⟩)
 have h34 := My.frS hm22 hf32 (fun q hq e => ⟨_, e ▸ h27, show (0 : Nat) ≠ 13 by decide⟩)
 obtain ⟨_, H36, hs35, hs35v, hx37⟩ := net_Len_spec H28 lH A20 r25 c21 h34 (by omega) (by omega) (Spec.short_sub bl (fun _ h => (List.mem_filter.1 (by rw [hR26]; exact h)).1)) lE h33 (by omega) n (by omega) hB30
 rw [hs35v] at hs35; clear hs35v
 refine ⟨_, H36, hs35, ?_⟩
 have H36n : H28.next ≤ H36.next := hx37.1
 refine st_op (ev_int rfl rfl rfl) rfl rfl rfl ?_
 refine st_op (ev_assign rfl) rfl rfl rfl ?_
 try show aw _ _ _ _ _ _
 refine aw_ret ?_
 have h38 := My.ext h34 hx37
 have h39 := Each.ext h33 hx37
 have h40 := Ext.blk hx37 (by omega) hB30
 have hres : (Spec.clearF (l.map MsgC.val) k) = ((IntKind.i64.wrap ((l.length : Int) - (r25.length : Int))), (r25.map MsgC.val)) := by unfold Spec.clearF; rw [Spec.clear_val, hR26]; simp; try (rw [IntKind.wrap_i64]; omega)
 exact ⟨.int .i64 (IntKind.i64.wrap ((l.length : Int) - (r25.length : Int))), rfl, A20, c21, r25, by first | (rw [hres]; first | done | rfl | simp; done) | rfl, (by (rw [hres]) <;> rfl), (by first | exact h38 | (rw [hres]; exact h38)), (by first | exact h39 | (rw [hres]; exact h39)), (by first | exact h40 | (rw [hres]; exact h40)), (by exact Spec.short_sub bl (fun _ h => (List.mem_filter.1 (by rw [hR26]; exact h)).1)), (by exact Nat.le_trans Spec.clear_le (by rw [List.length_map]; exact Nat.le_refl _)), (Fr.trans (Fr.transG (Fr.transG (Fr.trans (Fr.trans (Fr.refl (fun q => q = n ∨ (lH.next ≤ q ∧ q < H.next ∧ ZB H q 13)) H) (hx6.fr fun _ => False) (fun q hq (e : False) => e.elim)) (hx12.fr fun _ => False) (fun q hq (e : False) => e.elim)) hx19 (fun q hq hE e => Or.inr ((⟨by omega, by omega, ZB.back hE e.2.2⟩)))) hf32 (fun q hq hE e => Or.inl (e))) (hx37.fr fun _ => False) (fun q hq (e : False) => e.elim))⟩
theorem net_Clear_specH (H : Heap) (lH : Heap) (lA : Option Addr) (l : List MsgC) (lc : Nat) (hl : My lH H lA lc 13 (l.map MsgC.cells)) (nl : lH.next ≤ H.next) (ll : l.length ≤ 400) (bl : Spec.Short l) (lE : Heap) (el : Each MsgC.sub lE H l) (nel : lE.next ≤ H.next) (n : Nat) (hn : n < H.next) (Bn : H.blk n = some ⟨[.slice lA l.length lc], 0, false, false⟩) (k : Int) (D : Nat → Prop) (hD : ∀ q, D q → ZB H q 13) (hDl : ∀ q, D q → q < H.next) (hlD : My lH (H.hide D) lA lc 13 (l.map MsgC.cells)) : ∃ v H', Spec Try.prog 28 [.pointer (some ⟨n, 0, none⟩), .int .i64 k] H v H' ∧ (∃ rA1 rc1, ∃ rl1 : List MsgC, (v = .int .i64 ((Spec.clearF (l.map MsgC.val) k).1)) ∧ (rl1.map MsgC.val = ((Spec.clearF (l.map MsgC.val) k).2)) ∧ (My lH H' rA1 rc1 13 (rl1.map MsgC.cells)) ∧ (Each MsgC.sub lE H' rl1) ∧ (H'.blk n = some ⟨[.slice rA1 rl1.length rc1], 0, false, false⟩) ∧ (Spec.Short rl1) ∧ ((Spec.clearF (l.map MsgC.val) k).2.length ≤ l.length) ∧ (My lH (H'.hide D) rA1 rc1 13 (rl1.map MsgC.cells)) ∧ (Fr (fun q => (q = n ∨ (lH.next ≤ q ∧ q < H.next ∧ ZB H q 13)) ∧ ¬ D q) H H')) := by
 obtain ⟨v, H1, hs, rA1, rc1, rl1, k0, k1, k2, k3, k4, k5, k6, k7⟩ := net_Clear_spec (H.hide D) lH lA l lc hlD nl ll bl lE (el.hideN hD (by decide)) nel n hn (blk_hideN Bn hD (show (0 : Nat) ≠ 13 by decide)) k
 have hW : ∀ q, D q → ¬ (q = n ∨ (lH.next ≤ q ∧ q < H.next ∧ ZB (H.hide D) q 13)) := fun q d e => e.elim (fun e => zb_ne Bn (e ▸ hD q d) (show (0 : Nat) ≠ 13 by decide)) (fun e => e.2.2.hide.1 d)
 have u := back_under k7 hW
 have u2 := back_under2 k7 hW hDl
 exact ⟨v, H.back D H1, hs.hide, rA1, rc1, rl1, k0, k1, (k2.under u), (k3.under u), (u.2 _ _ k4), k5, k6, k2.under u2, Fr.mono (back_fr k7) (fun q e => ⟨e.1.imp id (fun w => ⟨w.1, w.2.1, w.2.2.hide.2⟩), e.2⟩)⟩

theorem sl_CloneE_spec (H : Heap) (lA : Option Addr) (l : List Entry) (lc : Nat) (hl : Row H lA lc 4 (l.map Entry.cells)) (cl : l.length ≤ lc) (ll : l.length ≤ 1073741824) : ∃ v H', Spec Try.prog 66 [.slice lA l.length lc] H v H' ∧ (∃ rA0 rc0, (v = .slice rA0 l.length rc0) ∧ (My H H' rA0 rc0 4 (l.map Entry.cells)) ∧ (Ext H H')) := by
 refine spec_go1 E0_ok 8 (f := 66) Try.func66 rfl rfl rfl ?_
 refine aw_seq ?_
 refine aw_reg ?_
 refine st_op (ev_assign rfl) rfl rfl rfl ?_
 try show aw _ _ _ _ _ _
 iterate 2 refine aw_seq ?_
 refine aw_reg ?_
 refine st_op (ev_move rfl) rfl rfl rfl ?_
 refine st_op (ev_nilSl rfl rfl Try.underlying42) rfl rfl rfl ?_
 try show aw _ _ _ _ _ _
 by_cases hc1 : (Option.isNone lA) = true
 ·
  refine aw_condT hc1 rfl ?_
  try show aw _ _ _ _ _ _
  refine aw_seq ?_
  refine aw_reg ?_
  refine st_op (ev_assign rfl) rfl rfl rfl ?_
  try show aw _ _ _ _ _ _
  refine aw_ret ?_
  have hm2 : My H H none 0 4 (([] : List Entry).map Entry.cells) := .nil
  have hres : l = ([] : List Entry) := by exact Row.isNone hl (by assumption)
  exact ⟨.slice none 0 0, rfl, none, 0, by first | (rw [hres]; first | done | rfl | simp; done) | rfl, (by rw [hres]; exact hm2), (Ext.refl H)⟩
 ·
  rw [Bool.not_eq_true] at hc1; refine aw_condF hc1 rfl ?_
  try show aw _ _ _ _ _ _
  refine aw_skip ?_
  try show aw _ _ _ _ _ _
  refine aw_seq ?_
  refine aw_reg ?_
  obtain ⟨b3, H4, he5, b3e, H4n_, hm7, f6⟩ := mem_lit H (xs := ([] : List Value)) (m := 0) (rows := ([] : List (List Value))) rfl eok42 (by decide) (by decide) zf84 rfl (allLen rfl) rfl
  replace hm7 : My H H4 (some ⟨b3, 0, none⟩) 0 4 (([] : List Entry).map Entry.cells) := hm7
  refine st_op (he5 _ _ _ _ _ _ _ _ rfl) rfl rfl rfl ?_
  have hx8 : Ext H H4 := Ext.new (by omega) H4n_ f6
  have H4n : H.next ≤ H4.next := hx8.1
  refine st_op (ev_move rfl) rfl rfl rfl ?_
  have h9 := Row.ext hl hx8
  obtain ⟨A10, c11, H12, W13, he14, hm15, hf16⟩ := mem_append (f := Entry.cells) (old := ([] : List Entry)) (new := l) (m := 0) (mx := l.length) (c := 0) (by first | rfl | simp) (by first | rfl | simp) eok42 (by decide) hm7 hm7 (by omega) ((h9).srcF (by decide) (by first | rfl | simp)) rfl Entry.cells_len Entry.cells_one (by first | omega | (simp only [List.length_append, List.length_cons, List.length_nil, List.length_map, List.length_set, List.length_replicate, Spec.bytesOf_length]; omega) | (simp; omega)) (by first | omega | (simp only [List.length_append, List.length_cons, List.length_nil, List.length_map, List.length_set, List.length_replicate, Spec.bytesOf_length]; omega) | (simp; omega))
  refine st_op (he14 _ _ _ _ _ _ _ _ _ _ rfl rfl isrow42) rfl rfl rfl ?_
  have H12n : H4.next ≤ H12.next := hf16.1
  rw [List.nil_append] at hm15
  refine st_op (ev_assign rfl) rfl rfl rfl ?_
  try show aw _ _ _ _ _ _
  refine aw_ret ?_
  have hx17 : Ext H H12 := (Ext.then hx8 hf16 (fun q hq e => by omega))
  have hres : l = l := by rfl
  exact ⟨.slice A10 l.length c11, rfl, A10, c11, by first | (rw [hres]; first | done | rfl | simp; done) | rfl, (by rw [hres]; exact hm15), hx17⟩
theorem net_own_spec (H : Heap) (kind : Int) (from_ : Int) (to_ : Int) (term : Int) (index : Int) (logterm : Int) (commit : Int) (yes : Bool) (esA : Option Addr) (es : List Entry) (esc : Nat) (hes : Row H esA esc 4 (es.map Entry.cells)) (ces : es.length ≤ esc) (les : es.length ≤ 1073741824) (s_index : Int) (s_term : Int) (s_conf : ByteArray) (s_data : ByteArray) : ∃ v H', Spec Try.prog 43 [.agg #[.int .i64 kind, .int .i64 from_, .int .i64 to_, .int .i64 term, .int .i64 index, .int .i64 logterm, .int .i64 commit, .bool yes, .slice esA es.length esc, .int .i64 s_index, .int .i64 s_term, .string s_conf, .string s_data]] H v H' ∧ (∃ rA8 rc8, (v = .agg #[.int .i64 kind, .int .i64 from_, .int .i64 to_, .int .i64 term, .int .i64 index, .int .i64 logterm, .int .i64 commit, .bool yes, .slice rA8 es.length rc8, .int .i64 s_index, .int .i64 s_term, .string s_conf, .string s_data]) ∧ (My H H' rA8 rc8 4 (es.map Entry.cells)) ∧ (Ext H H')) := by
 refine spec_go1 E0_ok 8 (f := 43) Try.func43 rfl rfl rfl ?_
 refine aw_seq ?_
 refine aw_reg ?_
 obtain ⟨b1, H2, he3, b1e, H2n_, hB5, f4⟩ := mem_box (P := Try.prog) H (v := .agg #[.int .i64 kind, .int .i64 from_, .int .i64 to_, .int .i64 term, .int .i64 index, .int .i64 logterm, .int .i64 commit, .bool yes, .slice esA es.length esc, .int .i64 s_index, .int .i64 s_term, .string s_conf, .string s_data]) (cs := [.int .i64 kind, .int .i64 from_, .int .i64 to_, .int .i64 term, .int .i64 index, .int .i64 logterm, .int .i64 commit, .bool yes, .slice esA es.length esc, .int .i64 s_index, .int .i64 s_term, .string s_conf, .string s_data]) rfl rfl
 refine st_op (he3 _ _ _ _ _ _ _ _ _ rfl) rfl rfl rfl ?_
 have hx6 : Ext H H2 := Ext.new (by omega) H2n_ f4
 have H2n : H.next ≤ H2.next := hx6.1
 obtain ⟨b7, H8, he9, b7e, H8n_, hB11, f10⟩ := mem_alloc H2 zero46
 refine st_op (he9 _ _ _ _ _ _ _) rfl rfl rfl ?_
 have hx12 : Ext H2 H8 := Ext.new (by omega) H8n_ f10
 have H8n : H2.next ≤ H8.next := hx12.1
 try show aw _ _ _ _ _ _
 refine aw_seq ?_
 refine aw_reg ?_
 refine st_op (ev_fieldAddr rfl fa46_8 (o' := 8) rfl) rfl rfl rfl ?_
 have h13 := Ext.blk hx12 (by omega) hB5
 refine st_op (ev_load rfl (lvar_one one42 h13 rfl)) rfl rfl rfl ?_
 refine st_call rfl rfl rfl ent66 rfl rfl rfl ?_
 have hx15 : Ext H H8 := (Ext.trans hx6 hx12)
 have h14 := Row.ext hes hx15
 obtain ⟨_, H17, hs16, A19, c20, hs16v, hm21, hx18⟩ := sl_CloneE_spec H8 esA es esc h14 ces (by omega)
 rw [hs16v] at hs16; clear hs16v
 refine ⟨_, H17, hs16, ?_⟩
 have H17n : H8.next ≤ H17.next := hx18.1
 refine st_op (ev_fieldAddr rfl fa46_8 (o' := 8) rfl) rfl rfl rfl ?_
 have h22 := Ext.blk hx18 (by omega) h13
 obtain ⟨H23, he24, H23n_, hB25, f26⟩ := mem_store (v := .slice A19 es.length c20) (o := 8) (cs' := [.int .i64 kind, .int .i64 from_, .int .i64 to_, .int .i64 term, .int .i64 index, .int .i64 logterm, .int .i64 commit, .bool yes, .slice A19 es.length c20, .int .i64 s_index, .int .i64 s_term, .string s_conf, .string s_data]) 1 rfl rfl size42 h22 rfl rfl rfl
 refine st_op0 (he24 _ _ _ _ _ _ _ _ _ rfl rfl) rfl rfl ?_
 have hf27 : Fr (fun q => q = b1) H17 H23 := Fr.write H23n_ f26
 have H23n : H17.next ≤ H23.next := hf27.1
 try show aw _ _ _ _ _ _
 refine aw_seq ?_
 refine aw_reg ?_
 refine st_op (ev_load rfl (lvar_part (l := [.int .i64 kind, .int .i64 from_, .int .i64 to_, .int .i64 term, .int .i64 index, .int .i64 logterm, .int .i64 commit, .bool yes, .slice A19 es.length c20, .int .i64 s_index, .int .i64 s_term, .string s_conf, .string s_data]) many46 hB25 rfl rfl (by decide))) rfl rfl rfl ?_
 have h28 := Ext.blk hx18 (by omega) hB11
 have h29 := Fr.blk hf27 (by omega) (fun e => (by omega)) h28
 obtain ⟨H30, he31, H30n_, hB32, f33⟩ := mem_store (v := .agg #[.int .i64 kind, .int .i64 from_, .int .i64 to_, .int .i64 term, .int .i64 index, .int .i64 logterm, .int .i64 commit, .bool yes, .slice A19 es.length c20, .int .i64 s_index, .int .i64 s_term, .string s_conf, .string s_data]) (o := 0) (cs' := [.int .i64 kind, .int .i64 from_, .int .i64 to_, .int .i64 term, .int .i64 index, .int .i64 logterm, .int .i64 commit, .bool yes, .slice A19 es.length c20, .int .i64 s_index, .int .i64 s_term, .string s_conf, .string s_data]) 13 rfl rfl size46 h29 rfl rfl rfl
 refine st_op0 (he31 _ _ _ _ _ _ _ _ _ rfl rfl) rfl rfl ?_
 have hf34 : Fr (fun q => q = b7) H23 H30 := Fr.write H30n_ f33
 have H30n : H23.next ≤ H30.next := hf34.1
 try show aw _ _ _ _ _ _
 refine aw_ret ?_
 have h35 := My.frS hm21 hf27 (fun q hq e => ⟨_, e ▸ h22, show (0 : Nat) ≠ 4 by decide⟩)
 have h36 := My.frS h35 hf34 (fun q hq e => ⟨_, e ▸ h29, show (0 : Nat) ≠ 4 by decide⟩)
 have hx37 : Ext H H30 := (Ext.then (Ext.then (Ext.trans hx15 hx18) hf27 (fun q hq e => by omega)) hf34 (fun q hq e => by omega))
 have hres : es = es := by rfl
 exact ⟨.agg #[.int .i64 kind, .int .i64 from_, .int .i64 to_, .int .i64 term, .int .i64 index, .int .i64 logterm, .int .i64 commit, .bool yes, .slice A19 es.length c20, .int .i64 s_index, .int .i64 s_term, .string s_conf, .string s_data], (resA_of (resL_cell rfl (lvar_part (l := [.int .i64 kind, .int .i64 from_, .int .i64 to_, .int .i64 term, .int .i64 index, .int .i64 logterm, .int .i64 commit, .bool yes, .slice A19 es.length c20, .int .i64 s_index, .int .i64 s_term, .string s_conf, .string s_data]) many46 hB32 rfl rfl (by decide)) resL_nil) rfl), A19, c20, by first | (rw [hres]; first | done | rfl | simp; done) | rfl, (by rw [hres]; exact (My.older h36 (by omega))), hx37⟩
theorem net_Look_spec (H : Heap) (lH : Heap) (lA : Option Addr) (l : List MsgC) (lc : Nat) (hl : My lH H lA lc 13 (l.map MsgC.cells)) (nl : lH.next ≤ H.next) (ll : l.length ≤ 400) (bl : Spec.Short l) (lE : Heap) (el : Each MsgC.sub lE H l) (nel : lE.next ≤ H.next) (n : Nat) (hn : n < H.next) (Bn : H.blk n = some ⟨[.slice lA l.length lc], 0, false, false⟩) (i : Int) : ∃ v H', Spec Try.prog 23 [.pointer (some ⟨n, 0, none⟩), .int .i64 i] H v H' ∧ (∃ rA8 rc8, (v = .tuple #[.agg #[.int .i64 ((Spec.lookF (l.map MsgC.val) i).1), .int .i64 ((Spec.lookF (l.map MsgC.val) i).2.1), .int .i64 ((Spec.lookF (l.map MsgC.val) i).2.2.1), .int .i64 ((Spec.lookF (l.map MsgC.val) i).2.2.2.1), .int .i64 ((Spec.lookF (l.map MsgC.val) i).2.2.2.2.1), .int .i64 ((Spec.lookF (l.map MsgC.val) i).2.2.2.2.2.1), .int .i64 ((Spec.lookF (l.map MsgC.val) i).2.2.2.2.2.2.1), .bool ((Spec.lookF (l.map MsgC.val) i).2.2.2.2.2.2.2.1), .slice rA8 (((Spec.lookF (l.map MsgC.val) i).2.2.2.2.2.2.2.2.1).length) rc8, .int .i64 ((Spec.lookF (l.map MsgC.val) i).2.2.2.2.2.2.2.2.2.1), .int .i64 ((Spec.lookF (l.map MsgC.val) i).2.2.2.2.2.2.2.2.2.2.1), .string ((Spec.lookF (l.map MsgC.val) i).2.2.2.2.2.2.2.2.2.2.2.1), .string ((Spec.lookF (l.map MsgC.val) i).2.2.2.2.2.2.2.2.2.2.2.2.1)], .bool ((Spec.lookF (l.map MsgC.val) i).2.2.2.2.2.2.2.2.2.2.2.2.2)]) ∧ (My H H' rA8 rc8 4 (((Spec.lookF (l.map MsgC.val) i).2.2.2.2.2.2.2.2.1).map Entry.cells)) ∧ (Ext H H')) := by
 refine spec_go2 E0_ok 23 (f := 23) Try.func23 rfl rfl rfl ?_
 refine aw_seq ?_
 refine aw_reg ?_
 obtain ⟨b1, H2, he3, b1e, H2n_, hB5, f4⟩ := mem_alloc H zero46
 refine st_op (he3 _ _ _ _ _ _ _) rfl rfl rfl ?_
 have hx6 : Ext H H2 := Ext.new (by omega) H2n_ f4
 have H2n : H.next ≤ H2.next := hx6.1
 refine st_op (ev_assign rfl) rfl rfl rfl ?_
 try show aw _ _ _ _ _ _
 iterate 2 refine aw_seq ?_
 refine aw_reg ?_
 refine st_op (ev_move rfl) rfl rfl rfl ?_
 refine st_op (ev_int rfl rfl rfl) rfl rfl rfl ?_
 refine st_op (ev_move rfl) rfl rfl rfl ?_
 refine st_bool 8 rfl (fun hb7 => ?_) (fun hb7 => ?_)
 ·
  have hb7 := of_decide_eq_true hb7
  iterate 4 refine st_skip rfl rfl rfl ?_
  refine st_op (ev_pickT rfl rfl) rfl rfl rfl ?_
  try show aw _ _ _ _ _ _
  refine aw_cond (t := true) rfl ?_
  try show aw _ _ _ _ _ _
  refine aw_seq ?_
  refine aw_reg ?_
  refine st_op (ev_build zero46 pl46 (parts := []) rfl (cs := [.int .i64 0, .int .i64 0, .int .i64 0, .int .i64 0, .int .i64 0, .int .i64 0, .int .i64 0, .bool false, .slice none 0 0, .int .i64 0, .int .i64 0, .string (⟨#[]⟩), .string (⟨#[]⟩)]) rfl) rfl rfl rfl ?_
  obtain ⟨H8, he9, H8n_, hB10, f11⟩ := mem_store (v := .agg #[.int .i64 0, .int .i64 0, .int .i64 0, .int .i64 0, .int .i64 0, .int .i64 0, .int .i64 0, .bool false, .slice none 0 0, .int .i64 0, .int .i64 0, .string (⟨#[]⟩), .string (⟨#[]⟩)]) (o := 0) (cs' := [.int .i64 0, .int .i64 0, .int .i64 0, .int .i64 0, .int .i64 0, .int .i64 0, .int .i64 0, .bool false, .slice none 0 0, .int .i64 0, .int .i64 0, .string (⟨#[]⟩), .string (⟨#[]⟩)]) 13 rfl rfl size46 hB5 rfl rfl rfl
  refine st_op0 (he9 _ _ _ _ _ _ _ _ _ rfl rfl) rfl rfl ?_
  have hf12 : Fr (fun q => q = b1) H2 H8 := Fr.write H8n_ f11
  have H8n : H2.next ≤ H8.next := hf12.1
  refine st_op (ev_assign rfl) rfl rfl rfl ?_
  try show aw _ _ _ _ _ _
  refine aw_ret ?_
  have hm13 : My H8 H8 none 0 4 (([] : List Entry).map Entry.cells) := .nil
  have hx14 : Ext H H8 := (Ext.then hx6 hf12 (fun q hq e => by omega))
  have hres : (Spec.lookF (l.map MsgC.val) i) = (0, 0, 0, 0, 0, 0, 0, false, ([] : List Entry), 0, 0, (⟨#[]⟩ : ByteArray), (⟨#[]⟩ : ByteArray), false) := by exact Spec.look_out (by omega)
  exact ⟨.tuple #[.agg #[.int .i64 0, .int .i64 0, .int .i64 0, .int .i64 0, .int .i64 0, .int .i64 0, .int .i64 0, .bool false, .slice none 0 0, .int .i64 0, .int .i64 0, .string (⟨#[]⟩), .string (⟨#[]⟩)], .bool false], (resA_of (resL_cell rfl (lvar_part (l := [.int .i64 0, .int .i64 0, .int .i64 0, .int .i64 0, .int .i64 0, .int .i64 0, .int .i64 0, .bool false, .slice none 0 0, .int .i64 0, .int .i64 0, .string (⟨#[]⟩), .string (⟨#[]⟩)]) many46 hB10 rfl rfl (by decide)) (resL_tmp rfl resL_nil)) rfl), none, 0, by first | (rw [hres]; first | done | rfl | simp; done) | rfl, (by rw [hres]; exact (My.older hm13 (by omega))), hx14⟩
 ·
  have hb7 := of_decide_eq_false hb7
  iterate 2 refine st_op (ev_move rfl) rfl rfl rfl ?_
  refine st_call rfl rfl rfl ent26 rfl rfl rfl ?_
  have h15 := Each.ext el hx6
  have h16 := My.ext hl hx6
  have h17 := Ext.blk hx6 (by omega) Bn
  obtain ⟨_, H19, hs18, hs18v, hx20⟩ := net_Len_spec H2 lH lA l lc h16 (by omega) (by omega) (by first | assumption | omega | decide | (simp_all; done)) lE h15 (by omega) n (by omega) h17
  rw [hs18v] at hs18; clear hs18v
  refine ⟨_, H19, hs18, ?_⟩
  have H19n : H2.next ≤ H19.next := hx20.1
  refine st_op (ev_int rfl rfl rfl) rfl rfl rfl ?_
  refine st_op (ev_pickF rfl rfl) rfl rfl rfl ?_
  try show aw _ _ _ _ _ _
  by_cases hc21 : (decide (i ≥ (l.length : Int))) = true
  ·
   refine aw_condT hc21 rfl ?_
   try show aw _ _ _ _ _ _
   have hc21 := of_decide_eq_true hc21
   refine aw_seq ?_
   refine aw_reg ?_
   refine st_op (ev_build zero46 pl46 (parts := []) rfl (cs := [.int .i64 0, .int .i64 0, .int .i64 0, .int .i64 0, .int .i64 0, .int .i64 0, .int .i64 0, .bool false, .slice none 0 0, .int .i64 0, .int .i64 0, .string (⟨#[]⟩), .string (⟨#[]⟩)]) rfl) rfl rfl rfl ?_
   have h22 := Ext.blk hx20 (by omega) hB5
   obtain ⟨H23, he24, H23n_, hB25, f26⟩ := mem_store (v := .agg #[.int .i64 0, .int .i64 0, .int .i64 0, .int .i64 0, .int .i64 0, .int .i64 0, .int .i64 0, .bool false, .slice none 0 0, .int .i64 0, .int .i64 0, .string (⟨#[]⟩), .string (⟨#[]⟩)]) (o := 0) (cs' := [.int .i64 0, .int .i64 0, .int .i64 0, .int .i64 0, .int .i64 0, .int .i64 0, .int .i64 0, .bool false, .slice none 0 0, .int .i64 0, .int .i64 0, .string (⟨#[]⟩), .string (⟨#[]⟩)]) 13 rfl rfl size46 h22 rfl rfl rfl
   refine st_op0 (he24 _ _ _ _ _ _ _ _ _ rfl rfl) rfl rfl ?_
   have hf27 : Fr (fun q => q = b1) H19 H23 := Fr.write H23n_ f26
   have H23n : H19.next ≤ H23.next := hf27.1
   refine st_op (ev_assign rfl) rfl rfl rfl ?_
   try show aw _ _ _ _ _ _
   refine aw_ret ?_
   have hm28 : My H23 H23 none 0 4 (([] : List Entry).map Entry.cells) := .nil
   have hx29 : Ext H H23 := (Ext.then (Ext.trans hx6 hx20) hf27 (fun q hq e => by omega))
   have hres : (Spec.lookF (l.map MsgC.val) i) = (0, 0, 0, 0, 0, 0, 0, false, ([] : List Entry), 0, 0, (⟨#[]⟩ : ByteArray), (⟨#[]⟩ : ByteArray), false) := by exact Spec.look_out (by omega)
   exact ⟨.tuple #[.agg #[.int .i64 0, .int .i64 0, .int .i64 0, .int .i64 0, .int .i64 0, .int .i64 0, .int .i64 0, .bool false, .slice none 0 0, .int .i64 0, .int .i64 0, .string (⟨#[]⟩), .string (⟨#[]⟩)], .bool false], (resA_of (resL_cell rfl (lvar_part (l := [.int .i64 0, .int .i64 0, .int .i64 0, .int .i64 0, .int .i64 0, .int .i64 0, .int .i64 0, .bool false, .slice none 0 0, .int .i64 0, .int .i64 0, .string (⟨#[]⟩), .string (⟨#[]⟩)]) many46 hB25 rfl rfl (by decide)) (resL_tmp rfl resL_nil)) rfl), none, 0, by first | (rw [hres]; first | done | rfl | simp; done) | rfl, (by rw [hres]; exact (My.older hm28 (by omega))), hx29⟩
  ·
   rw [Bool.not_eq_true] at hc21; refine aw_condF hc21 rfl ?_
   try show aw _ _ _ _ _ _
   have hc21 := of_decide_eq_false hc21
   refine aw_skip ?_
   try show aw _ _ _ _ _ _
   refine aw_seq ?_
   refine aw_reg ?_
   refine st_op (ev_move rfl) rfl rfl rfl ?_
   refine st_op (ev_nilCheck rfl) rfl rfl rfl ?_
   refine st_op (ev_fieldAddr rfl fa73_0 (o' := 0) rfl) rfl rfl rfl ?_
   have h30 := Ext.blk hx20 (by omega) h17
   refine st_op (ev_load rfl (lvar_one one55 h30 rfl)) rfl rfl rfl ?_
   refine st_op (ev_move rfl) rfl rfl rfl ?_
   have h31 := My.ext h16 hx20
   have hi32 : 0 ≤ (i : Int) := by omega
   have hi33 : (i : Int) < ((l.length : Nat) : Int) := by omega
   obtain ⟨x34, hx35⟩ : ∃ e, l[(i).toNat]? = some e := ⟨_, List.getElem?_eq_getElem (by omega)⟩
   have h37 := Each.ext h15 hx20
   have hm36 : My lE H19 x34.esA x34.esc 4 (x34.es.map Entry.cells) := Each.get h37 hx35
   have x34e := (show Spec.Short l from by first | exact bl | assumption) _ (List.mem_of_getElem? hx35)
   refine st_op (ev_at rfl rfl (My.row h31) (getMap MsgC.cells hx35) (by first | rfl | omega | simp) hi32 hi33 el55) rfl rfl rfl ?_
   refine st_op (ev_atN (cs := [.int .i64 x34.kind, .int .i64 x34.from_, .int .i64 x34.to_, .int .i64 x34.term, .int .i64 x34.index, .int .i64 x34.logterm, .int .i64 x34.commit, .bool x34.yes, .slice x34.esA x34.es.length x34.esc, .int .i64 x34.snap.index, .int .i64 x34.snap.term, .string x34.snap.conf, .string x34.snap.data]) rfl (My.row h31) (getMap MsgC.cells hx35) many46 rfl rfl (by decide)) rfl rfl rfl ?_
   refine st_call rfl rfl rfl ent43 rfl rfl rfl ?_
   obtain ⟨_, H39, hs38, A41, c42, hs38v, hm43, hx40⟩ := net_own_spec H19 x34.kind x34.from_ x34.to_ x34.term x34.index x34.logterm x34.commit x34.yes x34.esA x34.es x34.esc (My.row hm36) (My.capF hm36 (by omega)) (by omega) x34.snap.index x34.snap.term x34.snap.conf x34.snap.data
   rw [hs38v] at hs38; clear hs38v
   refine ⟨_, H39, hs38, ?_⟩
   have H39n : H19.next ≤ H39.next := hx40.1
   have hx45 : Ext H2 H39 := (Ext.trans hx20 hx40)
   have h44 := Ext.blk hx45 (by omega) hB5
   obtain ⟨H46, he47, H46n_, hB48, f49⟩ := mem_store (v := .agg #[.int .i64 x34.kind, .int .i64 x34.from_, .int .i64 x34.to_, .int .i64 x34.term, .int .i64 x34.index, .int .i64 x34.logterm, .int .i64 x34.commit, .bool x34.yes, .slice A41 x34.es.length c42, .int .i64 x34.snap.index, .int .i64 x34.snap.term, .string x34.snap.conf, .string x34.snap.data]) (o := 0) (cs' := [.int .i64 x34.kind, .int .i64 x34.from_, .int .i64 x34.to_, .int .i64 x34.term, .int .i64 x34.index, .int .i64 x34.logterm, .int .i64 x34.commit, .bool x34.yes, .slice A41 x34.es.length c42, .int .i64 x34.snap.index, .int .i64 x34.snap.term, .string x34.snap.conf, .string x34.snap.data]) 13 rfl rfl size46 h44 rfl rfl rfl
   refine st_op0 (he47 _ _ _ _ _ _ _ _ _ rfl rfl) rfl rfl ?_
   have hf50 : Fr (fun q => q = b1) H39 H46 := Fr.write H46n_ f49
   have H46n : H39.next ≤ H46.next := hf50.1
   refine st_op (ev_assign rfl) rfl rfl rfl ?_
   try show aw _ _ _ _ _ _
   refine aw_ret ?_
   have h51 := My.frS hm43 hf50 (fun q hq e => ⟨_, e ▸ h44, show (0 : Nat) ≠ 4 by decide⟩)
   have hx52 : Ext H H46 := (Ext.then (Ext.trans (Ext.trans hx6 hx20) hx40) hf50 (fun q hq e => by omega))
   have hres : (Spec.lookF (l.map MsgC.val) i) = (x34.kind, x34.from_, x34.to_, x34.term, x34.index, x34.logterm, x34.commit, x34.yes, x34.es, x34.snap.index, x34.snap.term, x34.snap.conf, x34.snap.data, true) := by exact Spec.look_at (by omega) hx35
   exact ⟨.tuple #[.agg #[.int .i64 x34.kind, .int .i64 x34.from_, .int .i64 x34.to_, .int .i64 x34.term, .int .i64 x34.index, .int .i64 x34.logterm, .int .i64 x34.commit, .bool x34.yes, .slice A41 x34.es.length c42, .int .i64 x34.snap.index, .int .i64 x34.snap.term, .string x34.snap.conf, .string x34.snap.data], .bool true], (resA_of (resL_cell rfl (lvar_part (l := [.int .i64 x34.kind, .int .i64 x34.from_, .int .i64 x34.to_, .int .i64 x34.term, .int .i64 x34.index, .int .i64 x34.logterm, .int .i64 x34.commit, .bool x34.yes, .slice A41 x34.es.length c42, .int .i64 x34.snap.index, .int .i64 x34.snap.term, .string x34.snap.conf, .string x34.snap.data]) many46 hB48 rfl rfl (by decide)) (resL_tmp rfl resL_nil)) rfl), A41, c42, by first | (rw [hres]; first | done | rfl | simp; done) | rfl, (by rw [hres]; exact (My.older h51 (by omega))), hx52⟩
theorem sl_DeleteM_spec (H : Heap) (lH : Heap) (lA : Option Addr) (l : List MsgC) (lc : Nat) (hl : My lH H lA lc 13 (l.map MsgC.cells)) (nl : lH.next ≤ H.next) (ll : l.length ≤ 1073741824) (lE : Heap) (el : Each MsgC.sub lE H l) (nel : lE.next ≤ H.next) (i : Int) (hi : 0 ≤ i ∧ i ≤ 1073741824) (ui : i < (l.length : Int)) (j : Int) (hj : 0 ≤ j ∧ j ≤ 1073741824) (uj : i ≤ j ∧ j ≤ (l.length : Int)) : ∃ v H', Spec Try.prog 47 [.slice lA l.length lc, .int .i64 i, .int .i64 j] H v H' ∧ (∃ rA0 rc0, (v = .slice rA0 ((l.take i.toNat ++ l.drop j.toNat).length) rc0) ∧ (My lH H' rA0 rc0 13 ((l.take i.toNat ++ l.drop j.toNat).map MsgC.cells)) ∧ (Each MsgC.sub lE H' (l.take i.toNat ++ l.drop j.toNat)) ∧ (Fr (fun q => (lH.next ≤ q ∧ q < H.next ∧ ZB H q 13)) H H')) := by
 refine spec_go3 E0_ok 33 (f := 47) Try.func47 rfl rfl rfl ?_
 refine aw_seq ?_
 refine aw_reg ?_
 refine st_op (ev_assign rfl) rfl rfl rfl ?_
 try show aw _ _ _ _ _ _
 refine aw_seq ?_
 refine aw_reg ?_
 iterate 4 refine st_op (ev_move rfl) rfl rfl rfl ?_
 refine st_op (ev_lenSl rfl Try.underlying55) rfl rfl rfl ?_
 obtain ⟨A9, c10, hs11⟩ := sliceA_mx MsgC.cells el55 (by decide) hl (k1 := .i64) (k2 := .i64) (k3 := .i64) (i := i) (j := j) (k := (l.length : Int)) (by omega) (by omega) (by omega) (by omega) (by omega)
 refine st_op (ev_slice rfl rfl rfl rfl hs11) rfl rfl rfl ?_
 try show aw _ _ _ _ _ _
 iterate 2 refine aw_seq ?_
 refine aw_reg ?_
 iterate 2 refine st_op (ev_move rfl) rfl rfl rfl ?_
 refine st_op (ev_int rfl rfl rfl) rfl rfl rfl ?_
 try show aw _ _ _ _ _ _
 by_cases hc12 : (i == j) = true
 ·
  refine aw_condT hc12 rfl ?_
  try show aw _ _ _ _ _ _
  have hc12 := eq_of_beq hc12
  refine aw_seq ?_
  refine aw_reg ?_
  refine st_op (ev_move rfl) rfl rfl rfl ?_
  refine st_op (ev_assign rfl) rfl rfl rfl ?_
  try show aw _ _ _ _ _ _
  refine aw_ret ?_
  have hres : (l.take i.toNat ++ l.drop j.toNat) = l := by rw [show i = j by omega, List.take_append_drop]
  exact ⟨.slice lA l.length lc, rfl, lA, lc, by first | (rw [hres]; first | done | rfl | simp; done) | rfl, (by rw [hres]; exact hl), (by rw [hres]; exact (Each.sub el (fun _ h => by first | exact h | exact mem_del h))), (Fr.refl (fun q => (lH.next ≤ q ∧ q < H.next ∧ ZB H q 13)) H)⟩
 ·
  rw [Bool.not_eq_true] at hc12; refine aw_condF hc12 rfl ?_
  try show aw _ _ _ _ _ _
  have hc12 := ne_of_beq_false hc12
  refine aw_skip ?_
  try show aw _ _ _ _ _ _
  refine aw_seq ?_
  refine aw_reg ?_
  refine st_op (ev_move rfl) rfl rfl rfl ?_
  refine st_op (ev_lenSl rfl Try.underlying55) rfl rfl rfl ?_
  refine st_op (ev_assign rfl) rfl rfl rfl ?_
  try show aw _ _ _ _ _ _
  refine aw_seq ?_
  refine aw_marks (fun b => b < H.next) [(false, false), (false, false), (false, false), (false, false), (false, false), (false, false), (false, false), (false, false)] mixed (by kernel_rfl) (by kernel_rfl) ?_
  iterate 2 refine sm_op (ev_move rfl) rfl rfl rfl ?_
  obtain ⟨A13, c14, L15, hL16, hl17, hs18, hr19⟩ := sliceA_my MsgC.cells el55 (by decide) hl (by first | omega | (simp only [List.length_append, List.length_cons, List.length_nil, List.length_map, List.length_set, List.length_replicate, Spec.bytesOf_length]; omega) | (simp; omega)) (lo := none) (hi := some (.int .i64 i)) (p := 0) (q := (i).toNat) (by rw [Option.isSome_some, if_pos rfl]; exact bound_int (by first | omega | (simp only [List.length_append, List.length_cons, List.length_nil, List.length_map, List.length_set, List.length_replicate, Spec.bytesOf_length]; omega) | (simp; omega)) (by first | omega | (simp only [List.length_append, List.length_cons, List.length_nil, List.length_map, List.length_set, List.length_replicate, Spec.bytesOf_length]; omega) | (simp; omega)) (by first | rfl | omega)) rfl (by first | omega | (simp only [List.length_append, List.length_cons, List.length_nil, List.length_map, List.length_set, List.length_replicate, Spec.bytesOf_length]; omega) | (simp; omega)) (by first | omega | (simp only [List.length_append, List.length_cons, List.length_nil, List.length_map, List.length_set, List.length_replicate, Spec.bytesOf_length]; omega) | (simp; omega)) (.inr ⟨_, _, rfl⟩)
  refine sm_op (ev_slice rfl rfl rfl rfl hs18) rfl rfl rfl ?_
  have hE21 : Each MsgC.sub lE H L15 := Each.sub el (fun _ hx => mem_cut hL16 hx)
  iterate 2 refine sm_op (ev_move rfl) rfl rfl rfl ?_
  obtain ⟨A22, c23, L24, hL25, hl26, hs27, hr28⟩ := sliceA_my MsgC.cells el55 (by decide) hl (by first | omega | (simp only [List.length_append, List.length_cons, List.length_nil, List.length_map, List.length_set, List.length_replicate, Spec.bytesOf_length]; omega) | (simp; omega)) (lo := some (.int .i64 j)) (hi := none) (p := (j).toNat) (q := l.length) rfl (bound_int (by first | omega | (simp only [List.length_append, List.length_cons, List.length_nil, List.length_map, List.length_set, List.length_replicate, Spec.bytesOf_length]; omega) | (simp; omega)) (by first | omega | (simp only [List.length_append, List.length_cons, List.length_nil, List.length_map, List.length_set, List.length_replicate, Spec.bytesOf_length]; omega) | (simp; omega)) (by first | rfl | omega)) (by first | omega | (simp only [List.length_append, List.length_cons, List.length_nil, List.length_map, List.length_set, List.length_replicate, Spec.bytesOf_length]; omega) | (simp; omega)) (by first | omega | (simp only [List.length_append, List.length_cons, List.length_nil, List.length_map, List.length_set, List.length_replicate, Spec.bytesOf_length]; omega) | (simp; omega)) (.inl rfl)
  refine sm_op (ev_slice rfl rfl rfl rfl hs27) rfl rfl rfl ?_
  have hE30 : Each MsgC.sub lE H L24 := Each.sub el (fun _ hx => mem_cut hL25 hx)
  obtain ⟨H31, W32, he33, hm34, hf35, H31n_⟩ := mem_delete (i := (i).toNat) (j := (j).toNat) eok55 el55 (by decide) MsgC.cells_one hl hl hs18 (by first | omega | (simp only [List.length_append, List.length_cons, List.length_nil, List.length_map, List.length_set, List.length_replicate, Spec.bytesOf_length]; omega) | (simp; omega)) hs27 ⟨_, _, rfl, by first | rfl | simp⟩ (by first | omega | (simp only [List.length_append, List.length_cons, List.length_nil, List.length_map, List.length_set, List.length_replicate, Spec.bytesOf_length]; omega) | (simp; omega)) (by first | omega | (simp only [List.length_append, List.length_cons, List.length_nil, List.length_map, List.length_set, List.length_replicate, Spec.bytesOf_length]; omega) | (simp; omega)) (by first | omega | (simp only [List.length_append, List.length_cons, List.length_nil, List.length_map, List.length_set, List.length_replicate, Spec.bytesOf_length]; omega) | (simp; omega)) (by first | omega | (simp only [List.length_append, List.length_cons, List.length_nil, List.length_map, List.length_set, List.length_replicate, Spec.bytesOf_length]; omega) | (simp; omega)) (by first | omega | (simp only [List.length_append, List.length_cons, List.length_nil, List.length_map, List.length_set, List.length_replicate, Spec.bytesOf_length]; omega) | (simp; omega)) (by first | omega | (simp only [List.length_append, List.length_cons, List.length_nil, List.length_map, List.length_set, List.length_replicate, Spec.bytesOf_length]; omega) | (simp; omega))
  refine sm_op (he33 _ _ _ _ _ _ _ _ _ _ rfl rfl isrow55) rfl rfl rfl ?_
  have H31n : H.next ≤ H31.next := hf35.1
  have hm36 : My lH H31 lA lc 13 ((l.take ((i).toNat) ++ l.drop ((j).toNat)).map MsgC.cells) := My.prefix (by rw [← List.map_append]; exact hm34)
  have hl37 : (l.take ((i).toNat) ++ l.drop ((j).toNat) ++ l.drop ((i).toNat + (l.length - (j).toNat))).length = l.length ∧ (l.take ((i).toNat) ++ l.drop ((j).toNat)).length = (i).toNat + (l.length - (j).toNat) := by constructor <;> (simp only [List.length_append, List.length_take, List.length_drop]; omega)
  refine sm_op (ev_assign rfl) rfl rfl rfl ?_
  try show aw _ _ _ _ _ _
  refine aw_seq ?_
  refine aw_reg ?_
  iterate 2 refine st_op (ev_move rfl) rfl rfl rfl ?_
  refine st_op (ev_lenSl rfl Try.underlying55) rfl rfl rfl ?_
  refine st_op (ev_move rfl) rfl rfl rfl ?_
  obtain ⟨A46, c47, L48, hL49, hl50, hs51, hr52⟩ := sliceA_my MsgC.cells el55 (by decide) hm34 (by first | omega | (simp only [List.length_append, List.length_cons, List.length_nil, List.length_map, List.length_set, List.length_replicate, Spec.bytesOf_length]; omega) | (simp; omega)) (lo := some (.int .i64 ((l.take ((i).toNat) ++ l.drop ((j).toNat)).length : Int))) (hi := some (.int .i64 (l.length : Int))) (p := (((l.take ((i).toNat) ++ l.drop ((j).toNat)).length : Int)).toNat) (q := ((l.length : Int)).toNat) (by rw [Option.isSome_some, if_pos rfl]; exact bound_int (by first | omega | (simp only [List.length_append, List.length_cons, List.length_nil, List.length_map, List.length_set, List.length_replicate, Spec.bytesOf_length]; omega) | (simp; omega)) (by first | omega | (simp only [List.length_append, List.length_cons, List.length_nil, List.length_map, List.length_set, List.length_replicate, Spec.bytesOf_length]; omega) | (simp; omega)) (by first | rfl | omega)) (bound_int (by first | omega | (simp only [List.length_append, List.length_cons, List.length_nil, List.length_map, List.length_set, List.length_replicate, Spec.bytesOf_length]; omega) | (simp; omega)) (by first | omega | (simp only [List.length_append, List.length_cons, List.length_nil, List.length_map, List.length_set, List.length_replicate, Spec.bytesOf_length]; omega) | (simp; omega)) (by first | rfl | omega)) (by first | omega | (simp only [List.length_append, List.length_cons, List.length_nil, List.length_map, List.length_set, List.length_replicate, Spec.bytesOf_length]; omega) | (simp; omega)) (by first | omega | (simp only [List.length_append, List.length_cons, List.length_nil, List.length_map, List.length_set, List.length_replicate, Spec.bytesOf_length]; omega) | (simp; omega)) (.inr ⟨_, _, rfl⟩)
  have hs53 := sliceX_my (m := (l.take ((i).toNat) ++ l.drop ((j).toNat)).length) el55 (by decide) hm34 rfl (by first | omega | (simp only [List.length_append, List.length_cons, List.length_nil, List.length_map, List.length_set, List.length_replicate, Spec.bytesOf_length]; omega) | (simp; omega)) (by first | omega | (simp only [List.length_append, List.length_cons, List.length_nil, List.length_map, List.length_set, List.length_replicate, Spec.bytesOf_length]; omega) | (simp; omega)) (by first | omega | (simp only [List.length_append, List.length_cons, List.length_nil, List.length_map, List.length_set, List.length_replicate, Spec.bytesOf_length]; omega) | (simp; omega)) hs51
  refine st_op (ev_sliceX rfl rfl rfl rfl hs53) rfl rfl rfl ?_
  obtain ⟨H54, W55, he56, hm57, hf58, H54n_⟩ := mem_clear (e0 := ((⟨0, 0, 0, 0, 0, 0, 0, false, ([] : List Entry), none, 0, (⟨0, 0, (⟨#[]⟩ : ByteArray), (⟨#[]⟩ : ByteArray)⟩ : Snap)⟩ : MsgC) : MsgC)) (p := (((l.take ((i).toNat) ++ l.drop ((j).toNat)).length : Int)).toNat) eok55 el55 zero46 rfl hm34 hm34 hs51 (.inr ⟨_, _, rfl, by first | rfl | simp⟩) (by first | omega | (simp only [List.length_append, List.length_cons, List.length_nil, List.length_map, List.length_set, List.length_replicate, Spec.bytesOf_length]; omega) | (simp; omega))
  refine st_op0 (he56 _ _ _ _ _ _ _ _ rfl) rfl rfl ?_
  have H54n : H31.next ≤ H54.next := hf58.1
  have hm59 : My lH H54 lA lc 13 ((l.take ((i).toNat) ++ l.drop ((j).toNat)).map MsgC.cells) := My.cutTo hm57 (by exact cut_front rfl (by first | omega | simp))
  try show aw _ _ _ _ _ _
  refine aw_seq ?_
  refine aw_reg ?_
  refine st_op (ev_move rfl) rfl rfl rfl ?_
  refine st_op (ev_assign rfl) rfl rfl rfl ?_
  try show aw _ _ _ _ _ _
  refine aw_ret ?_
  have h60 := Each.frS el hf35 (fun q hq e => (ZB.ne e.2.2 (show (13 : Nat) ≠ 4 by decide)))
  have h61 := Each.frS h60 hf58 (fun q hq e => (ZB.ne e.2.2 (show (13 : Nat) ≠ 4 by decide)))
  have hres : (l.take i.toNat ++ l.drop j.toNat) = (l.take ((i).toNat) ++ l.drop ((j).toNat)) := by rfl
  exact ⟨.slice lA ((l.take ((i).toNat) ++ l.drop ((j).toNat)).length) lc, rfl, lA, lc, by first | (rw [hres]; first | done | rfl | simp; done) | rfl, (by rw [hres]; exact hm59), (by rw [hres]; exact (Each.sub h61 (fun _ h => by first | exact h | exact mem_del h))), (Fr.transG (Fr.transG (Fr.refl (fun q => (lH.next ≤ q ∧ q < H.next ∧ ZB H q 13)) H) hf35 (fun q hq hE e => (⟨by omega, by omega, ZB.back hE e.2.2⟩))) hf58 (fun q hq hE e => (⟨by omega, by omega, ZB.back hE e.2.2⟩)))⟩
theorem net_Drop_spec (H : Heap) (lH : Heap) (lA : Option Addr) (l : List MsgC) (lc : Nat) (hl : My lH H lA lc 13 (l.map MsgC.cells)) (nl : lH.next ≤ H.next) (ll : l.length ≤ 400) (bl : Spec.Short l) (lE : Heap) (el : Each MsgC.sub lE H l) (nel : lE.next ≤ H.next) (n : Nat) (hn : n < H.next) (Bn : H.blk n = some ⟨[.slice lA l.length lc], 0, false, false⟩) (i : Int) : ∃ v H', Spec Try.prog 27 [.pointer (some ⟨n, 0, none⟩), .int .i64 i] H v H' ∧ (∃ rA1 rc1, ∃ rl1 : List MsgC, (v = .bool ((Spec.dropF (l.map MsgC.val) i).1)) ∧ (rl1.map MsgC.val = ((Spec.dropF (l.map MsgC.val) i).2)) ∧ (My lH H' rA1 rc1 13 (rl1.map MsgC.cells)) ∧ (Each MsgC.sub lE H' rl1) ∧ (H'.blk n = some ⟨[.slice rA1 rl1.length rc1], 0, false, false⟩) ∧ (Spec.Short rl1) ∧ ((Spec.dropF (l.map MsgC.val) i).2.length ≤ l.length) ∧ (Fr (fun q => q = n ∨ (lH.next ≤ q ∧ q < H.next ∧ ZB H q 13)) H H')) := by
 refine spec_go2 E0_ok 24 (f := 27) Try.func27 rfl rfl rfl ?_
 refine aw_seq ?_
 refine aw_reg ?_
 refine st_op (ev_assign rfl) rfl rfl rfl ?_
 try show aw _ _ _ _ _ _
 iterate 2 refine aw_seq ?_
 refine aw_reg ?_
 refine st_op (ev_move rfl) rfl rfl rfl ?_
 refine st_op (ev_int rfl rfl rfl) rfl rfl rfl ?_
 refine st_op (ev_move rfl) rfl rfl rfl ?_
 refine st_bool 7 rfl (fun hb1 => ?_) (fun hb1 => ?_)
 ·
  have hb1 := of_decide_eq_true hb1
  iterate 4 refine st_skip rfl rfl rfl ?_
  refine st_op (ev_pickT rfl rfl) rfl rfl rfl ?_
  try show aw _ _ _ _ _ _
  refine aw_cond (t := true) rfl ?_
  try show aw _ _ _ _ _ _
  refine aw_seq ?_
  refine aw_reg ?_
  refine st_op (ev_assign rfl) rfl rfl rfl ?_
  try show aw _ _ _ _ _ _
  refine aw_ret ?_
  have hres : (Spec.dropF (l.map MsgC.val) i) = (false, (l.map MsgC.val)) := by exact Spec.drop_out (by omega)
  exact ⟨.bool false, rfl, lA, lc, l, by first | (rw [hres]; first | done | rfl | simp; done) | rfl, (by (rw [hres]) <;> rfl), (by first | exact hl | (rw [hres]; exact hl)), (by first | exact el | (rw [hres]; exact el)), (by first | exact Bn | (rw [hres]; exact Bn)), (by first | exact bl | exact Spec.short_sub bl (fun _ h => mem_del h)), (by exact Nat.le_trans Spec.drop_le (by rw [List.length_map]; exact Nat.le_refl _)), (Fr.refl (fun q => q = n ∨ (lH.next ≤ q ∧ q < H.next ∧ ZB H q 13)) H)⟩
 ·
  have hb1 := of_decide_eq_false hb1
  iterate 2 refine st_op (ev_move rfl) rfl rfl rfl ?_
  refine st_call rfl rfl rfl ent26 rfl rfl rfl ?_
  obtain ⟨_, H3, hs2, hs2v, hx4⟩ := net_Len_spec H lH lA l lc hl (by omega) (by omega) (by first | assumption | omega | decide | (simp_all; done)) lE el (by omega) n (by omega) Bn
  rw [hs2v] at hs2; clear hs2v
  refine ⟨_, H3, hs2, ?_⟩
  have H3n : H.next ≤ H3.next := hx4.1
  refine st_op (ev_int rfl rfl rfl) rfl rfl rfl ?_
  refine st_op (ev_pickF rfl rfl) rfl rfl rfl ?_
  try show aw _ _ _ _ _ _
  by_cases hc5 : (decide (i ≥ (l.length : Int))) = true
  ·
   refine aw_condT hc5 rfl ?_
   try show aw _ _ _ _ _ _
   have hc5 := of_decide_eq_true hc5
   refine aw_seq ?_
   refine aw_reg ?_
   refine st_op (ev_assign rfl) rfl rfl rfl ?_
   try show aw _ _ _ _ _ _
   refine aw_ret ?_
   have h6 := My.ext hl hx4
   have h7 := Each.ext el hx4
   have h8 := Ext.blk hx4 (by omega) Bn
   have hres : (Spec.dropF (l.map MsgC.val) i) = (false, (l.map MsgC.val)) := by exact Spec.drop_out (by omega)
   exact ⟨.bool false, rfl, lA, lc, l, by first | (rw [hres]; first | done | rfl | simp; done) | rfl, (by (rw [hres]) <;> rfl), (by first | exact h6 | (rw [hres]; exact h6)), (by first | exact h7 | (rw [hres]; exact h7)), (by first | exact h8 | (rw [hres]; exact h8)), (by first | exact bl | exact Spec.short_sub bl (fun _ h => mem_del h)), (by exact Nat.le_trans Spec.drop_le (by rw [List.length_map]; exact Nat.le_refl _)), (Fr.trans (Fr.refl (fun q => q = n ∨ (lH.next ≤ q ∧ q < H.next ∧ ZB H q 13)) H) (hx4.fr fun _ => False) (fun q hq (e : False) => e.elim))⟩
  ·
   rw [Bool.not_eq_true] at hc5; refine aw_condF hc5 rfl ?_
   try show aw _ _ _ _ _ _
   have hc5 := of_decide_eq_false hc5
   refine aw_skip ?_
   try show aw _ _ _ _ _ _
   refine aw_seq ?_
   refine aw_reg ?_
   iterate 2 refine st_op (ev_move rfl) rfl rfl rfl ?_
   refine st_op (ev_nilCheck rfl) rfl rfl rfl ?_
   refine st_op (ev_fieldAddr rfl fa73_0 (o' := 0) rfl) rfl rfl rfl ?_
   have h9 := Ext.blk hx4 (by omega) Bn
   refine st_op (ev_load rfl (lvar_one one55 h9 rfl)) rfl rfl rfl ?_
   iterate 2 refine st_op (ev_move rfl) rfl rfl rfl ?_
   refine st_op (ev_int64 (c := i + 1) rfl rfl rfl (by omega) (by omega)) rfl rfl rfl ?_
   refine st_call rfl rfl rfl ent47 rfl rfl rfl ?_
   have h10 := Each.ext el hx4
   have h11 := My.ext hl hx4
   obtain ⟨_, H13, hs12, A15, c16, hs12v, hm17, hE18, hx14⟩ := sl_DeleteM_spec H3 lH lA l lc h11 (by omega) (by omega) lE h10 (by omega) i ⟨by omega, by omega⟩ (by omega) (i + 1) ⟨by omega, by omega⟩ (by omega)
   rw [hs12v] at hs12; clear hs12v
   refine ⟨_, H13, hs12, ?_⟩
   have H13n : H3.next ≤ H13.next := hx14.1
   refine st_op (ev_nilCheck rfl) rfl rfl rfl ?_
   refine st_op (ev_fieldAddr rfl fa73_0 (o' := 0) rfl) rfl rfl rfl ?_
   have h19 := Fr.blk hx14 (by omega) (fun e => (zb_ne h9 e.2.2 (show (0 : Nat) ≠ 13 by decide))) h9
   obtain ⟨H20, he21, H20n_, hB22, f23⟩ := mem_store (v := .slice A15 ((l.take i.toNat ++ l.drop (i + 1).toNat).length) c16) (o := 0) (cs' := [.slice A15 ((l.take i.toNat ++ l.drop (i + 1).toNat).length) c16]) 1 rfl rfl size55 h19 rfl rfl rfl
   refine st_op0 (he21 _ _ _ _ _ _ _ _ _ rfl rfl) rfl rfl ?_
   have hf24 : Fr (fun q => q = n) H13 H20 := Fr.write H20n_ f23
   have H20n : H13.next ≤ H20.next := hf24.1
   try show aw _ _ _ _ _ _
   refine aw_seq ?_
   refine aw_reg ?_
   refine st_op (ev_assign rfl) rfl rfl rfl ?_
   try show aw _ _ _ _ _ _
   refine aw_ret ?_
   have h25 := My.frS hm17 hf24 (fun q hq e => ⟨_, e ▸ h19, show (0 : Nat) ≠ 13 by decide⟩)
   have h26 := Each.frS hE18 hf24 (fun q hq e => ⟨_, e ▸ h19, show (0 : Nat) ≠ 4 by decide⟩)
   have hres : (Spec.dropF (l.map MsgC.val) i) = (true, ((l.take i.toNat ++ l.drop (i + 1).toNat).map MsgC.val)) := by rw [Spec.drop_in (by omega) (by omega)]
   exact ⟨.bool true, rfl, A15, c16, (l.take i.toNat ++ l.drop (i + 1).toNat), by first | (rw [hres]; first | done | rfl | simp; done) | rfl, (by (rw [hres]) <;> rfl), (by first | exact h25 | (rw [hres]; exact h25)), (by first | exact h26 | (rw [hres]; exact h26)), (by first | exact hB22 | (rw [hres]; exact hB22)), (by first | exact bl | exact Spec.short_sub bl (fun _ h => mem_del h)), (by exact Nat.le_trans Spec.drop_le (by rw [List.length_map]; exact Nat.le_refl _)), (Fr.transG (Fr.transG (Fr.trans (Fr.refl (fun q => q = n ∨ (lH.next ≤ q ∧ q < H.next ∧ ZB H q 13)) H) (hx4.fr fun _ => False) (fun q hq (e : False) => e.elim)) hx14 (fun q hq hE e => Or.inr ((⟨by omega, by omega, ZB.back hE e.2.2⟩)))) hf24 (fun q hq hE e => Or.inl (e)))⟩
theorem net_Drop_specH (H : Heap) (lH : Heap) (lA : Option Addr) (l : List MsgC) (lc : Nat) (hl : My lH H lA lc 13 (l.map MsgC.cells)) (nl : lH.next ≤ H.next) (ll : l.length ≤ 400) (bl : Spec.Short l) (lE : Heap) (el : Each MsgC.sub lE H l) (nel : lE.next ≤ H.next) (n : Nat) (hn : n < H.next) (Bn : H.blk n = some ⟨[.slice lA l.length lc], 0, false, false⟩) (i : Int) (D : Nat → Prop) (hD : ∀ q, D q → ZB H q 13) (hDl : ∀ q, D q → q < H.next) (hlD : My lH (H.hide D) lA lc 13 (l.map MsgC.cells)) : ∃ v H', Spec Try.prog 27 [.pointer (some ⟨n, 0, none⟩), .int .i64 i] H v H' ∧ (∃ rA1 rc1, ∃ rl1 : List MsgC, (v = .bool ((Spec.dropF (l.map MsgC.val) i).1)) ∧ (rl1.map MsgC.val = ((Spec.dropF (l.map MsgC.val) i).2)) ∧ (My lH H' rA1 rc1 13 (rl1.map MsgC.cells)) ∧ (Each MsgC.sub lE H' rl1) ∧ (H'.blk n = some ⟨[.slice rA1 rl1.length rc1], 0, false, false⟩) ∧ (Spec.Short rl1) ∧ ((Spec.dropF (l.map MsgC.val) i).2.length ≤ l.length) ∧ (My lH (H'.hide D) rA1 rc1 13 (rl1.map MsgC.cells)) ∧ (Fr (fun q => (q = n ∨ (lH.next ≤ q ∧ q < H.next ∧ ZB H q 13)) ∧ ¬ D q) H H')) := by
 obtain ⟨v, H1, hs, rA1, rc1, rl1, k0, k1, k2, k3, k4, k5, k6, k7⟩ := net_Drop_spec (H.hide D) lH lA l lc hlD nl ll bl lE (el.hideN hD (by decide)) nel n hn (blk_hideN Bn hD (show (0 : Nat) ≠ 13 by decide)) i
 have hW : ∀ q, D q → ¬ (q = n ∨ (lH.next ≤ q ∧ q < H.next ∧ ZB (H.hide D) q 13)) := fun q d e => e.elim (fun e => zb_ne Bn (e ▸ hD q d) (show (0 : Nat) ≠ 13 by decide)) (fun e => e.2.2.hide.1 d)
 have u := back_under k7 hW
 have u2 := back_under2 k7 hW hDl
 exact ⟨v, H.back D H1, hs.hide, rA1, rc1, rl1, k0, k1, (k2.under u), (k3.under u), (u.2 _ _ k4), k5, k6, k2.under u2, Fr.mono (back_fr k7) (fun q e => ⟨e.1.imp id (fun w => ⟨w.1, w.2.1, w.2.2.hide.2⟩), e.2⟩)⟩

theorem net_Take_spec (H : Heap) (lH : Heap) (lA : Option Addr) (l : List MsgC) (lc : Nat) (hl : My lH H lA lc 13 (l.map MsgC.cells)) (nl : lH.next ≤ H.next) (ll : l.length ≤ 400) (bl : Spec.Short l) (lE : Heap) (el : Each MsgC.sub lE H l) (nel : lE.next ≤ H.next) (n : Nat) (hn : n < H.next) (Bn : H.blk n = some ⟨[.slice lA l.length lc], 0, false, false⟩) (i : Int) : ∃ v H', Spec Try.prog 22 [.pointer (some ⟨n, 0, none⟩), .int .i64 i] H v H' ∧ (∃ rA8 rc8, ∃ rA14 rc14, ∃ rl14 : List MsgC, (v = .tuple #[.agg #[.int .i64 ((Spec.takeT (l.map MsgC.val) i).1), .int .i64 ((Spec.takeT (l.map MsgC.val) i).2.1), .int .i64 ((Spec.takeT (l.map MsgC.val) i).2.2.1), .int .i64 ((Spec.takeT (l.map MsgC.val) i).2.2.2.1), .int .i64 ((Spec.takeT (l.map MsgC.val) i).2.2.2.2.1), .int .i64 ((Spec.takeT (l.map MsgC.val) i).2.2.2.2.2.1), .int .i64 ((Spec.takeT (l.map MsgC.val) i).2.2.2.2.2.2.1), .bool ((Spec.takeT (l.map MsgC.val) i).2.2.2.2.2.2.2.1), .slice rA8 (((Spec.takeT (l.map MsgC.val) i).2.2.2.2.2.2.2.2.1).length) rc8, .int .i64 ((Spec.takeT (l.map MsgC.val) i).2.2.2.2.2.2.2.2.2.1), .int .i64 ((Spec.takeT (l.map MsgC.val) i).2.2.2.2.2.2.2.2.2.2.1), .string ((Spec.takeT (l.map MsgC.val) i).2.2.2.2.2.2.2.2.2.2.2.1), .string ((Spec.takeT (l.map MsgC.val) i).2.2.2.2.2.2.2.2.2.2.2.2.1)], .bool ((Spec.takeT (l.map MsgC.val) i).2.2.2.2.2.2.2.2.2.2.2.2.2.1)]) ∧ (My H H' rA8 rc8 4 (((Spec.takeT (l.map MsgC.val) i).2.2.2.2.2.2.2.2.1).map Entry.cells)) ∧ (rl14.map MsgC.val = ((Spec.takeT (l.map MsgC.val) i).2.2.2.2.2.2.2.2.2.2.2.2.2.2)) ∧ (My lH H' rA14 rc14 13 (rl14.map MsgC.cells)) ∧ (Each MsgC.sub lE H' rl14) ∧ (H'.blk n = some ⟨[.slice rA14 rl14.length rc14], 0, false, false⟩) ∧ (Spec.Short rl14) ∧ (Fr (fun q => q = n ∨ (lH.next ≤ q ∧ q < H.next ∧ ZB H q 13)) H H')) := by
 refine spec_go2 E0_ok 19 (f := 22) Try.func22 rfl rfl rfl ?_
 refine aw_seq ?_
 refine aw_reg ?_
 obtain ⟨b1, H2, he3, b1e, H2n_, hB5, f4⟩ := mem_alloc H zero46
 refine st_op (he3 _ _ _ _ _ _ _) rfl rfl rfl ?_
 have hx6 : Ext H H2 := Ext.new (by omega) H2n_ f4
 have H2n : H.next ≤ H2.next := hx6.1
 refine st_op (ev_assign rfl) rfl rfl rfl ?_
 try show aw _ _ _ _ _ _
 refine aw_seq ?_
 refine aw_reg ?_
 iterate 2 refine st_op (ev_move rfl) rfl rfl rfl ?_
 refine st_call rfl rfl rfl ent23 rfl rfl rfl ?_
 have h7 := Each.ext el hx6
 have h8 := My.ext hl hx6
 have h9 := Ext.blk hx6 (by omega) Bn
 obtain ⟨_, H11, hs10, A13, c14, hs10v, hm15, hx12⟩ := net_Look_spec H2 lH lA l lc h8 (by omega) (by omega) (by first | assumption | omega | decide | (simp_all; done)) lE h7 (by omega) n (by omega) h9 i
 rw [hs10v] at hs10; clear hs10v
 generalize hR17 : (Spec.lookF (l.map MsgC.val) i) = r16 at hs10 hm15
 obtain ⟨z18, z19, z20, z21, z22, z23, z24, z25, z26, z27, z28, z29, z30, z31⟩ := r16
 dsimp only at hs10 hm15
 refine ⟨_, H11, hs10, ?_⟩
 have H11n : H2.next ≤ H11.next := hx12.1
 refine st_op (ev_move rfl) rfl rfl rfl ?_
 iterate 2 refine st_op (ev_extract rfl rfl) rfl rfl rfl ?_
 obtain ⟨b32, H33, he34, b32e, H33n_, hB36, f35⟩ := mem_alloc H11 zero46
 refine st_op (he34 _ _ _ _ _ _ _) rfl rfl rfl ?_
 have hx37 : Ext H11 H33 := Ext.new (by omega) H33n_ f35
 have H33n : H11.next ≤ H33.next := hx37.1
 obtain ⟨H38, he39, H38n_, hB40, f41⟩ := mem_store (v := .agg #[.int .i64 z18, .int .i64 z19, .int .i64 z20, .int .i64 z21, .int .i64 z22, .int .i64 z23, .int .i64 z24, .bool z25, .slice A13 z26.length c14, .int .i64 z27, .int .i64 z28, .string z29, .string z30]) (o := 0) (cs' := [.int .i64 z18, .int .i64 z19, .int .i64 z20, .int .i64 z21, .int .i64 z22, .int .i64 z23, .int .i64 z24, .bool z25, .slice A13 z26.length c14, .int .i64 z27, .int .i64 z28, .string z29, .string z30]) 13 rfl rfl size46 hB36 rfl rfl rfl
 refine st_op0 (he39 _ _ _ _ _ _ _ _ _ rfl rfl) rfl rfl ?_
 have hf42 : Fr (fun q => q = b32) H33 H38 := Fr.write H38n_ f41
 have H38n : H33.next ≤ H38.next := hf42.1
 refine st_op (ev_assign rfl) rfl rfl rfl ?_
 try show aw _ _ _ _ _ _
 refine aw_seq ?_
 refine aw_reg ?_
 iterate 2 refine st_op (ev_move rfl) rfl rfl rfl ?_
 refine st_call rfl rfl rfl ent27 rfl rfl rfl ?_
 have hx44 : Ext H2 H38 := (Ext.then (Ext.trans hx12 hx37) hf42 (fun q hq e => by omega))
 have h43 := Each.ext h7 hx44
 have h45 := My.ext h8 hx44
 have h46 := Ext.blk hx44 (by omega) h9
 obtain ⟨_, H48, hs47, A50, c51, rl53, hs47v, hl54, hm52, hE57, hB58, hq55, hq56, hx49⟩ := net_Drop_spec H38 lH lA l lc h45 (by omega) (by omega) (by first | assumption | omega | decide | (simp_all; done)) lE h43 (by omega) n (by omega) h46 i
 rw [hs47v] at hs47; clear hs47v
 generalize hR60 : (Spec.dropF (l.map MsgC.val) i) = r59 at hs47 hl54 hm52 hE57 hB58 hq55 hq56
 obtain ⟨z61, z62⟩ := r59
 dsimp only at hs47 hl54 hm52 hE57 hB58 hq55 hq56
 refine ⟨_, H48, hs47, ?_⟩
 have H48n : H38.next ≤ H48.next := hx49.1
 have hl54n := congrArg List.length hl54; rw [List.length_map] at hl54n
 try show aw _ _ _ _ _ _
 refine aw_seq ?_
 refine aw_reg ?_
 have h63 := Fr.blk hx49 (by omega) (fun e => Or.elim e (fun e => (by omega)) (fun e => (zb_ne hB40 e.2.2 (show (0 : Nat) ≠ 13 by decide)))) hB40
 refine st_op (ev_load rfl (lvar_part (l := [.int .i64 z18, .int .i64 z19, .int .i64 z20, .int .i64 z21, .int .i64 z22, .int .i64 z23, .int .i64 z24, .bool z25, .slice A13 z26.length c14, .int .i64 z27, .int .i64 z28, .string z29, .string z30]) many46 h63 rfl rfl (by decide))) rfl rfl rfl ?_
 refine st_op (ev_move rfl) rfl rfl rfl ?_
 have h64 := Ext.blk hx44 (by omega) hB5
 have h65 := Fr.blk hx49 (by omega) (fun e => Or.elim e (fun e => (by omega)) (fun e => (zb_ne h64 e.2.2 (show (0 : Nat) ≠ 13 by decide)))) h64
 obtain ⟨H66, he67, H66n_, hB68, f69⟩ := mem_store (v := .agg #[.int .i64 z18, .int .i64 z19, .int .i64 z20, .int .i64 z21, .int .i64 z22, .int .i64 z23, .int .i64 z24, .bool z25, .slice A13 z26.length c14, .int .i64 z27, .int .i64 z28, .string z29, .string z30]) (o := 0) (cs' := [.int .i64 z18, .int .i64 z19, .int .i64 z20, .int .i64 z21, .int .i64 z22, .int .i64 z23, .int .i64 z24, .bool z25, .slice A13 z26.length c14, .int .i64 z27, .int .i64 z28, .string z29, .string z30]) 13 rfl rfl size46 h65 rfl rfl rfl
 refine st_op0 (he67 _ _ _ _ _ _ _ _ _ rfl rfl) rfl rfl ?_
 have hf70 : Fr (fun q => q = b1) H48 H66 := Fr.write H66n_ f69
 have H66n : H48.next ≤ H66.next := hf70.1
 refine st_op (ev_assign rfl) rfl rfl rfl ?_
 try show aw _ _ _ _ _ _
 refine aw_ret ?_
 have hx72 : Ext H11 H38 := (Ext.then hx37 hf42 (fun q hq e => by omega))
 have h71 := My.ext hm15 hx72
 have h73 := My.frS h71 hx49 (fun q hq e => Or.elim e (fun e => ⟨_, e ▸ h46, show (0 : Nat) ≠ 4 by decide⟩) (fun e => (ZB.ne e.2.2 (show (13 : Nat) ≠ 4 by decide))))
 have h74 := My.frS h73 hf70 (fun q hq e => ⟨_, e ▸ h65, show (0 : Nat) ≠ 4 by decide⟩)
 have h75 := My.frS hm52 hf70 (fun q hq e => ⟨_, e ▸ h65, show (0 : Nat) ≠ 13 by decide⟩)
 have h76 := Each.frS hE57 hf70 (fun q hq e => ⟨_, e ▸ h65, show (0 : Nat) ≠ 4 by decide⟩)
 have h77 := Fr.blk hf70 (by omega) (fun e => (by omega)) hB58
 have hres : (Spec.takeT (l.map MsgC.val) i) = (z18, z19, z20, z21, z22, z23, z24, z25, z26, z27, z28, z29, z30, z31, (rl53.map MsgC.val)) := by simp only [Spec.takeT, hR17, hR60]; simp_all
 exact ⟨.tuple #[.agg #[.int .i64 z18, .int .i64 z19, .int .i64 z20, .int .i64 z21, .int .i64 z22, .int .i64 z23, .int .i64 z24, .bool z25, .slice A13 z26.length c14, .int .i64 z27, .int .i64 z28, .string z29, .string z30], .bool z31], (resA_of (resL_cell rfl (lvar_part (l := [.int .i64 z18, .int .i64 z19, .int .i64 z20, .int .i64 z21, .int .i64 z22, .int .i64 z23, .int .i64 z24, .bool z25, .slice A13 z26.length c14, .int .i64 z27, .int .i64 z28, .string z29, .string z30]) many46 hB68 rfl rfl (by decide)) (resL_tmp rfl resL_nil)) rfl), A13, c14, A50, c51, rl53, by first | (rw [hres]; first | done | rfl | simp; done) | rfl, (by first | exact (My.older h74 (by omega)) | (rw [hres]; exact (My.older h74 (by omega)))), (by (rw [hres]) <;> rfl), (by first | exact h75 | (rw [hres]; exact h75)), (by first | exact h76 | (rw [hres]; exact h76)), (by first | exact h77 | (rw [hres]; exact h77)), (by assumption), (Fr.transG (Fr.transG (Fr.transG (Fr.trans (Fr.trans (Fr.trans (Fr.refl (fun q => q = n ∨ (lH.next ≤ q ∧ q < H.next ∧ ZB H q 13)) H) (hx6.fr fun _ => False) (fun q hq (e : False) => e.elim)) (hx12.fr fun _ => False) (fun q hq (e : False) => e.elim)) (hx37.fr fun _ => False) (fun q hq (e : False) => e.elim)) hf42 (fun q hq hE e => absurd hq (by omega))) hx49 (fun q hq hE e => Or.elim e (fun e => Or.inl (e)) (fun e => Or.inr ((⟨by omega, by omega, ZB.back hE e.2.2⟩))))) hf70 (fun q hq hE e => absurd hq (by omega)))⟩
theorem net_Take_specH (H : Heap) (lH : Heap) (lA : Option Addr) (l : List MsgC) (lc : Nat) (hl : My lH H lA lc 13 (l.map MsgC.cells)) (nl : lH.next ≤ H.next) (ll : l.length ≤ 400) (bl : Spec.Short l) (lE : Heap) (el : Each MsgC.sub lE H l) (nel : lE.next ≤ H.next) (n : Nat) (hn : n < H.next) (Bn : H.blk n = some ⟨[.slice lA l.length lc], 0, false, false⟩) (i : Int) (D : Nat → Prop) (hD : ∀ q, D q → ZB H q 13) (hDl : ∀ q, D q → q < H.next) (hlD : My lH (H.hide D) lA lc 13 (l.map MsgC.cells)) : ∃ v H', Spec Try.prog 22 [.pointer (some ⟨n, 0, none⟩), .int .i64 i] H v H' ∧ (∃ rA8 rc8, ∃ rA14 rc14, ∃ rl14 : List MsgC, (v = .tuple #[.agg #[.int .i64 ((Spec.takeT (l.map MsgC.val) i).1), .int .i64 ((Spec.takeT (l.map MsgC.val) i).2.1), .int .i64 ((Spec.takeT (l.map MsgC.val) i).2.2.1), .int .i64 ((Spec.takeT (l.map MsgC.val) i).2.2.2.1), .int .i64 ((Spec.takeT (l.map MsgC.val) i).2.2.2.2.1), .int .i64 ((Spec.takeT (l.map MsgC.val) i).2.2.2.2.2.1), .int .i64 ((Spec.takeT (l.map MsgC.val) i).2.2.2.2.2.2.1), .bool ((Spec.takeT (l.map MsgC.val) i).2.2.2.2.2.2.2.1), .slice rA8 (((Spec.takeT (l.map MsgC.val) i).2.2.2.2.2.2.2.2.1).length) rc8, .int .i64 ((Spec.takeT (l.map MsgC.val) i).2.2.2.2.2.2.2.2.2.1), .int .i64 ((Spec.takeT (l.map MsgC.val) i).2.2.2.2.2.2.2.2.2.2.1), .string ((Spec.takeT (l.map MsgC.val) i).2.2.2.2.2.2.2.2.2.2.2.1), .string ((Spec.takeT (l.map MsgC.val) i).2.2.2.2.2.2.2.2.2.2.2.2.1)], .bool ((Spec.takeT (l.map MsgC.val) i).2.2.2.2.2.2.2.2.2.2.2.2.2.1)]) ∧ (My H H' rA8 rc8 4 (((Spec.takeT (l.map MsgC.val) i).2.2.2.2.2.2.2.2.1).map Entry.cells)) ∧ (rl14.map MsgC.val = ((Spec.takeT (l.map MsgC.val) i).2.2.2.2.2.2.2.2.2.2.2.2.2.2)) ∧ (My lH H' rA14 rc14 13 (rl14.map MsgC.cells)) ∧ (Each MsgC.sub lE H' rl14) ∧ (H'.blk n = some ⟨[.slice rA14 rl14.length rc14], 0, false, false⟩) ∧ (Spec.Short rl14) ∧ (My lH (H'.hide D) rA14 rc14 13 (rl14.map MsgC.cells)) ∧ (Fr (fun q => (q = n ∨ (lH.next ≤ q ∧ q < H.next ∧ ZB H q 13)) ∧ ¬ D q) H H')) := by
 obtain ⟨v, H1, hs, rA8, rc8, rA14, rc14, rl14, k0, k1, k2, k3, k4, k5, k6, k7⟩ := net_Take_spec (H.hide D) lH lA l lc hlD nl ll bl lE (el.hideN hD (by decide)) nel n hn (blk_hideN Bn hD (show (0 : Nat) ≠ 13 by decide)) i
 have hW : ∀ q, D q → ¬ (q = n ∨ (lH.next ≤ q ∧ q < H.next ∧ ZB (H.hide D) q 13)) := fun q d e => e.elim (fun e => zb_ne Bn (e ▸ hD q d) (show (0 : Nat) ≠ 13 by decide)) (fun e => e.2.2.hide.1 d)
 have u := back_under k7 hW
 have u2 := back_under2 k7 hW hDl
 exact ⟨v, H.back D H1, hs.hide, rA8, rc8, rA14, rc14, rl14, k0, (k1.under u), k2, (k3.under u), (k4.under u), (u.2 _ _ k5), k6, k3.under u2, Fr.mono (back_fr k7) (fun q e => ⟨e.1.imp id (fun w => ⟨w.1, w.2.1, w.2.2.hide.2⟩), e.2⟩)⟩

theorem raft_server_spec (H : Heap) (id : Int) : ∃ v H', Spec Try.prog 73 [.int .i64 id] H v H' ∧ ((v = .bool (decide (1 ≤ id ∧ id ≤ 7))) ∧ (Ext H H')) := by
 refine spec_go1 E0_ok 9 (f := 73) Try.func73 rfl rfl rfl ?_
 refine aw_seq ?_
 refine aw_reg ?_
 refine st_op (ev_assign rfl) rfl rfl rfl ?_
 try show aw _ _ _ _ _ _
 refine aw_seq ?_
 refine aw_reg ?_
 refine st_op (ev_move rfl) rfl rfl rfl ?_
 refine st_op (ev_int rfl rfl rfl) rfl rfl rfl ?_
 refine st_op (ev_move rfl) rfl rfl rfl ?_
 refine st_bool 5 rfl (fun hb1 => ?_) (fun hb1 => ?_)
 ·
  have hb1 := of_decide_eq_true hb1
  refine st_op (ev_move rfl) rfl rfl rfl ?_
  refine st_op (ev_int rfl rfl rfl) rfl rfl rfl ?_
  refine st_op (ev_pickT rfl rfl) rfl rfl rfl ?_
  refine st_op (ev_assign rfl) rfl rfl rfl ?_
  try show aw _ _ _ _ _ _
  refine aw_ret ?_
  have hres : (decide (1 ≤ id ∧ id ≤ 7)) = (decide (id ≤ 7)) := by simp_all <;> omega
  exact ⟨.bool (decide (id ≤ 7)), rfl, by first | (rw [hres]; done) | rw [← hres], (Ext.refl H)⟩
 ·
  have hb1 := of_decide_eq_false hb1
  iterate 2 refine st_skip rfl rfl rfl ?_
  refine st_op (ev_pickF rfl rfl) rfl rfl rfl ?_
  refine st_op (ev_assign rfl) rfl rfl rfl ?_
  try show aw _ _ _ _ _ _
  refine aw_ret ?_
  have hres : (decide (1 ≤ id ∧ id ≤ 7)) = false := by simp_all <;> omega
  exact ⟨.bool false, rfl, by first | (rw [hres]; done) | rw [← hres], (Ext.refl H)⟩
theorem raft_in_spec (H : Heap) (least : Int) (hleast : -9223372036854775808 ≤ least ∧ least ≤ 9223372036854775807) (lA : Option Addr) (l : List Int) (lc : Nat) (hl : Row H lA lc 1 (l.map i64c)) (cl : l.length ≤ lc) (ll : l.length ≤ 1099511627776) : ∃ v H', Spec Try.prog 74 [.int .i64 least, .slice lA l.length lc] H v H' ∧ ((v = .bool (Spec.inF least 1099511627776 l)) ∧ (Ext H H')) := by
 refine spec_go2 E0_ok 21 (f := 74) Try.func74 rfl rfl rfl ?_
 refine aw_seq ?_
 refine aw_reg ?_
 refine st_op (ev_assign rfl) rfl rfl rfl ?_
 try show aw _ _ _ _ _ _
 iterate 2 refine aw_seq ?_
 refine aw_reg ?_
 refine st_op (ev_move rfl) rfl rfl rfl ?_
 refine st_op (ev_lenSl rfl Try.underlying35) rfl rfl rfl ?_
 refine st_op (ev_move rfl) rfl rfl rfl ?_
 try show aw _ _ _ _ _ _
 refine aw_block ?_
 refine aw_keep [0, 7, 8, 9] (l' := (.cons 0 (.int .i64 least) (.cons 7 (.slice lA l.length lc) (.cons 8 (.int .i64 (l.length : Int)) (.cons 9 (.int .i64 0) .nil))))) (by repeat (first | exact Up.done | refine Up.then ?_ | refine Up.inBlock ?_)) rfl ?_
 refine aw_iter (α := Nat × Heap) (fun a => l.length - a.1) (fun a => (.cons 0 (.int .i64 least) (.cons 7 (.slice lA l.length lc) (.cons 8 (.int .i64 (l.length : Int)) (.cons 9 (.int .i64 (a.1 : Int)) .nil))))) (fun a => a.2) (fun a => (a.1 ≤ l.length) ∧ (Spec.inF least 1099511627776 l = Spec.inF least 1099511627776 (l.drop a.1)) ∧ (Ext H a.2)) (0, H) ⟨(show 0 ≤ l.length from Nat.zero_le _), (show Spec.inF least 1099511627776 l = Spec.inF least 1099511627776 (l.drop 0) from rfl), (show Ext H H from (Ext.refl H))⟩ ?_
 rintro ⟨i, Hl1⟩ ⟨hi, hv, hxl2⟩ ih3
 replace hi : i ≤ l.length := hi
 replace hv : Spec.inF least 1099511627776 l = Spec.inF least 1099511627776 (l.drop i) := hv
 replace hxl2 : Ext H Hl1 := hxl2
 show aw _ _ _ (RL _ (.cons 0 (.int .i64 least) (.cons 7 (.slice lA l.length lc) (.cons 8 (.int .i64 (l.length : Int)) (.cons 9 (.int .i64 (i : Int)) .nil))))) Hl1 _
 have Hl1n : H.next ≤ Hl1.next := hxl2.1
 refine aw_seq ?_
 refine aw_reg ?_
 refine st_op (ev_int rfl rfl rfl) rfl rfl rfl ?_
 try show aw _ _ _ _ _ _
 refine aw_seq ?_
 by_cases hc4 : (decide ((i : Int) < (l.length : Int))) = true
 ·
  refine aw_condT hc4 rfl ?_
  try show aw _ _ _ _ _ _
  have hc4 := of_decide_eq_true hc4
  refine aw_skip ?_
  try show aw _ _ _ _ _ _
  refine aw_seq ?_
  refine aw_block ?_
  refine aw_seq ?_
  refine aw_reg ?_
  have h5 := Row.ext hl hxl2
  have hi6 : 0 ≤ ((i : Int) : Int) := by omega
  have hi7 : ((i : Int) : Int) < ((l.length : Nat) : Int) := by omega
  obtain ⟨x8, hx9⟩ : ∃ e, l[i]? = some e := ⟨_, List.getElem?_eq_getElem (by omega)⟩
  refine st_op (ev_at rfl rfl h5 (getMap i64c hx9) (by first | rfl | omega | simp) hi6 hi7 el35) rfl rfl rfl ?_
  refine st_op (ev_atL rfl h5 (getMap i64c hx9) one2 rfl) rfl rfl rfl ?_
  refine st_op (ev_assign rfl) rfl rfl rfl ?_
  try show aw _ _ _ _ _ _
  refine aw_seq ?_
  refine aw_reg ?_
  iterate 2 refine st_op (ev_move rfl) rfl rfl rfl ?_
  refine st_op (ev_int rfl rfl rfl) rfl rfl rfl ?_
  refine st_op (ev_move rfl) rfl rfl rfl ?_
  refine st_bool 16 rfl (fun hb10 => ?_) (fun hb10 => ?_)
  ·
   have hb10 := of_decide_eq_true hb10
   iterate 2 refine st_skip rfl rfl rfl ?_
   refine st_op (ev_pickT rfl rfl) rfl rfl rfl ?_
   try show aw _ _ _ _ _ _
   refine aw_cond (t := true) rfl ?_
   try show aw _ _ _ _ _ _
   refine aw_seq ?_
   refine aw_reg ?_
   refine st_op (ev_assign rfl) rfl rfl rfl ?_
   try show aw _ _ _ _ _ _
   refine aw_ret ?_
   have hres : (Spec.inF least 1099511627776 l) = false := by rw [hv, drop_at hx9, Spec.inF]; first | (rw [if_pos (by omega)]; done) | (rw [if_neg (by omega), if_pos (by omega)]; done)
   exact ⟨.bool false, rfl, by first | (rw [hres]; done) | rw [← hres], hxl2⟩
  ·
   have hb10 := of_decide_eq_false hb10
   refine st_op (ev_move rfl) rfl rfl rfl ?_
   refine st_op (ev_int rfl rfl rfl) rfl rfl rfl ?_
   refine st_op (ev_pickF rfl rfl) rfl rfl rfl ?_
   try show aw _ _ _ _ _ _
   by_cases hc11 : (decide (x8 > 1099511627776)) = true
   ·
    refine aw_condT hc11 rfl ?_
    try show aw _ _ _ _ _ _
    have hc11 := of_decide_eq_true hc11
    refine aw_seq ?_
    refine aw_reg ?_
    refine st_op (ev_assign rfl) rfl rfl rfl ?_
    try show aw _ _ _ _ _ _
    refine aw_ret ?_
    have hres : (Spec.inF least 1099511627776 l) = false := by rw [hv, drop_at hx9, Spec.inF]; first | (rw [if_pos (by omega)]; done) | (rw [if_neg (by omega), if_pos (by omega)]; done)
    exact ⟨.bool false, rfl, by first | (rw [hres]; done) | rw [← hres], hxl2⟩
   ·
    rw [Bool.not_eq_true] at hc11; refine aw_condF hc11 rfl ?_
    try show aw _ _ _ _ _ _
    have hc11 := of_decide_eq_false hc11
    refine aw_skip ?_
    try show aw _ _ _ _ _ _
    refine aw_reg ?_
    refine st_op (ev_int64 (c := (i : Int) + 1) rfl rfl rfl (by omega) (by omega)) rfl rfl rfl ?_
    refine st_op (ev_move rfl) rfl rfl rfl ?_
    try show aw _ _ _ _ _ _
    refine aw_keep [0, 7, 8, 9] (l' := (.cons 0 (.int .i64 least) (.cons 7 (.slice lA l.length lc) (.cons 8 (.int .i64 (l.length : Int)) (.cons 9 (.int .i64 ((i : Int) + 1)) .nil))))) (by repeat (first | exact Up.done | refine Up.then ?_ | refine Up.inBlock ?_)) rfl ?_
    exact ih3 (i + 1, Hl1) ⟨(show (i + 1) ≤ l.length from (by omega)), (show Spec.inF least 1099511627776 l = Spec.inF least 1099511627776 (l.drop (i + 1)) from (by rw [hv, drop_at hx9, Spec.inF, if_neg (by omega), if_neg (by omega)])), (show Ext H Hl1 from hxl2)⟩ (by simp only; omega)
 ·
  rw [Bool.not_eq_true] at hc4; refine aw_condF hc4 rfl ?_
  try show aw _ _ _ _ _ _
  have hc4 := of_decide_eq_false hc4
  refine aw_exit ?_
  try show aw _ _ _ _ _ _
  refine aw_seq ?_
  refine aw_reg ?_
  refine st_op (ev_assign rfl) rfl rfl rfl ?_
  try show aw _ _ _ _ _ _
  refine aw_ret ?_
  have hres : (Spec.inF least 1099511627776 l) = true := by rw [hv, List.drop_eq_nil_of_le (by omega)]; rfl
  exact ⟨.bool true, rfl, by first | (rw [hres]; done) | rw [← hres], hxl2⟩
theorem wal_in_spec (H : Heap) (least : Int) (hleast : -9223372036854775808 ≤ least ∧ least ≤ 9223372036854775807) (most : Int) (hmost : -9223372036854775808 ≤ most ∧ most ≤ 9223372036854775807) (lA : Option Addr) (l : List Int) (lc : Nat) (hl : Row H lA lc 1 (l.map i64c)) (cl : l.length ≤ lc) (ll : l.length ≤ 1099511627776) : ∃ v H', Spec Try.prog 126 [.int .i64 least, .int .i64 most, .slice lA l.length lc] H v H' ∧ ((v = .bool (Spec.inF least most l)) ∧ (Ext H H')) := by
 refine spec_go3 E0_ok 24 (f := 126) Try.func126 rfl rfl rfl ?_
 refine aw_seq ?_
 refine aw_reg ?_
 refine st_op (ev_assign rfl) rfl rfl rfl ?_
 try show aw _ _ _ _ _ _
 iterate 2 refine aw_seq ?_
 refine aw_reg ?_
 refine st_op (ev_move rfl) rfl rfl rfl ?_
 refine st_op (ev_lenSl rfl Try.underlying35) rfl rfl rfl ?_
 refine st_op (ev_move rfl) rfl rfl rfl ?_
 try show aw _ _ _ _ _ _
 refine aw_block ?_
 refine aw_keep [0, 1, 9, 10, 11] (l' := (.cons 0 (.int .i64 least) (.cons 1 (.int .i64 most) (.cons 9 (.slice lA l.length lc) (.cons 10 (.int .i64 (l.length : Int)) (.cons 11 (.int .i64 0) .nil)))))) (by repeat (first | exact Up.done | refine Up.then ?_ | refine Up.inBlock ?_)) rfl ?_
 refine aw_iter (α := Nat × Heap) (fun a => l.length - a.1) (fun a => (.cons 0 (.int .i64 least) (.cons 1 (.int .i64 most) (.cons 9 (.slice lA l.length lc) (.cons 10 (.int .i64 (l.length : Int)) (.cons 11 (.int .i64 (a.1 : Int)) .nil)))))) (fun a => a.2) (fun a => (a.1 ≤ l.length) ∧ (Spec.inF least most l = Spec.inF least most (l.drop a.1)) ∧ (Ext H a.2)) (0, H) ⟨(show 0 ≤ l.length from Nat.zero_le _), (show Spec.inF least most l = Spec.inF least most (l.drop 0) from rfl), (show Ext H H from (Ext.refl H))⟩ ?_
 rintro ⟨i, Hl1⟩ ⟨hi, hv, hxl2⟩ ih3
 replace hi : i ≤ l.length := hi
 replace hv : Spec.inF least most l = Spec.inF least most (l.drop i) := hv
 replace hxl2 : Ext H Hl1 := hxl2
 show aw _ _ _ (RL _ (.cons 0 (.int .i64 least) (.cons 1 (.int .i64 most) (.cons 9 (.slice lA l.length lc) (.cons 10 (.int .i64 (l.length : Int)) (.cons 11 (.int .i64 (i : Int)) .nil)))))) Hl1 _
 have Hl1n : H.next ≤ Hl1.next := hxl2.1
 refine aw_seq ?_
 refine aw_reg ?_
 refine st_op (ev_int rfl rfl rfl) rfl rfl rfl ?_
 try show aw _ _ _ _ _ _
 refine aw_seq ?_
 by_cases hc4 : (decide ((i : Int) < (l.length : Int))) = true
 ·
  refine aw_condT hc4 rfl ?_
  try show aw _ _ _ _ _ _
  have hc4 := of_decide_eq_true hc4
  refine aw_skip ?_
  try show aw _ _ _ _ _ _
  refine aw_seq ?_
  refine aw_block ?_
  refine aw_seq ?_
  refine aw_reg ?_
  have h5 := Row.ext hl hxl2
  have hi6 : 0 ≤ ((i : Int) : Int) := by omega
  have hi7 : ((i : Int) : Int) < ((l.length : Nat) : Int) := by omega
  obtain ⟨x8, hx9⟩ : ∃ e, l[i]? = some e := ⟨_, List.getElem?_eq_getElem (by omega)⟩
  refine st_op (ev_at rfl rfl h5 (getMap i64c hx9) (by first | rfl | omega | simp) hi6 hi7 el35) rfl rfl rfl ?_
  refine st_op (ev_atL rfl h5 (getMap i64c hx9) one2 rfl) rfl rfl rfl ?_
  refine st_op (ev_assign rfl) rfl rfl rfl ?_
  try show aw _ _ _ _ _ _
  refine aw_seq ?_
  refine aw_reg ?_
  iterate 2 refine st_op (ev_move rfl) rfl rfl rfl ?_
  refine st_op (ev_int rfl rfl rfl) rfl rfl rfl ?_
  refine st_op (ev_move rfl) rfl rfl rfl ?_
  refine st_bool 18 rfl (fun hb10 => ?_) (fun hb10 => ?_)
  ·
   have hb10 := of_decide_eq_true hb10
   iterate 3 refine st_skip rfl rfl rfl ?_
   refine st_op (ev_pickT rfl rfl) rfl rfl rfl ?_
   try show aw _ _ _ _ _ _
   refine aw_cond (t := true) rfl ?_
   try show aw _ _ _ _ _ _
   refine aw_seq ?_
   refine aw_reg ?_
   refine st_op (ev_assign rfl) rfl rfl rfl ?_
   try show aw _ _ _ _ _ _
   refine aw_ret ?_
   have hres : (Spec.inF least most l) = false := by rw [hv, drop_at hx9, Spec.inF]; first | (rw [if_pos (by omega)]; done) | (rw [if_neg (by omega), if_pos (by omega)]; done)
   exact ⟨.bool false, rfl, by first | (rw [hres]; done) | rw [← hres], hxl2⟩
  ·
   have hb10 := of_decide_eq_false hb10
   iterate 2 refine st_op (ev_move rfl) rfl rfl rfl ?_
   refine st_op (ev_int rfl rfl rfl) rfl rfl rfl ?_
   refine st_op (ev_pickF rfl rfl) rfl rfl rfl ?_
   try show aw _ _ _ _ _ _
   by_cases hc11 : (decide (x8 > most)) = true
   ·
    refine aw_condT hc11 rfl ?_
    try show aw _ _ _ _ _ _
    have hc11 := of_decide_eq_true hc11
    refine aw_seq ?_
    refine aw_reg ?_
    refine st_op (ev_assign rfl) rfl rfl rfl ?_
    try show aw _ _ _ _ _ _
    refine aw_ret ?_
    have hres : (Spec.inF least most l) = false := by rw [hv, drop_at hx9, Spec.inF]; first | (rw [if_pos (by omega)]; done) | (rw [if_neg (by omega), if_pos (by omega)]; done)
    exact ⟨.bool false, rfl, by first | (rw [hres]; done) | rw [← hres], hxl2⟩
   ·
    rw [Bool.not_eq_true] at hc11; refine aw_condF hc11 rfl ?_
    try show aw _ _ _ _ _ _
    have hc11 := of_decide_eq_false hc11
    refine aw_skip ?_
    try show aw _ _ _ _ _ _
    refine aw_reg ?_
    refine st_op (ev_int64 (c := (i : Int) + 1) rfl rfl rfl (by omega) (by omega)) rfl rfl rfl ?_
    refine st_op (ev_move rfl) rfl rfl rfl ?_
    try show aw _ _ _ _ _ _
    refine aw_keep [0, 1, 9, 10, 11] (l' := (.cons 0 (.int .i64 least) (.cons 1 (.int .i64 most) (.cons 9 (.slice lA l.length lc) (.cons 10 (.int .i64 (l.length : Int)) (.cons 11 (.int .i64 ((i : Int) + 1)) .nil)))))) (by repeat (first | exact Up.done | refine Up.then ?_ | refine Up.inBlock ?_)) rfl ?_
    exact ih3 (i + 1, Hl1) ⟨(show (i + 1) ≤ l.length from (by omega)), (show Spec.inF least most l = Spec.inF least most (l.drop (i + 1)) from (by rw [hv, drop_at hx9, Spec.inF, if_neg (by omega), if_neg (by omega)])), (show Ext H Hl1 from hxl2)⟩ (by simp only; omega)
 ·
  rw [Bool.not_eq_true] at hc4; refine aw_condF hc4 rfl ?_
  try show aw _ _ _ _ _ _
  have hc4 := of_decide_eq_false hc4
  refine aw_exit ?_
  try show aw _ _ _ _ _ _
  refine aw_seq ?_
  refine aw_reg ?_
  refine st_op (ev_assign rfl) rfl rfl rfl ?_
  try show aw _ _ _ _ _ _
  refine aw_ret ?_
  have hres : (Spec.inF least most l) = true := by rw [hv, List.drop_eq_nil_of_le (by omega)]; rfl
  exact ⟨.bool true, rfl, by first | (rw [hres]; done) | rw [← hres], hxl2⟩
theorem wal_May_spec (H : Heap) (r_hard : Bool) (r_h_term : Int) (r_h_vote : Int) (r_e_index : Int) (r_e_term : Int) (r_e_kind : Int) (r_e_data : ByteArray) : ∃ v H', Spec Try.prog 104 [.agg #[.bool r_hard, .int .i64 r_h_term, .int .i64 r_h_vote, .int .i64 r_e_index, .int .i64 r_e_term, .int .i64 r_e_kind, .string r_e_data]] H v H' ∧ ((v = .bool (Spec.mayF r_hard r_h_term r_h_vote r_e_index r_e_term r_e_kind r_e_data)) ∧ (Ext H H')) := by
 refine spec_go1 E0_ok 61 (f := 104) Try.func104 rfl rfl rfl ?_
 refine aw_seq ?_
 refine aw_reg ?_
 obtain ⟨b1, H2, he3, b1e, H2n_, hB5, f4⟩ := mem_box (P := Try.prog) H (v := .agg #[.bool r_hard, .int .i64 r_h_term, .int .i64 r_h_vote, .int .i64 r_e_index, .int .i64 r_e_term, .int .i64 r_e_kind, .string r_e_data]) (cs := [.bool r_hard, .int .i64 r_h_term, .int .i64 r_h_vote, .int .i64 r_e_index, .int .i64 r_e_term, .int .i64 r_e_kind, .string r_e_data]) rfl rfl
 refine st_op (he3 _ _ _ _ _ _ _ _ _ rfl) rfl rfl rfl ?_
 have hx6 : Ext H H2 := Ext.new (by omega) H2n_ f4
 have H2n : H.next ≤ H2.next := hx6.1
 refine st_op (ev_assign rfl) rfl rfl rfl ?_
 try show aw _ _ _ _ _ _
 iterate 2 refine aw_seq ?_
 refine aw_reg ?_
 refine st_op (ev_fieldAddr rfl fa132_0 (o' := 0) rfl) rfl rfl rfl ?_
 refine st_op (ev_load rfl (lvar_one one4 hB5 rfl)) rfl rfl rfl ?_
 try show aw _ _ _ _ _ _
 by_cases hc7 : r_hard = true
 ·
  refine aw_condT hc7 rfl ?_
  try show aw _ _ _ _ _ _
  refine aw_seq ?_
  refine aw_reg ?_
  refine st_op (ev_fieldAddr rfl fa132_1 (o' := 1) rfl) rfl rfl rfl ?_
  refine st_op (ev_fieldAddr rfl fa130_0 (o' := 1) rfl) rfl rfl rfl ?_
  refine st_op (ev_load rfl (lvar_one one2 hB5 rfl)) rfl rfl rfl ?_
  obtain ⟨b8, H9, he10, b8e, H9n_, hm12, f11⟩ := mem_lit H2 (xs := ([.int .i64 r_h_term] : List Value)) (m := 1) (rows := [[.int .i64 r_h_term]]) rfl eok35 (by decide) (by decide) zf2 rfl (allLen rfl) rfl
  replace hm12 : My H2 H9 (some ⟨b8, 0, none⟩) 1 1 ([r_h_term].map i64c) := hm12
  refine st_op (he10 _ _ _ _ _ _ _ _ rfl) rfl rfl rfl ?_
  have hx13 : Ext H2 H9 := Ext.new (by omega) H9n_ f11
  have H9n : H2.next ≤ H9.next := hx13.1
  refine st_call rfl rfl rfl ent126 rfl rfl rfl ?_
  obtain ⟨_, H15, hs14, hs14v, hx16⟩ := wal_in_spec H9 0 (by decide) 1099511627776 (by decide) (some ⟨b8, 0, none⟩) ([r_h_term]) 1 (My.row hm12) (My.capF hm12 (by first | omega | (simp only [List.length_append, List.length_cons, List.length_nil, List.length_map, List.length_set, List.length_replicate, Spec.bytesOf_length]; omega) | (simp; omega))) (by first | omega | (simp only [List.length_append, List.length_cons, List.length_nil, List.length_map, List.length_set, List.length_replicate, Spec.bytesOf_length]; omega) | (simp; omega))
  rw [hs14v] at hs14; clear hs14v
  refine ⟨_, H15, hs14, ?_⟩
  have H15n : H9.next ≤ H15.next := hx16.1
  refine st_op (ev_move rfl) rfl rfl rfl ?_
  refine st_bool 10 rfl (fun hb17 => ?_) (fun hb17 => ?_)
  ·
   have hb17m := Spec.inF_one hb17
   refine st_op (ev_fieldAddr rfl fa132_1 (o' := 1) rfl) rfl rfl rfl ?_
   refine st_op (ev_fieldAddr rfl fa130_1 (o' := 2) rfl) rfl rfl rfl ?_
   have hx19 : Ext H2 H15 := (Ext.trans hx13 hx16)
   have h18 := Ext.blk hx19 (by omega) hB5
   refine st_op (ev_load rfl (lvar_one one3 h18 rfl)) rfl rfl rfl ?_
   refine st_op (ev_int rfl rfl rfl) rfl rfl rfl ?_
   refine st_op (ev_pickT rfl rfl) rfl rfl rfl ?_
   refine st_op (ev_move rfl) rfl rfl rfl ?_
   refine st_bool 16 rfl (fun hb20 => ?_) (fun hb20 => ?_)
   ·
    have hb20 := of_decide_eq_true hb20
    refine st_op (ev_fieldAddr rfl fa132_1 (o' := 1) rfl) rfl rfl rfl ?_
    refine st_op (ev_fieldAddr rfl fa130_1 (o' := 2) rfl) rfl rfl rfl ?_
    refine st_op (ev_load rfl (lvar_one one3 h18 rfl)) rfl rfl rfl ?_
    refine st_op (ev_int rfl rfl rfl) rfl rfl rfl ?_
    refine st_op (ev_pickT rfl rfl) rfl rfl rfl ?_
    refine st_op (ev_move rfl) rfl rfl rfl ?_
    refine st_bool 22 rfl (fun hb21 => ?_) (fun hb21 => ?_)
    ·
     have hb21 := of_decide_eq_true hb21
     refine st_op (ev_fieldAddr rfl fa132_2 (o' := 3) rfl) rfl rfl rfl ?_
     refine st_op (ev_load rfl (lvar_part (l := [.int .i64 r_e_index, .int .i64 r_e_term, .int .i64 r_e_kind, .string r_e_data]) many84 h18 rfl rfl (by decide))) rfl rfl rfl ?_
     refine st_op (ev_build zero84 pl84 (parts := []) rfl (cs := [.int .i64 0, .int .i64 0, .int .i64 0, .string (⟨#[]⟩)]) rfl) rfl rfl rfl ?_
     obtain ⟨q22, hq23, hi24⟩ : ∃ q, bin.eqCells [.int .i64 r_e_index, .int .i64 r_e_term, .int .i64 r_e_kind, .string r_e_data] [.int .i64 0, .int .i64 0, .int .i64 0, .string (⟨#[]⟩)] = some q ∧ (q = true ↔ r_e_index = 0 ∧ r_e_term = 0 ∧ r_e_kind = 0 ∧ r_e_data = (⟨#[]⟩ : ByteArray)) := ⟨_, rfl, by simp [Bool.and_eq_true, ba_beq]⟩
     refine st_op (ev_agg rfl rfl (by rw [eqt84, show fitAgg Try.prog 84 (#[.int .i64 r_e_index, .int .i64 r_e_term, .int .i64 r_e_kind, .string r_e_data] : Array Value).toList = true from fit84 r_e_index r_e_term r_e_kind r_e_data]; rfl) hq23 rfl) rfl rfl rfl ?_
     refine st_op (ev_pickT rfl rfl) rfl rfl rfl ?_
     refine st_op (ev_assign rfl) rfl rfl rfl ?_
     try show aw _ _ _ _ _ _
     refine aw_ret ?_
     have hx25 : Ext H H15 := (Ext.trans (Ext.trans hx6 hx13) hx16)
     have hres : (Spec.mayF r_hard r_h_term r_h_vote r_e_index r_e_term r_e_kind r_e_data) = q22 := by rw [Bool.eq_iff_iff]; simp only [Spec.mayF]; (try simp_all [Spec.ba_empty]) <;> (try (intros; omega))
     exact ⟨.bool q22, rfl, by first | (rw [hres]; done) | rw [← hres], hx25⟩
    ·
     have hb21 := of_decide_eq_false hb21
     iterate 4 refine st_skip rfl rfl rfl ?_
     refine st_op (ev_pickF rfl rfl) rfl rfl rfl ?_
     refine st_op (ev_assign rfl) rfl rfl rfl ?_
     try show aw _ _ _ _ _ _
     refine aw_ret ?_
     have hx26 : Ext H H15 := (Ext.trans (Ext.trans hx6 hx13) hx16)
     have hres : (Spec.mayF r_hard r_h_term r_h_vote r_e_index r_e_term r_e_kind r_e_data) = false := by rw [Bool.eq_iff_iff]; simp only [Spec.mayF]; (try simp_all [Spec.ba_empty]) <;> (try (intros; omega))
     exact ⟨.bool false, rfl, by first | (rw [hres]; done) | rw [← hres], hx26⟩
   ·
    have hb20 := of_decide_eq_false hb20
    iterate 4 refine st_skip rfl rfl rfl ?_
    refine st_op (ev_pickF rfl rfl) rfl rfl rfl ?_
    refine st_op (ev_move rfl) rfl rfl rfl ?_
    iterate 4 refine st_skip rfl rfl rfl ?_
    refine st_op (ev_pickF rfl rfl) rfl rfl rfl ?_
    refine st_op (ev_assign rfl) rfl rfl rfl ?_
    try show aw _ _ _ _ _ _
    refine aw_ret ?_
    have hx27 : Ext H H15 := (Ext.trans (Ext.trans hx6 hx13) hx16)
    have hres : (Spec.mayF r_hard r_h_term r_h_vote r_e_index r_e_term r_e_kind r_e_data) = false := by rw [Bool.eq_iff_iff]; simp only [Spec.mayF]; (try simp_all [Spec.ba_empty]) <;> (try (intros; omega))
    exact ⟨.bool false, rfl, by first | (rw [hres]; done) | rw [← hres], hx27⟩
  ·
   have hb17m := Spec.inF_oneN hb17
   iterate 4 refine st_skip rfl rfl rfl ?_
   refine st_op (ev_pickF rfl rfl) rfl rfl rfl ?_
   refine st_op (ev_move rfl) rfl rfl rfl ?_
   iterate 4 refine st_skip rfl rfl rfl ?_
   refine st_op (ev_pickF rfl rfl) rfl rfl rfl ?_
   refine st_op (ev_move rfl) rfl rfl rfl ?_
   iterate 4 refine st_skip rfl rfl rfl ?_
   refine st_op (ev_pickF rfl rfl) rfl rfl rfl ?_
   refine st_op (ev_assign rfl) rfl rfl rfl ?_
   try show aw _ _ _ _ _ _
   refine aw_ret ?_
   have hx28 : Ext H H15 := (Ext.trans (Ext.trans hx6 hx13) hx16)
   have hres : (Spec.mayF r_hard r_h_term r_h_vote r_e_index r_e_term r_e_kind r_e_data) = false := by rw [Bool.eq_iff_iff]; simp only [Spec.mayF]; (try simp_all [Spec.ba_empty]) <;> (try (intros; omega))
   exact ⟨.bool false, rfl, by first | (rw [hres]; done) | rw [← hres], hx28⟩
 ·
  rw [Bool.not_eq_true] at hc7; refine aw_condF hc7 rfl ?_
  try show aw _ _ _ _ _ _
  refine aw_skip ?_
  try show aw _ _ _ _ _ _
  refine aw_seq ?_
  refine aw_reg ?_
  refine st_op (ev_fieldAddr rfl fa132_1 (o' := 1) rfl) rfl rfl rfl ?_
  refine st_op (ev_load rfl (lvar_part (l := [.int .i64 r_h_term, .int .i64 r_h_vote]) many130 hB5 rfl rfl (by decide))) rfl rfl rfl ?_
  refine st_op (ev_build zero130 pl130 (parts := []) rfl (cs := [.int .i64 0, .int .i64 0]) rfl) rfl rfl rfl ?_
  obtain ⟨q29, hq30, hi31⟩ : ∃ q, bin.eqCells [.int .i64 r_h_term, .int .i64 r_h_vote] [.int .i64 0, .int .i64 0] = some q ∧ (q = true ↔ r_h_term = 0 ∧ r_h_vote = 0) := ⟨_, rfl, by simp [Bool.and_eq_true, ba_beq]⟩
  refine st_op (ev_agg rfl rfl (by rw [eqt130, show fitAgg Try.prog 130 (#[.int .i64 r_h_term, .int .i64 r_h_vote] : Array Value).toList = true from fit130 r_h_term r_h_vote]; rfl) hq30 rfl) rfl rfl rfl ?_
  refine st_op (ev_move rfl) rfl rfl rfl ?_
  refine st_bool 32 rfl (fun hb32 => ?_) (fun hb32 => ?_)
  ·
   have hb32E := hi31.1 hb32
   refine st_op (ev_fieldAddr rfl fa132_2 (o' := 3) rfl) rfl rfl rfl ?_
   refine st_op (ev_fieldAddr rfl fa84_0 (o' := 3) rfl) rfl rfl rfl ?_
   refine st_op (ev_load rfl (lvar_one one2 hB5 rfl)) rfl rfl rfl ?_
   refine st_op (ev_fieldAddr rfl fa132_2 (o' := 3) rfl) rfl rfl rfl ?_
   refine st_op (ev_fieldAddr rfl fa84_1 (o' := 4) rfl) rfl rfl rfl ?_
   refine st_op (ev_load rfl (lvar_one one2 hB5 rfl)) rfl rfl rfl ?_
   obtain ⟨b33, H34, he35, b33e, H34n_, hm37, f36⟩ := mem_lit H2 (xs := ([.int .i64 r_e_index, .int .i64 r_e_term] : List Value)) (m := 2) (rows := [[.int .i64 r_e_index], [.int .i64 r_e_term]]) rfl eok35 (by decide) (by decide) zf2 rfl (allLen rfl) rfl
   replace hm37 : My H2 H34 (some ⟨b33, 0, none⟩) 2 1 ([r_e_index, r_e_term].map i64c) := hm37
   refine st_op (he35 _ _ _ _ _ _ _ _ rfl) rfl rfl rfl ?_
   have hx38 : Ext H2 H34 := Ext.new (by omega) H34n_ f36
   have H34n : H2.next ≤ H34.next := hx38.1
   refine st_call rfl rfl rfl ent126 rfl rfl rfl ?_
   obtain ⟨_, H40, hs39, hs39v, hx41⟩ := wal_in_spec H34 1 (by decide) 1099511627776 (by decide) (some ⟨b33, 0, none⟩) ([r_e_index, r_e_term]) 2 (My.row hm37) (My.capF hm37 (by first | omega | (simp only [List.length_append, List.length_cons, List.length_nil, List.length_map, List.length_set, List.length_replicate, Spec.bytesOf_length]; omega) | (simp; omega))) (by first | omega | (simp only [List.length_append, List.length_cons, List.length_nil, List.length_map, List.length_set, List.length_replicate, Spec.bytesOf_length]; omega) | (simp; omega))
   rw [hs39v] at hs39; clear hs39v
   refine ⟨_, H40, hs39, ?_⟩
   have H40n : H34.next ≤ H40.next := hx41.1
   refine st_op (ev_pickT rfl rfl) rfl rfl rfl ?_
   refine st_op (ev_move rfl) rfl rfl rfl ?_
   refine st_bool 42 rfl (fun hb42 => ?_) (fun hb42 => ?_)
   ·
    have hb42m := Spec.inF_two hb42
    refine st_op (ev_fieldAddr rfl fa132_2 (o' := 3) rfl) rfl rfl rfl ?_
    refine st_op (ev_fieldAddr rfl fa84_2 (o' := 5) rfl) rfl rfl rfl ?_
    have hx44 : Ext H2 H40 := (Ext.trans hx38 hx41)
    have h43 := Ext.blk hx44 (by omega) hB5
    refine st_op (ev_load rfl (lvar_one one3 h43 rfl)) rfl rfl rfl ?_
    refine st_op (ev_int rfl rfl rfl) rfl rfl rfl ?_
    refine st_op (ev_pickT rfl rfl) rfl rfl rfl ?_
    refine st_op (ev_move rfl) rfl rfl rfl ?_
    refine st_bool 48 rfl (fun hb45 => ?_) (fun hb45 => ?_)
    ·
     have hb45 := of_decide_eq_true hb45
     refine st_op (ev_fieldAddr rfl fa132_2 (o' := 3) rfl) rfl rfl rfl ?_
     refine st_op (ev_fieldAddr rfl fa84_2 (o' := 5) rfl) rfl rfl rfl ?_
     refine st_op (ev_load rfl (lvar_one one3 h43 rfl)) rfl rfl rfl ?_
     refine st_op (ev_int rfl rfl rfl) rfl rfl rfl ?_
     refine st_op (ev_pickT rfl rfl) rfl rfl rfl ?_
     refine st_op (ev_move rfl) rfl rfl rfl ?_
     refine st_bool 54 rfl (fun hb46 => ?_) (fun hb46 => ?_)
     ·
      have hb46 := of_decide_eq_true hb46
      refine st_op (ev_fieldAddr rfl fa132_2 (o' := 3) rfl) rfl rfl rfl ?_
      refine st_op (ev_fieldAddr rfl fa84_3 (o' := 6) rfl) rfl rfl rfl ?_
      refine st_op (ev_load rfl (lvar_one one9 h43 rfl)) rfl rfl rfl ?_
      refine st_op (ev_lenStr rfl Try.underlying9) rfl rfl rfl ?_
      refine st_op (ev_int rfl rfl rfl) rfl rfl rfl ?_
      refine st_op (ev_pickT rfl rfl) rfl rfl rfl ?_
      refine st_op (ev_assign rfl) rfl rfl rfl ?_
      try show aw _ _ _ _ _ _
      refine aw_ret ?_
      have hx47 : Ext H H40 := (Ext.trans (Ext.trans hx6 hx38) hx41)
      have hres : (Spec.mayF r_hard r_h_term r_h_vote r_e_index r_e_term r_e_kind r_e_data) = (decide (((r_e_data).size : Int) ≤ 2500)) := by rw [Bool.eq_iff_iff]; simp only [Spec.mayF]; (try simp_all [Spec.ba_empty]) <;> (try (intros; omega))
      exact ⟨.bool (decide (((r_e_data).size : Int) ≤ 2500)), rfl, by first | (rw [hres]; done) | rw [← hres], hx47⟩
     ·
      have hb46 := of_decide_eq_false hb46
      iterate 5 refine st_skip rfl rfl rfl ?_
      refine st_op (ev_pickF rfl rfl) rfl rfl rfl ?_
      refine st_op (ev_assign rfl) rfl rfl rfl ?_
      try show aw _ _ _ _ _ _
      refine aw_ret ?_
      have hx48 : Ext H H40 := (Ext.trans (Ext.trans hx6 hx38) hx41)
      have hres : (Spec.mayF r_hard r_h_term r_h_vote r_e_index r_e_term r_e_kind r_e_data) = false := by rw [Bool.eq_iff_iff]; simp only [Spec.mayF]; (try simp_all [Spec.ba_empty]) <;> (try (intros; omega))
      exact ⟨.bool false, rfl, by first | (rw [hres]; done) | rw [← hres], hx48⟩
    ·
     have hb45 := of_decide_eq_false hb45
     iterate 4 refine st_skip rfl rfl rfl ?_
     refine st_op (ev_pickF rfl rfl) rfl rfl rfl ?_
     refine st_op (ev_move rfl) rfl rfl rfl ?_
     iterate 5 refine st_skip rfl rfl rfl ?_
     refine st_op (ev_pickF rfl rfl) rfl rfl rfl ?_
     refine st_op (ev_assign rfl) rfl rfl rfl ?_
     try show aw _ _ _ _ _ _
     refine aw_ret ?_
     have hx49 : Ext H H40 := (Ext.trans (Ext.trans hx6 hx38) hx41)
     have hres : (Spec.mayF r_hard r_h_term r_h_vote r_e_index r_e_term r_e_kind r_e_data) = false := by rw [Bool.eq_iff_iff]; simp only [Spec.mayF]; (try simp_all [Spec.ba_empty]) <;> (try (intros; omega))
     exact ⟨.bool false, rfl, by first | (rw [hres]; done) | rw [← hres], hx49⟩
   ·
    have hb42m := Spec.inF_twoN hb42
    iterate 4 refine st_skip rfl rfl rfl ?_
    refine st_op (ev_pickF rfl rfl) rfl rfl rfl ?_
    refine st_op (ev_move rfl) rfl rfl rfl ?_
    iterate 4 refine st_skip rfl rfl rfl ?_
    refine st_op (ev_pickF rfl rfl) rfl rfl rfl ?_
    refine st_op (ev_move rfl) rfl rfl rfl ?_
    iterate 5 refine st_skip rfl rfl rfl ?_
    refine st_op (ev_pickF rfl rfl) rfl rfl rfl ?_
    refine st_op (ev_assign rfl) rfl rfl rfl ?_
    try show aw _ _ _ _ _ _
    refine aw_ret ?_
    have hx50 : Ext H H40 := (Ext.trans (Ext.trans hx6 hx38) hx41)
    have hres : (Spec.mayF r_hard r_h_term r_h_vote r_e_index r_e_term r_e_kind r_e_data) = false := by rw [Bool.eq_iff_iff]; simp only [Spec.mayF]; (try simp_all [Spec.ba_empty]) <;> (try (intros; omega))
    exact ⟨.bool false, rfl, by first | (rw [hres]; done) | rw [← hres], hx50⟩
  ·
   have hb32E : ¬ (r_h_term = 0 ∧ r_h_vote = 0) := fun e => absurd (hi31.2 e) (by rw [hb32]; decide)
   iterate 8 refine st_skip rfl rfl rfl ?_
   refine st_op (ev_pickF rfl rfl) rfl rfl rfl ?_
   refine st_op (ev_move rfl) rfl rfl rfl ?_
   iterate 4 refine st_skip rfl rfl rfl ?_
   refine st_op (ev_pickF rfl rfl) rfl rfl rfl ?_
   refine st_op (ev_move rfl) rfl rfl rfl ?_
   iterate 4 refine st_skip rfl rfl rfl ?_
   refine st_op (ev_pickF rfl rfl) rfl rfl rfl ?_
   refine st_op (ev_move rfl) rfl rfl rfl ?_
   iterate 5 refine st_skip rfl rfl rfl ?_
   refine st_op (ev_pickF rfl rfl) rfl rfl rfl ?_
   refine st_op (ev_assign rfl) rfl rfl rfl ?_
   try show aw _ _ _ _ _ _
   refine aw_ret ?_
   have hres : (Spec.mayF r_hard r_h_term r_h_vote r_e_index r_e_term r_e_kind r_e_data) = false := by rw [Bool.eq_iff_iff]; simp only [Spec.mayF]; (try simp_all [Spec.ba_empty]) <;> (try (intros; omega))
   exact ⟨.bool false, rfl, by first | (rw [hres]; done) | rw [← hres], hx6⟩
theorem raft_entries_spec (H : Heap) (kind : Int) (from_ : Int) (to_ : Int) (term : Int) (index : Int) (hindex : 0 ≤ index ∧ index ≤ 1099511627776) (logterm : Int) (commit : Int) (yes : Bool) (esA : Option Addr) (es : List Entry) (esc : Nat) (hes : Row H esA esc 4 (es.map Entry.cells)) (ces : es.length ≤ esc) (les : es.length ≤ 1048576) (s_index : Int) (s_term : Int) (s_conf : ByteArray) (hs_conf : s_conf.size ≤ 1073741824) (s_data : ByteArray) (hs_data : s_data.size ≤ 1073741824) : ∃ v H', Spec Try.prog 75 [.agg #[.int .i64 kind, .int .i64 from_, .int .i64 to_, .int .i64 term, .int .i64 index, .int .i64 logterm, .int .i64 commit, .bool yes, .slice esA es.length esc, .int .i64 s_index, .int .i64 s_term, .string s_conf, .string s_data]] H v H' ∧ ((v = .bool (Spec.entR term index logterm es && decide (es.length ≤ 8 ∧ (es.length = 0 ∨ kind = 3)))) ∧ (Ext H H')) := by
 refine spec_go1 E0_ok 62 (f := 75) Try.func75 rfl rfl rfl ?_
 refine aw_seq ?_
 refine aw_reg ?_
 obtain ⟨b1, H2, he3, b1e, H2n_, hB5, f4⟩ := mem_box (P := Try.prog) H (v := .agg #[.int .i64 kind, .int .i64 from_, .int .i64 to_, .int .i64 term, .int .i64 index, .int .i64 logterm, .int .i64 commit, .bool yes, .slice esA es.length esc, .int .i64 s_index, .int .i64 s_term, .string s_conf, .string s_data]) (cs := [.int .i64 kind, .int .i64 from_, .int .i64 to_, .int .i64 term, .int .i64 index, .int .i64 logterm, .int .i64 commit, .bool yes, .slice esA es.length esc, .int .i64 s_index, .int .i64 s_term, .string s_conf, .string s_data]) rfl rfl
 refine st_op (he3 _ _ _ _ _ _ _ _ _ rfl) rfl rfl rfl ?_
 have hx6 : Ext H H2 := Ext.new (by omega) H2n_ f4
 have H2n : H.next ≤ H2.next := hx6.1
 refine st_op (ev_assign rfl) rfl rfl rfl ?_
 try show aw _ _ _ _ _ _
 refine aw_seq ?_
 refine aw_marks (fun b => b < H2.next) [(false, false), (false, false), (false, false), (false, false), (false, false), (false, false)] mixed (by kernel_rfl) (by kernel_rfl) ?_
 refine sm_op (ev_fieldAddr rfl fa46_4 (o' := 4) rfl) rfl rfl rfl ?_
 refine sm_op (ev_load rfl (lvar_one one2 hB5 rfl)) rfl rfl rfl ?_
 refine sm_op (ev_fieldAddr rfl fa46_5 (o' := 5) rfl) rfl rfl rfl ?_
 refine sm_op (ev_load rfl (lvar_one one2 hB5 rfl)) rfl rfl rfl ?_
 iterate 2 refine sm_op (ev_assign rfl) rfl rfl rfl ?_
 try show aw _ _ _ _ _ _
 iterate 2 refine aw_seq ?_
 refine aw_reg ?_
 refine st_op (ev_fieldAddr rfl fa46_8 (o' := 8) rfl) rfl rfl rfl ?_
 refine st_op (ev_load rfl (lvar_one one42 hB5 rfl)) rfl rfl rfl ?_
 refine st_op (ev_lenSl rfl Try.underlying42) rfl rfl rfl ?_
 refine st_op (ev_move rfl) rfl rfl rfl ?_
 try show aw _ _ _ _ _ _
 refine aw_block ?_
 refine aw_keep [1, 3, 4, 12, 13, 14] (l' := (.cons 1 (.pointer (some ⟨b1, 0, none⟩)) (.cons 3 (.int .i64 index) (.cons 4 (.int .i64 logterm) (.cons 12 (.slice esA es.length esc) (.cons 13 (.int .i64 (es.length : Int)) (.cons 14 (.int .i64 0) .nil))))))) (by repeat (first | exact Up.done | refine Up.then ?_ | refine Up.inBlock ?_)) rfl ?_
 refine aw_iter (α := Nat × Int × Int × Heap) (fun a => es.length - a.1) (fun a => (.cons 1 (.pointer (some ⟨b1, 0, none⟩)) (.cons 3 (.int .i64 a.2.1) (.cons 4 (.int .i64 a.2.2.1) (.cons 12 (.slice esA es.length esc) (.cons 13 (.int .i64 (es.length : Int)) (.cons 14 (.int .i64 (a.1 : Int)) .nil))))))) (fun a => a.2.2.2) (fun a => (a.1 ≤ es.length) ∧ (Spec.entR term index logterm es = Spec.entR term a.2.1 a.2.2.1 (es.drop a.1)) ∧ (0 ≤ a.2.1 ∧ a.2.1 ≤ 1099511627776) ∧ (Ext H2 a.2.2.2)) (0, index, logterm, H2) ⟨(show 0 ≤ es.length from Nat.zero_le _), (show Spec.entR term index logterm es = Spec.entR term index logterm (es.drop 0) from rfl), (show 0 ≤ index ∧ index ≤ 1099511627776 from ⟨by omega, by omega⟩), (show Ext H2 H2 from (Ext.refl H2))⟩ ?_
 rintro ⟨i, ix, tm, Hl7⟩ ⟨hi, hv, hn8, hxl9⟩ ih10
 replace hi : i ≤ es.length := hi
 replace hv : Spec.entR term index logterm es = Spec.entR term ix tm (es.drop i) := hv
 replace hn8 : 0 ≤ ix ∧ ix ≤ 1099511627776 := hn8
 replace hxl9 : Ext H2 Hl7 := hxl9
 show aw _ _ _ (RL _ (.cons 1 (.pointer (some ⟨b1, 0, none⟩)) (.cons 3 (.int .i64 ix) (.cons 4 (.int .i64 tm) (.cons 12 (.slice esA es.length esc) (.cons 13 (.int .i64 (es.length : Int)) (.cons 14 (.int .i64 (i : Int)) .nil))))))) Hl7 _
 have Hl7n : H2.next ≤ Hl7.next := hxl9.1
 refine aw_seq ?_
 refine aw_reg ?_
 refine st_op (ev_int rfl rfl rfl) rfl rfl rfl ?_
 try show aw _ _ _ _ _ _
 refine aw_seq ?_
 by_cases hc11 : (decide ((i : Int) < (es.length : Int))) = true
 ·
  refine aw_condT hc11 rfl ?_
  try show aw _ _ _ _ _ _
  have hc11 := of_decide_eq_true hc11
  refine aw_skip ?_
  try show aw _ _ _ _ _ _
  refine aw_seq ?_
  refine aw_block ?_
  refine aw_seq ?_
  refine aw_reg ?_
  have hx13 : Ext H Hl7 := (Ext.trans hx6 hxl9)
  have h12 := Row.ext hes hx13
  have hi14 : 0 ≤ ((i : Int) : Int) := by omega
  have hi15 : ((i : Int) : Int) < ((es.length : Nat) : Int) := by omega
  obtain ⟨x16, hx17⟩ : ∃ e, es[i]? = some e := ⟨_, List.getElem?_eq_getElem (by omega)⟩
  refine st_op (ev_at rfl rfl h12 (getMap Entry.cells hx17) (by first | rfl | omega | simp) hi14 hi15 el42) rfl rfl rfl ?_
  refine st_op (ev_atN (cs := [.int .i64 x16.index, .int .i64 x16.term, .int .i64 x16.kind, .string x16.data]) rfl h12 (getMap Entry.cells hx17) many84 rfl rfl (by decide)) rfl rfl rfl ?_
  obtain ⟨b18, H19, he20, b18e, H19n_, hB22, f21⟩ := mem_alloc Hl7 zero84
  refine st_op (he20 _ _ _ _ _ _ _) rfl rfl rfl ?_
  have hx23 : Ext Hl7 H19 := Ext.new (by omega) H19n_ f21
  have H19n : Hl7.next ≤ H19.next := hx23.1
  obtain ⟨H24, he25, H24n_, hB26, f27⟩ := mem_store (v := .agg #[.int .i64 x16.index, .int .i64 x16.term, .int .i64 x16.kind, .string x16.data]) (o := 0) (cs' := [.int .i64 x16.index, .int .i64 x16.term, .int .i64 x16.kind, .string x16.data]) 4 rfl rfl size84 hB22 rfl rfl rfl
  refine st_op0 (he25 _ _ _ _ _ _ _ _ _ rfl rfl) rfl rfl ?_
  have hf28 : Fr (fun q => q = b18) H19 H24 := Fr.write H24n_ f27
  have H24n : H19.next ≤ H24.next := hf28.1
  try show aw _ _ _ _ _ _
  iterate 2 refine aw_seq ?_
  refine aw_reg ?_
  refine st_op (ev_fieldAddr rfl fa84_0 (o' := 0) rfl) rfl rfl rfl ?_
  refine st_op (ev_load rfl (lvar_one one2 hB26 rfl)) rfl rfl rfl ?_
  refine st_op (ev_move rfl) rfl rfl rfl ?_
  refine st_op (ev_int64 (c := ix + 1) rfl rfl rfl (by omega) (by omega)) rfl rfl rfl ?_
  refine st_op (ev_int rfl rfl rfl) rfl rfl rfl ?_
  refine st_op (ev_move rfl) rfl rfl rfl ?_
  refine st_bool 23 rfl (fun hb29 => ?_) (fun hb29 => ?_)
  ·
   have hb29 : ¬ (x16.index = ix + 1) := by simpa using hb29
   iterate 4 refine st_skip rfl rfl rfl ?_
   refine st_op (ev_pickT rfl rfl) rfl rfl rfl ?_
   refine st_op (ev_move rfl) rfl rfl rfl ?_
   iterate 5 refine st_skip rfl rfl rfl ?_
   refine st_op (ev_pickT rfl rfl) rfl rfl rfl ?_
   refine st_op (ev_move rfl) rfl rfl rfl ?_
   iterate 4 refine st_skip rfl rfl rfl ?_
   refine st_op (ev_pickT rfl rfl) rfl rfl rfl ?_
   try show aw _ _ _ _ _ _
   refine aw_cond (t := true) rfl ?_
   try show aw _ _ _ _ _ _
   refine aw_seq ?_
   refine aw_reg ?_
   refine st_op (ev_assign rfl) rfl rfl rfl ?_
   try show aw _ _ _ _ _ _
   refine aw_ret ?_
   have hx30 : Ext H H24 := (Ext.then (Ext.trans hx13 hx23) hf28 (fun q hq e => by omega))
   have hres : (Spec.entR term index logterm es && decide (es.length ≤ 8 ∧ (es.length = 0 ∨ kind = 3))) = false := by first | (rw [hv, drop_at hx17, Spec.entR, if_pos (by first | exact .inl (by omega) | exact .inr (.inl (by omega)) | exact .inr (.inr (.inl (by omega))) | exact .inr (.inr (.inr (by assumption))))]; rfl) | (rw [hv, List.drop_eq_nil_of_le (by omega), Spec.entR, Bool.eq_iff_iff]; simp only [Bool.true_and, decide_eq_true_eq, beq_iff_eq, Bool.false_eq_true, iff_true, iff_false]; omega)
   exact ⟨.bool false, rfl, by first | (rw [hres]; done) | rw [← hres], hx30⟩
  ·
   have hb29 : (x16.index = ix + 1) := by simpa using hb29
   refine st_op (ev_fieldAddr rfl fa84_1 (o' := 1) rfl) rfl rfl rfl ?_
   refine st_op (ev_load rfl (lvar_one one2 hB26 rfl)) rfl rfl rfl ?_
   refine st_op (ev_move rfl) rfl rfl rfl ?_
   refine st_op (ev_int rfl rfl rfl) rfl rfl rfl ?_
   refine st_op (ev_pickF rfl rfl) rfl rfl rfl ?_
   refine st_op (ev_move rfl) rfl rfl rfl ?_
   refine st_bool 29 rfl (fun hb31 => ?_) (fun hb31 => ?_)
   ·
    have hb31 := of_decide_eq_true hb31
    iterate 5 refine st_skip rfl rfl rfl ?_
    refine st_op (ev_pickT rfl rfl) rfl rfl rfl ?_
    refine st_op (ev_move rfl) rfl rfl rfl ?_
    iterate 4 refine st_skip rfl rfl rfl ?_
    refine st_op (ev_pickT rfl rfl) rfl rfl rfl ?_
    try show aw _ _ _ _ _ _
    refine aw_cond (t := true) rfl ?_
    try show aw _ _ _ _ _ _
    refine aw_seq ?_
    refine aw_reg ?_
    refine st_op (ev_assign rfl) rfl rfl rfl ?_
    try show aw _ _ _ _ _ _
    refine aw_ret ?_
    have hx32 : Ext H H24 := (Ext.then (Ext.trans hx13 hx23) hf28 (fun q hq e => by omega))
    have hres : (Spec.entR term index logterm es && decide (es.length ≤ 8 ∧ (es.length = 0 ∨ kind = 3))) = false := by first | (rw [hv, drop_at hx17, Spec.entR, if_pos (by first | exact .inl (by omega) | exact .inr (.inl (by omega)) | exact .inr (.inr (.inl (by omega))) | exact .inr (.inr (.inr (by assumption))))]; rfl) | (rw [hv, List.drop_eq_nil_of_le (by omega), Spec.entR, Bool.eq_iff_iff]; simp only [Bool.true_and, decide_eq_true_eq, beq_iff_eq, Bool.false_eq_true, iff_true, iff_false]; omega)
    exact ⟨.bool false, rfl, by first | (rw [hres]; done) | rw [← hres], hx32⟩
   ·
    have hb31 := of_decide_eq_false hb31
    refine st_op (ev_fieldAddr rfl fa84_1 (o' := 1) rfl) rfl rfl rfl ?_
    refine st_op (ev_load rfl (lvar_one one2 hB26 rfl)) rfl rfl rfl ?_
    refine st_op (ev_fieldAddr rfl fa46_3 (o' := 3) rfl) rfl rfl rfl ?_
    have hx34 : Ext H2 H24 := (Ext.then (Ext.trans hxl9 hx23) hf28 (fun q hq e => by omega))
    have h33 := Ext.blk hx34 (by omega) hB5
    refine st_op (ev_load rfl (lvar_one one2 h33 rfl)) rfl rfl rfl ?_
    refine st_op (ev_int rfl rfl rfl) rfl rfl rfl ?_
    refine st_op (ev_pickF rfl rfl) rfl rfl rfl ?_
    refine st_op (ev_move rfl) rfl rfl rfl ?_
    refine st_bool 36 rfl (fun hb35 => ?_) (fun hb35 => ?_)
    ·
     have hb35 := of_decide_eq_true hb35
     iterate 4 refine st_skip rfl rfl rfl ?_
     refine st_op (ev_pickT rfl rfl) rfl rfl rfl ?_
     try show aw _ _ _ _ _ _
     refine aw_cond (t := true) rfl ?_
     try show aw _ _ _ _ _ _
     refine aw_seq ?_
     refine aw_reg ?_
     refine st_op (ev_assign rfl) rfl rfl rfl ?_
     try show aw _ _ _ _ _ _
     refine aw_ret ?_
     have hx36 : Ext H H24 := (Ext.then (Ext.trans hx13 hx23) hf28 (fun q hq e => by omega))
     have hres : (Spec.entR term index logterm es && decide (es.length ≤ 8 ∧ (es.length = 0 ∨ kind = 3))) = false := by first | (rw [hv, drop_at hx17, Spec.entR, if_pos (by first | exact .inl (by omega) | exact .inr (.inl (by omega)) | exact .inr (.inr (.inl (by omega))) | exact .inr (.inr (.inr (by assumption))))]; rfl) | (rw [hv, List.drop_eq_nil_of_le (by omega), Spec.entR, Bool.eq_iff_iff]; simp only [Bool.true_and, decide_eq_true_eq, beq_iff_eq, Bool.false_eq_true, iff_true, iff_false]; omega)
     exact ⟨.bool false, rfl, by first | (rw [hres]; done) | rw [← hres], hx36⟩
    ·
     have hb35 := of_decide_eq_false hb35
     refine st_op (ev_load rfl (lvar_part (l := [.int .i64 x16.index, .int .i64 x16.term, .int .i64 x16.kind, .string x16.data]) many84 hB26 rfl rfl (by decide))) rfl rfl rfl ?_
     refine st_op (ev_build zero132 pl132 (parts := [(2, .agg #[.int .i64 x16.index, .int .i64 x16.term, .int .i64 x16.kind, .string x16.data])]) rfl (cs := [.bool false, .int .i64 0, .int .i64 0, .int .i64 x16.index, .int .i64 x16.term, .int .i64 x16.kind, .string x16.data]) rfl) rfl rfl rfl ?_
     refine st_call rfl rfl rfl ent104 rfl rfl rfl ?_
     obtain ⟨_, H38, hs37, hs37v, hx39⟩ := wal_May_spec H24 false (0 : Int) (0 : Int) x16.index x16.term x16.kind x16.data
     rw [hs37v] at hs37; clear hs37v
     refine ⟨_, H38, hs37, ?_⟩
     have H38n : H24.next ≤ H38.next := hx39.1
     refine st_op (ev_not rfl) rfl rfl rfl ?_
     refine st_op (ev_pickF rfl rfl) rfl rfl rfl ?_
     try show aw _ _ _ _ _ _
     by_cases hc40 : (!(Spec.mayF false (0 : Int) (0 : Int) x16.index x16.term x16.kind x16.data)) = true
     ·
      refine aw_condT hc40 rfl ?_
      try show aw _ _ _ _ _ _
      replace hc40 : (Spec.mayF false (0 : Int) (0 : Int) x16.index x16.term x16.kind x16.data) = false := by rw [Bool.not_eq_true'] at hc40; exact hc40
      refine aw_seq ?_
      refine aw_reg ?_
      refine st_op (ev_assign rfl) rfl rfl rfl ?_
      try show aw _ _ _ _ _ _
      refine aw_ret ?_
      have hx41 : Ext H H38 := (Ext.trans (Ext.then (Ext.trans hx13 hx23) hf28 (fun q hq e => by omega)) hx39)
      have hres : (Spec.entR term index logterm es && decide (es.length ≤ 8 ∧ (es.length = 0 ∨ kind = 3))) = false := by first | (rw [hv, drop_at hx17, Spec.entR, if_pos (by first | exact .inl (by omega) | exact .inr (.inl (by omega)) | exact .inr (.inr (.inl (by omega))) | exact .inr (.inr (.inr (by assumption))))]; rfl) | (rw [hv, List.drop_eq_nil_of_le (by omega), Spec.entR, Bool.eq_iff_iff]; simp only [Bool.true_and, decide_eq_true_eq, beq_iff_eq, Bool.false_eq_true, iff_true, iff_false]; omega)
      exact ⟨.bool false, rfl, by first | (rw [hres]; done) | rw [← hres], hx41⟩
     ·
      rw [Bool.not_eq_true] at hc40; refine aw_condF hc40 rfl ?_
      try show aw _ _ _ _ _ _
      replace hc40 : (Spec.mayF false (0 : Int) (0 : Int) x16.index x16.term x16.kind x16.data) = true := by rw [Bool.not_eq_false'] at hc40; exact hc40
      have hc40m := Spec.may_says hc40
      refine aw_skip ?_
      try show aw _ _ _ _ _ _
      refine aw_marks (fun b => b < H38.next) [(false, false), (false, false), (false, false), (false, false), (false, false), (false, false)] mixed (by kernel_rfl) (by kernel_rfl) ?_
      refine sm_op (ev_fieldAddr rfl fa84_0 (o' := 0) rfl) rfl rfl rfl ?_
      have h42 := Ext.blk hx39 (by omega) hB26
      refine sm_op (ev_load rfl (lvar_one one2 h42 rfl)) rfl rfl rfl ?_
      refine sm_op (ev_fieldAddr rfl fa84_1 (o' := 1) rfl) rfl rfl rfl ?_
      refine sm_op (ev_load rfl (lvar_one one2 h42 rfl)) rfl rfl rfl ?_
      iterate 2 refine sm_op (ev_assign rfl) rfl rfl rfl ?_
      try show aw _ _ _ _ _ _
      refine aw_reg ?_
      refine st_op (ev_int64 (c := (i : Int) + 1) rfl rfl rfl (by omega) (by omega)) rfl rfl rfl ?_
      refine st_op (ev_move rfl) rfl rfl rfl ?_
      try show aw _ _ _ _ _ _
      have hx43 : Ext H2 H38 := (Ext.trans hx34 hx39)
      refine aw_keep [1, 3, 4, 12, 13, 14] (l' := (.cons 1 (.pointer (some ⟨b1, 0, none⟩)) (.cons 3 (.int .i64 x16.index) (.cons 4 (.int .i64 x16.term) (.cons 12 (.slice esA es.length esc) (.cons 13 (.int .i64 (es.length : Int)) (.cons 14 (.int .i64 ((i : Int) + 1)) .nil))))))) (by repeat (first | exact Up.done | refine Up.then ?_ | refine Up.inBlock ?_)) rfl ?_
      exact ih10 (i + 1, x16.index, x16.term, H38) ⟨(show (i + 1) ≤ es.length from (by omega)), (show Spec.entR term index logterm es = Spec.entR term x16.index x16.term (es.drop (i + 1)) from (by rw [hv, drop_at hx17, Spec.entR, if_neg (fun q => by rcases q with q | q | q | q <;> first | omega | exact Bool.noConfusion (q.symm.trans (show _ = true by assumption)))])), (show 0 ≤ x16.index ∧ x16.index ≤ 1099511627776 from ⟨by omega, by omega⟩), (show Ext H2 H38 from hx43)⟩ (by simp only; omega)
 ·
  rw [Bool.not_eq_true] at hc11; refine aw_condF hc11 rfl ?_
  try show aw _ _ _ _ _ _
  have hc11 := of_decide_eq_false hc11
  refine aw_exit ?_
  try show aw _ _ _ _ _ _
  refine aw_seq ?_
  refine aw_reg ?_
  refine st_op (ev_fieldAddr rfl fa46_8 (o' := 8) rfl) rfl rfl rfl ?_
  have h44 := Ext.blk hxl9 (by omega) hB5
  refine st_op (ev_load rfl (lvar_one one42 h44 rfl)) rfl rfl rfl ?_
  refine st_op (ev_lenSl rfl Try.underlying42) rfl rfl rfl ?_
  refine st_op (ev_int rfl rfl rfl) rfl rfl rfl ?_
  refine st_op (ev_move rfl) rfl rfl rfl ?_
  refine st_bool 51 rfl (fun hb45 => ?_) (fun hb45 => ?_)
  ·
   have hb45 := of_decide_eq_true hb45
   refine st_op (ev_fieldAddr rfl fa46_8 (o' := 8) rfl) rfl rfl rfl ?_
   refine st_op (ev_load rfl (lvar_one one42 h44 rfl)) rfl rfl rfl ?_
   refine st_op (ev_lenSl rfl Try.underlying42) rfl rfl rfl ?_
   refine st_op (ev_int rfl rfl rfl) rfl rfl rfl ?_
   refine st_op (ev_move rfl) rfl rfl rfl ?_
   refine st_bool 56 rfl (fun hb46 => ?_) (fun hb46 => ?_)
   ·
    have hb46 := eq_of_beq hb46
    iterate 3 refine st_skip rfl rfl rfl ?_
    iterate 2 refine st_op (ev_pickT rfl rfl) rfl rfl rfl ?_
    refine st_op (ev_assign rfl) rfl rfl rfl ?_
    try show aw _ _ _ _ _ _
    refine aw_ret ?_
    have hx47 : Ext H Hl7 := (Ext.trans hx6 hxl9)
    have hres : (Spec.entR term index logterm es && decide (es.length ≤ 8 ∧ (es.length = 0 ∨ kind = 3))) = true := by first | (rw [hv, drop_at hx17, Spec.entR, if_pos (by first | exact .inl (by omega) | exact .inr (.inl (by omega)) | exact .inr (.inr (.inl (by omega))) | exact .inr (.inr (.inr (by assumption))))]; rfl) | (rw [hv, List.drop_eq_nil_of_le (by omega), Spec.entR, Bool.eq_iff_iff]; simp only [Bool.true_and, decide_eq_true_eq, beq_iff_eq, Bool.false_eq_true, iff_true, iff_false]; omega)
    exact ⟨.bool true, rfl, by first | (rw [hres]; done) | rw [← hres], hx47⟩
   ·
    have hb46 := ne_of_beq_false hb46
    refine st_op (ev_fieldAddr rfl fa46_0 (o' := 0) rfl) rfl rfl rfl ?_
    refine st_op (ev_load rfl (lvar_one one3 h44 rfl)) rfl rfl rfl ?_
    refine st_op (ev_int rfl rfl rfl) rfl rfl rfl ?_
    refine st_op (ev_pickF rfl rfl) rfl rfl rfl ?_
    refine st_op (ev_pickT rfl rfl) rfl rfl rfl ?_
    refine st_op (ev_assign rfl) rfl rfl rfl ?_
    try show aw _ _ _ _ _ _
    refine aw_ret ?_
    have hx48 : Ext H Hl7 := (Ext.trans hx6 hxl9)
    have hres : (Spec.entR term index logterm es && decide (es.length ≤ 8 ∧ (es.length = 0 ∨ kind = 3))) = (kind == 3) := by first | (rw [hv, drop_at hx17, Spec.entR, if_pos (by first | exact .inl (by omega) | exact .inr (.inl (by omega)) | exact .inr (.inr (.inl (by omega))) | exact .inr (.inr (.inr (by assumption))))]; rfl) | (rw [hv, List.drop_eq_nil_of_le (by omega), Spec.entR, Bool.eq_iff_iff]; simp only [Bool.true_and, decide_eq_true_eq, beq_iff_eq, Bool.false_eq_true, iff_true, iff_false]; omega)
    exact ⟨.bool (kind == 3), rfl, by first | (rw [hres]; done) | rw [← hres], hx48⟩
  ·
   have hb45 := of_decide_eq_false hb45
   iterate 9 refine st_skip rfl rfl rfl ?_
   refine st_op (ev_pickF rfl rfl) rfl rfl rfl ?_
   refine st_op (ev_assign rfl) rfl rfl rfl ?_
   try show aw _ _ _ _ _ _
   refine aw_ret ?_
   have hx49 : Ext H Hl7 := (Ext.trans hx6 hxl9)
   have hres : (Spec.entR term index logterm es && decide (es.length ≤ 8 ∧ (es.length = 0 ∨ kind = 3))) = false := by first | (rw [hv, drop_at hx17, Spec.entR, if_pos (by first | exact .inl (by omega) | exact .inr (.inl (by omega)) | exact .inr (.inr (.inl (by omega))) | exact .inr (.inr (.inr (by assumption))))]; rfl) | (rw [hv, List.drop_eq_nil_of_le (by omega), Spec.entR, Bool.eq_iff_iff]; simp only [Bool.true_and, decide_eq_true_eq, beq_iff_eq, Bool.false_eq_true, iff_true, iff_false]; omega)
   exact ⟨.bool false, rfl, by first | (rw [hres]; done) | rw [← hres], hx49⟩
theorem conf_May_spec (H : Heap) (lA : Option Addr) (l : List Int) (lc : Nat) (hl : Row H lA lc 1 (l.map i64c)) (cl : l.length ≤ lc) (ll : l.length ≤ 274877906944) : ∃ v H', Spec Try.prog 19 [.slice lA l.length lc] H v H' ∧ ((v = .bool (Spec.mayC l)) ∧ (Ext H H')) := by
 refine spec_go1 E0_ok 35 (f := 19) Try.func19 rfl rfl rfl ?_
 refine aw_seq ?_
 refine aw_reg ?_
 refine st_op (ev_assign rfl) rfl rfl rfl ?_
 try show aw _ _ _ _ _ _
 iterate 2 refine aw_seq ?_
 refine aw_reg ?_
 refine st_op (ev_move rfl) rfl rfl rfl ?_
 refine st_op (ev_lenSl rfl Try.underlying28) rfl rfl rfl ?_
 refine st_op (ev_move rfl) rfl rfl rfl ?_
 try show aw _ _ _ _ _ _
 refine aw_block ?_
 refine aw_keep [0, 5, 6, 7] (l' := (.cons 0 (.slice lA l.length lc) (.cons 5 (.slice lA l.length lc) (.cons 6 (.int .i64 (l.length : Int)) (.cons 7 (.int .i64 0) .nil))))) (by repeat (first | exact Up.done | refine Up.then ?_ | refine Up.inBlock ?_)) rfl ?_
 refine aw_iter (α := Nat × Int × Heap) (fun a => l.length - a.1) (fun a => (.cons 0 (.slice lA l.length lc) (.cons 5 (.slice lA l.length lc) (.cons 6 (.int .i64 (l.length : Int)) (.cons 7 (.int .i64 (a.1 : Int)) .nil))))) (fun a => a.2.2) (fun a => (a.1 ≤ l.length) ∧ (Spec.upF 0 l = Spec.upF a.2.1 (l.drop a.1)) ∧ ((a.1 = 0 → a.2.1 = 0) ∧ (0 < a.1 → l[a.1 - 1]? = some a.2.1)) ∧ (Ext H a.2.2)) (0, (0 : Int), H) ⟨(show 0 ≤ l.length from Nat.zero_le _), (show Spec.upF 0 l = Spec.upF (0 : Int) (l.drop 0) from rfl), (show (0 = 0 → (0 : Int) = 0) ∧ (0 < 0 → l[0 - 1]? = some (0 : Int)) from ⟨fun _ => rfl, fun h => absurd h (by decide)⟩), (show Ext H H from (Ext.refl H))⟩ ?_
 rintro ⟨i, pv, Hl1⟩ ⟨hi, hv, hpv, hxl2⟩ ih3
 replace hi : i ≤ l.length := hi
 replace hv : Spec.upF 0 l = Spec.upF pv (l.drop i) := hv
 replace hpv : (i = 0 → pv = 0) ∧ (0 < i → l[i - 1]? = some pv) := hpv
 replace hxl2 : Ext H Hl1 := hxl2
 show aw _ _ _ (RL _ (.cons 0 (.slice lA l.length lc) (.cons 5 (.slice lA l.length lc) (.cons 6 (.int .i64 (l.length : Int)) (.cons 7 (.int .i64 (i : Int)) .nil))))) Hl1 _
 have Hl1n : H.next ≤ Hl1.next := hxl2.1
 refine aw_seq ?_
 refine aw_reg ?_
 refine st_op (ev_int rfl rfl rfl) rfl rfl rfl ?_
 try show aw _ _ _ _ _ _
 refine aw_seq ?_
 by_cases hc4 : (decide ((i : Int) < (l.length : Int))) = true
 ·
  refine aw_condT hc4 rfl ?_
  try show aw _ _ _ _ _ _
  have hc4 := of_decide_eq_true hc4
  refine aw_skip ?_
  try show aw _ _ _ _ _ _
  refine aw_seq ?_
  refine aw_block ?_
  refine aw_seq ?_
  refine aw_reg ?_
  refine st_op (ev_move rfl) rfl rfl rfl ?_
  have h5 := Row.ext hl hxl2
  have hi6 : 0 ≤ ((i : Int) : Int) := by omega
  have hi7 : ((i : Int) : Int) < ((l.length : Nat) : Int) := by omega
  obtain ⟨x8, hx9⟩ : ∃ e, l[i]? = some e := ⟨_, List.getElem?_eq_getElem (by omega)⟩
  refine st_op (ev_at rfl rfl h5 (getMap i64c hx9) (by first | rfl | omega | simp) hi6 hi7 el28) rfl rfl rfl ?_
  refine st_op (ev_atL rfl h5 (getMap i64c hx9) one3 rfl) rfl rfl rfl ?_
  iterate 2 refine st_op (ev_assign rfl) rfl rfl rfl ?_
  try show aw _ _ _ _ _ _
  refine aw_seq ?_
  refine aw_reg ?_
  refine st_op (ev_move rfl) rfl rfl rfl ?_
  refine st_op (ev_int rfl rfl rfl) rfl rfl rfl ?_
  refine st_op (ev_move rfl) rfl rfl rfl ?_
  refine st_bool 14 rfl (fun hb10 => ?_) (fun hb10 => ?_)
  ·
   have hb10 := of_decide_eq_true hb10
   iterate 2 refine st_skip rfl rfl rfl ?_
   refine st_op (ev_pickT rfl rfl) rfl rfl rfl ?_
   refine st_op (ev_move rfl) rfl rfl rfl ?_
   iterate 11 refine st_skip rfl rfl rfl ?_
   refine st_op (ev_pickT rfl rfl) rfl rfl rfl ?_
   try show aw _ _ _ _ _ _
   refine aw_cond (t := true) rfl ?_
   try show aw _ _ _ _ _ _
   refine aw_seq ?_
   refine aw_reg ?_
   refine st_op (ev_assign rfl) rfl rfl rfl ?_
   try show aw _ _ _ _ _ _
   refine aw_ret ?_
   have hres : (Spec.mayC l) = false := by unfold Spec.mayC; rw [hv, drop_at hx9, Spec.upF, if_pos (by omega)]; rfl
   exact ⟨.bool false, rfl, by first | (rw [hres]; done) | rw [← hres], hxl2⟩
  ·
   have hb10 := of_decide_eq_false hb10
   refine st_op (ev_move rfl) rfl rfl rfl ?_
   refine st_op (ev_int rfl rfl rfl) rfl rfl rfl ?_
   refine st_op (ev_pickF rfl rfl) rfl rfl rfl ?_
   refine st_op (ev_move rfl) rfl rfl rfl ?_
   refine st_bool 18 rfl (fun hb11 => ?_) (fun hb11 => ?_)
   ·
    have hb11 := of_decide_eq_true hb11
    iterate 11 refine st_skip rfl rfl rfl ?_
    refine st_op (ev_pickT rfl rfl) rfl rfl rfl ?_
    try show aw _ _ _ _ _ _
    refine aw_cond (t := true) rfl ?_
    try show aw _ _ _ _ _ _
    refine aw_seq ?_
    refine aw_reg ?_
    refine st_op (ev_assign rfl) rfl rfl rfl ?_
    try show aw _ _ _ _ _ _
    refine aw_ret ?_
    have hres : (Spec.mayC l) = false := by unfold Spec.mayC; rw [hv, drop_at hx9, Spec.upF, if_pos (by omega)]; rfl
    exact ⟨.bool false, rfl, by first | (rw [hres]; done) | rw [← hres], hxl2⟩
   ·
    have hb11 := of_decide_eq_false hb11
    refine st_op (ev_move rfl) rfl rfl rfl ?_
    refine st_op (ev_int rfl rfl rfl) rfl rfl rfl ?_
    refine st_op (ev_move rfl) rfl rfl rfl ?_
    refine st_bool 21 rfl (fun hb12 => ?_) (fun hb12 => ?_)
    ·
     have hb12 := of_decide_eq_true hb12
     iterate 2 refine st_op (ev_move rfl) rfl rfl rfl ?_
     refine st_op (ev_int64 (c := (i : Int) - 1) rfl rfl rfl (by omega) (by omega)) rfl rfl rfl ?_
     have hi13 : 0 ≤ ((i : Int) - 1 : Int) := by omega
     have hi14 : ((i : Int) - 1 : Int) < ((l.length : Nat) : Int) := by omega
     obtain ⟨x15, hx16⟩ : ∃ e, l[(((i : Int) - 1)).toNat]? = some e := ⟨_, List.getElem?_eq_getElem (by omega)⟩
     have x15p : x15 = pv := by have q := hpv.2 (by omega); rw [show (((((i : Int) - 1)).toNat) : Nat) = i - 1 by omega] at hx16; rw [hx16] at q; cases q; rfl
     refine st_op (ev_at rfl rfl h5 (getMap i64c hx16) (by first | rfl | omega | simp) hi13 hi14 el28) rfl rfl rfl ?_
     refine st_op (ev_atL rfl h5 (getMap i64c hx16) one3 rfl) rfl rfl rfl ?_
     refine st_op (ev_move rfl) rfl rfl rfl ?_
     refine st_op (ev_int rfl rfl rfl) rfl rfl rfl ?_
     refine st_op (ev_pickT rfl rfl) rfl rfl rfl ?_
     refine st_op (ev_pickF rfl rfl) rfl rfl rfl ?_
     try show aw _ _ _ _ _ _
     by_cases hc17 : (decide (x15 ≥ x8)) = true
     ·
      refine aw_condT hc17 rfl ?_
      try show aw _ _ _ _ _ _
      have hc17 := of_decide_eq_true hc17
      refine aw_seq ?_
      refine aw_reg ?_
      refine st_op (ev_assign rfl) rfl rfl rfl ?_
      try show aw _ _ _ _ _ _
      refine aw_ret ?_
      have hres : (Spec.mayC l) = false := by unfold Spec.mayC; rw [hv, drop_at hx9, Spec.upF, if_pos (by omega)]; rfl
      exact ⟨.bool false, rfl, by first | (rw [hres]; done) | rw [← hres], hxl2⟩
     ·
      rw [Bool.not_eq_true] at hc17; refine aw_condF hc17 rfl ?_
      try show aw _ _ _ _ _ _
      have hc17 := of_decide_eq_false hc17
      refine aw_skip ?_
      try show aw _ _ _ _ _ _
      refine aw_reg ?_
      refine st_op (ev_int64 (c := (i : Int) + 1) rfl rfl rfl (by omega) (by omega)) rfl rfl rfl ?_
      refine st_op (ev_move rfl) rfl rfl rfl ?_
      try show aw _ _ _ _ _ _
      refine aw_keep [0, 5, 6, 7] (l' := (.cons 0 (.slice lA l.length lc) (.cons 5 (.slice lA l.length lc) (.cons 6 (.int .i64 (l.length : Int)) (.cons 7 (.int .i64 ((i : Int) + 1)) .nil))))) (by repeat (first | exact Up.done | refine Up.then ?_ | refine Up.inBlock ?_)) rfl ?_
      exact ih3 (i + 1, x8, Hl1) ⟨(show (i + 1) ≤ l.length from (by omega)), (show Spec.upF 0 l = Spec.upF x8 (l.drop (i + 1)) from (by rw [hv, drop_at hx9, Spec.upF, if_neg (by omega)])), (show ((i + 1) = 0 → x8 = 0) ∧ (0 < (i + 1) → l[(i + 1) - 1]? = some x8) from ⟨fun h => absurd h (by omega), fun _ => by rw [Nat.add_sub_cancel]; exact hx9⟩), (show Ext H Hl1 from hxl2)⟩ (by simp only; omega)
    ·
     have hb12 := of_decide_eq_false hb12
     iterate 7 refine st_skip rfl rfl rfl ?_
     iterate 2 refine st_op (ev_pickF rfl rfl) rfl rfl rfl ?_
     try show aw _ _ _ _ _ _
     refine aw_cond (t := false) rfl ?_
     try show aw _ _ _ _ _ _
     refine aw_skip ?_
     try show aw _ _ _ _ _ _
     refine aw_reg ?_
     refine st_op (ev_int64 (c := (i : Int) + 1) rfl rfl rfl (by omega) (by omega)) rfl rfl rfl ?_
     refine st_op (ev_move rfl) rfl rfl rfl ?_
     try show aw _ _ _ _ _ _
     refine aw_keep [0, 5, 6, 7] (l' := (.cons 0 (.slice lA l.length lc) (.cons 5 (.slice lA l.length lc) (.cons 6 (.int .i64 (l.length : Int)) (.cons 7 (.int .i64 ((i : Int) + 1)) .nil))))) (by repeat (first | exact Up.done | refine Up.then ?_ | refine Up.inBlock ?_)) rfl ?_
     exact ih3 (i + 1, x8, Hl1) ⟨(show (i + 1) ≤ l.length from (by omega)), (show Spec.upF 0 l = Spec.upF x8 (l.drop (i + 1)) from (by rw [hv, drop_at hx9, Spec.upF, if_neg (by have := hpv.1 (by omega); omega)])), (show ((i + 1) = 0 → x8 = 0) ∧ (0 < (i + 1) → l[(i + 1) - 1]? = some x8) from ⟨fun h => absurd h (by omega), fun _ => by rw [Nat.add_sub_cancel]; exact hx9⟩), (show Ext H Hl1 from hxl2)⟩ (by simp only; omega)
 ·
  rw [Bool.not_eq_true] at hc4; refine aw_condF hc4 rfl ?_
  try show aw _ _ _ _ _ _
  have hc4 := of_decide_eq_false hc4
  refine aw_exit ?_
  try show aw _ _ _ _ _ _
  refine aw_seq ?_
  refine aw_reg ?_
  refine st_op (ev_move rfl) rfl rfl rfl ?_
  refine st_op (ev_lenSl rfl Try.underlying28) rfl rfl rfl ?_
  refine st_op (ev_int rfl rfl rfl) rfl rfl rfl ?_
  refine st_op (ev_assign rfl) rfl rfl rfl ?_
  try show aw _ _ _ _ _ _
  refine aw_ret ?_
  have hres : (Spec.mayC l) = (decide ((l.length : Int) > 0)) := by unfold Spec.mayC; rw [hv, List.drop_eq_nil_of_le (by omega)]; simp [Spec.upF]
  exact ⟨.bool (decide ((l.length : Int) > 0)), rfl, by first | (rw [hres]; done) | rw [← hres], hxl2⟩
theorem conf_Decode_spec (H : Heap) (s : ByteArray) (hs : s.size ≤ 1073741824) : ∃ v H', Spec Try.prog 38 [.string s] H v H' ∧ (∃ rA0 rc0, (v = .tuple #[.slice rA0 (((Spec.decC s).1).length) rc0, .bool ((Spec.decC s).2)]) ∧ (My H H' rA0 rc0 1 (((Spec.decC s).1).map i64c)) ∧ (Ext H H')) := by
 refine spec_go1 E0_ok 24 (f := 38) Try.func38 rfl rfl rfl ?_
 refine aw_seq ?_
 refine aw_reg ?_
 iterate 2 refine st_op (ev_assign rfl) rfl rfl rfl ?_
 try show aw _ _ _ _ _ _
 refine aw_seq ?_
 refine aw_reg ?_
 refine st_op (ev_assign rfl) rfl rfl rfl ?_
 try show aw _ _ _ _ _ _
 iterate 2 refine aw_seq ?_
 refine aw_reg ?_
 refine st_op (ev_move rfl) rfl rfl rfl ?_
 refine st_op (ev_lenStr rfl Try.underlying9) rfl rfl rfl ?_
 refine st_op (ev_move rfl) rfl rfl rfl ?_
 try show aw _ _ _ _ _ _
 refine aw_block ?_
 have hm2 : My H H none 0 1 (([] : List Int).map i64c) := .nil
 refine aw_keep [0, 4, 7, 8] (l' := (.cons 0 (.string s) (.cons 4 (.slice none 0 0) (.cons 7 (.int .i64 ((s).size : Int)) (.cons 8 (.int .i64 0) .nil))))) (by repeat (first | exact Up.done | refine Up.then ?_ | refine Up.inBlock ?_)) rfl ?_
 refine aw_iter (α := Nat × Option Addr × Nat × List Int × Heap) (fun a => s.size - a.1) (fun a => (.cons 0 (.string s) (.cons 4 (.slice a.2.1 a.2.2.2.1.length a.2.2.1) (.cons 7 (.int .i64 ((s).size : Int)) (.cons 8 (.int .i64 (a.1 : Int)) .nil))))) (fun a => a.2.2.2.2) (fun a => (a.1 ≤ s.size) ∧ (a.2.2.2.1 = (Spec.digits s).take a.1) ∧ (My H a.2.2.2.2 a.2.1 a.2.2.1 1 (a.2.2.2.1.map i64c)) ∧ (Ext H a.2.2.2.2)) (0, none, 0, ([] : List Int), H) ⟨(show 0 ≤ s.size from Nat.zero_le _), (show ([] : List Int) = (Spec.digits s).take 0 from rfl), (show My H H none 0 1 (([] : List Int).map i64c) from hm2), (show Ext H H from (Ext.refl H))⟩ ?_
 rintro ⟨i, A, cp, l, Hl1⟩ ⟨hi, hl, hm3, hxl4⟩ ih5
 replace hi : i ≤ s.size := hi
 replace hl : l = (Spec.digits s).take i := hl
 replace hm3 : My H Hl1 A cp 1 (l.map i64c) := hm3
 replace hxl4 : Ext H Hl1 := hxl4
 show aw _ _ _ (RL _ (.cons 0 (.string s) (.cons 4 (.slice A l.length cp) (.cons 7 (.int .i64 ((s).size : Int)) (.cons 8 (.int .i64 (i : Int)) .nil))))) Hl1 _
 have Hl1n : H.next ≤ Hl1.next := hxl4.1
 have hll : l.length = i := by rw [hl, List.length_take, Spec.digits_len]; omega
 refine aw_seq ?_
 refine aw_reg ?_
 refine st_op (ev_int rfl rfl rfl) rfl rfl rfl ?_
 try show aw _ _ _ _ _ _
 refine aw_seq ?_
 by_cases hc6 : (decide ((i : Int) < ((s).size : Int))) = true
 ·
  refine aw_condT hc6 rfl ?_
  try show aw _ _ _ _ _ _
  have hc6 := of_decide_eq_true hc6
  refine aw_skip ?_
  try show aw _ _ _ _ _ _
  refine aw_seq ?_
  refine aw_block ?_
  refine aw_seq ?_
  refine aw_reg ?_
  refine st_op (ev_move rfl) rfl rfl rfl ?_
  refine st_op (ev_assign rfl) rfl rfl rfl ?_
  try show aw _ _ _ _ _ _
  refine aw_reg ?_
  iterate 3 refine st_op (ev_move rfl) rfl rfl rfl ?_
  obtain ⟨y7, hy8⟩ : ∃ y, (s).data.toList[i]? = some y := ⟨_, List.getElem?_eq_getElem (by simp; omega)⟩
  have y7t := y7.toNat_lt
  refine st_op (ev_ixStr Try.underlying9 rfl rfl (ba_get hy8)) rfl rfl rfl ?_
  refine st_op (ev_convI Try.underlying5 Try.underlying3 rfl (wrI64 (by omega) (by omega))) rfl rfl rfl ?_
  refine st_op (ev_int64 (c := (y7.toNat : Int) - 48) rfl rfl rfl (by omega) (by omega)) rfl rfl rfl ?_
  obtain ⟨b9, H10, he11, b9e, H10n_, hm13, f12⟩ := mem_lit Hl1 (xs := ([.int .i64 ((y7.toNat : Int) - 48)] : List Value)) (m := 1) (rows := [[.int .i64 ((y7.toNat : Int) - 48)]]) rfl eok28 (by decide) (by decide) zf3 rfl (allLen rfl) rfl
  replace hm13 : My Hl1 H10 (some ⟨b9, 0, none⟩) 1 1 ([(y7.toNat : Int) - 48].map i64c) := hm13
  refine st_op (he11 _ _ _ _ _ _ _ _ rfl) rfl rfl rfl ?_
  have hx14 : Ext Hl1 H10 := Ext.new (by omega) H10n_ f12
  have H10n : Hl1.next ≤ H10.next := hx14.1
  have h15 := My.ext hm3 hx14
  obtain ⟨A16, c17, H18, W19, he20, hm21, hf22⟩ := mem_append (f := i64c) (old := l) (new := [(y7.toNat : Int) - 48]) (m := l.length) (mx := 1) (c := cp) (by first | rfl | simp) (by first | rfl | simp) eok28 (by decide) hm3 h15 (by omega) (((My.row hm13)).srcF (by decide) (by first | rfl | simp)) rfl i64c_len i64c_one (by first | omega | (simp only [List.length_append, List.length_cons, List.length_nil, List.length_map, List.length_set, List.length_replicate, Spec.bytesOf_length]; omega) | (simp; omega)) (by first | omega | (simp only [List.length_append, List.length_cons, List.length_nil, List.length_map, List.length_set, List.length_replicate, Spec.bytesOf_length]; omega) | (simp; omega))
  refine st_op (he20 _ _ _ _ _ _ _ _ _ _ rfl rfl isrow28) rfl rfl rfl ?_
  have H18n : H10.next ≤ H18.next := hf22.1
  refine st_op (ev_assign rfl) rfl rfl rfl ?_
  try show aw _ _ _ _ _ _
  refine aw_reg ?_
  refine st_op (ev_int64 (c := (i : Int) + 1) rfl rfl rfl (by omega) (by omega)) rfl rfl rfl ?_
  refine st_op (ev_move rfl) rfl rfl rfl ?_
  try show aw _ _ _ _ _ _
  have hx23 : Ext H H18 := (Ext.then (Ext.trans hxl4 hx14) hf22 (fun q hq e => by omega))
  refine aw_keep [0, 4, 7, 8] (l' := (.cons 0 (.string s) (.cons 4 (.slice A16 ((l ++ [(y7.toNat : Int) - 48]).length) c17) (.cons 7 (.int .i64 ((s).size : Int)) (.cons 8 (.int .i64 ((i : Int) + 1)) .nil))))) (by repeat (first | exact Up.done | refine Up.then ?_ | refine Up.inBlock ?_)) rfl ?_
  exact ih5 (i + 1, A16, c17, (l ++ [(y7.toNat : Int) - 48]), H18) ⟨(show (i + 1) ≤ s.size from (by omega)), (show (l ++ [(y7.toNat : Int) - 48]) = (Spec.digits s).take (i + 1) from (by rw [List.take_add_one, ← hl, Spec.digits_at hy8]; rfl)), (show My H H18 A16 c17 1 ((l ++ [(y7.toNat : Int) - 48]).map i64c) from hm21), (show Ext H H18 from hx23)⟩ (by simp only; omega)
 ·
  rw [Bool.not_eq_true] at hc6; refine aw_condF hc6 rfl ?_
  try show aw _ _ _ _ _ _
  have hc6 := of_decide_eq_false hc6
  refine aw_exit ?_
  try show aw _ _ _ _ _ _
  iterate 2 refine aw_seq ?_
  refine aw_reg ?_
  refine st_op (ev_move rfl) rfl rfl rfl ?_
  refine st_call rfl rfl rfl ent19 rfl rfl rfl ?_
  obtain ⟨_, H25, hs24, hs24v, hx26⟩ := conf_May_spec Hl1 A l cp (My.row hm3) (My.capF hm3 (by omega)) (by omega)
  rw [hs24v] at hs24; clear hs24v
  refine ⟨_, H25, hs24, ?_⟩
  have H25n : Hl1.next ≤ H25.next := hx26.1
  refine st_op (ev_not rfl) rfl rfl rfl ?_
  try show aw _ _ _ _ _ _
  by_cases hc27 : (!(Spec.mayC l)) = true
  ·
   refine aw_condT hc27 rfl ?_
   try show aw _ _ _ _ _ _
   replace hc27 : (Spec.mayC l) = false := by rw [Bool.not_eq_true'] at hc27; exact hc27
   refine aw_seq ?_
   refine aw_reg ?_
   iterate 2 refine st_op (ev_assign rfl) rfl rfl rfl ?_
   try show aw _ _ _ _ _ _
   refine aw_ret ?_
   have hm28 : My H25 H25 none 0 1 (([] : List Int).map i64c) := .nil
   have hx29 : Ext H H25 := (Ext.trans hxl4 hx26)
   have hres : (Spec.decC s) = (([] : List Int), false) := by (have hd : l = Spec.digits s := by rw [hl, List.take_of_length_le (by rw [Spec.digits_len]; omega)]); unfold Spec.decC; rw [← hd]; first | (rw [if_pos (by assumption)]; done) | (rw [if_neg (fun h => Bool.noConfusion (h.symm.trans (show _ = false by assumption)))]; done)
   exact ⟨.tuple #[.slice none 0 0, .bool false], rfl, none, 0, by first | (rw [hres]; first | done | rfl | simp; done) | rfl, (by rw [hres]; exact (My.older hm28 (by omega))), hx29⟩
  ·
   rw [Bool.not_eq_true] at hc27; refine aw_condF hc27 rfl ?_
   try show aw _ _ _ _ _ _
   replace hc27 : (Spec.mayC l) = true := by rw [Bool.not_eq_false'] at hc27; exact hc27
   refine aw_skip ?_
   try show aw _ _ _ _ _ _
   refine aw_seq ?_
   refine aw_reg ?_
   refine st_op (ev_move rfl) rfl rfl rfl ?_
   iterate 2 refine st_op (ev_assign rfl) rfl rfl rfl ?_
   try show aw _ _ _ _ _ _
   refine aw_ret ?_
   have h30 := My.ext hm3 hx26
   have hx31 : Ext H H25 := (Ext.trans hxl4 hx26)
   have hres : (Spec.decC s) = (l, true) := by (have hd : l = Spec.digits s := by rw [hl, List.take_of_length_le (by rw [Spec.digits_len]; omega)]); unfold Spec.decC; rw [← hd]; first | (rw [if_pos (by assumption)]; done) | (rw [if_neg (fun h => Bool.noConfusion (h.symm.trans (show _ = false by assumption)))]; done)
   exact ⟨.tuple #[.slice A l.length cp, .bool true], rfl, A, cp, by first | (rw [hres]; first | done | rfl | simp; done) | rfl, (by rw [hres]; exact h30), hx31⟩
theorem wal_may_spec (H : Heap) (s_index : Int) (s_term : Int) (s_conf : ByteArray) (s_data : ByteArray) : ∃ v H', Spec Try.prog 105 [.agg #[.int .i64 s_index, .int .i64 s_term, .string s_conf, .string s_data]] H v H' ∧ ((v = .bool (Spec.mayS s_index s_term s_conf s_data)) ∧ (Ext H H')) := by
 refine spec_go1 E0_ok 21 (f := 105) Try.func105 rfl rfl rfl ?_
 refine aw_seq ?_
 refine aw_reg ?_
 obtain ⟨b1, H2, he3, b1e, H2n_, hB5, f4⟩ := mem_box (P := Try.prog) H (v := .agg #[.int .i64 s_index, .int .i64 s_term, .string s_conf, .string s_data]) (cs := [.int .i64 s_index, .int .i64 s_term, .string s_conf, .string s_data]) rfl rfl
 refine st_op (he3 _ _ _ _ _ _ _ _ _ rfl) rfl rfl rfl ?_
 have hx6 : Ext H H2 := Ext.new (by omega) H2n_ f4
 have H2n : H.next ≤ H2.next := hx6.1
 refine st_op (ev_assign rfl) rfl rfl rfl ?_
 try show aw _ _ _ _ _ _
 refine aw_seq ?_
 refine aw_reg ?_
 refine st_op (ev_fieldAddr rfl fa44_0 (o' := 0) rfl) rfl rfl rfl ?_
 refine st_op (ev_load rfl (lvar_one one2 hB5 rfl)) rfl rfl rfl ?_
 refine st_op (ev_fieldAddr rfl fa44_1 (o' := 1) rfl) rfl rfl rfl ?_
 refine st_op (ev_load rfl (lvar_one one2 hB5 rfl)) rfl rfl rfl ?_
 obtain ⟨b7, H8, he9, b7e, H8n_, hm11, f10⟩ := mem_lit H2 (xs := ([.int .i64 s_index, .int .i64 s_term] : List Value)) (m := 2) (rows := [[.int .i64 s_index], [.int .i64 s_term]]) rfl eok35 (by decide) (by decide) zf2 rfl (allLen rfl) rfl
 replace hm11 : My H2 H8 (some ⟨b7, 0, none⟩) 2 1 ([s_index, s_term].map i64c) := hm11
 refine st_op (he9 _ _ _ _ _ _ _ _ rfl) rfl rfl rfl ?_
 have hx12 : Ext H2 H8 := Ext.new (by omega) H8n_ f10
 have H8n : H2.next ≤ H8.next := hx12.1
 refine st_call rfl rfl rfl ent126 rfl rfl rfl ?_
 obtain ⟨_, H14, hs13, hs13v, hx15⟩ := wal_in_spec H8 0 (by decide) 1099511627776 (by decide) (some ⟨b7, 0, none⟩) ([s_index, s_term]) 2 (My.row hm11) (My.capF hm11 (by first | omega | (simp only [List.length_append, List.length_cons, List.length_nil, List.length_map, List.length_set, List.length_replicate, Spec.bytesOf_length]; omega) | (simp; omega))) (by first | omega | (simp only [List.length_append, List.length_cons, List.length_nil, List.length_map, List.length_set, List.length_replicate, Spec.bytesOf_length]; omega) | (simp; omega))
 rw [hs13v] at hs13; clear hs13v
 refine ⟨_, H14, hs13, ?_⟩
 have H14n : H8.next ≤ H14.next := hx15.1
 refine st_op (ev_move rfl) rfl rfl rfl ?_
 refine st_bool 9 rfl (fun hb16 => ?_) (fun hb16 => ?_)
 ·
  have hb16m := Spec.inF_two hb16
  refine st_op (ev_fieldAddr rfl fa44_2 (o' := 2) rfl) rfl rfl rfl ?_
  have hx18 : Ext H2 H14 := (Ext.trans hx12 hx15)
  have h17 := Ext.blk hx18 (by omega) hB5
  refine st_op (ev_load rfl (lvar_one one9 h17 rfl)) rfl rfl rfl ?_
  refine st_op (ev_lenStr rfl Try.underlying9) rfl rfl rfl ?_
  refine st_op (ev_int rfl rfl rfl) rfl rfl rfl ?_
  refine st_op (ev_pickT rfl rfl) rfl rfl rfl ?_
  refine st_op (ev_move rfl) rfl rfl rfl ?_
  refine st_bool 15 rfl (fun hb19 => ?_) (fun hb19 => ?_)
  ·
   have hb19 := of_decide_eq_true hb19
   refine st_op (ev_fieldAddr rfl fa44_3 (o' := 3) rfl) rfl rfl rfl ?_
   refine st_op (ev_load rfl (lvar_one one9 h17 rfl)) rfl rfl rfl ?_
   refine st_op (ev_lenStr rfl Try.underlying9) rfl rfl rfl ?_
   refine st_op (ev_int rfl rfl rfl) rfl rfl rfl ?_
   refine st_op (ev_pickT rfl rfl) rfl rfl rfl ?_
   refine st_op (ev_assign rfl) rfl rfl rfl ?_
   try show aw _ _ _ _ _ _
   refine aw_ret ?_
   have hx20 : Ext H H14 := (Ext.trans (Ext.trans hx6 hx12) hx15)
   have hres : (Spec.mayS s_index s_term s_conf s_data) = (decide (((s_data).size : Int) ≤ 200000)) := by simp only [Spec.mayS]; (try simp_all) <;> (try (intros; omega))
   exact ⟨.bool (decide (((s_data).size : Int) ≤ 200000)), rfl, by first | (rw [hres]; done) | rw [← hres], hx20⟩
  ·
   have hb19 := of_decide_eq_false hb19
   iterate 4 refine st_skip rfl rfl rfl ?_
   refine st_op (ev_pickF rfl rfl) rfl rfl rfl ?_
   refine st_op (ev_assign rfl) rfl rfl rfl ?_
   try show aw _ _ _ _ _ _
   refine aw_ret ?_
   have hx21 : Ext H H14 := (Ext.trans (Ext.trans hx6 hx12) hx15)
   have hres : (Spec.mayS s_index s_term s_conf s_data) = false := by simp only [Spec.mayS]; (try simp_all) <;> (try (intros; omega))
   exact ⟨.bool false, rfl, by first | (rw [hres]; done) | rw [← hres], hx21⟩
 ·
  have hb16m := Spec.inF_twoN hb16
  iterate 4 refine st_skip rfl rfl rfl ?_
  refine st_op (ev_pickF rfl rfl) rfl rfl rfl ?_
  refine st_op (ev_move rfl) rfl rfl rfl ?_
  iterate 4 refine st_skip rfl rfl rfl ?_
  refine st_op (ev_pickF rfl rfl) rfl rfl rfl ?_
  refine st_op (ev_assign rfl) rfl rfl rfl ?_
  try show aw _ _ _ _ _ _
  refine aw_ret ?_
  have hx22 : Ext H H14 := (Ext.trans (Ext.trans hx6 hx12) hx15)
  have hres : (Spec.mayS s_index s_term s_conf s_data) = false := by simp only [Spec.mayS]; (try simp_all) <;> (try (intros; omega))
  exact ⟨.bool false, rfl, by first | (rw [hres]; done) | rw [← hres], hx22⟩
theorem num_Put_spec (H : Heap) (bH : Heap) (bA : Option Addr) (b : List Int) (bc : Nat) (hb : My bH H bA bc 1 (b.map u8c)) (nb : bH.next ≤ H.next) (lb : b.length ≤ 1099511627756) (n : Int) (hn : -9223372036854775808 ≤ n ∧ n ≤ 9223372036854775807) : ∃ v H', Spec Try.prog 69 [.slice bA b.length bc, .int .i64 n] H v H' ∧ (∃ rA0 rc0, (v = .slice rA0 ((b ++ Spec.enc (Spec.zig n)).length) rc0) ∧ (My bH H' rA0 rc0 1 ((b ++ Spec.enc (Spec.zig n)).map u8c)) ∧ ((Spec.enc (Spec.zig n)).length ≤ 10) ∧ (Fr (fun q => (bH.next ≤ q ∧ q < H.next ∧ ZB H q 1)) H H')) := by
 refine spec_go2 E0_ok 28 (f := 69) Try.func69 rfl rfl rfl ?_
 refine aw_seq ?_
 refine aw_reg ?_
 refine st_op (ev_assign rfl) rfl rfl rfl ?_
 try show aw _ _ _ _ _ _
 refine aw_seq ?_
 refine aw_reg ?_
 refine st_op (ev_move rfl) rfl rfl rfl ?_
 have hw1 : 0 ≤ (IntKind.u64.wrap n) ∧ (IntKind.u64.wrap n) ≤ 18446744073709551615 := wrapU64 _
 refine st_op (ev_convInt Try.underlying2 Try.underlying127 rfl) rfl rfl rfl ?_
 have hw2 : 0 ≤ (Spec.shl .u64 (IntKind.u64.wrap n) 1) ∧ (Spec.shl .u64 (IntKind.u64.wrap n) 1) ≤ 18446744073709551615 := wrapU64 _
 refine st_op (ev_shlV rfl rfl (by omega)) rfl rfl rfl ?_
 refine st_op (ev_assign rfl) rfl rfl rfl ?_
 try show aw _ _ _ _ _ _
 iterate 2 refine aw_seq ?_
 refine aw_reg ?_
 refine st_op (ev_move rfl) rfl rfl rfl ?_
 refine st_op (ev_int rfl rfl rfl) rfl rfl rfl ?_
 try show aw _ _ _ _ _ _
 by_cases hc3 : (decide (n < 0)) = true
 ·
  refine aw_condT hc3 rfl ?_
  try show aw _ _ _ _ _ _
  have hc3 := of_decide_eq_true hc3
  refine aw_reg ?_
  refine st_op (ev_move rfl) rfl rfl rfl ?_
  have hw4 : 0 ≤ (Go.bits .xor .u64 (IntKind.max .u64) (Spec.shl .u64 (IntKind.u64.wrap n) 1)) ∧ (Go.bits .xor .u64 (IntKind.max .u64) (Spec.shl .u64 (IntKind.u64.wrap n) 1)) ≤ 18446744073709551615 := bitsU64 _ _ _
  refine st_op (ev_comU rfl rfl) rfl rfl rfl ?_
  refine st_op (ev_assign rfl) rfl rfl rfl ?_
  try show aw _ _ _ _ _ _
  refine aw_seq ?_
  refine aw_block ?_
  have hz5 : (Go.bits .xor .u64 (IntKind.max .u64) (Spec.shl .u64 (IntKind.u64.wrap n) 1)) = ((Spec.zig n : Nat) : Int) := by first | (rw [shl1_u64]; (try rw [Spec.not_u64 (by omega) (by omega)]); unfold Spec.zig; split <;> omega) | (simp only [Spec.wrap_u64]; (try rw [Spec.not_u64 (by omega) (by omega)]); unfold Spec.zig; split <;> omega)
  have hz5l := Spec.zig_lt hn.1 hn.2
  refine aw_keep [0, 5] (l' := (.cons 0 (.slice bA b.length bc) (.cons 5 (.int .u64 (Go.bits .xor .u64 (IntKind.max .u64) (Spec.shl .u64 (IntKind.u64.wrap n) 1))) .nil))) (by repeat (first | exact Up.done | refine Up.then ?_ | refine Up.inBlock ?_)) rfl ?_
  refine aw_iter (α := Int × Option Addr × Nat × List Int × Nat × Heap) (fun a => a.2.2.2.2.1) (fun a => (.cons 0 (.slice a.2.1 a.2.2.2.1.length a.2.2.1) (.cons 5 (.int .u64 a.1) .nil))) (fun a => a.2.2.2.2.2) (fun a => (a.1 = (a.2.2.2.2.1 : Int)) ∧ (a.2.2.2.1 ++ Spec.enc a.2.2.2.2.1 = b ++ Spec.enc (Spec.zig n)) ∧ (a.2.2.2.2.1 < 18446744073709551616) ∧ (a.2.2.2.1.length + (Spec.enc a.2.2.2.2.1).length ≤ 1099511627770) ∧ (0 ≤ a.1 ∧ a.1 ≤ 18446744073709551615) ∧ (My bH a.2.2.2.2.2 a.2.1 a.2.2.1 1 (a.2.2.2.1.map u8c)) ∧ (Fr (fun q => (bH.next ≤ q ∧ q < H.next ∧ ZB H q 1)) H a.2.2.2.2.2)) ((Go.bits .xor .u64 (IntKind.max .u64) (Spec.shl .u64 (IntKind.u64.wrap n) 1)), bA, bc, b, (Spec.zig n), H) ⟨(show (Go.bits .xor .u64 (IntKind.max .u64) (Spec.shl .u64 (IntKind.u64.wrap n) 1)) = ((Spec.zig n) : Int) from hz5), (show b ++ Spec.enc (Spec.zig n) = b ++ Spec.enc (Spec.zig n) from rfl), (show (Spec.zig n) < 18446744073709551616 from hz5l), (show b.length + (Spec.enc (Spec.zig n)).length ≤ 1099511627770 from (by have := Spec.enc_len10 hz5l; simp; omega)), (show 0 ≤ (Go.bits .xor .u64 (IntKind.max .u64) (Spec.shl .u64 (IntKind.u64.wrap n) 1)) ∧ (Go.bits .xor .u64 (IntKind.max .u64) (Spec.shl .u64 (IntKind.u64.wrap n) 1)) ≤ 18446744073709551615 from ⟨by omega, by omega⟩), (show My bH H bA bc 1 (b.map u8c) from hb), (show Fr (fun q => (bH.next ≤ q ∧ q < H.next ∧ ZB H q 1)) H H from (Fr.refl _ H))⟩ ?_
  rintro ⟨v, A, cp, l, u, Hl6⟩ ⟨hv, hl, hu, hL, hn7, hm8, hxl9⟩ ih10
  replace hv : v = (u : Int) := hv
  replace hl : l ++ Spec.enc u = b ++ Spec.enc (Spec.zig n) := hl
  replace hu : u < 18446744073709551616 := hu
  replace hL : l.length + (Spec.enc u).length ≤ 1099511627770 := hL
  replace hn7 : 0 ≤ v ∧ v ≤ 18446744073709551615 := hn7
  replace hm8 : My bH Hl6 A cp 1 (l.map u8c) := hm8
  replace hxl9 : Fr (fun q => (bH.next ≤ q ∧ q < H.next ∧ ZB H q 1)) H Hl6 := hxl9
  show aw _ _ _ (RL _ (.cons 0 (.slice A l.length cp) (.cons 5 (.int .u64 v) .nil))) Hl6 _
  have Hl6n : H.next ≤ Hl6.next := hxl9.1
  have hpos := Spec.enc_pos u
  iterate 2 refine aw_seq ?_
  refine aw_reg ?_
  refine st_op (ev_move rfl) rfl rfl rfl ?_
  refine st_op (ev_int rfl rfl rfl) rfl rfl rfl ?_
  try show aw _ _ _ _ _ _
  by_cases hc11 : (decide (v > 127)) = true
  ·
   refine aw_condT hc11 rfl ?_
   try show aw _ _ _ _ _ _
   have hc11 := of_decide_eq_true hc11
   refine aw_skip ?_
   try show aw _ _ _ _ _ _
   refine aw_block ?_
   refine aw_seq ?_
   refine aw_reg ?_
   iterate 2 refine st_op (ev_move rfl) rfl rfl rfl ?_
   have hw12 : 0 ≤ (IntKind.u8.wrap v) ∧ (IntKind.u8.wrap v) ≤ 255 := wrapU8 _
   refine st_op (ev_convInt Try.underlying127 Try.underlying5 rfl) rfl rfl rfl ?_
   have hw13 : 0 ≤ (Go.bits .or .u8 (IntKind.u8.wrap v) 128) ∧ (Go.bits .or .u8 (IntKind.u8.wrap v) 128) ≤ 255 := bitsU8 _ _ _
   refine st_op (ev_bits rfl rfl rfl) rfl rfl rfl ?_
   obtain ⟨b14, H15, he16, b14e, H15n_, hm18, f17⟩ := mem_lit Hl6 (xs := ([.int .u8 (Go.bits .or .u8 (IntKind.u8.wrap v) 128)] : List Value)) (m := 1) (rows := [[.int .u8 (Go.bits .or .u8 (IntKind.u8.wrap v) 128)]]) rfl eok74 (by decide) (by decide) zf5 rfl (allLen rfl) rfl
   replace hm18 : My Hl6 H15 (some ⟨b14, 0, none⟩) 1 1 ([(Go.bits .or .u8 (IntKind.u8.wrap v) 128)].map u8c) := hm18
   refine st_op (he16 _ _ _ _ _ _ _ _ rfl) rfl rfl rfl ?_
   have hx19 : Ext Hl6 H15 := Ext.new (by omega) H15n_ f17
   have H15n : Hl6.next ≤ H15.next := hx19.1
   have h20 := My.ext hm8 hx19
   obtain ⟨A21, c22, H23, W24, he25, hm26, hf27⟩ := mem_append (f := u8c) (old := l) (new := [(Go.bits .or .u8 (IntKind.u8.wrap v) 128)]) (m := l.length) (mx := 1) (c := cp) (by first | rfl | simp) (by first | rfl | simp) eok74 (by decide) hm8 h20 (by omega) (((My.row hm18)).srcF (by decide) (by first | rfl | simp)) rfl u8c_len u8c_one (by first | omega | (simp only [List.length_append, List.length_cons, List.length_nil, List.length_map, List.length_set, List.length_replicate, Spec.bytesOf_length]; omega) | (simp; omega)) (by first | omega | (simp only [List.length_append, List.length_cons, List.length_nil, List.length_map, List.length_set, List.length_replicate, Spec.bytesOf_length]; omega) | (simp; omega))
   refine st_op (he25 _ _ _ _ _ _ _ _ _ _ rfl rfl isrow74) rfl rfl rfl ?_
   have H23n : H15.next ≤ H23.next := hf27.1
   refine st_op (ev_assign rfl) rfl rfl rfl ?_
   try show aw _ _ _ _ _ _
   refine aw_reg ?_
   refine st_op (ev_move rfl) rfl rfl rfl ?_
   refine st_op (ev_shr (a := v) (c := 128) rfl rfl (by decide) (by decide)) rfl rfl rfl ?_
   refine st_op (ev_assign rfl) rfl rfl rfl ?_
   try show aw _ _ _ _ _ _
   refine aw_keep [0, 5] (l' := (.cons 0 (.slice A21 ((l ++ [(Go.bits .or .u8 (IntKind.u8.wrap v) 128)]).length) c22) (.cons 5 (.int .u64 (v / 128)) .nil))) (by repeat (first | exact Up.done | refine Up.then ?_ | refine Up.inBlock ?_)) rfl ?_
   exact ih10 ((v / 128), A21, c22, (l ++ [(Go.bits .or .u8 (IntKind.u8.wrap v) 128)]), (u / 128), H23) ⟨(show (v / 128) = ((u / 128) : Int) from (by subst hv; omega)), (show (l ++ [(Go.bits .or .u8 (IntKind.u8.wrap v) 128)]) ++ Spec.enc (u / 128) = b ++ Spec.enc (Spec.zig n) from (by rw [← hl, Spec.enc_step (u := u) (by omega), List.append_assoc]; congr 2; subst hv; rw [List.cons_append, List.nil_append]; congr 1 <;> first | (rw [IntKind.wrap_u8, Spec.or128 (by omega) (by omega)]; omega) | (rw [IntKind.wrap_u8]; omega) | omega)), (show (u / 128) < 18446744073709551616 from (by omega)), (show (l ++ [(Go.bits .or .u8 (IntKind.u8.wrap v) 128)]).length + (Spec.enc (u / 128)).length ≤ 1099511627770 from (by rw [Spec.enc_step (u := u) (by omega), List.length_cons] at hL; rw [List.length_append, List.length_singleton]; omega)), (show 0 ≤ (v / 128) ∧ (v / 128) ≤ 18446744073709551615 from ⟨by omega, by omega⟩), (show My bH H23 A21 c22 1 ((l ++ [(Go.bits .or .u8 (IntKind.u8.wrap v) 128)]).map u8c) from hm26), (show Fr (fun q => (bH.next ≤ q ∧ q < H.next ∧ ZB H q 1)) H H23 from (Fr.transG (Fr.trans (Fr.transG (Fr.refl (fun q => (bH.next ≤ q ∧ q < H.next ∧ ZB H q 1)) H) hxl9 (fun q hq hE e => (⟨by omega, by omega, ZB.back hE e.2.2⟩))) (hx19.fr fun _ => False) (fun q hq (e : False) => e.elim)) hf27 (fun q hq hE e => (⟨by omega, by omega, ZB.back hE e.2.2⟩))))⟩ (by simp only; omega)
  ·
   rw [Bool.not_eq_true] at hc11; refine aw_condF hc11 rfl ?_
   try show aw _ _ _ _ _ _
   have hc11 := of_decide_eq_false hc11
   refine aw_exit ?_
   try show aw _ _ _ _ _ _
   refine aw_seq ?_
   refine aw_reg ?_
   iterate 2 refine st_op (ev_move rfl) rfl rfl rfl ?_
   refine st_op (ev_convI Try.underlying127 Try.underlying5 rfl (wrU8 (by omega) (by omega))) rfl rfl rfl ?_
   obtain ⟨b28, H29, he30, b28e, H29n_, hm32, f31⟩ := mem_lit Hl6 (xs := ([.int .u8 v] : List Value)) (m := 1) (rows := [[.int .u8 v]]) rfl eok74 (by decide) (by decide) zf5 rfl (allLen rfl) rfl
   replace hm32 : My Hl6 H29 (some ⟨b28, 0, none⟩) 1 1 ([v].map u8c) := hm32
   refine st_op (he30 _ _ _ _ _ _ _ _ rfl) rfl rfl rfl ?_
   have hx33 : Ext Hl6 H29 := Ext.new (by omega) H29n_ f31
   have H29n : Hl6.next ≤ H29.next := hx33.1
   have h34 := My.ext hm8 hx33
   obtain ⟨A35, c36, H37, W38, he39, hm40, hf41⟩ := mem_append (f := u8c) (old := l) (new := [v]) (m := l.length) (mx := 1) (c := cp) (by first | rfl | simp) (by first | rfl | simp) eok74 (by decide) hm8 h34 (by omega) (((My.row hm32)).srcF (by decide) (by first | rfl | simp)) rfl u8c_len u8c_one (by first | omega | (simp only [List.length_append, List.length_cons, List.length_nil, List.length_map, List.length_set, List.length_replicate, Spec.bytesOf_length]; omega) | (simp; omega)) (by first | omega | (simp only [List.length_append, List.length_cons, List.length_nil, List.length_map, List.length_set, List.length_replicate, Spec.bytesOf_length]; omega) | (simp; omega))
   refine st_op (he39 _ _ _ _ _ _ _ _ _ _ rfl rfl isrow74) rfl rfl rfl ?_
   have H37n : H29.next ≤ H37.next := hf41.1
   refine st_op (ev_assign rfl) rfl rfl rfl ?_
   try show aw _ _ _ _ _ _
   refine aw_ret ?_
   have hres : (b ++ Spec.enc (Spec.zig n)) = (l ++ [v]) := by rw [← hl, Spec.enc_small (u := u) (by omega)]; congr 2; subst hv; first | done | omega | (rw [IntKind.wrap_u8]; omega)
   exact ⟨.slice A35 ((l ++ [v]).length) c36, rfl, A35, c36, by first | (rw [hres]; first | done | rfl | simp; done) | rfl, (by rw [hres]; exact hm40), (by exact Spec.zig_i64 hn), (Fr.transG (Fr.trans (Fr.transG (Fr.refl (fun q => (bH.next ≤ q ∧ q < H.next ∧ ZB H q 1)) H) hxl9 (fun q hq hE e => (⟨by omega, by omega, ZB.back hE e.2.2⟩))) (hx33.fr fun _ => False) (fun q hq (e : False) => e.elim)) hf41 (fun q hq hE e => (⟨by omega, by omega, ZB.back hE e.2.2⟩)))⟩
 ·
  rw [Bool.not_eq_true] at hc3; refine aw_condF hc3 rfl ?_
  try show aw _ _ _ _ _ _
  have hc3 := of_decide_eq_false hc3
  refine aw_skip ?_
  try show aw _ _ _ _ _ _
  refine aw_seq ?_
  refine aw_block ?_
  have hz42 : (Spec.shl .u64 (IntKind.u64.wrap n) 1) = ((Spec.zig n : Nat) : Int) := by first | (rw [shl1_u64]; (try rw [Spec.not_u64 (by omega) (by omega)]); unfold Spec.zig; split <;> omega) | (simp only [Spec.wrap_u64]; (try rw [Spec.not_u64 (by omega) (by omega)]); unfold Spec.zig; split <;> omega)
  have hz42l := Spec.zig_lt hn.1 hn.2
  refine aw_keep [0, 5] (l' := (.cons 0 (.slice bA b.length bc) (.cons 5 (.int .u64 (Spec.shl .u64 (IntKind.u64.wrap n) 1)) .nil))) (by repeat (first | exact Up.done | refine Up.then ?_ | refine Up.inBlock ?_)) rfl ?_
  refine aw_iter (α := Int × Option Addr × Nat × List Int × Nat × Heap) (fun a => a.2.2.2.2.1) (fun a => (.cons 0 (.slice a.2.1 a.2.2.2.1.length a.2.2.1) (.cons 5 (.int .u64 a.1) .nil))) (fun a => a.2.2.2.2.2) (fun a => (a.1 = (a.2.2.2.2.1 : Int)) ∧ (a.2.2.2.1 ++ Spec.enc a.2.2.2.2.1 = b ++ Spec.enc (Spec.zig n)) ∧ (a.2.2.2.2.1 < 18446744073709551616) ∧ (a.2.2.2.1.length + (Spec.enc a.2.2.2.2.1).length ≤ 1099511627770) ∧ (0 ≤ a.1 ∧ a.1 ≤ 18446744073709551615) ∧ (My bH a.2.2.2.2.2 a.2.1 a.2.2.1 1 (a.2.2.2.1.map u8c)) ∧ (Fr (fun q => (bH.next ≤ q ∧ q < H.next ∧ ZB H q 1)) H a.2.2.2.2.2)) ((Spec.shl .u64 (IntKind.u64.wrap n) 1), bA, bc, b, (Spec.zig n), H) ⟨(show (Spec.shl .u64 (IntKind.u64.wrap n) 1) = ((Spec.zig n) : Int) from hz42), (show b ++ Spec.enc (Spec.zig n) = b ++ Spec.enc (Spec.zig n) from rfl), (show (Spec.zig n) < 18446744073709551616 from hz42l), (show b.length + (Spec.enc (Spec.zig n)).length ≤ 1099511627770 from (by have := Spec.enc_len10 hz42l; simp; omega)), (show 0 ≤ (Spec.shl .u64 (IntKind.u64.wrap n) 1) ∧ (Spec.shl .u64 (IntKind.u64.wrap n) 1) ≤ 18446744073709551615 from ⟨by omega, by omega⟩), (show My bH H bA bc 1 (b.map u8c) from hb), (show Fr (fun q => (bH.next ≤ q ∧ q < H.next ∧ ZB H q 1)) H H from (Fr.refl _ H))⟩ ?_
  rintro ⟨v, A, cp, l, u, Hl43⟩ ⟨hv, hl, hu, hL, hn44, hm45, hxl46⟩ ih47
  replace hv : v = (u : Int) := hv
  replace hl : l ++ Spec.enc u = b ++ Spec.enc (Spec.zig n) := hl
  replace hu : u < 18446744073709551616 := hu
  replace hL : l.length + (Spec.enc u).length ≤ 1099511627770 := hL
  replace hn44 : 0 ≤ v ∧ v ≤ 18446744073709551615 := hn44
  replace hm45 : My bH Hl43 A cp 1 (l.map u8c) := hm45
  replace hxl46 : Fr (fun q => (bH.next ≤ q ∧ q < H.next ∧ ZB H q 1)) H Hl43 := hxl46
  show aw _ _ _ (RL _ (.cons 0 (.slice A l.length cp) (.cons 5 (.int .u64 v) .nil))) Hl43 _
  have Hl43n : H.next ≤ Hl43.next := hxl46.1
  have hpos := Spec.enc_pos u
  iterate 2 refine aw_seq ?_
  refine aw_reg ?_
  refine st_op (ev_move rfl) rfl rfl rfl ?_
  refine st_op (ev_int rfl rfl rfl) rfl rfl rfl ?_
  try show aw _ _ _ _ _ _
  by_cases hc48 : (decide (v > 127)) = true
  ·
   refine aw_condT hc48 rfl ?_
   try show aw _ _ _ _ _ _
   have hc48 := of_decide_eq_true hc48
   refine aw_skip ?_
   try show aw _ _ _ _ _ _
   refine aw_block ?_
   refine aw_seq ?_
   refine aw_reg ?_
   iterate 2 refine st_op (ev_move rfl) rfl rfl rfl ?_
   have hw49 : 0 ≤ (IntKind.u8.wrap v) ∧ (IntKind.u8.wrap v) ≤ 255 := wrapU8 _
   refine st_op (ev_convInt Try.underlying127 Try.underlying5 rfl) rfl rfl rfl ?_
   have hw50 : 0 ≤ (Go.bits .or .u8 (IntKind.u8.wrap v) 128) ∧ (Go.bits .or .u8 (IntKind.u8.wrap v) 128) ≤ 255 := bitsU8 _ _ _
   refine st_op (ev_bits rfl rfl rfl) rfl rfl rfl ?_
   obtain ⟨b51, H52, he53, b51e, H52n_, hm55, f54⟩ := mem_lit Hl43 (xs := ([.int .u8 (Go.bits .or .u8 (IntKind.u8.wrap v) 128)] : List Value)) (m := 1) (rows := [[.int .u8 (Go.bits .or .u8 (IntKind.u8.wrap v) 128)]]) rfl eok74 (by decide) (by decide) zf5 rfl (allLen rfl) rfl
   replace hm55 : My Hl43 H52 (some ⟨b51, 0, none⟩) 1 1 ([(Go.bits .or .u8 (IntKind.u8.wrap v) 128)].map u8c) := hm55
   refine st_op (he53 _ _ _ _ _ _ _ _ rfl) rfl rfl rfl ?_
   have hx56 : Ext Hl43 H52 := Ext.new (by omega) H52n_ f54
   have H52n : Hl43.next ≤ H52.next := hx56.1
   have h57 := My.ext hm45 hx56
   obtain ⟨A58, c59, H60, W61, he62, hm63, hf64⟩ := mem_append (f := u8c) (old := l) (new := [(Go.bits .or .u8 (IntKind.u8.wrap v) 128)]) (m := l.length) (mx := 1) (c := cp) (by first | rfl | simp) (by first | rfl | simp) eok74 (by decide) hm45 h57 (by omega) (((My.row hm55)).srcF (by decide) (by first | rfl | simp)) rfl u8c_len u8c_one (by first | omega | (simp only [List.length_append, List.length_cons, List.length_nil, List.length_map, List.length_set, List.length_replicate, Spec.bytesOf_length]; omega) | (simp; omega)) (by first | omega | (simp only [List.length_append, List.length_cons, List.length_nil, List.length_map, List.length_set, List.length_replicate, Spec.bytesOf_length]; omega) | (simp; omega))
   refine st_op (he62 _ _ _ _ _ _ _ _ _ _ rfl rfl isrow74) rfl rfl rfl ?_
   have H60n : H52.next ≤ H60.next := hf64.1
   refine st_op (ev_assign rfl) rfl rfl rfl ?_
   try show aw _ _ _ _ _ _
   refine aw_reg ?_
   refine st_op (ev_move rfl) rfl rfl rfl ?_
   refine st_op (ev_shr (a := v) (c := 128) rfl rfl (by decide) (by decide)) rfl rfl rfl ?_
   refine st_op (ev_assign rfl) rfl rfl rfl ?_
   try show aw _ _ _ _ _ _
   refine aw_keep [0, 5] (l' := (.cons 0 (.slice A58 ((l ++ [(Go.bits .or .u8 (IntKind.u8.wrap v) 128)]).length) c59) (.cons 5 (.int .u64 (v / 128)) .nil))) (by repeat (first | exact Up.done | refine Up.then ?_ | refine Up.inBlock ?_)) rfl ?_
   exact ih47 ((v / 128), A58, c59, (l ++ [(Go.bits .or .u8 (IntKind.u8.wrap v) 128)]), (u / 128), H60) ⟨(show (v / 128) = ((u / 128) : Int) from (by subst hv; omega)), (show (l ++ [(Go.bits .or .u8 (IntKind.u8.wrap v) 128)]) ++ Spec.enc (u / 128) = b ++ Spec.enc (Spec.zig n) from (by rw [← hl, Spec.enc_step (u := u) (by omega), List.append_assoc]; congr 2; subst hv; rw [List.cons_append, List.nil_append]; congr 1 <;> first | (rw [IntKind.wrap_u8, Spec.or128 (by omega) (by omega)]; omega) | (rw [IntKind.wrap_u8]; omega) | omega)), (show (u / 128) < 18446744073709551616 from (by omega)), (show (l ++ [(Go.bits .or .u8 (IntKind.u8.wrap v) 128)]).length + (Spec.enc (u / 128)).length ≤ 1099511627770 from (by rw [Spec.enc_step (u := u) (by omega), List.length_cons] at hL; rw [List.length_append, List.length_singleton]; omega)), (show 0 ≤ (v / 128) ∧ (v / 128) ≤ 18446744073709551615 from ⟨by omega, by omega⟩), (show My bH H60 A58 c59 1 ((l ++ [(Go.bits .or .u8 (IntKind.u8.wrap v) 128)]).map u8c) from hm63), (show Fr (fun q => (bH.next ≤ q ∧ q < H.next ∧ ZB H q 1)) H H60 from (Fr.transG (Fr.trans (Fr.transG (Fr.refl (fun q => (bH.next ≤ q ∧ q < H.next ∧ ZB H q 1)) H) hxl46 (fun q hq hE e => (⟨by omega, by omega, ZB.back hE e.2.2⟩))) (hx56.fr fun _ => False) (fun q hq (e : False) => e.elim)) hf64 (fun q hq hE e => (⟨by omega, by omega, ZB.back hE e.2.2⟩))))⟩ (by simp only; omega)
  ·
   rw [Bool.not_eq_true] at hc48; refine aw_condF hc48 rfl ?_
   try show aw _ _ _ _ _ _
   have hc48 := of_decide_eq_false hc48
   refine aw_exit ?_
   try show aw _ _ _ _ _ _
   refine aw_seq ?_
   refine aw_reg ?_
   iterate 2 refine st_op (ev_move rfl) rfl rfl rfl ?_
   refine st_op (ev_convI Try.underlying127 Try.underlying5 rfl (wrU8 (by omega) (by omega))) rfl rfl rfl ?_
   obtain ⟨b65, H66, he67, b65e, H66n_, hm69, f68⟩ := mem_lit Hl43 (xs := ([.int .u8 v] : List Value)) (m := 1) (rows := [[.int .u8 v]]) rfl eok74 (by decide) (by decide) zf5 rfl (allLen rfl) rfl
   replace hm69 : My Hl43 H66 (some ⟨b65, 0, none⟩) 1 1 ([v].map u8c) := hm69
   refine st_op (he67 _ _ _ _ _ _ _ _ rfl) rfl rfl rfl ?_
   have hx70 : Ext Hl43 H66 := Ext.new (by omega) H66n_ f68
   have H66n : Hl43.next ≤ H66.next := hx70.1
   have h71 := My.ext hm45 hx70
   obtain ⟨A72, c73, H74, W75, he76, hm77, hf78⟩ := mem_append (f := u8c) (old := l) (new := [v]) (m := l.length) (mx := 1) (c := cp) (by first | rfl | simp) (by first | rfl | simp) eok74 (by decide) hm45 h71 (by omega) (((My.row hm69)).srcF (by decide) (by first | rfl | simp)) rfl u8c_len u8c_one (by first | omega | (simp only [List.length_append, List.length_cons, List.length_nil, List.length_map, List.length_set, List.length_replicate, Spec.bytesOf_length]; omega) | (simp; omega)) (by first | omega | (simp only [List.length_append, List.length_cons, List.length_nil, List.length_map, List.length_set, List.length_replicate, Spec.bytesOf_length]; omega) | (simp; omega))
   refine st_op (he76 _ _ _ _ _ _ _ _ _ _ rfl rfl isrow74) rfl rfl rfl ?_
   have H74n : H66.next ≤ H74.next := hf78.1
   refine st_op (ev_assign rfl) rfl rfl rfl ?_
   try show aw _ _ _ _ _ _
   refine aw_ret ?_
   have hres : (b ++ Spec.enc (Spec.zig n)) = (l ++ [v]) := by rw [← hl, Spec.enc_small (u := u) (by omega)]; congr 2; subst hv; first | done | omega | (rw [IntKind.wrap_u8]; omega)
   exact ⟨.slice A72 ((l ++ [v]).length) c73, rfl, A72, c73, by first | (rw [hres]; first | done | rfl | simp; done) | rfl, (by rw [hres]; exact hm77), (by exact Spec.zig_i64 hn), (Fr.transG (Fr.trans (Fr.transG (Fr.refl (fun q => (bH.next ≤ q ∧ q < H.next ∧ ZB H q 1)) H) hxl46 (fun q hq hE e => (⟨by omega, by omega, ZB.back hE e.2.2⟩))) (hx70.fr fun _ => False) (fun q hq (e : False) => e.elim)) hf78 (fun q hq hE e => (⟨by omega, by omega, ZB.back hE e.2.2⟩)))⟩
theorem num_PutText_spec (H : Heap) (bH : Heap) (bA : Option Addr) (b : List Int) (bc : Nat) (hb : My bH H bA bc 1 (b.map u8c)) (nb : bH.next ≤ H.next) (lb : b.length ≤ 824633720832) (s : ByteArray) (hs : s.size ≤ 137438953472) : ∃ v H', Spec Try.prog 106 [.slice bA b.length bc, .string s] H v H' ∧ (∃ rA0 rc0, (v = .slice rA0 ((b ++ Spec.enc (Spec.zig (s.size : Int)) ++ Spec.bytesOf s).length) rc0) ∧ (My bH H' rA0 rc0 1 ((b ++ Spec.enc (Spec.zig (s.size : Int)) ++ Spec.bytesOf s).map u8c)) ∧ ((Spec.enc (Spec.zig (s.size : Int))).length ≤ 10) ∧ (Fr (fun q => (bH.next ≤ q ∧ q < H.next ∧ ZB H q 1)) H H')) := by
 refine spec_go2 E0_ok 11 (f := 106) Try.func106 rfl rfl rfl ?_
 refine aw_seq ?_
 refine aw_reg ?_
 refine st_op (ev_assign rfl) rfl rfl rfl ?_
 try show aw _ _ _ _ _ _
 refine aw_seq ?_
 refine aw_reg ?_
 iterate 2 refine st_op (ev_move rfl) rfl rfl rfl ?_
 refine st_op (ev_lenStr rfl Try.underlying9) rfl rfl rfl ?_
 refine st_call rfl rfl rfl ent69 rfl rfl rfl ?_
 obtain ⟨_, H2, hs1, A4, c5, hs1v, hm6, hq7, hx3⟩ := num_Put_spec H bH bA b bc hb (by omega) (by omega) ((s).size : Int) ⟨by omega, by omega⟩
 rw [hs1v] at hs1; clear hs1v
 refine ⟨_, H2, hs1, ?_⟩
 have H2n : H.next ≤ H2.next := hx3.1
 refine st_op (ev_move rfl) rfl rfl rfl ?_
 obtain ⟨A8, c9, H10, W11, he12, hm13, hf14⟩ := mem_append (f := u8c) (old := (b ++ Spec.enc (Spec.zig ((s).size : Int)))) (new := (Spec.bytesOf s)) (m := (b ++ Spec.enc (Spec.zig ((s).size : Int))).length) (mx := (Spec.bytesOf s).length) (c := c5) (by first | rfl | simp) (by first | rfl | simp) eok74 (by decide) hm6 hm6 (by omega) (str_src s) (by simp [lenA, Spec.bytesOf_length]) u8c_len u8c_one (by first | omega | (simp only [List.length_append, List.length_cons, List.length_nil, List.length_map, List.length_set, List.length_replicate, Spec.bytesOf_length]; omega) | (simp; omega)) (by first | omega | (simp only [List.length_append, List.length_cons, List.length_nil, List.length_map, List.length_set, List.length_replicate, Spec.bytesOf_length]; omega) | (simp; omega))
 refine st_op (he12 _ _ _ _ _ _ _ _ _ _ rfl rfl isrow9) rfl rfl rfl ?_
 have H10n : H2.next ≤ H10.next := hf14.1
 refine st_op (ev_assign rfl) rfl rfl rfl ?_
 try show aw _ _ _ _ _ _
 refine aw_ret ?_
 have hres : (b ++ Spec.enc (Spec.zig (s.size : Int)) ++ Spec.bytesOf s) = ((b ++ Spec.enc (Spec.zig ((s).size : Int))) ++ (Spec.bytesOf s)) := by rfl
 exact ⟨.slice A8 (((b ++ Spec.enc (Spec.zig ((s).size : Int))) ++ (Spec.bytesOf s)).length) c9, rfl, A8, c9, by first | (rw [hres]; first | done | rfl | simp; done) | rfl, (by rw [hres]; exact hm13), (by exact Spec.zig_i64 ⟨by omega, by omega⟩), (Fr.transG (Fr.transG (Fr.refl (fun q => (bH.next ≤ q ∧ q < H.next ∧ ZB H q 1)) H) hx3 (fun q hq hE e => (⟨by omega, by omega, ZB.back hE e.2.2⟩))) hf14 (fun q hq hE e => (⟨by omega, by omega, ZB.back hE e.2.2⟩)))⟩
theorem crc_More_spec (H : Heap) (s : Int) (hs : 0 ≤ s ∧ s ≤ 4294967295) (bA : Option Addr) (b : List Int) (bc : Nat) (hb : Row H bA bc 1 (b.map u8c)) (cb : b.length ≤ bc) (lb : b.length ≤ 1099511627776) (bb : Spec.Bytes b) : ∃ v H', Spec Try.prog 96 [.int .u32 s, .slice bA b.length bc] H v H' ∧ ((v = .int .u32 ((Spec.crcMore s.toNat b : Nat) : Int)) ∧ (0 ≤ ((Spec.crcMore s.toNat b : Nat) : Int) ∧ ((Spec.crcMore s.toNat b : Nat) : Int) ≤ 4294967295) ∧ (Ext H H')) := by
 refine spec_go2 E0_ok 33 (f := 96) Try.func96 rfl rfl rfl ?_
 refine aw_seq ?_
 refine aw_reg ?_
 refine st_op (ev_assign rfl) rfl rfl rfl ?_
 try show aw _ _ _ _ _ _
 refine aw_seq ?_
 refine aw_reg ?_
 refine st_op (ev_move rfl) rfl rfl rfl ?_
 have hw1 : 0 ≤ (Go.bits .xor .u32 (IntKind.max .u32) s) ∧ (Go.bits .xor .u32 (IntKind.max .u32) s) ≤ 4294967295 := bitsU32 _ _ _
 refine st_op (ev_comU rfl rfl) rfl rfl rfl ?_
 refine st_op (ev_assign rfl) rfl rfl rfl ?_
 try show aw _ _ _ _ _ _
 iterate 2 refine aw_seq ?_
 refine aw_reg ?_
 refine st_op (ev_move rfl) rfl rfl rfl ?_
 refine st_op (ev_lenSl rfl Try.underlying74) rfl rfl rfl ?_
 refine st_op (ev_move rfl) rfl rfl rfl ?_
 try show aw _ _ _ _ _ _
 refine aw_block ?_
 refine aw_keep [5, 10, 11, 12] (l' := (.cons 5 (.int .u32 (Go.bits .xor .u32 (IntKind.max .u32) s)) (.cons 10 (.slice bA b.length bc) (.cons 11 (.int .i64 (b.length : Int)) (.cons 12 (.int .i64 0) .nil))))) (by repeat (first | exact Up.done | refine Up.then ?_ | refine Up.inBlock ?_)) rfl ?_
 refine aw_iter (α := Nat × Int × Heap) (fun a => b.length - a.1) (fun a => (.cons 5 (.int .u32 a.2.1) (.cons 10 (.slice bA b.length bc) (.cons 11 (.int .i64 (b.length : Int)) (.cons 12 (.int .i64 (a.1 : Int)) .nil))))) (fun a => a.2.2) (fun a => (a.1 ≤ b.length) ∧ (Spec.crcRun (4294967295 - s.toNat) b = Spec.crcRun a.2.1.toNat (b.drop a.1)) ∧ (0 ≤ a.2.1 ∧ a.2.1 ≤ 4294967295) ∧ (Ext H a.2.2)) (0, (Go.bits .xor .u32 (IntKind.max .u32) s), H) ⟨(show 0 ≤ b.length from Nat.zero_le _), (show Spec.crcRun (4294967295 - s.toNat) b = Spec.crcRun (Go.bits .xor .u32 (IntKind.max .u32) s).toNat (b.drop 0) from (by first | rfl | (rw [Spec.not_u32 hs.1 (by omega), List.drop_zero]; congr 1; omega))), (show 0 ≤ (Go.bits .xor .u32 (IntKind.max .u32) s) ∧ (Go.bits .xor .u32 (IntKind.max .u32) s) ≤ 4294967295 from ⟨by omega, by omega⟩), (show Ext H H from (Ext.refl H))⟩ ?_
 rintro ⟨i, x, Hl2⟩ ⟨hi, hx, hn3, hxl4⟩ ih5
 replace hi : i ≤ b.length := hi
 replace hx : Spec.crcRun (4294967295 - s.toNat) b = Spec.crcRun x.toNat (b.drop i) := hx
 replace hn3 : 0 ≤ x ∧ x ≤ 4294967295 := hn3
 replace hxl4 : Ext H Hl2 := hxl4
 show aw _ _ _ (RL _ (.cons 5 (.int .u32 x) (.cons 10 (.slice bA b.length bc) (.cons 11 (.int .i64 (b.length : Int)) (.cons 12 (.int .i64 (i : Int)) .nil))))) Hl2 _
 have Hl2n : H.next ≤ Hl2.next := hxl4.1
 refine aw_seq ?_
 refine aw_reg ?_
 refine st_op (ev_int rfl rfl rfl) rfl rfl rfl ?_
 try show aw _ _ _ _ _ _
 refine aw_seq ?_
 by_cases hc6 : (decide ((i : Int) < (b.length : Int))) = true
 ·
  refine aw_condT hc6 rfl ?_
  try show aw _ _ _ _ _ _
  have hc6 := of_decide_eq_true hc6
  refine aw_skip ?_
  try show aw _ _ _ _ _ _
  refine aw_seq ?_
  refine aw_block ?_
  refine aw_seq ?_
  refine aw_reg ?_
  have h7 := Row.ext hb hxl4
  have hi8 : 0 ≤ ((i : Int) : Int) := by omega
  have hi9 : ((i : Int) : Int) < ((b.length : Nat) : Int) := by omega
  obtain ⟨x10, hx11⟩ : ∃ e, b[i]? = some e := ⟨_, List.getElem?_eq_getElem (by omega)⟩
  have x10b : 0 ≤ x10 ∧ x10 < 256 := ((by assumption) : Spec.Bytes b) _ (List.mem_of_getElem? hx11)
  refine st_op (ev_at rfl rfl h7 (getMap u8c hx11) (by first | rfl | omega | simp) hi8 hi9 el74) rfl rfl rfl ?_
  refine st_op (ev_atL rfl h7 (getMap u8c hx11) one5 rfl) rfl rfl rfl ?_
  refine st_op (ev_assign rfl) rfl rfl rfl ?_
  try show aw _ _ _ _ _ _
  refine aw_seq ?_
  refine aw_reg ?_
  iterate 2 refine st_op (ev_move rfl) rfl rfl rfl ?_
  refine st_op (ev_convI Try.underlying5 Try.underlying125 rfl (wrU32 (by omega) (by omega))) rfl rfl rfl ?_
  have hw12 : 0 ≤ (Go.bits .xor .u32 x x10) ∧ (Go.bits .xor .u32 x x10) ≤ 4294967295 := bitsU32 _ _ _
  refine st_op (ev_bits rfl rfl rfl) rfl rfl rfl ?_
  refine st_op (ev_assign rfl) rfl rfl rfl ?_
  try show aw _ _ _ _ _ _
  refine aw_seq ?_
  refine aw_reg ?_
  refine st_op (ev_move rfl) rfl rfl rfl ?_
  try show aw _ _ _ _ _ _
  refine aw_block ?_
  refine aw_keep [5, 10, 11, 12, 20] (l' := (.cons 5 (.int .u32 (Go.bits .xor .u32 x x10)) (.cons 10 (.slice bA b.length bc) (.cons 11 (.int .i64 (b.length : Int)) (.cons 12 (.int .i64 (i : Int)) (.cons 20 (.int .i64 0) .nil)))))) (by repeat (first | exact Up.done | refine Up.then ?_ | refine Up.inBlock ?_)) rfl ?_
  refine aw_iter (α := Nat × Int × Heap) (fun a => 8 - a.1) (fun a => (.cons 5 (.int .u32 a.2.1) (.cons 10 (.slice bA b.length bc) (.cons 11 (.int .i64 (b.length : Int)) (.cons 12 (.int .i64 (i : Int)) (.cons 20 (.int .i64 (a.1 : Int)) .nil)))))) (fun a => a.2.2) (fun a => (a.1 ≤ 8) ∧ (Spec.crcSteps 8 (Go.bits .xor .u32 x x10).toNat = Spec.crcSteps (8 - a.1) a.2.1.toNat) ∧ (0 ≤ a.2.1 ∧ a.2.1 ≤ 4294967295) ∧ (Ext Hl2 a.2.2)) (0, (Go.bits .xor .u32 x x10), Hl2) ⟨(show 0 ≤ 8 from (by decide)), (show Spec.crcSteps 8 (Go.bits .xor .u32 x x10).toNat = Spec.crcSteps (8 - 0) (Go.bits .xor .u32 x x10).toNat from rfl), (show 0 ≤ (Go.bits .xor .u32 x x10) ∧ (Go.bits .xor .u32 x x10) ≤ 4294967295 from ⟨by omega, by omega⟩), (show Ext Hl2 Hl2 from (Ext.refl Hl2))⟩ ?_
  rintro ⟨j, y, Hl13⟩ ⟨hj, hy, hn14, hxl15⟩ ih16
  replace hj : j ≤ 8 := hj
  replace hy : Spec.crcSteps 8 (Go.bits .xor .u32 x x10).toNat = Spec.crcSteps (8 - j) y.toNat := hy
  replace hn14 : 0 ≤ y ∧ y ≤ 4294967295 := hn14
  replace hxl15 : Ext Hl2 Hl13 := hxl15
  show aw _ _ _ (RL _ (.cons 5 (.int .u32 y) (.cons 10 (.slice bA b.length bc) (.cons 11 (.int .i64 (b.length : Int)) (.cons 12 (.int .i64 (i : Int)) (.cons 20 (.int .i64 (j : Int)) .nil)))))) Hl13 _
  have Hl13n : Hl2.next ≤ Hl13.next := hxl15.1
  have hn : 0 ≤ y ∧ y ≤ 4294967295 := by omega
  refine aw_seq ?_
  refine aw_reg ?_
  refine st_op (ev_int rfl rfl rfl) rfl rfl rfl ?_
  try show aw _ _ _ _ _ _
  refine aw_seq ?_
  by_cases hc17 : (decide ((j : Int) < 8)) = true
  ·
   refine aw_condT hc17 rfl ?_
   try show aw _ _ _ _ _ _
   have hc17 := of_decide_eq_true hc17
   refine aw_skip ?_
   try show aw _ _ _ _ _ _
   refine aw_seq ?_
   refine aw_block ?_
   refine aw_reg ?_
   refine st_op (ev_move rfl) rfl rfl rfl ?_
   refine st_op (ev_shr (a := y) (c := 2) rfl rfl (by decide) (by decide)) rfl rfl rfl ?_
   refine st_op (ev_move rfl) rfl rfl rfl ?_
   have hw18 : 0 ≤ (Go.bits .and .u32 y 1) ∧ (Go.bits .and .u32 y 1) ≤ 4294967295 := bitsU32 _ _ _
   refine st_op (ev_bits rfl rfl rfl) rfl rfl rfl ?_
   have hw19 : 0 ≤ (IntKind.u32.wrap (0 - (Go.bits .and .u32 y 1))) ∧ (IntKind.u32.wrap (0 - (Go.bits .and .u32 y 1))) ≤ 4294967295 := wrapU32 _
   refine st_op (ev_neg rfl) rfl rfl rfl ?_
   have hw20 : 0 ≤ (Go.bits .and .u32 3988292384 (IntKind.u32.wrap (0 - (Go.bits .and .u32 y 1)))) ∧ (Go.bits .and .u32 3988292384 (IntKind.u32.wrap (0 - (Go.bits .and .u32 y 1)))) ≤ 4294967295 := bitsU32 _ _ _
   refine st_op (ev_bits rfl rfl rfl) rfl rfl rfl ?_
   have hw21 : 0 ≤ (Go.bits .xor .u32 (y / 2) (Go.bits .and .u32 3988292384 (IntKind.u32.wrap (0 - (Go.bits .and .u32 y 1))))) ∧ (Go.bits .xor .u32 (y / 2) (Go.bits .and .u32 3988292384 (IntKind.u32.wrap (0 - (Go.bits .and .u32 y 1))))) ≤ 4294967295 := bitsU32 _ _ _
   refine st_op (ev_bits rfl rfl rfl) rfl rfl rfl ?_
   refine st_op (ev_assign rfl) rfl rfl rfl ?_
   try show aw _ _ _ _ _ _
   refine aw_reg ?_
   refine st_op (ev_int64 (c := (j : Int) + 1) rfl rfl rfl (by omega) (by omega)) rfl rfl rfl ?_
   refine st_op (ev_move rfl) rfl rfl rfl ?_
   try show aw _ _ _ _ _ _
   refine aw_keep [5, 10, 11, 12, 20] (l' := (.cons 5 (.int .u32 (Go.bits .xor .u32 (y / 2) (Go.bits .and .u32 3988292384 (IntKind.u32.wrap (0 - (Go.bits .and .u32 y 1)))))) (.cons 10 (.slice bA b.length bc) (.cons 11 (.int .i64 (b.length : Int)) (.cons 12 (.int .i64 (i : Int)) (.cons 20 (.int .i64 ((j : Int) + 1)) .nil)))))) (by repeat (first | exact Up.done | refine Up.then ?_ | refine Up.inBlock ?_)) rfl ?_
   exact ih16 (j + 1, (Go.bits .xor .u32 (y / 2) (Go.bits .and .u32 3988292384 (IntKind.u32.wrap (0 - (Go.bits .and .u32 y 1))))), Hl13) ⟨(show (j + 1) ≤ 8 from (by omega)), (show Spec.crcSteps 8 (Go.bits .xor .u32 x x10).toNat = Spec.crcSteps (8 - (j + 1)) (Go.bits .xor .u32 (y / 2) (Go.bits .and .u32 3988292384 (IntKind.u32.wrap (0 - (Go.bits .and .u32 y 1))))).toNat from (by rw [hy, show 8 - j = (8 - (j + 1)) + 1 by omega]; show Spec.crcSteps (8 - (j + 1)) (Spec.crcStep y.toNat) = _; congr 1; rw [Spec.crc_one hn]; rfl)), (show 0 ≤ (Go.bits .xor .u32 (y / 2) (Go.bits .and .u32 3988292384 (IntKind.u32.wrap (0 - (Go.bits .and .u32 y 1))))) ∧ (Go.bits .xor .u32 (y / 2) (Go.bits .and .u32 3988292384 (IntKind.u32.wrap (0 - (Go.bits .and .u32 y 1))))) ≤ 4294967295 from ⟨by omega, by omega⟩), (show Ext Hl2 Hl13 from hxl15)⟩ (by simp only; omega)
  ·
   rw [Bool.not_eq_true] at hc17; refine aw_condF hc17 rfl ?_
   try show aw _ _ _ _ _ _
   have hc17 := of_decide_eq_false hc17
   refine aw_exit ?_
   try show aw _ _ _ _ _ _
   refine aw_reg ?_
   refine st_op (ev_int64 (c := (i : Int) + 1) rfl rfl rfl (by omega) (by omega)) rfl rfl rfl ?_
   refine st_op (ev_move rfl) rfl rfl rfl ?_
   try show aw _ _ _ _ _ _
   have hx22 : Ext H Hl13 := (Ext.trans hxl4 hxl15)
   refine aw_keep [5, 10, 11, 12] (l' := (.cons 5 (.int .u32 y) (.cons 10 (.slice bA b.length bc) (.cons 11 (.int .i64 (b.length : Int)) (.cons 12 (.int .i64 ((i : Int) + 1)) .nil))))) (by repeat (first | exact Up.done | refine Up.then ?_ | refine Up.inBlock ?_)) rfl ?_
   exact ih5 (i + 1, y, Hl13) ⟨(show (i + 1) ≤ b.length from (by omega)), (show Spec.crcRun (4294967295 - s.toNat) b = Spec.crcRun y.toNat (b.drop (i + 1)) from (by rw [hx, drop_at hx11, Spec.crc_more (by omega) x10b, hy, show 8 - j = 0 by omega]; rfl)), (show 0 ≤ y ∧ y ≤ 4294967295 from ⟨by omega, by omega⟩), (show Ext H Hl13 from hx22)⟩ (by simp only; omega)
 ·
  rw [Bool.not_eq_true] at hc6; refine aw_condF hc6 rfl ?_
  try show aw _ _ _ _ _ _
  have hc6 := of_decide_eq_false hc6
  refine aw_exit ?_
  try show aw _ _ _ _ _ _
  refine aw_seq ?_
  refine aw_reg ?_
  refine st_op (ev_move rfl) rfl rfl rfl ?_
  have hw23 : 0 ≤ (Go.bits .xor .u32 (IntKind.max .u32) x) ∧ (Go.bits .xor .u32 (IntKind.max .u32) x) ≤ 4294967295 := bitsU32 _ _ _
  refine st_op (ev_comU rfl rfl) rfl rfl rfl ?_
  refine st_op (ev_assign rfl) rfl rfl rfl ?_
  try show aw _ _ _ _ _ _
  refine aw_ret ?_
  have hres : ((Spec.crcMore s.toNat b : Nat) : Int) = (Go.bits .xor .u32 (IntKind.max .u32) x) := by exact Spec.crc_fin hs (by omega) (by rw [hx, List.drop_eq_nil_of_le (by omega)]; rfl)
  exact ⟨.int .u32 (Go.bits .xor .u32 (IntKind.max .u32) x), rfl, by first | (rw [hres]; done) | rw [← hres], (by exact ⟨by omega, by have := Spec.crcMore_lt s.toNat b; omega⟩), hxl4⟩
theorem crc_Sum_spec (H : Heap) (bA : Option Addr) (b : List Int) (bc : Nat) (hb : Row H bA bc 1 (b.map u8c)) (cb : b.length ≤ bc) (lb : b.length ≤ 1099511627776) (bb : Spec.Bytes b) : ∃ v H', Spec Try.prog 97 [.slice bA b.length bc] H v H' ∧ ((v = .int .u32 ((Spec.crcMore 0 b : Nat) : Int)) ∧ (0 ≤ ((Spec.crcMore 0 b : Nat) : Int) ∧ ((Spec.crcMore 0 b : Nat) : Int) ≤ 4294967295) ∧ (Ext H H')) := by
 refine spec_go1 E0_ok 5 (f := 97) Try.func97 rfl rfl rfl ?_
 refine aw_seq ?_
 refine aw_reg ?_
 refine st_op (ev_assign rfl) rfl rfl rfl ?_
 try show aw _ _ _ _ _ _
 refine aw_seq ?_
 refine aw_reg ?_
 refine st_op (ev_move rfl) rfl rfl rfl ?_
 refine st_call rfl rfl rfl ent96 rfl rfl rfl ?_
 obtain ⟨_, H2, hs1, hs1v, hq4, hx3⟩ := crc_More_spec H 0 (by decide) bA b bc hb cb (by omega) (by assumption)
 rw [hs1v] at hs1; clear hs1v
 refine ⟨_, H2, hs1, ?_⟩
 have H2n : H.next ≤ H2.next := hx3.1
 refine st_op (ev_assign rfl) rfl rfl rfl ?_
 try show aw _ _ _ _ _ _
 refine aw_ret ?_
 have hres : ((Spec.crcMore 0 b : Nat) : Int) = ((Spec.crcMore (0 : Int).toNat b : Nat) : Int) := by rfl
 exact ⟨.int .u32 ((Spec.crcMore (0 : Int).toNat b : Nat) : Int), rfl, by first | (rw [hres]; done) | rw [← hres], (by exact ⟨by omega, by have := Spec.crcMore_lt 0 b; omega⟩), hx3⟩
theorem num_Four_spec (H : Heap) (s : Int) (hs : 0 ≤ s ∧ s ≤ 4294967295) : ∃ v H', Spec Try.prog 98 [.int .u32 s] H v H' ∧ (∃ rA0 rc0, (v = .slice rA0 ((Spec.four s.toNat).length) rc0) ∧ (My H H' rA0 rc0 1 ((Spec.four s.toNat).map u8c)) ∧ (((Spec.four s.toNat)).length = 4) ∧ (Ext H H')) := by
 refine spec_go1 E0_ok 15 (f := 98) Try.func98 rfl rfl rfl ?_
 refine aw_seq ?_
 refine aw_reg ?_
 refine st_op (ev_assign rfl) rfl rfl rfl ?_
 try show aw _ _ _ _ _ _
 refine aw_seq ?_
 refine aw_reg ?_
 refine st_op (ev_move rfl) rfl rfl rfl ?_
 refine st_op (ev_shr (a := s) (c := 16777216) rfl rfl (by decide) (by decide)) rfl rfl rfl ?_
 refine st_op (ev_convI Try.underlying125 Try.underlying5 rfl (wrU8 (by omega) (by omega))) rfl rfl rfl ?_
 refine st_op (ev_move rfl) rfl rfl rfl ?_
 refine st_op (ev_shr (a := s) (c := 65536) rfl rfl (by decide) (by decide)) rfl rfl rfl ?_
 have hw1 : 0 ≤ (IntKind.u8.wrap (s / 65536)) ∧ (IntKind.u8.wrap (s / 65536)) ≤ 255 := wrapU8 _
 refine st_op (ev_convInt Try.underlying125 Try.underlying5 rfl) rfl rfl rfl ?_
 refine st_op (ev_move rfl) rfl rfl rfl ?_
 refine st_op (ev_shr (a := s) (c := 256) rfl rfl (by decide) (by decide)) rfl rfl rfl ?_
 have hw2 : 0 ≤ (IntKind.u8.wrap (s / 256)) ∧ (IntKind.u8.wrap (s / 256)) ≤ 255 := wrapU8 _
 refine st_op (ev_convInt Try.underlying125 Try.underlying5 rfl) rfl rfl rfl ?_
 refine st_op (ev_move rfl) rfl rfl rfl ?_
 have hw3 : 0 ≤ (IntKind.u8.wrap s) ∧ (IntKind.u8.wrap s) ≤ 255 := wrapU8 _
 refine st_op (ev_convInt Try.underlying125 Try.underlying5 rfl) rfl rfl rfl ?_
 obtain ⟨b4, H5, he6, b4e, H5n_, hm8, f7⟩ := mem_lit H (xs := ([.int .u8 (s / 16777216), .int .u8 (IntKind.u8.wrap (s / 65536)), .int .u8 (IntKind.u8.wrap (s / 256)), .int .u8 (IntKind.u8.wrap s)] : List Value)) (m := 4) (rows := [[.int .u8 (s / 16777216)], [.int .u8 (IntKind.u8.wrap (s / 65536))], [.int .u8 (IntKind.u8.wrap (s / 256))], [.int .u8 (IntKind.u8.wrap s)]]) rfl eok74 (by decide) (by decide) zf5 rfl (allLen rfl) rfl
 replace hm8 : My H H5 (some ⟨b4, 0, none⟩) 4 1 ([(s / 16777216), (IntKind.u8.wrap (s / 65536)), (IntKind.u8.wrap (s / 256)), (IntKind.u8.wrap s)].map u8c) := hm8
 refine st_op (he6 _ _ _ _ _ _ _ _ rfl) rfl rfl rfl ?_
 have hx9 : Ext H H5 := Ext.new (by omega) H5n_ f7
 have H5n : H.next ≤ H5.next := hx9.1
 refine st_op (ev_assign rfl) rfl rfl rfl ?_
 try show aw _ _ _ _ _ _
 refine aw_ret ?_
 have hres : (Spec.four s.toNat) = [(s / 16777216), (IntKind.u8.wrap (s / 65536)), (IntKind.u8.wrap (s / 256)), (IntKind.u8.wrap s)] := by rw [← Spec.four_is, show ((s.toNat : Nat) : Int) = s from Int.toNat_of_nonneg hs.1, IntKind.wrap_u8, IntKind.wrap_u8, IntKind.wrap_u8, show s / 16777216 % 256 = s / 16777216 by omega]
 exact ⟨.slice (some ⟨b4, 0, none⟩) 4 4, rfl, (some ⟨b4, 0, none⟩), 4, by first | (rw [hres]; first | done | rfl | simp; done) | rfl, (by rw [hres]; exact hm8), (by rfl), hx9⟩
theorem frame_Seal_spec (H : Heap) (kind : Int) (hkind : -9223372036854775808 ≤ kind ∧ kind ≤ 9223372036854775807) (bA : Option Addr) (b : List Int) (bc : Nat) (hb : Row H bA bc 1 (b.map u8c)) (cb : b.length ≤ bc) (lb : b.length ≤ 1099511627776) (bb : Spec.Bytes b) : ∃ v H', Spec Try.prog 68 [.int .i64 kind, .slice bA b.length bc] H v H' ∧ (∃ rA0 rc0, (v = .slice rA0 ((Spec.sealF kind b).length) rc0) ∧ (My H H' rA0 rc0 1 ((Spec.sealF kind b).map u8c)) ∧ (((Spec.sealF kind b)).length ≤ 4007) ∧ (Spec.Bytes (Spec.sealF kind b)) ∧ (Ext H H')) := by
 refine spec_go2 E0_ok 34 (f := 68) Try.func68 rfl rfl rfl ?_
 refine aw_seq ?_
 refine aw_reg ?_
 refine st_op (ev_assign rfl) rfl rfl rfl ?_
 try show aw _ _ _ _ _ _
 iterate 2 refine aw_seq ?_
 refine aw_reg ?_
 refine st_op (ev_move rfl) rfl rfl rfl ?_
 refine st_op (ev_int rfl rfl rfl) rfl rfl rfl ?_
 refine st_op (ev_move rfl) rfl rfl rfl ?_
 refine st_bool 9 rfl (fun hb1 => ?_) (fun hb1 => ?_)
 ·
  have hb1 := of_decide_eq_true hb1
  iterate 2 refine st_skip rfl rfl rfl ?_
  refine st_op (ev_pickT rfl rfl) rfl rfl rfl ?_
  refine st_op (ev_move rfl) rfl rfl rfl ?_
  iterate 3 refine st_skip rfl rfl rfl ?_
  refine st_op (ev_pickT rfl rfl) rfl rfl rfl ?_
  try show aw _ _ _ _ _ _
  refine aw_cond (t := true) rfl ?_
  try show aw _ _ _ _ _ _
  refine aw_seq ?_
  refine aw_reg ?_
  refine st_op (ev_assign rfl) rfl rfl rfl ?_
  try show aw _ _ _ _ _ _
  refine aw_ret ?_
  have hm2 : My H H none 0 1 (([] : List Int).map u8c) := .nil
  have hres : (Spec.sealF kind b) = ([] : List Int) := by unfold Spec.sealF; rw [if_pos (by omega)]
  exact ⟨.slice none 0 0, rfl, none, 0, by first | (rw [hres]; first | done | rfl | simp; done) | rfl, (by rw [hres]; exact hm2), (by exact Spec.sealF_len), (by exact Spec.sealF_bytes bb), (Ext.refl H)⟩
 ·
  have hb1 := of_decide_eq_false hb1
  refine st_op (ev_move rfl) rfl rfl rfl ?_
  refine st_op (ev_int rfl rfl rfl) rfl rfl rfl ?_
  refine st_op (ev_pickF rfl rfl) rfl rfl rfl ?_
  refine st_op (ev_move rfl) rfl rfl rfl ?_
  refine st_bool 13 rfl (fun hb3 => ?_) (fun hb3 => ?_)
  ·
   have hb3 := of_decide_eq_true hb3
   iterate 3 refine st_skip rfl rfl rfl ?_
   refine st_op (ev_pickT rfl rfl) rfl rfl rfl ?_
   try show aw _ _ _ _ _ _
   refine aw_cond (t := true) rfl ?_
   try show aw _ _ _ _ _ _
   refine aw_seq ?_
   refine aw_reg ?_
   refine st_op (ev_assign rfl) rfl rfl rfl ?_
   try show aw _ _ _ _ _ _
   refine aw_ret ?_
   have hm4 : My H H none 0 1 (([] : List Int).map u8c) := .nil
   have hres : (Spec.sealF kind b) = ([] : List Int) := by unfold Spec.sealF; rw [if_pos (by omega)]
   exact ⟨.slice none 0 0, rfl, none, 0, by first | (rw [hres]; first | done | rfl | simp; done) | rfl, (by rw [hres]; exact hm4), (by exact Spec.sealF_len), (by exact Spec.sealF_bytes bb), (Ext.refl H)⟩
  ·
   have hb3 := of_decide_eq_false hb3
   refine st_op (ev_move rfl) rfl rfl rfl ?_
   refine st_op (ev_lenSl rfl Try.underlying74) rfl rfl rfl ?_
   refine st_op (ev_int rfl rfl rfl) rfl rfl rfl ?_
   refine st_op (ev_pickF rfl rfl) rfl rfl rfl ?_
   try show aw _ _ _ _ _ _
   by_cases hc5 : (decide ((b.length : Int) > 4000)) = true
   ·
    refine aw_condT hc5 rfl ?_
    try show aw _ _ _ _ _ _
    have hc5 := of_decide_eq_true hc5
    refine aw_seq ?_
    refine aw_reg ?_
    refine st_op (ev_assign rfl) rfl rfl rfl ?_
    try show aw _ _ _ _ _ _
    refine aw_ret ?_
    have hm6 : My H H none 0 1 (([] : List Int).map u8c) := .nil
    have hres : (Spec.sealF kind b) = ([] : List Int) := by unfold Spec.sealF; rw [if_pos (by omega)]
    exact ⟨.slice none 0 0, rfl, none, 0, by first | (rw [hres]; first | done | rfl | simp; done) | rfl, (by rw [hres]; exact hm6), (by exact Spec.sealF_len), (by exact Spec.sealF_bytes bb), (Ext.refl H)⟩
   ·
    rw [Bool.not_eq_true] at hc5; refine aw_condF hc5 rfl ?_
    try show aw _ _ _ _ _ _
    have hc5 := of_decide_eq_false hc5
    refine aw_skip ?_
    try show aw _ _ _ _ _ _
    refine aw_seq ?_
    refine aw_reg ?_
    refine st_op (ev_move rfl) rfl rfl rfl ?_
    refine st_op (ev_convI Try.underlying3 Try.underlying5 rfl (wrU8 (by omega) (by omega))) rfl rfl rfl ?_
    obtain ⟨b7, H8, he9, b7e, H8n_, hm11, f10⟩ := mem_lit H (xs := ([.int .u8 kind] : List Value)) (m := 1) (rows := [[.int .u8 kind]]) rfl eok74 (by decide) (by decide) zf5 rfl (allLen rfl) rfl
    replace hm11 : My H H8 (some ⟨b7, 0, none⟩) 1 1 ([kind].map u8c) := hm11
    refine st_op (he9 _ _ _ _ _ _ _ _ rfl) rfl rfl rfl ?_
    have hx12 : Ext H H8 := Ext.new (by omega) H8n_ f10
    have H8n : H.next ≤ H8.next := hx12.1
    refine st_op (ev_move rfl) rfl rfl rfl ?_
    refine st_op (ev_lenSl rfl Try.underlying74) rfl rfl rfl ?_
    refine st_call rfl rfl rfl ent69 rfl rfl rfl ?_
    obtain ⟨_, H14, hs13, A16, c17, hs13v, hm18, hq19, hx15⟩ := num_Put_spec H8 H (some ⟨b7, 0, none⟩) ([kind]) 1 hm11 (by omega) (by first | omega | (simp only [List.length_append, List.length_cons, List.length_nil, List.length_map, List.length_set, List.length_replicate, Spec.bytesOf_length]; omega) | (simp; omega)) (b.length : Int) ⟨by omega, by omega⟩
    rw [hs13v] at hs13; clear hs13v
    refine ⟨_, H14, hs13, ?_⟩
    have H14n : H8.next ≤ H14.next := hx15.1
    refine st_op (ev_assign rfl) rfl rfl rfl ?_
    try show aw _ _ _ _ _ _
    refine aw_seq ?_
    refine aw_reg ?_
    refine st_op (ev_move rfl) rfl rfl rfl ?_
    refine st_call rfl rfl rfl ent97 rfl rfl rfl ?_
    obtain ⟨_, H21, hs20, hs20v, hq23, hx22⟩ := crc_Sum_spec H14 A16 (([kind]) ++ Spec.enc (Spec.zig (b.length : Int))) c17 (My.row hm18) (My.capF hm18 (by first | omega | (simp only [List.length_append, List.length_cons, List.length_nil, List.length_map, List.length_set, List.length_replicate, Spec.bytesOf_length]; omega) | (simp; omega))) (by first | omega | (simp only [List.length_append, List.length_cons, List.length_nil, List.length_map, List.length_set, List.length_replicate, Spec.bytesOf_length]; omega) | (simp; omega)) (by first | assumption | exact Spec.Bytes.nil | exact Spec.bytes_of _ | (repeat' first | assumption | exact Spec.Bytes.nil | exact Spec.bytes_of _ | exact Spec.enc_bytes _ | exact Spec.four_bytes _ | exact Spec.sealF_bytes (by assumption) | apply Spec.Bytes.append | apply Spec.Bytes.cons (by omega) | apply Spec.Bytes.take | apply Spec.Bytes.drop))
    rw [hs20v] at hs20; clear hs20v
    refine ⟨_, H21, hs20, ?_⟩
    have H21n : H14.next ≤ H21.next := hx22.1
    refine st_op (ev_move rfl) rfl rfl rfl ?_
    refine st_call rfl rfl rfl ent96 rfl rfl rfl ?_
    have hx25 : Ext H H21 := (Ext.trans (Ext.then hx12 hx15 (fun q hq e => by omega)) hx22)
    have h24 := Row.ext hb hx25
    obtain ⟨_, H27, hs26, hs26v, hq29, hx28⟩ := crc_More_spec H21 ((Spec.crcMore 0 (([kind]) ++ Spec.enc (Spec.zig (b.length : Int))) : Nat) : Int) ⟨by omega, by omega⟩ bA b bc h24 cb (by first | omega | (simp only [List.length_append, List.length_cons, List.length_nil, List.length_map, List.length_set, List.length_replicate, Spec.bytesOf_length]; omega) | (simp; omega)) (by assumption)
    rw [hs26v] at hs26; clear hs26v
    refine ⟨_, H27, hs26, ?_⟩
    have H27n : H21.next ≤ H27.next := hx28.1
    refine st_op (ev_assign rfl) rfl rfl rfl ?_
    try show aw _ _ _ _ _ _
    refine aw_seq ?_
    refine aw_reg ?_
    iterate 2 refine st_op (ev_move rfl) rfl rfl rfl ?_
    refine st_call rfl rfl rfl ent98 rfl rfl rfl ?_
    obtain ⟨_, H31, hs30, A33, c34, hs30v, hm35, hq36, hx32⟩ := num_Four_spec H27 ((Spec.crcMore ((Spec.crcMore 0 (([kind]) ++ Spec.enc (Spec.zig (b.length : Int))) : Nat) : Int).toNat b : Nat) : Int) ⟨by omega, by omega⟩
    rw [hs30v] at hs30; clear hs30v
    refine ⟨_, H31, hs30, ?_⟩
    have H31n : H27.next ≤ H31.next := hx32.1
    have hx38 : Ext H14 H31 := (Ext.trans (Ext.trans hx22 hx28) hx32)
    have h37 := My.ext hm18 hx38
    obtain ⟨A39, c40, H41, W42, he43, hm44, hf45⟩ := mem_append (f := u8c) (old := (([kind]) ++ Spec.enc (Spec.zig (b.length : Int)))) (new := (Spec.four ((Spec.crcMore ((Spec.crcMore 0 (([kind]) ++ Spec.enc (Spec.zig (b.length : Int))) : Nat) : Int).toNat b : Nat) : Int).toNat)) (m := (([kind]) ++ Spec.enc (Spec.zig (b.length : Int))).length) (mx := (Spec.four ((Spec.crcMore ((Spec.crcMore 0 (([kind]) ++ Spec.enc (Spec.zig (b.length : Int))) : Nat) : Int).toNat b : Nat) : Int).toNat).length) (c := c17) (by first | rfl | simp) (by first | rfl | simp) eok74 (by decide) hm18 h37 (by omega) (((My.row hm35)).srcF (by decide) (by first | rfl | simp)) rfl u8c_len u8c_one (by first | omega | (simp only [List.length_append, List.length_cons, List.length_nil, List.length_map, List.length_set, List.length_replicate, Spec.bytesOf_length]; omega) | (simp; omega)) (by first | omega | (simp only [List.length_append, List.length_cons, List.length_nil, List.length_map, List.length_set, List.length_replicate, Spec.bytesOf_length]; omega) | (simp; omega))
    refine st_op (he43 _ _ _ _ _ _ _ _ _ _ rfl rfl isrow74) rfl rfl rfl ?_
    have H41n : H31.next ≤ H41.next := hf45.1
    refine st_op (ev_move rfl) rfl rfl rfl ?_
    have hx47 : Ext H H41 := (Ext.then (Ext.trans (Ext.trans hx25 hx28) hx32) hf45 (fun q hq e => by omega))
    have h46 := Row.ext hb hx47
    obtain ⟨A48, c49, H50, W51, he52, hm53, hf54⟩ := mem_append (f := u8c) (old := ((([kind]) ++ Spec.enc (Spec.zig (b.length : Int))) ++ (Spec.four ((Spec.crcMore ((Spec.crcMore 0 (([kind]) ++ Spec.enc (Spec.zig (b.length : Int))) : Nat) : Int).toNat b : Nat) : Int).toNat))) (new := b) (m := ((([kind]) ++ Spec.enc (Spec.zig (b.length : Int))) ++ (Spec.four ((Spec.crcMore ((Spec.crcMore 0 (([kind]) ++ Spec.enc (Spec.zig (b.length : Int))) : Nat) : Int).toNat b : Nat) : Int).toNat)).length) (mx := b.length) (c := c40) (by first | rfl | simp) (by first | rfl | simp) eok74 (by decide) hm44 hm44 (by omega) ((h46).srcF (by decide) (by first | rfl | simp)) rfl u8c_len u8c_one (by first | omega | (simp only [List.length_append, List.length_cons, List.length_nil, List.length_map, List.length_set, List.length_replicate, Spec.bytesOf_length]; omega) | (simp; omega)) (by first | omega | (simp only [List.length_append, List.length_cons, List.length_nil, List.length_map, List.length_set, List.length_replicate, Spec.bytesOf_length]; omega) | (simp; omega))
    refine st_op (he52 _ _ _ _ _ _ _ _ _ _ rfl rfl isrow74) rfl rfl rfl ?_
    have H50n : H41.next ≤ H50.next := hf54.1
    refine st_op (ev_assign rfl) rfl rfl rfl ?_
    try show aw _ _ _ _ _ _
    refine aw_ret ?_
    have hx55 : Ext H H50 := (Ext.then hx47 hf54 (fun q hq e => by omega))
    have hres : (Spec.sealF kind b) = (((([kind]) ++ Spec.enc (Spec.zig (b.length : Int))) ++ (Spec.four ((Spec.crcMore ((Spec.crcMore 0 (([kind]) ++ Spec.enc (Spec.zig (b.length : Int))) : Nat) : Int).toNat b : Nat) : Int).toNat)) ++ b) := by unfold Spec.sealF; rw [if_neg (by omega)]; exact (Spec.seal_is (by omega)).symm
    exact ⟨.slice A48 ((((([kind]) ++ Spec.enc (Spec.zig (b.length : Int))) ++ (Spec.four ((Spec.crcMore ((Spec.crcMore 0 (([kind]) ++ Spec.enc (Spec.zig (b.length : Int))) : Nat) : Int).toNat b : Nat) : Int).toNat)) ++ b).length) c49, rfl, A48, c49, by first | (rw [hres]; first | done | rfl | simp; done) | rfl, (by rw [hres]; exact hm53), (by exact Spec.sealF_len), (by exact Spec.sealF_bytes bb), hx55⟩
theorem wal_PutSnap_spec (H : Heap) (s_index : Int) (s_term : Int) (s_conf : ByteArray) (s_data : ByteArray) : ∃ v H', Spec Try.prog 76 [.agg #[.int .i64 s_index, .int .i64 s_term, .string s_conf, .string s_data]] H v H' ∧ (∃ rA0 rc0, (v = .slice rA0 ((Spec.snapF s_index s_term s_conf s_data).length) rc0) ∧ (My H H' rA0 rc0 1 ((Spec.snapF s_index s_term s_conf s_data).map u8c)) ∧ (Spec.Bytes (Spec.snapF s_index s_term s_conf s_data)) ∧ (((Spec.snapF s_index s_term s_conf s_data)).length ≤ 1700000) ∧ (rA0 = none ↔ Spec.mayS s_index s_term s_conf s_data = false) ∧ (Ext H H')) := by
 refine spec_go1 E0_ok 43 (f := 76) Try.func76 rfl rfl rfl ?_
 refine aw_seq ?_
 refine aw_reg ?_
 obtain ⟨b1, H2, he3, b1e, H2n_, hB5, f4⟩ := mem_box (P := Try.prog) H (v := .agg #[.int .i64 s_index, .int .i64 s_term, .string s_conf, .string s_data]) (cs := [.int .i64 s_index, .int .i64 s_term, .string s_conf, .string s_data]) rfl rfl
 refine st_op (he3 _ _ _ _ _ _ _ _ _ rfl) rfl rfl rfl ?_
 have hx6 : Ext H H2 := Ext.new (by omega) H2n_ f4
 have H2n : H.next ≤ H2.next := hx6.1
 refine st_op (ev_assign rfl) rfl rfl rfl ?_
 try show aw _ _ _ _ _ _
 iterate 2 refine aw_seq ?_
 refine aw_reg ?_
 refine st_op (ev_load rfl (lvar_part (l := [.int .i64 s_index, .int .i64 s_term, .string s_conf, .string s_data]) many44 hB5 rfl rfl (by decide))) rfl rfl rfl ?_
 refine st_call rfl rfl rfl ent105 rfl rfl rfl ?_
 obtain ⟨_, H8, hs7, hs7v, hx9⟩ := wal_may_spec H2 s_index s_term s_conf s_data
 rw [hs7v] at hs7; clear hs7v
 refine ⟨_, H8, hs7, ?_⟩
 have H8n : H2.next ≤ H8.next := hx9.1
 refine st_op (ev_not rfl) rfl rfl rfl ?_
 try show aw _ _ _ _ _ _
 by_cases hc10 : (!(Spec.mayS s_index s_term s_conf s_data)) = true
 ·
  refine aw_condT hc10 rfl ?_
  try show aw _ _ _ _ _ _
  replace hc10 : (Spec.mayS s_index s_term s_conf s_data) = false := by rw [Bool.not_eq_true'] at hc10; exact hc10
  refine aw_seq ?_
  refine aw_reg ?_
  refine st_op (ev_assign rfl) rfl rfl rfl ?_
  try show aw _ _ _ _ _ _
  refine aw_ret ?_
  have hm11 : My H8 H8 none 0 1 (([] : List Int).map u8c) := .nil
  have hx12 : Ext H H8 := (Ext.trans hx6 hx9)
  have hres : (Spec.snapF s_index s_term s_conf s_data) = ([] : List Int) := by unfold Spec.snapF; rw [if_neg (by simp_all)]
  exact ⟨.slice none 0 0, rfl, none, 0, by first | (rw [hres]; first | done | rfl | simp; done) | rfl, (by rw [hres]; exact (My.older hm11 (by omega))), (by exact Spec.snapF_bytes _ _ _ _), (by exact Spec.snapF_len _ _ _ _), (by exact ⟨fun _ => by simp_all, fun _ => rfl⟩), hx12⟩
 ·
  rw [Bool.not_eq_true] at hc10; refine aw_condF hc10 rfl ?_
  try show aw _ _ _ _ _ _
  replace hc10 : (Spec.mayS s_index s_term s_conf s_data) = true := by rw [Bool.not_eq_false'] at hc10; exact hc10
  have hc10m := Spec.mayS_says hc10
  refine aw_skip ?_
  try show aw _ _ _ _ _ _
  refine aw_seq ?_
  refine aw_marks (fun b => b < H8.next) [(false, false), (false, false), (false, true), (false, false), (true, false), (false, true), (false, false), (true, false), (false, false), (false, false)] mixed (by kernel_rfl) (by kernel_rfl) ?_
  refine sm_op (ev_fieldAddr rfl fa44_0 (o' := 0) rfl) rfl rfl rfl ?_
  have h13 := Ext.blk hx9 (by omega) hB5
  refine sm_op (ev_load rfl (lvar_one one2 h13 rfl)) rfl rfl rfl ?_
  refine sm_call rfl rfl rfl ent69 rfl rfl rfl ?_
  have hm14 : My H8 H8 none 0 1 (([] : List Int).map u8c) := .nil
  obtain ⟨_, H16, hs15, A18, c19, hs15v, hm20, hq21, hx17⟩ := num_Put_spec H8 H8 none ([] : List Int) 0 hm14 (by omega) (by first | omega | (simp only [List.length_append, List.length_cons, List.length_nil, List.length_map, List.length_set, List.length_replicate, Spec.bytesOf_length]; omega) | (simp; omega)) s_index ⟨by omega, by omega⟩
  rw [hs15v] at hs15; clear hs15v
  refine ⟨_, H16, hs15, (fun _ b hb => hx17.2 b (by omega) (fun e => by omega)), ?_⟩
  have H16n : H8.next ≤ H16.next := hx17.1
  refine sm_op (ev_fieldAddr rfl fa44_1 (o' := 1) rfl) rfl rfl rfl ?_
  have hx23 : Ext H8 H16 := (Ext.then (Ext.refl H8) hx17 (fun q hq e => by omega))
  have h22 := Ext.blk hx23 (by omega) h13
  refine sm_read (ev_load rfl (lvar_one one2 h22 rfl)) rfl rfl rfl (fun b hb => by cases hb; dsimp only <;> omega) ?_
  refine sm_call rfl rfl rfl ent69 rfl rfl rfl ?_
  obtain ⟨_, H25, hs24, A27, c28, hs24v, hm29, hq30, hx26⟩ := num_Put_spec H16 H8 A18 (([] : List Int) ++ Spec.enc (Spec.zig s_index)) c19 hm20 (by omega) (by first | omega | (simp only [List.length_append, List.length_cons, List.length_nil, List.length_map, List.length_set, List.length_replicate, Spec.bytesOf_length]; omega) | (simp; omega)) s_term ⟨by omega, by omega⟩
  rw [hs24v] at hs24; clear hs24v
  refine ⟨_, H25, hs24, (fun _ b hb => hx26.2 b (by omega) (fun e => by omega)), ?_⟩
  have H25n : H16.next ≤ H25.next := hx26.1
  refine sm_op (ev_fieldAddr rfl fa44_2 (o' := 2) rfl) rfl rfl rfl ?_
  have hx32 : Ext H8 H25 := (Ext.then hx23 hx26 (fun q hq e => by omega))
  have h31 := Ext.blk hx32 (by omega) h13
  refine sm_read (ev_load rfl (lvar_one one9 h31 rfl)) rfl rfl rfl (fun b hb => by cases hb; dsimp only <;> omega) ?_
  refine sm_call rfl rfl rfl ent106 rfl rfl rfl ?_
  obtain ⟨_, H34, hs33, A36, c37, hs33v, hm38, hq39, hx35⟩ := num_PutText_spec H25 H8 A27 ((([] : List Int) ++ Spec.enc (Spec.zig s_index)) ++ Spec.enc (Spec.zig s_term)) c28 hm29 (by omega) (by first | omega | (simp only [List.length_append, List.length_cons, List.length_nil, List.length_map, List.length_set, List.length_replicate, Spec.bytesOf_length]; omega) | (simp; omega)) s_conf (by omega)
  rw [hs33v] at hs33; clear hs33v
  refine ⟨_, H34, hs33, (fun _ b hb => hx35.2 b (by omega) (fun e => by omega)), ?_⟩
  have H34n : H25.next ≤ H34.next := hx35.1
  refine sm_op (ev_assign rfl) rfl rfl rfl ?_
  try show aw _ _ _ _ _ _
  refine aw_seq ?_
  refine aw_reg ?_
  refine st_op (ev_move rfl) rfl rfl rfl ?_
  refine st_op (ev_fieldAddr rfl fa44_3 (o' := 3) rfl) rfl rfl rfl ?_
  have hx41 : Ext H8 H34 := (Ext.then hx32 hx35 (fun q hq e => by omega))
  have h40 := Ext.blk hx41 (by omega) h13
  refine st_op (ev_load rfl (lvar_one one9 h40 rfl)) rfl rfl rfl ?_
  refine st_op (ev_lenStr rfl Try.underlying9) rfl rfl rfl ?_
  refine st_call rfl rfl rfl ent69 rfl rfl rfl ?_
  obtain ⟨_, H43, hs42, A45, c46, hs42v, hm47, hq48, hx44⟩ := num_Put_spec H34 H8 A36 (((([] : List Int) ++ Spec.enc (Spec.zig s_index)) ++ Spec.enc (Spec.zig s_term)) ++ Spec.enc (Spec.zig (s_conf.size : Int)) ++ Spec.bytesOf s_conf) c37 hm38 (by omega) (by first | omega | (simp only [List.length_append, List.length_cons, List.length_nil, List.length_map, List.length_set, List.length_replicate, Spec.bytesOf_length]; omega) | (simp; omega)) ((s_data).size : Int) ⟨by omega, by omega⟩
  rw [hs42v] at hs42; clear hs42v
  refine ⟨_, H43, hs42, ?_⟩
  have H43n : H34.next ≤ H43.next := hx44.1
  refine st_call rfl rfl rfl ent68 rfl rfl rfl ?_
  obtain ⟨_, H50, hs49, A52, c53, hs49v, hm54, hq55, hq56, hx51⟩ := frame_Seal_spec H43 3 (by decide) A45 ((((([] : List Int) ++ Spec.enc (Spec.zig s_index)) ++ Spec.enc (Spec.zig s_term)) ++ Spec.enc (Spec.zig (s_conf.size : Int)) ++ Spec.bytesOf s_conf) ++ Spec.enc (Spec.zig ((s_data).size : Int))) c46 (My.row hm47) (My.capF hm47 (by first | omega | (simp only [List.length_append, List.length_cons, List.length_nil, List.length_map, List.length_set, List.length_replicate, Spec.bytesOf_length]; omega) | (simp; omega))) (by first | omega | (simp only [List.length_append, List.length_cons, List.length_nil, List.length_map, List.length_set, List.length_replicate, Spec.bytesOf_length]; omega) | (simp; omega)) (by first | assumption | exact Spec.Bytes.nil | exact Spec.bytes_of _ | (repeat' first | assumption | exact Spec.Bytes.nil | exact Spec.bytes_of _ | exact Spec.enc_bytes _ | exact Spec.four_bytes _ | exact Spec.sealF_bytes (by assumption) | apply Spec.Bytes.append | apply Spec.Bytes.cons (by omega) | apply Spec.Bytes.take | apply Spec.Bytes.drop))
  rw [hs49v] at hs49; clear hs49v
  refine ⟨_, H50, hs49, ?_⟩
  have H50n : H43.next ≤ H50.next := hx51.1
  refine st_op (ev_assign rfl) rfl rfl rfl ?_
  try show aw _ _ _ _ _ _
  iterate 2 refine aw_seq ?_
  refine aw_reg ?_
  refine st_op (ev_fieldAddr rfl fa44_3 (o' := 3) rfl) rfl rfl rfl ?_
  have hx58 : Ext H8 H50 := (Ext.trans (Ext.then hx41 hx44 (fun q hq e => by omega)) hx51)
  have h57 := Ext.blk hx58 (by omega) h13
  refine st_op (ev_load rfl (lvar_one one9 h57 rfl)) rfl rfl rfl ?_
  refine st_op (ev_assign rfl) rfl rfl rfl ?_
  try show aw _ _ _ _ _ _
  refine aw_block ?_
  refine aw_keep [4, 5] (l' := (.cons 4 (.slice A52 ((Spec.sealF (3 : Int) ((((([] : List Int) ++ Spec.enc (Spec.zig s_index)) ++ Spec.enc (Spec.zig s_term)) ++ Spec.enc (Spec.zig (s_conf.size : Int)) ++ Spec.bytesOf s_conf) ++ Spec.enc (Spec.zig ((s_data).size : Int)))).length) c53) (.cons 5 (.string s_data) .nil))) (by repeat (first | exact Up.done | refine Up.then ?_ | refine Up.inBlock ?_)) rfl ?_
  refine aw_iter (α := ByteArray × Option Addr × Nat × List Int × Heap) (fun a => a.1.size) (fun a => (.cons 4 (.slice a.2.1 a.2.2.2.1.length a.2.2.1) (.cons 5 (.string a.1) .nil))) (fun a => a.2.2.2.2) (fun a => ((Spec.sealF (3 : Int) ((((([] : List Int) ++ Spec.enc (Spec.zig s_index)) ++ Spec.enc (Spec.zig s_term)) ++ Spec.enc (Spec.zig (s_conf.size : Int)) ++ Spec.bytesOf s_conf) ++ Spec.enc (Spec.zig ((s_data).size : Int)))) ++ Spec.partsF (Spec.bytesOf s_data) = a.2.2.2.1 ++ Spec.partsF (Spec.bytesOf a.1)) ∧ (a.1.size ≤ 200000) ∧ (a.2.2.2.1.length + 10000 * a.1.size ≤ 4100000000) ∧ (My H43 a.2.2.2.2 a.2.1 a.2.2.1 1 (a.2.2.2.1.map u8c)) ∧ (Fr (fun q => (H43.next ≤ q ∧ q < H50.next ∧ ZB H50 q 1)) H50 a.2.2.2.2)) (s_data, A52, c53, (Spec.sealF (3 : Int) ((((([] : List Int) ++ Spec.enc (Spec.zig s_index)) ++ Spec.enc (Spec.zig s_term)) ++ Spec.enc (Spec.zig (s_conf.size : Int)) ++ Spec.bytesOf s_conf) ++ Spec.enc (Spec.zig ((s_data).size : Int)))), H50) ⟨(show (Spec.sealF (3 : Int) ((((([] : List Int) ++ Spec.enc (Spec.zig s_index)) ++ Spec.enc (Spec.zig s_term)) ++ Spec.enc (Spec.zig (s_conf.size : Int)) ++ Spec.bytesOf s_conf) ++ Spec.enc (Spec.zig ((s_data).size : Int)))) ++ Spec.partsF (Spec.bytesOf s_data) = (Spec.sealF (3 : Int) ((((([] : List Int) ++ Spec.enc (Spec.zig s_index)) ++ Spec.enc (Spec.zig s_term)) ++ Spec.enc (Spec.zig (s_conf.size : Int)) ++ Spec.bytesOf s_conf) ++ Spec.enc (Spec.zig ((s_data).size : Int)))) ++ Spec.partsF (Spec.bytesOf s_data) from rfl), (show s_data.size ≤ 200000 from (by omega)), (show (Spec.sealF (3 : Int) ((((([] : List Int) ++ Spec.enc (Spec.zig s_index)) ++ Spec.enc (Spec.zig s_term)) ++ Spec.enc (Spec.zig (s_conf.size : Int)) ++ Spec.bytesOf s_conf) ++ Spec.enc (Spec.zig ((s_data).size : Int)))).length + 10000 * s_data.size ≤ 4100000000 from (by have : (Spec.sealF (3 : Int) ((((([] : List Int) ++ Spec.enc (Spec.zig s_index)) ++ Spec.enc (Spec.zig s_term)) ++ Spec.enc (Spec.zig (s_conf.size : Int)) ++ Spec.bytesOf s_conf) ++ Spec.enc (Spec.zig ((s_data).size : Int)))).length ≤ 4007 := Spec.sealF_len; omega)), (show My H43 H50 A52 c53 1 ((Spec.sealF (3 : Int) ((((([] : List Int) ++ Spec.enc (Spec.zig s_index)) ++ Spec.enc (Spec.zig s_term)) ++ Spec.enc (Spec.zig (s_conf.size : Int)) ++ Spec.bytesOf s_conf) ++ Spec.enc (Spec.zig ((s_data).size : Int)))).map u8c) from hm54), (show Fr (fun q => (H43.next ≤ q ∧ q < H50.next ∧ ZB H50 q 1)) H50 H50 from (Fr.refl _ H50))⟩ ?_
  rintro ⟨rest, A, cp, out, Hl59⟩ ⟨hS, hsz, hL, hm60, hxl61⟩ ih62
  replace hS : (Spec.sealF (3 : Int) ((((([] : List Int) ++ Spec.enc (Spec.zig s_index)) ++ Spec.enc (Spec.zig s_term)) ++ Spec.enc (Spec.zig (s_conf.size : Int)) ++ Spec.bytesOf s_conf) ++ Spec.enc (Spec.zig ((s_data).size : Int)))) ++ Spec.partsF (Spec.bytesOf s_data) = out ++ Spec.partsF (Spec.bytesOf rest) := hS
  replace hsz : rest.size ≤ 200000 := hsz
  replace hL : out.length + 10000 * rest.size ≤ 4100000000 := hL
  replace hm60 : My H43 Hl59 A cp 1 (out.map u8c) := hm60
  replace hxl61 : Fr (fun q => (H43.next ≤ q ∧ q < H50.next ∧ ZB H50 q 1)) H50 Hl59 := hxl61
  show aw _ _ _ (RL _ (.cons 4 (.slice A out.length cp) (.cons 5 (.string rest) .nil))) Hl59 _
  have Hl59n : H50.next ≤ Hl59.next := hxl61.1
  iterate 2 refine aw_seq ?_
  refine aw_reg ?_
  refine st_op (ev_move rfl) rfl rfl rfl ?_
  refine st_op (ev_str rfl rfl rfl) rfl rfl rfl ?_
  try show aw _ _ _ _ _ _
  by_cases hc63 : (!((rest).toList == (⟨#[]⟩ : ByteArray).toList)) = true
  ·
   refine aw_condT hc63 rfl ?_
   try show aw _ _ _ _ _ _
   replace hc63 : ((rest).toList == (⟨#[]⟩ : ByteArray).toList) = false := by rw [Bool.not_eq_true'] at hc63; exact hc63
   have hc63 := ne_of_beq_false hc63
   refine aw_skip ?_
   try show aw _ _ _ _ _ _
   refine aw_block ?_
   refine aw_seq ?_
   refine aw_reg ?_
   refine st_op (ev_move rfl) rfl rfl rfl ?_
   refine st_op (ev_lenStr rfl Try.underlying9) rfl rfl rfl ?_
   obtain ⟨z64, hz65, hz66⟩ : ∃ z, (if 3000 < ((rest).size : Int) then 3000 else ((rest).size : Int)) = z ∧ (((rest).size : Int) ≥ z ∧ 3000 ≥ z ∧ (z = ((rest).size : Int) ∨ z = 3000)) := ⟨_, rfl, by split <;> omega⟩
   refine st_op (ev_minE hz65 rfl rfl) rfl rfl rfl ?_
   have hP := Spec.parts_next (s := rest) (z := z64) (by assumption) hz65.symm
   refine st_op (ev_assign rfl) rfl rfl rfl ?_
   try show aw _ _ _ _ _ _
   refine aw_seq ?_
   refine aw_reg ?_
   iterate 3 refine st_op (ev_move rfl) rfl rfl rfl ?_
   refine st_op (ev_slStr Try.underlying9 rfl rfl rfl (bound_int (by omega) (by omega) rfl) rfl) rfl rfl rfl ?_
   obtain ⟨A67, c68, H69, he70, hm71, hx72⟩ := mem_bytes Hl59 ((rest).extract 0 ((z64).toNat)) slu8_74 isstr_9 (by omega)
   refine st_op (he70 _ _ _ _ _ _ _ _ rfl) rfl rfl rfl ?_
   have H69n : Hl59.next ≤ H69.next := hx72.1
   refine st_call rfl rfl rfl ent68 rfl rfl rfl ?_
   obtain ⟨_, H74, hs73, A76, c77, hs73v, hm78, hq79, hq80, hx75⟩ := frame_Seal_spec H69 4 (by decide) A67 (Spec.bytesOf ((rest).extract 0 ((z64).toNat))) c68 (My.row hm71) (My.capF hm71 (by first | omega | (simp only [List.length_append, List.length_cons, List.length_nil, List.length_map, List.length_set, List.length_replicate, Spec.bytesOf_length]; omega) | (simp; omega))) (by first | omega | (simp only [List.length_append, List.length_cons, List.length_nil, List.length_map, List.length_set, List.length_replicate, Spec.bytesOf_length]; omega) | (simp; omega)) (by first | assumption | exact Spec.Bytes.nil | exact Spec.bytes_of _ | (repeat' first | assumption | exact Spec.Bytes.nil | exact Spec.bytes_of _ | exact Spec.enc_bytes _ | exact Spec.four_bytes _ | exact Spec.sealF_bytes (by assumption) | apply Spec.Bytes.append | apply Spec.Bytes.cons (by omega) | apply Spec.Bytes.take | apply Spec.Bytes.drop))
   rw [hs73v] at hs73; clear hs73v
   refine ⟨_, H74, hs73, ?_⟩
   have H74n : H69.next ≤ H74.next := hx75.1
   have hx82 : Ext Hl59 H74 := (Ext.trans hx72 hx75)
   have h81 := My.ext hm60 hx82
   obtain ⟨A83, c84, H85, W86, he87, hm88, hf89⟩ := mem_append (f := u8c) (old := out) (new := (Spec.sealF (4 : Int) (Spec.bytesOf ((rest).extract 0 ((z64).toNat))))) (m := out.length) (mx := (Spec.sealF (4 : Int) (Spec.bytesOf ((rest).extract 0 ((z64).toNat)))).length) (c := cp) (by first | rfl | simp) (by first | rfl | simp) eok74 (by decide) hm60 h81 (by omega) (((My.row hm78)).srcF (by decide) (by first | rfl | simp)) rfl u8c_len u8c_one (by first | omega | (simp only [List.length_append, List.length_cons, List.length_nil, List.length_map, List.length_set, List.length_replicate, Spec.bytesOf_length]; omega) | (simp; omega)) (by first | omega | (simp only [List.length_append, List.length_cons, List.length_nil, List.length_map, List.length_set, List.length_replicate, Spec.bytesOf_length]; omega) | (simp; omega))
   refine st_op (he87 _ _ _ _ _ _ _ _ _ _ rfl rfl isrow74) rfl rfl rfl ?_
   have H85n : H74.next ≤ H85.next := hf89.1
   refine st_op (ev_assign rfl) rfl rfl rfl ?_
   try show aw _ _ _ _ _ _
   refine aw_reg ?_
   iterate 2 refine st_op (ev_move rfl) rfl rfl rfl ?_
   refine st_op (ev_slStr Try.underlying9 rfl rfl rfl rfl (bound_int (by omega) (by omega) rfl)) rfl rfl rfl ?_
   refine st_op (ev_assign rfl) rfl rfl rfl ?_
   try show aw _ _ _ _ _ _
   refine aw_keep [4, 5] (l' := (.cons 4 (.slice A83 ((out ++ (Spec.sealF (4 : Int) (Spec.bytesOf ((rest).extract 0 ((z64).toNat))))).length) c84) (.cons 5 (.string ((rest).extract (z64).toNat ((rest).size))) .nil))) (by repeat (first | exact Up.done | refine Up.then ?_ | refine Up.inBlock ?_)) rfl ?_
   exact ih62 (((rest).extract (z64).toNat ((rest).size)), A83, c84, (out ++ (Spec.sealF (4 : Int) (Spec.bytesOf ((rest).extract 0 ((z64).toNat))))), H85) ⟨(show (Spec.sealF (3 : Int) ((((([] : List Int) ++ Spec.enc (Spec.zig s_index)) ++ Spec.enc (Spec.zig s_term)) ++ Spec.enc (Spec.zig (s_conf.size : Int)) ++ Spec.bytesOf s_conf) ++ Spec.enc (Spec.zig ((s_data).size : Int)))) ++ Spec.partsF (Spec.bytesOf s_data) = (out ++ (Spec.sealF (4 : Int) (Spec.bytesOf ((rest).extract 0 ((z64).toNat))))) ++ Spec.partsF (Spec.bytesOf ((rest).extract (z64).toNat ((rest).size))) from (by rw [hS, hP.2.1, List.append_assoc])), (show ((rest).extract (z64).toNat ((rest).size)).size ≤ 200000 from (by omega)), (show (out ++ (Spec.sealF (4 : Int) (Spec.bytesOf ((rest).extract 0 ((z64).toNat))))).length + 10000 * ((rest).extract (z64).toNat ((rest).size)).size ≤ 4100000000 from (by rw [List.length_append]; have := @Spec.sealF_len 4 (Spec.bytesOf (rest.extract 0 z64.toNat)); have := hP.2.2.2; omega)), (show My H43 H85 A83 c84 1 ((out ++ (Spec.sealF (4 : Int) (Spec.bytesOf ((rest).extract 0 ((z64).toNat))))).map u8c) from hm88), (show Fr (fun q => (H43.next ≤ q ∧ q < H50.next ∧ ZB H50 q 1)) H50 H85 from (Fr.transG (Fr.trans (Fr.trans (Fr.transG (Fr.refl (fun q => (H43.next ≤ q ∧ q < H50.next ∧ ZB H50 q 1)) H50) hxl61 (fun q hq hE e => (⟨by omega, by omega, ZB.back hE e.2.2⟩))) (hx72.fr fun _ => False) (fun q hq (e : False) => e.elim)) (hx75.fr fun _ => False) (fun q hq (e : False) => e.elim)) hf89 (fun q hq hE e => (⟨by omega, by omega, ZB.back hE e.2.2⟩))))⟩ (by simp only; omega)
  ·
   rw [Bool.not_eq_true] at hc63; refine aw_condF hc63 rfl ?_
   try show aw _ _ _ _ _ _
   replace hc63 : ((rest).toList == (⟨#[]⟩ : ByteArray).toList) = true := by rw [Bool.not_eq_false'] at hc63; exact hc63
   have hc63 := eq_of_beq hc63
   refine aw_exit ?_
   try show aw _ _ _ _ _ _
   refine aw_seq ?_
   refine aw_reg ?_
   refine st_op (ev_move rfl) rfl rfl rfl ?_
   refine st_op (ev_assign rfl) rfl rfl rfl ?_
   try show aw _ _ _ _ _ _
   refine aw_ret ?_
   have hx90 : Ext H Hl59 := (Ext.then (Ext.trans (Ext.then (Ext.then (Ext.then (Ext.then (Ext.trans hx6 hx9) hx17 (fun q hq e => by omega)) hx26 (fun q hq e => by omega)) hx35 (fun q hq e => by omega)) hx44 (fun q hq e => by omega)) hx51) hxl61 (fun q hq e => by omega))
   have hres : (Spec.snapF s_index s_term s_conf s_data) = out := by rw [Spec.snap_head (by assumption)]; exact hS.trans (by rw [show rest = ⟨#[]⟩ from Spec.toList_inj (by assumption)]; simp [Spec.bytesOf, Spec.partsF_nil])
   exact ⟨.slice A out.length cp, rfl, A, cp, by first | (rw [hres]; first | done | rfl | simp; done) | rfl, (by rw [hres]; exact (My.older hm60 (by omega))), (by exact Spec.snapF_bytes _ _ _ _), (by exact Spec.snapF_len _ _ _ _), (by exact ⟨fun h => absurd h (My.neF hm60 (by have := Spec.snapF_pos hc10; rw [hres] at this; omega)), fun h => Bool.noConfusion (h.symm.trans hc10)⟩), hx90⟩

end Go.AM
