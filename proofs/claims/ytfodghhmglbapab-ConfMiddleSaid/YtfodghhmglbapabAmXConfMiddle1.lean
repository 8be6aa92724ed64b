/- Part of a machine of its own for this claim: the program's code over memory without draws. -/
import Derived.Test.YtfodghhmglbapabAmRep15
import Derived.Test.YtfodghhmglbapabAmD
import Derived.Test.YtfodghhmglbapabAmE
import Derived.Test.YtfodghhmglbapabProg
import Derived.KernelRfl
set_option linter.unusedVariables false
set_option linter.unusedSimpArgs false
set_option linter.unnecessarySimpa false
set_option linter.unusedVariables false
set_option linter.unusedSimpArgs false
set_option linter.unnecessarySimpa false
namespace Go.AM
open Go Go.Proofs

noncomputable def E0 : TypeId → Bool := eqTy Try.prog
theorem E0_ok : EqOk Try.prog E0 := eqTy_ok
theorem mixed : Try.prog.follows .mixedOrders = true := by kernel_rfl

noncomputable def X0 (f : FuncId) : List Tmp := (bif_ (Nat.ble 67 f) (bif_ (Nat.ble 100 f) (bif_ (Nat.ble 117 f) (bif_ (Nat.ble 125 f) (bif_ (Nat.ble 129 f) (bif_ (Nat.ble 131 f) (bif_ (Nat.ble 132 f) (bif_ (Nat.ble 133 f) [0, 1, 2, 3, 8, 9, 18] [0, 2, 3, 4, 5, 6, 7, 14, 18, 25]) [0, 1, 2, 3, 8, 9, 18]) (bif_ (Nat.ble 130 f) [0, 2] [0, 1, 2, 3, 4, 10])) (bif_ (Nat.ble 127 f) (bif_ (Nat.ble 128 f) [0, 1, 2, 6] [0, 1, 2, 3, 8, 9, 16, 36, 52]) (bif_ (Nat.ble 126 f) [0, 1, 2, 6, 8, 9, 10, 11, 12, 22] [0, 2]))) (bif_ (Nat.ble 121 f) (bif_ (Nat.ble 123 f) (bif_ (Nat.ble 124 f) [0, 2, 3, 4, 5, 30] [0, 2, 3, 4, 5, 30]) (bif_ (Nat.ble 122 f) [0, 2, 3, 4, 5, 6, 7, 8, 9, 10, 11, 12, 21, 31, 37, 43] [0, 2])) (bif_ (Nat.ble 119 f) (bif_ (Nat.ble 120 f) [0, 1, 2, 3, 4, 10] [0, 1, 2, 6]) (bif_ (Nat.ble 118 f) [0, 2] [0, 2])))) (bif_ (Nat.ble 108 f) (bif_ (Nat.ble 112 f) (bif_ (Nat.ble 114 f) (bif_ (Nat.ble 115 f) (bif_ (Nat.ble 116 f) [0, 1, 2, 3, 8, 9, 16, 36, 52] [0, 1, 2, 3, 8, 9, 10, 11, 43, 60, 65, 112, 129, 134]) [0, 1, 2, 3, 8, 9, 10, 43, 59, 64]) (bif_ (Nat.ble 113 f) [0, 1, 4] [0, 1, 2, 6, 7, 8, 9, 10, 14, 32, 37, 41, 61, 65, 78, 98, 103, 116])) (bif_ (Nat.ble 110 f) (bif_ (Nat.ble 111 f) [0, 1, 2, 6, 7, 13] [0, 1, 2, 6, 7, 8, 9, 10, 11, 12, 32, 34, 49, 51, 54]) (bif_ (Nat.ble 109 f) [0, 1, 2, 6, 7, 8, 9, 10, 15, 33, 43] [0, 1, 2, 6, 7, 8, 9, 10, 19, 30]))) (bif_ (Nat.ble 104 f) (bif_ (Nat.ble 106 f) (bif_ (Nat.ble 107 f) [0, 1, 2, 6, 7, 12, 30] [0, 1, 4]) (bif_ (Nat.ble 105 f) [0, 1, 2] [0, 1, 2, 4])) (bif_ (Nat.ble 102 f) (bif_ (Nat.ble 103 f) [0, 2, 3, 4, 5, 6, 7, 8, 9, 10, 11, 12, 13, 14, 15, 16, 25, 59, 62, 73, 84] [0, 1, 2, 21]) (bif_ (Nat.ble 101 f) [0, 2, 3, 4, 5, 6, 7, 8, 9, 10, 19, 28, 29, 39, 72] [0, 2, 3, 4, 5]))))) (bif_ (Nat.ble 83 f) (bif_ (Nat.ble 91 f) (bif_ (Nat.ble 95 f) (bif_ (Nat.ble 97 f) (bif_ (Nat.ble 98 f) (bif_ (Nat.ble 99 f) [0, 2, 3, 4, 5, 6, 7, 8, 9, 10, 11, 12, 16, 28, 36, 56, 76] [0, 2]) [0, 2]) (bif_ (Nat.ble 96 f) [0, 1, 4, 5, 7, 10, 11, 12, 13, 20, 21] [0, 1, 2, 3, 4, 8])) (bif_ (Nat.ble 93 f) (bif_ (Nat.ble 94 f) [0, 2, 4, 8, 14] [0, 2, 4, 8]) (bif_ (Nat.ble 92 f) [0, 1, 2, 3, 8, 9, 10, 11, 43, 60, 65, 112, 129, 134] [0, 1, 2, 3, 8, 9, 10, 43, 59, 64]))) (bif_ (Nat.ble 87 f) (bif_ (Nat.ble 89 f) (bif_ (Nat.ble 90 f) [0, 1, 4] [0, 1, 2, 6, 7, 8, 9, 10, 14, 32, 37, 41, 61, 65, 78, 98, 103, 116]) (bif_ (Nat.ble 88 f) [0, 1, 2, 6, 7, 13] [0, 1, 2, 6, 7, 8, 9, 10, 11, 12, 32, 34, 49, 51, 54])) (bif_ (Nat.ble 85 f) (bif_ (Nat.ble 86 f) [0, 1, 2, 6, 7, 8, 9, 10, 15, 33, 43] [0, 1, 2, 6, 7, 8, 9, 10, 19, 30]) (bif_ (Nat.ble 84 f) [0, 1, 2, 6, 7, 12, 30] [0, 1, 4, 5, 7, 8, 9, 16])))) (bif_ (Nat.ble 75 f) (bif_ (Nat.ble 79 f) (bif_ (Nat.ble 81 f) (bif_ (Nat.ble 82 f) [0, 1, 4, 5, 7, 8, 9, 16] [0, 1, 2, 3, 8, 9, 10, 11, 12, 13, 14, 15, 16, 17, 18, 23, 29, 35, 50, 68, 72, 87, 113]) (bif_ (Nat.ble 80 f) [0, 1, 2, 3, 4] [0, 2, 3, 7, 37])) (bif_ (Nat.ble 77 f) (bif_ (Nat.ble 78 f) [0, 1, 4, 8] [0, 1, 4, 5, 7, 8, 9, 16]) (bif_ (Nat.ble 76 f) [0, 1, 2, 3, 4, 5, 6, 9, 28] [0, 1, 2, 3, 4, 6, 12, 13, 14, 15, 41]))) (bif_ (Nat.ble 71 f) (bif_ (Nat.ble 73 f) (bif_ (Nat.ble 74 f) [0, 1, 4, 6, 7, 8, 9, 10, 19] [0, 2]) (bif_ (Nat.ble 72 f) [0, 1, 4] [0, 2, 3, 4, 5, 6, 7, 8, 9, 10, 50, 82])) (bif_ (Nat.ble 69 f) (bif_ (Nat.ble 70 f) [0, 2, 3, 4, 5, 6, 7, 8, 9, 13, 24] [0, 1, 4, 5, 10, 14]) (bif_ (Nat.ble 68 f) [0, 1, 4, 5, 6, 17] [0, 1, 2, 3, 4, 6, 8, 10, 29, 30, 31, 32, 40, 41, 42, 43, 54])))))) (bif_ (Nat.ble 33 f) (bif_ (Nat.ble 50 f) (bif_ (Nat.ble 58 f) (bif_ (Nat.ble 62 f) (bif_ (Nat.ble 64 f) (bif_ (Nat.ble 65 f) (bif_ (Nat.ble 66 f) [0, 2, 4] [0, 2]) [0, 1, 2, 3, 8, 9, 10, 11, 12, 13, 14, 15, 16, 17, 18, 23, 29, 35, 50, 68, 72, 87, 113]) (bif_ (Nat.ble 63 f) [0, 1, 4] [0, 1, 3])) (bif_ (Nat.ble 60 f) (bif_ (Nat.ble 61 f) [0, 1, 4, 5, 6, 7, 12, 19, 29] [0, 2]) (bif_ (Nat.ble 59 f) [0, 2, 4] [0, 1, 4, 5, 10, 14, 26]))) (bif_ (Nat.ble 54 f) (bif_ (Nat.ble 56 f) (bif_ (Nat.ble 57 f) [0, 1, 2] [0, 2, 3, 4, 5, 9, 22]) (bif_ (Nat.ble 55 f) [0, 1, 2, 3, 4] [0, 1, 2])) (bif_ (Nat.ble 52 f) (bif_ (Nat.ble 53 f) [0, 2] [0, 2]) (bif_ (Nat.ble 51 f) [0, 1, 2] [0, 1, 4, 5, 6, 7, 16])))) (bif_ (Nat.ble 41 f) (bif_ (Nat.ble 45 f) (bif_ (Nat.ble 47 f) (bif_ (Nat.ble 48 f) (bif_ (Nat.ble 49 f) [0, 1, 2, 3] [0, 1, 4, 5, 6, 7, 12, 19, 29]) [0, 1, 2, 6, 7, 16]) (bif_ (Nat.ble 46 f) [0, 1, 2, 4, 47, 59, 62] [0, 2, 3, 4, 6, 7, 8, 9, 10, 11, 17, 18, 19, 20, 25, 51])) (bif_ (Nat.ble 43 f) (bif_ (Nat.ble 44 f) [0, 1, 2, 3, 4, 5, 8, 17] [0, 1, 2]) (bif_ (Nat.ble 42 f) [0, 2] [0, 1, 4, 5, 6, 8, 17]))) (bif_ (Nat.ble 37 f) (bif_ (Nat.ble 39 f) (bif_ (Nat.ble 40 f) [0, 2, 3, 5, 8, 9, 10, 11, 12] [0, 1, 4, 5, 10, 14, 25]) (bif_ (Nat.ble 38 f) [0, 2, 3, 4, 5, 7, 8, 9, 22] [0, 2])) (bif_ (Nat.ble 35 f) (bif_ (Nat.ble 36 f) [0, 1, 4] [0, 1, 4]) (bif_ (Nat.ble 34 f) [0, 1, 3, 4, 5, 6, 24] [0, 1, 4, 5, 6, 21]))))) (bif_ (Nat.ble 16 f) (bif_ (Nat.ble 24 f) (bif_ (Nat.ble 28 f) (bif_ (Nat.ble 30 f) (bif_ (Nat.ble 31 f) (bif_ (Nat.ble 32 f) [0, 1, 2, 3, 4] [0, 1, 2, 3, 4, 5, 7, 61, 84, 91, 124, 129]) [0, 1, 2]) (bif_ (Nat.ble 29 f) [0] [0, 1, 3, 4, 5, 9])) (bif_ (Nat.ble 26 f) (bif_ (Nat.ble 27 f) [0, 1, 4, 12] [0, 2, 4]) (bif_ (Nat.ble 25 f) [0, 1, 3, 4, 19] [0, 1, 2, 3, 4, 6]))) (bif_ (Nat.ble 20 f) (bif_ (Nat.ble 22 f) (bif_ (Nat.ble 23 f) [0, 1, 4, 5, 13] [0, 1, 4, 5, 6, 7]) (bif_ (Nat.ble 21 f) [0, 1, 4, 5, 7, 8, 9, 10, 11, 16] [0, 1, 4, 5, 7, 8, 11, 12, 13, 14, 15, 21])) (bif_ (Nat.ble 18 f) (bif_ (Nat.ble 19 f) [0, 2, 3, 4, 5, 6, 7, 8, 30] [0, 2, 3, 4, 6, 14]) (bif_ (Nat.ble 17 f) [0, 1, 2, 3, 4] [0, 2, 3, 4, 7, 10, 11])))) (bif_ (Nat.ble 8 f) (bif_ (Nat.ble 12 f) (bif_ (Nat.ble 14 f) (bif_ (Nat.ble 15 f) [0, 1, 2, 3, 8, 9, 11, 18] [0, 1, 2, 6, 7, 16]) (bif_ (Nat.ble 13 f) [0, 1, 2, 6, 7, 16] [0, 1, 4, 8])) (bif_ (Nat.ble 10 f) (bif_ (Nat.ble 11 f) [0, 1, 4, 8] [0, 1, 2, 3, 6]) (bif_ (Nat.ble 9 f) [0, 1, 2, 12] [0, 1, 2, 3, 8, 9, 10, 11, 12, 13, 14, 15, 18, 32, 44, 59, 63, 87]))) (bif_ (Nat.ble 4 f) (bif_ (Nat.ble 6 f) (bif_ (Nat.ble 7 f) [0, 2, 3, 4, 5, 6, 7, 8, 9, 10, 11, 12, 13, 14, 15, 18, 27, 48, 52, 62, 79, 81, 88, 90, 95, 110, 138, 139, 157, 162, 169, 170, 222] [0, 1, 3, 5]) (bif_ (Nat.ble 5 f) [0, 1, 4, 5, 6, 7, 8, 9, 10, 11, 14, 24, 31, 40, 50, 60] [0, 1, 4, 5, 6, 7, 8, 9, 10, 13, 19, 29, 37, 44, 52, 61, 79])) (bif_ (Nat.ble 2 f) (bif_ (Nat.ble 3 f) [0, 1] []) []))))))

theorem ElemInfo.mk3 : ∃ i, Try.prog.info? 3 = some i ∧ i.size = 1 ∧ i.bytes = 8 ∧ (i.zero.map fun z => z.cells.size) = some 1 := elemInfo (by kernel_rfl)
theorem ElemInfo.mk2 : ∃ i, Try.prog.info? 2 = some i ∧ i.size = 1 ∧ i.bytes = 8 ∧ (i.zero.map fun z => z.cells.size) = some 1 := elemInfo (by kernel_rfl)
theorem zf2 : ∃ i z, Try.prog.info? 2 = some i ∧ i.zero = some z ∧ z.cells.toList.all flat = true := zeroFlat (by kernel_rfl)
theorem zf3 : ∃ i z, Try.prog.info? 3 = some i ∧ i.zero = some z ∧ z.cells.toList.all flat = true := zeroFlat (by kernel_rfl)
theorem el28 : elemIs Try.prog 28 1 = true := by kernel_rfl
theorem el35 : elemIs Try.prog 35 1 = true := by kernel_rfl
theorem ent121 : enters Try.prog 121 = true := by kernel_rfl
theorem ent17 : enters Try.prog 17 = true := by kernel_rfl
theorem ent18 : enters Try.prog 18 = true := by kernel_rfl
theorem ent19 : enters Try.prog 19 = true := by kernel_rfl
theorem ent20 : enters Try.prog 20 = true := by kernel_rfl
theorem ent21 : enters Try.prog 21 = true := by kernel_rfl
theorem ent35 : enters Try.prog 35 = true := by kernel_rfl
theorem ent42 : enters Try.prog 42 = true := by kernel_rfl
theorem ent63 : enters Try.prog 63 = true := by kernel_rfl
theorem ent64 : enters Try.prog 64 = true := by kernel_rfl
theorem ent65 : enters Try.prog 65 = true := by kernel_rfl
theorem ent83 : enters Try.prog 83 = true := by kernel_rfl
theorem ent84 : enters Try.prog 84 = true := by kernel_rfl
theorem ent90 : enters Try.prog 90 = true := by kernel_rfl
theorem eok28 : ElemOk Try.prog 28 3 1 8 := ⟨Try.underlying28, ElemInfo.mk3⟩
theorem eok35 : ElemOk Try.prog 35 2 1 8 := ⟨Try.underlying35, ElemInfo.mk2⟩
theorem isrow28 : isRow Try.prog (some 28) = true := by kernel_rfl
theorem isrow35 : isRow Try.prog (some 35) = true := by kernel_rfl
theorem one2 : oneB Try.prog 2 = true := by kernel_rfl
theorem one3 : oneB Try.prog 3 = true := by kernel_rfl
theorem size2 : sizeIs Try.prog 2 1 = true := by kernel_rfl
theorem law20_begun_ran : okF (runF Try.prog X0 1000 40 17 [] Hp.nil) = true := by kernel_rfl
theorem law20_begun_spec (H : Heap) : ∃ v H', Spec Try.prog 17 [] H v H' ∧ (v = .bool true ∧ H' = H) := ⟨_, _, okF_any mixed law20_begun_ran H, rfl, rfl⟩
theorem law20_set_spec (H : Heap) (bits : Int) (hbits : -9223372036854775808 ≤ bits ∧ bits ≤ 9223372036854775807) : ∃ v H', Spec Try.prog 18 [.int .i64 bits] H v H' ∧ (∃ rA0 rc0, (v = .slice rA0 ((Spec.setN (fun (j : Nat) => Int.tmod (Spec.shr .i64 bits (j : Int)) 2 ≠ 0) 7).length) rc0) ∧ (My H H' rA0 rc0 1 ((Spec.setN (fun (j : Nat) => Int.tmod (Spec.shr .i64 bits (j : Int)) 2 ≠ 0) 7).map i64c)) ∧ (((Spec.setN (fun (j : Nat) => Int.tmod (Spec.shr .i64 bits (j : Int)) 2 ≠ 0) 7)).length ≤ 7) ∧ (Ext H H')) := by
  refine spec_go1 E0_ok 21 (f := 18) Try.func18 rfl rfl rfl ?_
  refine aw_seq ?_
  refine aw_reg ?_
  refine st_op (ev_assign rfl) rfl rfl rfl ?_
  try show aw _ _ _ _ _ _
  refine aw_seq ?_
  refine aw_reg ?_
  refine st_op (ev_assign rfl) rfl rfl rfl ?_
  try show aw _ _ _ _ _ _
  refine aw_seq ?_
  refine aw_seq ?_
  refine aw_reg ?_
  refine st_op (ev_assign rfl) rfl rfl rfl ?_
  try show aw _ _ _ _ _ _
  refine aw_block ?_
  have hm2 : My H H none 0 1 (([] : List Int).map i64c) := .nil
  refine aw_keep [0, 3, 4] (l' := (.cons 0 (.int .i64 bits) (.cons 3 (.slice none 0 0) (.cons 4 (.int .i64 0) .nil)))) (by repeat (first | exact Up.done | refine Up.then ?_ | refine Up.inBlock ?_)) rfl ?_
  refine aw_iter (α := Nat × Option Addr × Nat × List Int × Heap) (fun a => 7 - a.1) (fun a => (.cons 0 (.int .i64 bits) (.cons 3 (.slice a.2.1 a.2.2.2.1.length a.2.2.1) (.cons 4 (.int .i64 (a.1 : Int)) .nil)))) (fun a => a.2.2.2.2) (fun a => (a.1 ≤ 7) ∧ (a.2.2.2.1 = Spec.setN (fun (j : Nat) => Int.tmod (Spec.shr .i64 bits (j : Int)) 2 ≠ 0) a.1) ∧ (a.2.2.2.1.length ≤ a.1) ∧ (My H a.2.2.2.2 a.2.1 a.2.2.1 1 (a.2.2.2.1.map i64c)) ∧ (Ext H a.2.2.2.2)) (0, none, 0, ([] : List Int), H) ⟨(show 0 ≤ 7 from Nat.zero_le _), (show ([] : List Int) = Spec.setN (fun (j : Nat) => Int.tmod (Spec.shr .i64 bits (j : Int)) 2 ≠ 0) 0 from rfl), (show ([] : List Int).length ≤ 0 from Nat.le_refl _), (show My H H none 0 1 (([] : List Int).map i64c) from hm2), (show Ext H H from (Ext.refl H))⟩ ?_
  rintro ⟨i, A, cp, l, Hl1⟩ ⟨hi, hv, hll, hm3, hxl4⟩ ih5
  replace hi : i ≤ 7 := hi
  replace hv : l = Spec.setN (fun (j : Nat) => Int.tmod (Spec.shr .i64 bits (j : Int)) 2 ≠ 0) i := hv
  replace hll : l.length ≤ i := hll
  replace hm3 : My H Hl1 A cp 1 (l.map i64c) := hm3
  replace hxl4 : Ext H Hl1 := hxl4
  show aw _ _ _ (RL _ (.cons 0 (.int .i64 bits) (.cons 3 (.slice A l.length cp) (.cons 4 (.int .i64 (i : Int)) .nil)))) Hl1 _
  have Hl1n : H.next ≤ Hl1.next := hxl4.1
  refine aw_seq ?_
  refine aw_seq ?_
  refine aw_reg ?_
  refine st_op (ev_move rfl) rfl rfl rfl ?_
  refine st_op (ev_int rfl rfl rfl) rfl rfl rfl ?_
  try show aw _ _ _ _ _ _
  by_cases hc6 : (decide ((i : Int) < 7)) = true
  · refine aw_condT hc6 rfl ?_
    try show aw _ _ _ _ _ _
    have hc6 := of_decide_eq_true hc6
    refine aw_skip ?_
    try show aw _ _ _ _ _ _
    refine aw_seq ?_
    refine aw_block ?_
    refine aw_seq ?_
    refine aw_reg ?_
    refine st_op (ev_move rfl) rfl rfl rfl ?_
    refine st_op (ev_move rfl) rfl rfl rfl ?_
    refine st_op (ev_convI Try.underlying3 Try.underlying70 rfl (wrU64 (by omega) (by omega))) rfl rfl rfl ?_
    have hw7 : -9223372036854775808 ≤ (Spec.shr .i64 bits (i : Int)) ∧ (Spec.shr .i64 bits (i : Int)) ≤ 9223372036854775807 := Spec.shr_rng (by omega) (by decide) (by decide)
    refine st_op (ev_shrV rfl rfl (by omega)) rfl rfl rfl ?_
    have ht8 : -2 < Int.tmod (Spec.shr .i64 bits (i : Int)) 2 ∧ Int.tmod (Spec.shr .i64 bits (i : Int)) 2 < 2 := tmod_bd (Spec.shr .i64 bits (i : Int)) (by decide)
    refine st_op (ev_rem (b := 2) rfl rfl (by decide)) rfl rfl rfl ?_
    refine st_op (ev_int rfl rfl rfl) rfl rfl rfl ?_
    try show aw _ _ _ _ _ _
    by_cases hc9 : ((Int.tmod (Spec.shr .i64 bits (i : Int)) 2) != 0) = true
    · refine aw_condT hc9 rfl ?_
      try show aw _ _ _ _ _ _
      have hc9 : ¬ ((Int.tmod (Spec.shr .i64 bits (i : Int)) 2) = 0) := by simpa using hc9
      refine aw_reg ?_
      refine st_op (ev_move rfl) rfl rfl rfl ?_
      refine st_op (ev_move rfl) rfl rfl rfl ?_
      refine st_op (ev_int64 (c := (i : Int) + 1) rfl rfl rfl (by omega) (by omega)) rfl rfl rfl ?_
      obtain ⟨b10, H11, he12, b10e, H11n_, hm14, f13⟩ := mem_lit Hl1 (xs := ([.int .i64 ((i : Int) + 1)] : List Value)) (m := 1) (rows := [[.int .i64 ((i : Int) + 1)]]) rfl eok28 (by decide) (by decide) zf3 rfl (allLen rfl) rfl
      replace hm14 : My Hl1 H11 (some ⟨b10, 0, none⟩) 1 1 ([(i : Int) + 1].map i64c) := hm14
      refine st_op (he12 _ _ _ _ _ _ _ _ rfl) rfl rfl rfl ?_
      have hx15 : Ext Hl1 H11 := Ext.new (by omega) H11n_ f13
      have H11n : Hl1.next ≤ H11.next := hx15.1
      have h16 := My.ext hm3 hx15
      obtain ⟨A17, c18, H19, W20, he21, hm22, hf23⟩ := mem_append (f := i64c) (old := l) (new := [(i : Int) + 1]) (m := l.length) (mx := 1) (c := cp) (by first | rfl | simp) (by first | rfl | simp) eok28 (by decide) hm3 h16 (by omega) (((My.row hm14)).srcF (by decide) (by first | rfl | simp)) rfl i64c_len i64c_one (by first | omega | (simp only [List.length_append, List.length_cons, List.length_nil, List.length_map, List.length_set, List.length_replicate, Spec.bytesOf_length]; omega) | (simp; omega)) (by first | omega | (simp only [List.length_append, List.length_cons, List.length_nil, List.length_map, List.length_set, List.length_replicate, Spec.bytesOf_length]; omega) | (simp; omega))
      refine st_op (he21 _ _ _ _ _ _ _ _ _ _ rfl rfl isrow28) rfl rfl rfl ?_
      have H19n : H11.next ≤ H19.next := hf23.1
      have hl24 : (l ++ [(i : Int) + 1]).length = l.length + 1 := by simp
      refine st_op (ev_assign rfl) rfl rfl rfl ?_
      try show aw _ _ _ _ _ _
      refine aw_reg ?_
      refine st_op (ev_move rfl) rfl rfl rfl ?_
      refine st_op (ev_int64 (c := (i : Int) + 1) rfl rfl rfl (by omega) (by omega)) rfl rfl rfl ?_
      refine st_op (ev_assign rfl) rfl rfl rfl ?_
      try show aw _ _ _ _ _ _
      have hx25 : Ext H H19 := (Ext.then (Ext.trans hxl4 hx15) hf23 (fun q hq e => by omega))
      refine aw_keep [0, 3, 4] (l' := (.cons 0 (.int .i64 bits) (.cons 3 (.slice A17 ((l ++ [(i : Int) + 1]).length) c18) (.cons 4 (.int .i64 ((i : Int) + 1)) .nil)))) (by repeat (first | exact Up.done | refine Up.then ?_ | refine Up.inBlock ?_)) rfl ?_
      exact ih5 (i + 1, A17, c18, (l ++ [(i : Int) + 1]), H19) ⟨(show (i + 1) ≤ 7 from (by omega)), (show (l ++ [(i : Int) + 1]) = Spec.setN (fun (j : Nat) => Int.tmod (Spec.shr .i64 bits (j : Int)) 2 ≠ 0) (i + 1) from (by rw [Spec.setN, ← hv]; first | rw [if_pos (by assumption)] | (rw [if_neg (fun h => h (by assumption)), List.append_nil]))), (show (l ++ [(i : Int) + 1]).length ≤ (i + 1) from (by first | omega | (rw [List.length_append]; simp; omega))), (show My H H19 A17 c18 1 ((l ++ [(i : Int) + 1]).map i64c) from hm22), (show Ext H H19 from hx25)⟩ (by simp only; omega)
    · rw [Bool.not_eq_true] at hc9; refine aw_condF hc9 rfl ?_
      try show aw _ _ _ _ _ _
      have hc9 : ((Int.tmod (Spec.shr .i64 bits (i : Int)) 2) = 0) := by simpa using hc9
      refine aw_skip ?_
      try show aw _ _ _ _ _ _
      refine aw_reg ?_
      refine st_op (ev_move rfl) rfl rfl rfl ?_
      refine st_op (ev_int64 (c := (i : Int) + 1) rfl rfl rfl (by omega) (by omega)) rfl rfl rfl ?_
      refine st_op (ev_assign rfl) rfl rfl rfl ?_
      try show aw _ _ _ _ _ _
      refine aw_keep [0, 3, 4] (l' := (.cons 0 (.int .i64 bits) (.cons 3 (.slice A l.length cp) (.cons 4 (.int .i64 ((i : Int) + 1)) .nil)))) (by repeat (first | exact Up.done | refine Up.then ?_ | refine Up.inBlock ?_)) rfl ?_
      exact ih5 (i + 1, A, cp, l, Hl1) ⟨(show (i + 1) ≤ 7 from (by omega)), (show l = Spec.setN (fun (j : Nat) => Int.tmod (Spec.shr .i64 bits (j : Int)) 2 ≠ 0) (i + 1) from (by rw [Spec.setN, ← hv]; first | rw [if_pos (by assumption)] | (rw [if_neg (fun h => h (by assumption)), List.append_nil]))), (show l.length ≤ (i + 1) from (by first | omega | (rw [List.length_append]; simp; omega))), (show My H Hl1 A cp 1 (l.map i64c) from hm3), (show Ext H Hl1 from hxl4)⟩ (by simp only; omega)
  · rw [Bool.not_eq_true] at hc6; refine aw_condF hc6 rfl ?_
    try show aw _ _ _ _ _ _
    have hc6 := of_decide_eq_false hc6
    refine aw_exit ?_
    try show aw _ _ _ _ _ _
    refine aw_seq ?_
    refine aw_reg ?_
    refine st_op (ev_move rfl) rfl rfl rfl ?_
    refine st_op (ev_assign rfl) rfl rfl rfl ?_
    try show aw _ _ _ _ _ _
    refine aw_ret ?_
    have hres : (Spec.setN (fun (j : Nat) => Int.tmod (Spec.shr .i64 bits (j : Int)) 2 ≠ 0) 7) = l := by rw [hv, show i = 7 by omega]
    exact ⟨.slice A l.length cp, rfl, A, cp, by rw [hres]; first | done | rfl | simp, (by rw [hres]; exact hm3), (by rw [hres]; omega), hxl4⟩
theorem conf_May_spec (H : Heap) (lA : Option Addr) (l : List Int) (lc : Nat) (hl : Row H lA lc 1 (l.map i64c)) (cl : l.length ≤ lc) (ll : l.length ≤ 274877906944) : ∃ v H', Spec Try.prog 19 [.slice lA l.length lc] H v H' ∧ ((v = .bool (Spec.mayC l)) ∧ (Ext H H')) := by
  refine spec_go1 E0_ok 35 (f := 19) Try.func19 rfl rfl rfl ?_
  refine aw_seq ?_
  refine aw_reg ?_
  refine st_op (ev_assign rfl) rfl rfl rfl ?_
  try show aw _ _ _ _ _ _
  refine aw_seq ?_
  refine aw_seq ?_
  refine aw_reg ?_
  refine st_op (ev_move rfl) rfl rfl rfl ?_
  refine st_op (ev_lenSl rfl Try.underlying28) rfl rfl rfl ?_
  refine st_op (ev_move rfl) rfl rfl rfl ?_
  try show aw _ _ _ _ _ _
  refine aw_block ?_
  refine aw_keep [0, 5, 6, 7] (l' := (.cons 0 (.slice lA l.length lc) (.cons 5 (.slice lA l.length lc) (.cons 6 (.int .i64 (l.length : Int)) (.cons 7 (.int .i64 0) .nil))))) (by repeat (first | exact Up.done | refine Up.then ?_ | refine Up.inBlock ?_)) rfl ?_
  refine aw_iter (α := Nat × Int × Heap) (fun a => l.length - a.1) (fun a => (.cons 0 (.slice lA l.length lc) (.cons 5 (.slice lA l.length lc) (.cons 6 (.int .i64 (l.length : Int)) (.cons 7 (.int .i64 (a.1 : Int)) .nil))))) (fun a => a.2.2) (fun a => (a.1 ≤ l.length) ∧ (Spec.upF 0 l = Spec.upF a.2.1 (l.drop a.1)) ∧ ((a.1 = 0 → a.2.1 = 0) ∧ (0 < a.1 → l[a.1 - 1]? = some a.2.1)) ∧ (Ext H a.2.2)) (0, (0 : Int), H) ⟨(show 0 ≤ l.length from Nat.zero_le _), (show Spec.upF 0 l = Spec.upF (0 : Int) (l.drop 0) from rfl), (show (0 = 0 → (0 : Int) = 0) ∧ (0 < 0 → l[0 - 1]? = some (0 : Int)) from ⟨fun _ => rfl, fun h => absurd h (by decide)⟩), (show Ext H H from (Ext.refl H))⟩ ?_
  rintro ⟨i, pv, Hl1⟩ ⟨hi, hv, hpv, hxl2⟩ ih3
  replace hi : i ≤ l.length := hi
  replace hv : Spec.upF 0 l = Spec.upF pv (l.drop i) := hv
  replace hpv : (i = 0 → pv = 0) ∧ (0 < i → l[i - 1]? = some pv) := hpv
  replace hxl2 : Ext H Hl1 := hxl2
  show aw _ _ _ (RL _ (.cons 0 (.slice lA l.length lc) (.cons 5 (.slice lA l.length lc) (.cons 6 (.int .i64 (l.length : Int)) (.cons 7 (.int .i64 (i : Int)) .nil))))) Hl1 _
  have Hl1n : H.next ≤ Hl1.next := hxl2.1
  refine aw_seq ?_
  refine aw_reg ?_
  refine st_op (ev_int rfl rfl rfl) rfl rfl rfl ?_
  try show aw _ _ _ _ _ _
  refine aw_seq ?_
  by_cases hc4 : (decide ((i : Int) < (l.length : Int))) = true
  · refine aw_condT hc4 rfl ?_
    try show aw _ _ _ _ _ _
    have hc4 := of_decide_eq_true hc4
    refine aw_skip ?_
    try show aw _ _ _ _ _ _
    refine aw_seq ?_
    refine aw_block ?_
    refine aw_seq ?_
    refine aw_reg ?_
    refine st_op (ev_move rfl) rfl rfl rfl ?_
    have h5 := Row.ext hl hxl2
    have hi6 : 0 ≤ ((i : Int) : Int) := by omega
    have hi7 : ((i : Int) : Int) < ((l.length : Nat) : Int) := by first | omega | (simp only [List.length_append, List.length_cons, List.length_nil, List.length_map, List.length_set, List.length_replicate, Spec.bytesOf_length]; omega) | (simp; omega)
    obtain ⟨x8, hx9⟩ : ∃ e, l[i]? = some e := ⟨_, List.getElem?_eq_getElem (by first | omega | (simp only [List.length_append, List.length_cons, List.length_nil, List.length_map, List.length_set, List.length_replicate, Spec.bytesOf_length]; omega) | (simp; omega))⟩
    refine st_op (ev_at rfl rfl h5 (getMap i64c hx9) (by first | rfl | omega | simp) hi6 hi7 el28) rfl rfl rfl ?_
    refine st_op (ev_atL rfl h5 (getMap i64c hx9) one3 rfl) rfl rfl rfl ?_
    refine st_op (ev_assign rfl) rfl rfl rfl ?_
    refine st_op (ev_assign rfl) rfl rfl rfl ?_
    try show aw _ _ _ _ _ _
    refine aw_seq ?_
    refine aw_reg ?_
    refine st_op (ev_move rfl) rfl rfl rfl ?_
    refine st_op (ev_int rfl rfl rfl) rfl rfl rfl ?_
    refine st_op (ev_move rfl) rfl rfl rfl ?_
    refine st_bool 14 rfl (fun hb10 => ?_) (fun hb10 => ?_)
    ·
      have hb10 := of_decide_eq_true hb10
      refine st_skip rfl rfl rfl ?_
      refine st_skip rfl rfl rfl ?_
      refine st_op (ev_pickT rfl rfl) rfl rfl rfl ?_
      refine st_op (ev_move rfl) rfl rfl rfl ?_
      refine st_skip rfl rfl rfl ?_
      refine st_skip rfl rfl rfl ?_
      refine st_skip rfl rfl rfl ?_
      refine st_skip rfl rfl rfl ?_
      refine st_skip rfl rfl rfl ?_
      refine st_skip rfl rfl rfl ?_
      refine st_skip rfl rfl rfl ?_
      refine st_skip rfl rfl rfl ?_
      refine st_skip rfl rfl rfl ?_
      refine st_skip rfl rfl rfl ?_
      refine st_skip rfl rfl rfl ?_
      refine st_op (ev_pickT rfl rfl) rfl rfl rfl ?_
      try show aw _ _ _ _ _ _
      refine aw_cond (t := true) rfl ?_
      try show aw _ _ _ _ _ _
      refine aw_seq ?_
      refine aw_reg ?_
      refine st_op (ev_assign rfl) rfl rfl rfl ?_
      try show aw _ _ _ _ _ _
      refine aw_ret ?_
      have hres : (Spec.mayC l) = false := by unfold Spec.mayC; rw [hv, drop_at hx9, Spec.upF, if_pos (by omega)]; rfl
      exact ⟨.bool false, rfl, by rw [hres], hxl2⟩
    ·
      have hb10 := of_decide_eq_false hb10
      refine st_op (ev_move rfl) rfl rfl rfl ?_
      refine st_op (ev_int rfl rfl rfl) rfl rfl rfl ?_
      refine st_op (ev_pickF rfl rfl) rfl rfl rfl ?_
      refine st_op (ev_move rfl) rfl rfl rfl ?_
      refine st_bool 18 rfl (fun hb11 => ?_) (fun hb11 => ?_)
      ·
        have hb11 := of_decide_eq_true hb11
        refine st_skip rfl rfl rfl ?_
        refine st_skip rfl rfl rfl ?_
        refine st_skip rfl rfl rfl ?_
        refine st_skip rfl rfl rfl ?_
        refine st_skip rfl rfl rfl ?_
        refine st_skip rfl rfl rfl ?_
        refine st_skip rfl rfl rfl ?_
        refine st_skip rfl rfl rfl ?_
        refine st_skip rfl rfl rfl ?_
        refine st_skip rfl rfl rfl ?_
        refine st_skip rfl rfl rfl ?_
        refine st_op (ev_pickT rfl rfl) rfl rfl rfl ?_
        try show aw _ _ _ _ _ _
        refine aw_cond (t := true) rfl ?_
        try show aw _ _ _ _ _ _
        refine aw_seq ?_
        refine aw_reg ?_
        refine st_op (ev_assign rfl) rfl rfl rfl ?_
        try show aw _ _ _ _ _ _
        refine aw_ret ?_
        have hres : (Spec.mayC l) = false := by unfold Spec.mayC; rw [hv, drop_at hx9, Spec.upF, if_pos (by omega)]; rfl
        exact ⟨.bool false, rfl, by rw [hres], hxl2⟩
      ·
        have hb11 := of_decide_eq_false hb11
        refine st_op (ev_move rfl) rfl rfl rfl ?_
        refine st_op (ev_int rfl rfl rfl) rfl rfl rfl ?_
        refine st_op (ev_move rfl) rfl rfl rfl ?_
        refine st_bool 21 rfl (fun hb12 => ?_) (fun hb12 => ?_)
        ·
          have hb12 := of_decide_eq_true hb12
          refine st_op (ev_move rfl) rfl rfl rfl ?_
          refine st_op (ev_move rfl) rfl rfl rfl ?_
          refine st_op (ev_int64 (c := (i : Int) - 1) rfl rfl rfl (by omega) (by omega)) rfl rfl rfl ?_
          have hi13 : 0 ≤ ((i : Int) - 1 : Int) := by omega
          have hi14 : ((i : Int) - 1 : Int) < ((l.length : Nat) : Int) := by first | omega | (simp only [List.length_append, List.length_cons, List.length_nil, List.length_map, List.length_set, List.length_replicate, Spec.bytesOf_length]; omega) | (simp; omega)
          obtain ⟨x15, hx16⟩ : ∃ e, l[(((i : Int) - 1)).toNat]? = some e := ⟨_, List.getElem?_eq_getElem (by first | omega | (simp only [List.length_append, List.length_cons, List.length_nil, List.length_map, List.length_set, List.length_replicate, Spec.bytesOf_length]; omega) | (simp; omega))⟩
          have x15p : x15 = pv := by have q := hpv.2 (by omega); rw [show (((((i : Int) - 1)).toNat) : Nat) = i - 1 by omega] at hx16; rw [hx16] at q; cases q; rfl
          refine st_op (ev_at rfl rfl h5 (getMap i64c hx16) (by first | rfl | omega | simp) hi13 hi14 el28) rfl rfl rfl ?_
          refine st_op (ev_atL rfl h5 (getMap i64c hx16) one3 rfl) rfl rfl rfl ?_
          refine st_op (ev_move rfl) rfl rfl rfl ?_
          refine st_op (ev_int rfl rfl rfl) rfl rfl rfl ?_
          refine st_op (ev_pickT rfl rfl) rfl rfl rfl ?_
          refine st_op (ev_pickF rfl rfl) rfl rfl rfl ?_
          try show aw _ _ _ _ _ _
          by_cases hc17 : (decide (x15 ≥ x8)) = true
          · refine aw_condT hc17 rfl ?_
            try show aw _ _ _ _ _ _
            have hc17 := of_decide_eq_true hc17
            refine aw_seq ?_
            refine aw_reg ?_
            refine st_op (ev_assign rfl) rfl rfl rfl ?_
            try show aw _ _ _ _ _ _
            refine aw_ret ?_
            have hres : (Spec.mayC l) = false := by unfold Spec.mayC; rw [hv, drop_at hx9, Spec.upF, if_pos (by omega)]; rfl
            exact ⟨.bool false, rfl, by rw [hres], hxl2⟩
          · rw [Bool.not_eq_true] at hc17; refine aw_condF hc17 rfl ?_
            try show aw _ _ _ _ _ _
            have hc17 := of_decide_eq_false hc17
            refine aw_skip ?_
            try show aw _ _ _ _ _ _
            refine aw_reg ?_
            refine st_op (ev_int64 (c := (i : Int) + 1) rfl rfl rfl (by omega) (by omega)) rfl rfl rfl ?_
            refine st_op (ev_move rfl) rfl rfl rfl ?_
            try show aw _ _ _ _ _ _
            refine aw_keep [0, 5, 6, 7] (l' := (.cons 0 (.slice lA l.length lc) (.cons 5 (.slice lA l.length lc) (.cons 6 (.int .i64 (l.length : Int)) (.cons 7 (.int .i64 ((i : Int) + 1)) .nil))))) (by repeat (first | exact Up.done | refine Up.then ?_ | refine Up.inBlock ?_)) rfl ?_
            exact ih3 (i + 1, x8, Hl1) ⟨(show (i + 1) ≤ l.length from (by omega)), (show Spec.upF 0 l = Spec.upF x8 (l.drop (i + 1)) from (by rw [hv, drop_at hx9, Spec.upF, if_neg (by omega)])), (show ((i + 1) = 0 → x8 = 0) ∧ (0 < (i + 1) → l[(i + 1) - 1]? = some x8) from ⟨fun h => absurd h (by omega), fun _ => by rw [Nat.add_sub_cancel]; exact hx9⟩), (show Ext H Hl1 from hxl2)⟩ (by simp only; omega)
        ·
          have hb12 := of_decide_eq_false hb12
          refine st_skip rfl rfl rfl ?_
          refine st_skip rfl rfl rfl ?_
          refine st_skip rfl rfl rfl ?_
          refine st_skip rfl rfl rfl ?_
          refine st_skip rfl rfl rfl ?_
          refine st_skip rfl rfl rfl ?_
          refine st_skip rfl rfl rfl ?_
          refine st_op (ev_pickF rfl rfl) rfl rfl rfl ?_
          refine st_op (ev_pickF rfl rfl) rfl rfl rfl ?_
          try show aw _ _ _ _ _ _
          refine aw_cond (t := false) rfl ?_
          try show aw _ _ _ _ _ _
          refine aw_skip ?_
          try show aw _ _ _ _ _ _
          refine aw_reg ?_
          refine st_op (ev_int64 (c := (i : Int) + 1) rfl rfl rfl (by omega) (by omega)) rfl rfl rfl ?_
          refine st_op (ev_move rfl) rfl rfl rfl ?_
          try show aw _ _ _ _ _ _
          refine aw_keep [0, 5, 6, 7] (l' := (.cons 0 (.slice lA l.length lc) (.cons 5 (.slice lA l.length lc) (.cons 6 (.int .i64 (l.length : Int)) (.cons 7 (.int .i64 ((i : Int) + 1)) .nil))))) (by repeat (first | exact Up.done | refine Up.then ?_ | refine Up.inBlock ?_)) rfl ?_
          exact ih3 (i + 1, x8, Hl1) ⟨(show (i + 1) ≤ l.length from (by omega)), (show Spec.upF 0 l = Spec.upF x8 (l.drop (i + 1)) from (by rw [hv, drop_at hx9, Spec.upF, if_neg (by have := hpv.1 (by omega); omega)])), (show ((i + 1) = 0 → x8 = 0) ∧ (0 < (i + 1) → l[(i + 1) - 1]? = some x8) from ⟨fun h => absurd h (by omega), fun _ => by rw [Nat.add_sub_cancel]; exact hx9⟩), (show Ext H Hl1 from hxl2)⟩ (by simp only; omega)
  · rw [Bool.not_eq_true] at hc4; refine aw_condF hc4 rfl ?_
    try show aw _ _ _ _ _ _
    have hc4 := of_decide_eq_false hc4
    refine aw_exit ?_
    try show aw _ _ _ _ _ _
    refine aw_seq ?_
    refine aw_reg ?_
    refine st_op (ev_move rfl) rfl rfl rfl ?_
    refine st_op (ev_lenSl rfl Try.underlying28) rfl rfl rfl ?_
    refine st_op (ev_int rfl rfl rfl) rfl rfl rfl ?_
    refine st_op (ev_assign rfl) rfl rfl rfl ?_
    try show aw _ _ _ _ _ _
    refine aw_ret ?_
    have hres : (Spec.mayC l) = (decide ((l.length : Int) > 0)) := by unfold Spec.mayC; rw [hv, List.drop_eq_nil_of_le (by omega)]; simp [Spec.upF]
    exact ⟨.bool (decide ((l.length : Int) > 0)), rfl, by rw [hres], hxl2⟩
theorem bits_Len_spec (H : Heap) (x : Int) (hx : 0 ≤ x ∧ x ≤ 12) : ∃ v H', Spec Try.prog 65 [.int .u64 x] H v H' ∧ ((v = .int .i64 (Spec.len8 x)) ∧ (H' = H)) := by
  have h : x = 0 ∨ x = 1 ∨ x = 2 ∨ x = 3 ∨ x = 4 ∨ x = 5 ∨ x = 6 ∨ x = 7 ∨ x = 8 ∨ x = 9 ∨ x = 10 ∨ x = 11 ∨ x = 12 := by omega
  rcases h with rfl | rfl | rfl | rfl | rfl | rfl | rfl | rfl | rfl | rfl | rfl | rfl | rfl
  · exact ⟨_, _, valF_any mixed (X := X0) (N := 1000) (n := 40) (v := .int .i64 0) (by kernel_rfl) rfl rfl H, rfl, rfl⟩
  · exact ⟨_, _, valF_any mixed (X := X0) (N := 1000) (n := 40) (v := .int .i64 1) (by kernel_rfl) rfl rfl H, rfl, rfl⟩
  · exact ⟨_, _, valF_any mixed (X := X0) (N := 1000) (n := 40) (v := .int .i64 2) (by kernel_rfl) rfl rfl H, rfl, rfl⟩
  · exact ⟨_, _, valF_any mixed (X := X0) (N := 1000) (n := 40) (v := .int .i64 2) (by kernel_rfl) rfl rfl H, rfl, rfl⟩
  · exact ⟨_, _, valF_any mixed (X := X0) (N := 1000) (n := 40) (v := .int .i64 3) (by kernel_rfl) rfl rfl H, rfl, rfl⟩
  · exact ⟨_, _, valF_any mixed (X := X0) (N := 1000) (n := 40) (v := .int .i64 3) (by kernel_rfl) rfl rfl H, rfl, rfl⟩
  · exact ⟨_, _, valF_any mixed (X := X0) (N := 1000) (n := 40) (v := .int .i64 3) (by kernel_rfl) rfl rfl H, rfl, rfl⟩
  · exact ⟨_, _, valF_any mixed (X := X0) (N := 1000) (n := 40) (v := .int .i64 3) (by kernel_rfl) rfl rfl H, rfl, rfl⟩
  · exact ⟨_, _, valF_any mixed (X := X0) (N := 1000) (n := 40) (v := .int .i64 4) (by kernel_rfl) rfl rfl H, rfl, rfl⟩
  · exact ⟨_, _, valF_any mixed (X := X0) (N := 1000) (n := 40) (v := .int .i64 4) (by kernel_rfl) rfl rfl H, rfl, rfl⟩
  · exact ⟨_, _, valF_any mixed (X := X0) (N := 1000) (n := 40) (v := .int .i64 4) (by kernel_rfl) rfl rfl H, rfl, rfl⟩
  · exact ⟨_, _, valF_any mixed (X := X0) (N := 1000) (n := 40) (v := .int .i64 4) (by kernel_rfl) rfl rfl H, rfl, rfl⟩
  · exact ⟨_, _, valF_any mixed (X := X0) (N := 1000) (n := 40) (v := .int .i64 4) (by kernel_rfl) rfl rfl H, rfl, rfl⟩
theorem cmp_isNaN64_spec (H : Heap) (x : Int) : ∃ v H', Spec Try.prog 121 [.int .i64 x] H v H' ∧ ((v = .bool false) ∧ (Ext H H')) := by
  refine spec_go1 E0_ok 6 (f := 121) Try.func121 rfl rfl rfl ?_
  refine aw_seq ?_
  refine aw_reg ?_
  refine st_op (ev_assign rfl) rfl rfl rfl ?_
  try show aw _ _ _ _ _ _
  refine aw_seq ?_
  refine aw_reg ?_
  refine st_op (ev_move rfl) rfl rfl rfl ?_
  refine st_op (ev_move rfl) rfl rfl rfl ?_
  refine st_op (ev_int (v := .bool false) rfl rfl (by simp [intBin])) rfl rfl rfl ?_
  refine st_op (ev_assign rfl) rfl rfl rfl ?_
  try show aw _ _ _ _ _ _
  refine aw_ret ?_
  exact ⟨.bool false, rfl, rfl, (Ext.refl H)⟩
theorem cmp_Less64_spec (H : Heap) (x : Int) (y : Int) : ∃ v H', Spec Try.prog 90 [.int .i64 x, .int .i64 y] H v H' ∧ ((v = .bool (decide (x < y))) ∧ (Ext H H')) := by
  refine spec_go2 E0_ok 17 (f := 90) Try.func90 rfl rfl rfl ?_
  refine aw_seq ?_
  refine aw_reg ?_
  refine st_op (ev_assign rfl) rfl rfl rfl ?_
  try show aw _ _ _ _ _ _
  refine aw_seq ?_
  refine aw_reg ?_
  refine st_op (ev_move rfl) rfl rfl rfl ?_
  refine st_call rfl rfl rfl ent121 rfl rfl rfl ?_
  obtain ⟨_, H2, hs1, hs1v, hx3⟩ := cmp_isNaN64_spec H x
  rw [hs1v] at hs1; clear hs1v
  refine ⟨_, H2, hs1, ?_⟩
  have H2n : H.next ≤ H2.next := hx3.1
  refine st_op (ev_move rfl) rfl rfl rfl ?_
  refine st_skip rfl rfl rfl ?_
  refine st_skip rfl rfl rfl ?_
  refine st_skip rfl rfl rfl ?_
  refine st_op (ev_pickF rfl rfl) rfl rfl rfl ?_
  refine st_op (ev_move rfl) rfl rfl rfl ?_
  refine st_op (ev_move rfl) rfl rfl rfl ?_
  refine st_op (ev_move rfl) rfl rfl rfl ?_
  refine st_op (ev_int rfl rfl rfl) rfl rfl rfl ?_
  refine st_op (ev_pickF rfl rfl) rfl rfl rfl ?_
  refine st_op (ev_assign rfl) rfl rfl rfl ?_
  try show aw _ _ _ _ _ _
  refine aw_ret ?_
  have hres : (decide (x < y)) = (decide (x < y)) := by rfl
  exact ⟨.bool (decide (x < y)), rfl, by rw [hres], hx3⟩
theorem sl_insert64_spec (H : Heap) (lH : Heap) (lA : Option Addr) (l : List Int) (lc : Nat) (hl : My lH H lA lc 1 (l.map i64c)) (nl : lH.next ≤ H.next) (ll : l.length ≤ 1073741824)  (b : Int) (hb : b = (l.length : Int)) : ∃ v H', Spec Try.prog 84 [.slice lA l.length lc, .int .i64 0, .int .i64 b] H v H' ∧ ((v = .tuple #[]) ∧ (My lH H' lA lc 1 ((Spec.insF l 1 (l.length - 1)).map i64c)) ∧ ((Spec.insF l 1 (l.length - 1)).length = l.length) ∧ (Fr (fun q => (lH.next ≤ q ∧ q < H.next ∧ ZB H q 1)) H H')) := by
  refine spec_go3 E0_ok 49 (f := 84) Try.func84 rfl rfl rfl ?_
  refine aw_seq ?_
  refine aw_reg ?_
  refine st_op (ev_move rfl) rfl rfl rfl ?_
  refine st_op (ev_int64 (c := 1) rfl rfl rfl (by omega) (by omega)) rfl rfl rfl ?_
  refine st_op (ev_assign rfl) rfl rfl rfl ?_
  try show aw _ _ _ _ _ _
  refine aw_block ?_
  refine aw_keep [0, 1, 2, 6] (l' := (.cons 0 (.slice lA l.length lc) (.cons 1 (.int .i64 0) (.cons 2 (.int .i64 b) (.cons 6 (.int .i64 1) .nil))))) (by repeat (first | exact Up.done | refine Up.then ?_ | refine Up.inBlock ?_)) rfl ?_
  refine aw_iter (α := Nat × List Int × Heap) (fun a => l.length + 1 - a.1) (fun a => (.cons 0 (.slice lA l.length lc) (.cons 1 (.int .i64 0) (.cons 2 (.int .i64 b) (.cons 6 (.int .i64 (a.1 : Int)) .nil))))) (fun a => a.2.2) (fun a => (1 ≤ a.1 ∧ a.1 ≤ l.length + 1) ∧ (a.1 ≤ l.length ∨ l.length = 0) ∧ (a.2.1.length = l.length) ∧ (Spec.insF l 1 (l.length - 1) = Spec.insF a.2.1 a.1 (l.length - a.1)) ∧ (My lH a.2.2 lA lc 1 (a.2.1.map i64c)) ∧ (Fr (fun q => (lH.next ≤ q ∧ q < H.next ∧ ZB H q 1)) H a.2.2)) (1, l, H) ⟨(show 1 ≤ 1 ∧ 1 ≤ l.length + 1 from (by omega)), (show 1 ≤ l.length ∨ l.length = 0 from (by omega)), (show l.length = l.length from rfl), (show Spec.insF l 1 (l.length - 1) = Spec.insF l 1 (l.length - 1) from rfl), (show My lH H lA lc 1 (l.map i64c) from hl), (show Fr (fun q => (lH.next ≤ q ∧ q < H.next ∧ ZB H q 1)) H H from (Fr.refl _ H))⟩ ?_
  rintro ⟨i, l1, Hl1⟩ ⟨hi, hib, hle, hv, hm2, hxl3⟩ ih4
  replace hi : 1 ≤ i ∧ i ≤ l.length + 1 := hi
  replace hib : i ≤ l.length ∨ l.length = 0 := hib
  replace hle : l1.length = l.length := hle
  replace hv : Spec.insF l 1 (l.length - 1) = Spec.insF l1 i (l.length - i) := hv
  replace hm2 : My lH Hl1 lA lc 1 (l1.map i64c) := hm2
  replace hxl3 : Fr (fun q => (lH.next ≤ q ∧ q < H.next ∧ ZB H q 1)) H Hl1 := hxl3
  show aw _ _ _ (RL _ (.cons 0 (.slice lA l.length lc) (.cons 1 (.int .i64 0) (.cons 2 (.int .i64 b) (.cons 6 (.int .i64 (i : Int)) .nil))))) Hl1 _
  have Hl1n : H.next ≤ Hl1.next := hxl3.1
  refine aw_seq ?_
  refine aw_seq ?_
  refine aw_reg ?_
  refine st_op (ev_move rfl) rfl rfl rfl ?_
  refine st_op (ev_move rfl) rfl rfl rfl ?_
  refine st_op (ev_int rfl rfl rfl) rfl rfl rfl ?_
  try show aw _ _ _ _ _ _
  by_cases hc5 : (decide ((i : Int) < b)) = true
  · refine aw_condT hc5 rfl ?_
    try show aw _ _ _ _ _ _
    have hc5 := of_decide_eq_true hc5
    refine aw_skip ?_
    try show aw _ _ _ _ _ _
    refine aw_seq ?_
    refine aw_block ?_
    refine aw_seq ?_
    refine aw_reg ?_
    refine st_op (ev_move rfl) rfl rfl rfl ?_
    refine st_op (ev_assign rfl) rfl rfl rfl ?_
    try show aw _ _ _ _ _ _
    refine aw_block ?_
    refine aw_keep [0, 1, 2, 6, 7] (l' := (.cons 0 (.slice lA l.length lc) (.cons 1 (.int .i64 0) (.cons 2 (.int .i64 b) (.cons 6 (.int .i64 (i : Int)) (.cons 7 (.int .i64 (i : Int)) .nil)))))) (by repeat (first | exact Up.done | refine Up.then ?_ | refine Up.inBlock ?_)) rfl ?_
    refine aw_iter (α := Nat × List Int × Heap) (fun a => a.1) (fun a => (.cons 0 (.slice lA l.length lc) (.cons 1 (.int .i64 0) (.cons 2 (.int .i64 b) (.cons 6 (.int .i64 (i : Int)) (.cons 7 (.int .i64 (a.1 : Int)) .nil)))))) (fun a => a.2.2) (fun a => (a.1 ≤ i) ∧ (a.2.1.length = l.length) ∧ (Spec.sink l1 i = Spec.sink a.2.1 a.1) ∧ (My lH a.2.2 lA lc 1 (a.2.1.map i64c)) ∧ (Fr (fun q => (lH.next ≤ q ∧ q < Hl1.next ∧ ZB Hl1 q 1)) Hl1 a.2.2)) (i, l1, Hl1) ⟨(show i ≤ i from Nat.le_refl _), (show l1.length = l.length from hle), (show Spec.sink l1 i = Spec.sink l1 i from rfl), (show My lH Hl1 lA lc 1 (l1.map i64c) from hm2), (show Fr (fun q => (lH.next ≤ q ∧ q < Hl1.next ∧ ZB Hl1 q 1)) Hl1 Hl1 from (Fr.refl _ Hl1))⟩ ?_
    rintro ⟨j, l2, Hl6⟩ ⟨hj, hle2, hvi, hm7, hxl8⟩ ih9
    replace hj : j ≤ i := hj
    replace hle2 : l2.length = l.length := hle2
    replace hvi : Spec.sink l1 i = Spec.sink l2 j := hvi
    replace hm7 : My lH Hl6 lA lc 1 (l2.map i64c) := hm7
    replace hxl8 : Fr (fun q => (lH.next ≤ q ∧ q < Hl1.next ∧ ZB Hl1 q 1)) Hl1 Hl6 := hxl8
    show aw _ _ _ (RL _ (.cons 0 (.slice lA l.length lc) (.cons 1 (.int .i64 0) (.cons 2 (.int .i64 b) (.cons 6 (.int .i64 (i : Int)) (.cons 7 (.int .i64 (j : Int)) .nil)))))) Hl6 _
    have Hl6n : Hl1.next ≤ Hl6.next := hxl8.1
    refine aw_seq ?_
    refine aw_seq ?_
    refine aw_marks (fun b => b < Hl6.next) [(false, false), (false, false), (false, false), (false, false), (false, false), (false, false), (false, false), (false, false), (false, false), (false, false), (false, false), (false, false), (false, false), (false, false), (false, false)] mixed (by kernel_rfl) (by kernel_rfl) ?_
    refine sm_op (ev_move rfl) rfl rfl rfl ?_
    refine sm_op (ev_move rfl) rfl rfl rfl ?_
    refine sm_op (ev_int rfl rfl rfl) rfl rfl rfl ?_
    refine sm_op (ev_move rfl) rfl rfl rfl ?_
    refine sm_bool 19 rfl (fun hb10 => ?_) (fun hb10 => ?_)
    ·
      have hb10 := of_decide_eq_true hb10
      refine sm_op (ev_move rfl) rfl rfl rfl ?_
      refine sm_op (ev_move rfl) rfl rfl rfl ?_
      have hi11 : 0 ≤ ((j : Int) : Int) := by omega
      have hi12 : ((j : Int) : Int) < ((l.length : Nat) : Int) := by first | omega | (simp only [List.length_append, List.length_cons, List.length_nil, List.length_map, List.length_set, List.length_replicate, Spec.bytesOf_length]; omega) | (simp; omega)
      obtain ⟨x13, hx14⟩ : ∃ e, l2[j]? = some e := ⟨_, List.getElem?_eq_getElem (by first | omega | (simp only [List.length_append, List.length_cons, List.length_nil, List.length_map, List.length_set, List.length_replicate, Spec.bytesOf_length]; omega) | (simp; omega))⟩
      refine sm_op (ev_at rfl rfl (My.row hm7) (getMap i64c hx14) (by first | rfl | omega | simp) hi11 hi12 el35) rfl rfl rfl ?_
      refine sm_op (ev_atL rfl (My.row hm7) (getMap i64c hx14) one2 rfl) rfl rfl rfl ?_
      refine sm_op (ev_move rfl) rfl rfl rfl ?_
      refine sm_op (ev_move rfl) rfl rfl rfl ?_
      refine sm_op (ev_int64 (c := (j : Int) - 1) rfl rfl rfl (by omega) (by omega)) rfl rfl rfl ?_
      have hi15 : 0 ≤ ((j : Int) - 1 : Int) := by omega
      have hi16 : ((j : Int) - 1 : Int) < ((l.length : Nat) : Int) := by first | omega | (simp only [List.length_append, List.length_cons, List.length_nil, List.length_map, List.length_set, List.length_replicate, Spec.bytesOf_length]; omega) | (simp; omega)
      obtain ⟨x17, hx18⟩ : ∃ e, l2[(((j : Int) - 1)).toNat]? = some e := ⟨_, List.getElem?_eq_getElem (by first | omega | (simp only [List.length_append, List.length_cons, List.length_nil, List.length_map, List.length_set, List.length_replicate, Spec.bytesOf_length]; omega) | (simp; omega))⟩
      refine sm_op (ev_at rfl rfl (My.row hm7) (getMap i64c hx18) (by first | rfl | omega | simp) hi15 hi16 el35) rfl rfl rfl ?_
      refine sm_op (ev_atL rfl (My.row hm7) (getMap i64c hx18) one2 rfl) rfl rfl rfl ?_
      refine sm_call rfl rfl rfl ent90 rfl rfl rfl ?_
      obtain ⟨_, H20, hs19, hs19v, hx21⟩ := cmp_Less64_spec Hl6 x13 x17
      rw [hs19v] at hs19; clear hs19v
      refine ⟨_, H20, hs19, (fun _ b hb => hx21.2 b (by omega)), ?_⟩
      have H20n : Hl6.next ≤ H20.next := hx21.1
      refine sm_op (ev_pickT rfl rfl) rfl rfl rfl ?_
      try show aw _ _ _ _ _ _
      by_cases hc22 : (decide (x13 < x17)) = true
      · refine aw_condT hc22 rfl ?_
        try show aw _ _ _ _ _ _
        have hc22 := of_decide_eq_true hc22
        refine aw_skip ?_
        try show aw _ _ _ _ _ _
        refine aw_seq ?_
        refine aw_block ?_
        refine aw_marks (fun b => b < H20.next) [(false, false), (false, false), (false, false), (false, false), (false, false), (false, false), (false, false), (false, false), (false, false), (false, false), (false, false), (false, false), (false, false), (false, false), (false, false), (false, false), (false, false), (false, false)] mixed (by kernel_rfl) (by kernel_rfl) ?_
        refine sm_op (ev_move rfl) rfl rfl rfl ?_
        refine sm_op (ev_move rfl) rfl rfl rfl ?_
        refine sm_op (ev_move rfl) rfl rfl rfl ?_
        refine sm_op (ev_move rfl) rfl rfl rfl ?_
        refine sm_op (ev_int64 (c := (j : Int) - 1) rfl rfl rfl (by omega) (by omega)) rfl rfl rfl ?_
        refine sm_op (ev_move rfl) rfl rfl rfl ?_
        refine sm_op (ev_move rfl) rfl rfl rfl ?_
        refine sm_op (ev_int64 (c := (j : Int) - 1) rfl rfl rfl (by omega) (by omega)) rfl rfl rfl ?_
        have h23 := My.ext hm7 hx21
        have hi24 : 0 ≤ ((j : Int) - 1 : Int) := by omega
        have hi25 : ((j : Int) - 1 : Int) < ((l.length : Nat) : Int) := by first | omega | (simp only [List.length_append, List.length_cons, List.length_nil, List.length_map, List.length_set, List.length_replicate, Spec.bytesOf_length]; omega) | (simp; omega)
        refine sm_op (ev_at rfl rfl (My.row h23) (getMap i64c hx18) (by first | rfl | omega | simp) hi24 hi25 el35) rfl rfl rfl ?_
        refine sm_op (ev_atL rfl (My.row h23) (getMap i64c hx18) one2 rfl) rfl rfl rfl ?_
        refine sm_op (ev_move rfl) rfl rfl rfl ?_
        refine sm_op (ev_move rfl) rfl rfl rfl ?_
        have hi26 : 0 ≤ ((j : Int) : Int) := by omega
        have hi27 : ((j : Int) : Int) < ((l.length : Nat) : Int) := by first | omega | (simp only [List.length_append, List.length_cons, List.length_nil, List.length_map, List.length_set, List.length_replicate, Spec.bytesOf_length]; omega) | (simp; omega)
        refine sm_op (ev_at rfl rfl (My.row h23) (getMap i64c hx14) (by first | rfl | omega | simp) hi26 hi27 el35) rfl rfl rfl ?_
        refine sm_op (ev_atL rfl (My.row h23) (getMap i64c hx14) one2 rfl) rfl rfl rfl ?_
        have hi28 : 0 ≤ ((j : Int) : Int) := by omega
        have hi29 : ((j : Int) : Int) < ((l.length : Nat) : Int) := by first | omega | (simp only [List.length_append, List.length_cons, List.length_nil, List.length_map, List.length_set, List.length_replicate, Spec.bytesOf_length]; omega) | (simp; omega)
        refine sm_op (ev_at rfl rfl (My.row h23) (getMap i64c hx14) (by first | rfl | omega | simp) hi28 hi29 el35) rfl rfl rfl ?_
        obtain ⟨H30, W31, he32, hm33, hf34, H30n_⟩ := mem_storeAt (v := .int .i64 x17) size2 rfl rfl hm7 h23 (getMap i64c hx14) (show 0 < 1 by decide)
        rw [show (i64c x13).set 0 (.int .i64 x17) = i64c x17 from rfl, ← List.map_set] at hm33
        refine sm_op0 (he32 _ _ _ _ _ _ _ _ _ rfl rfl) rfl rfl ?_
        have H30n : H20.next ≤ H30.next := hf34.1
        have hi35 : 0 ≤ ((j : Int) - 1 : Int) := by omega
        have hi36 : ((j : Int) - 1 : Int) < ((l.length : Nat) : Int) := by first | omega | (simp only [List.length_append, List.length_cons, List.length_nil, List.length_map, List.length_set, List.length_replicate, Spec.bytesOf_length]; omega) | (simp; omega)
        obtain ⟨x37, hx38⟩ : ∃ e, (l2.set j x17)[(((j : Int) - 1)).toNat]? = some e := ⟨_, List.getElem?_eq_getElem (by first | omega | (simp only [List.length_append, List.length_cons, List.length_nil, List.length_map, List.length_set, List.length_replicate, Spec.bytesOf_length]; omega) | (simp; omega))⟩
        refine sm_op (ev_at rfl rfl (My.row hm33) (getMap i64c hx38) (by first | rfl | omega | simp) hi35 hi36 el35) rfl rfl rfl ?_
        obtain ⟨H39, W40, he41, hm42, hf43, H39n_⟩ := mem_storeAt (v := .int .i64 x13) size2 rfl rfl hm33 hm33 (getMap i64c hx38) (show 0 < 1 by decide)
        rw [show (i64c x37).set 0 (.int .i64 x13) = i64c x13 from rfl, ← List.map_set] at hm42
        refine sm_op0 (he41 _ _ _ _ _ _ _ _ _ rfl rfl) rfl rfl ?_
        have H39n : H30.next ≤ H39.next := hf43.1
        try show aw _ _ _ _ _ _
        refine aw_reg ?_
        refine st_op (ev_move rfl) rfl rfl rfl ?_
        refine st_op (ev_int64 (c := (j : Int) - 1) rfl rfl rfl (by omega) (by omega)) rfl rfl rfl ?_
        refine st_op (ev_assign rfl) rfl rfl rfl ?_
        try show aw _ _ _ _ _ _
        refine aw_keep [0, 1, 2, 6, 7] (l' := (.cons 0 (.slice lA l.length lc) (.cons 1 (.int .i64 0) (.cons 2 (.int .i64 b) (.cons 6 (.int .i64 (i : Int)) (.cons 7 (.int .i64 ((j : Int) - 1)) .nil)))))) (by repeat (first | exact Up.done | refine Up.then ?_ | refine Up.inBlock ?_)) rfl ?_
        rw [show ((j : Int) - 1) = ((j - 1 : Nat) : Int) by omega]
        exact ih9 (j - 1, ((l2.set j x17).set ((((j : Int) - 1)).toNat) x13), H39) ⟨(show (j - 1) ≤ i from (by omega)), (show ((l2.set j x17).set ((((j : Int) - 1)).toNat) x13).length = l.length from (by simp only [List.length_set]; exact hle2)), (show Spec.sink l1 i = Spec.sink ((l2.set j x17).set ((((j : Int) - 1)).toNat) x13) (j - 1) from (by rw [hvi, Spec.sink_lt (by omega) hx14 (by have hy := hx18; rwa [show ((j : Int) - 1).toNat = j - 1 by omega] at hy) (by omega), show j - 1 = ((j : Int) - 1).toNat by omega])), (show My lH H39 lA lc 1 (((l2.set j x17).set ((((j : Int) - 1)).toNat) x13).map i64c) from hm42), (show Fr (fun q => (lH.next ≤ q ∧ q < Hl1.next ∧ ZB Hl1 q 1)) Hl1 H39 from (Fr.transG (Fr.transG (Fr.trans (Fr.transG (Fr.refl (fun q => (lH.next ≤ q ∧ q < Hl1.next ∧ ZB Hl1 q 1)) Hl1) hxl8 (fun q hq hE e => (⟨by omega, by omega, ZB.back hE e.2.2⟩))) (hx21.fr fun _ => False) (fun q hq (e : False) => e.elim)) hf34 (fun q hq hE e => (⟨by omega, by omega, ZB.back hE e.2.2⟩))) hf43 (fun q hq hE e => (⟨by omega, by omega, ZB.back hE e.2.2⟩))))⟩ (by simp only; omega)
      · rw [Bool.not_eq_true] at hc22; refine aw_condF hc22 rfl ?_
        try show aw _ _ _ _ _ _
        have hc22 := of_decide_eq_false hc22
        refine aw_exit ?_
        try show aw _ _ _ _ _ _
        refine aw_reg ?_
        refine st_op (ev_move rfl) rfl rfl rfl ?_
        refine st_op (ev_int64 (c := (i : Int) + 1) rfl rfl rfl (by omega) (by omega)) rfl rfl rfl ?_
        refine st_op (ev_assign rfl) rfl rfl rfl ?_
        try show aw _ _ _ _ _ _
        have h44 := My.ext hm7 hx21
        refine aw_keep [0, 1, 2, 6] (l' := (.cons 0 (.slice lA l.length lc) (.cons 1 (.int .i64 0) (.cons 2 (.int .i64 b) (.cons 6 (.int .i64 ((i : Int) + 1)) .nil))))) (by repeat (first | exact Up.done | refine Up.then ?_ | refine Up.inBlock ?_)) rfl ?_
        exact ih4 (i + 1, l2, H20) ⟨(show 1 ≤ (i + 1) ∧ (i + 1) ≤ l.length + 1 from (by omega)), (show (i + 1) ≤ l.length ∨ l.length = 0 from (by omega)), (show l2.length = l.length from hle2), (show Spec.insF l 1 (l.length - 1) = Spec.insF l2 (i + 1) (l.length - (i + 1)) from (by rw [hv, show l.length - i = (l.length - (i + 1)) + 1 by omega, Spec.insF, show Spec.sink l1 i = l2 from (by rw [hvi]; exact Spec.sink_ge (by omega) hx14 (by have hy := hx18; rwa [show ((j : Int) - 1).toNat = j - 1 by omega] at hy) (by omega))])), (show My lH H20 lA lc 1 (l2.map i64c) from h44), (show Fr (fun q => (lH.next ≤ q ∧ q < H.next ∧ ZB H q 1)) H H20 from (Fr.trans (Fr.transG (Fr.transG (Fr.refl (fun q => (lH.next ≤ q ∧ q < H.next ∧ ZB H q 1)) H) hxl3 (fun q hq hE e => (⟨by omega, by omega, ZB.back hE e.2.2⟩))) hxl8 (fun q hq hE e => (⟨by omega, by omega, ZB.back hE e.2.2⟩))) (hx21.fr fun _ => False) (fun q hq (e : False) => e.elim)))⟩ (by simp only; omega)
    ·
      have hb10 := of_decide_eq_false hb10
      refine sm_skip rfl rfl rfl ?_
      refine sm_skip rfl rfl rfl ?_
      refine sm_skip rfl rfl rfl ?_
      refine sm_skip rfl rfl rfl ?_
      refine sm_skip rfl rfl rfl ?_
      refine sm_skip rfl rfl rfl ?_
      refine sm_skip rfl rfl rfl ?_
      refine sm_skip rfl rfl rfl ?_
      refine sm_skip rfl rfl rfl ?_
      refine sm_skip rfl rfl rfl ?_
      refine sm_op (ev_pickF rfl rfl) rfl rfl rfl ?_
      try show aw _ _ _ _ _ _
      refine aw_cond (t := false) rfl ?_
      try show aw _ _ _ _ _ _
      refine aw_exit ?_
      try show aw _ _ _ _ _ _
      refine aw_reg ?_
      refine st_op (ev_move rfl) rfl rfl rfl ?_
      refine st_op (ev_int64 (c := (i : Int) + 1) rfl rfl rfl (by omega) (by omega)) rfl rfl rfl ?_
      refine st_op (ev_assign rfl) rfl rfl rfl ?_
      try show aw _ _ _ _ _ _
      refine aw_keep [0, 1, 2, 6] (l' := (.cons 0 (.slice lA l.length lc) (.cons 1 (.int .i64 0) (.cons 2 (.int .i64 b) (.cons 6 (.int .i64 ((i : Int) + 1)) .nil))))) (by repeat (first | exact Up.done | refine Up.then ?_ | refine Up.inBlock ?_)) rfl ?_
      exact ih4 (i + 1, l2, Hl6) ⟨(show 1 ≤ (i + 1) ∧ (i + 1) ≤ l.length + 1 from (by omega)), (show (i + 1) ≤ l.length ∨ l.length = 0 from (by omega)), (show l2.length = l.length from hle2), (show Spec.insF l 1 (l.length - 1) = Spec.insF l2 (i + 1) (l.length - (i + 1)) from (by rw [hv, show l.length - i = (l.length - (i + 1)) + 1 by omega, Spec.insF, show Spec.sink l1 i = l2 from (by rw [hvi, show j = 0 by omega]; rfl)])), (show My lH Hl6 lA lc 1 (l2.map i64c) from hm7), (show Fr (fun q => (lH.next ≤ q ∧ q < H.next ∧ ZB H q 1)) H Hl6 from (Fr.transG (Fr.transG (Fr.refl (fun q => (lH.next ≤ q ∧ q < H.next ∧ ZB H q 1)) H) hxl3 (fun q hq hE e => (⟨by omega, by omega, ZB.back hE e.2.2⟩))) hxl8 (fun q hq hE e => (⟨by omega, by omega, ZB.back hE e.2.2⟩))))⟩ (by simp only; omega)
  · rw [Bool.not_eq_true] at hc5; refine aw_condF hc5 rfl ?_
    try show aw _ _ _ _ _ _
    have hc5 := of_decide_eq_false hc5
    refine aw_exit ?_
    try show aw _ _ _ _ _ _
    have hres : (Spec.insF l 1 (l.length - 1)) = l1 := by rw [hv, show l.length - i = 0 by omega]; rfl
    exact ⟨.tuple #[], rfl, rfl, (by rw [hres]; exact hm2), (by exact Spec.insF_len _ _ _), (Fr.transG (Fr.refl (fun q => (lH.next ≤ q ∧ q < H.next ∧ ZB H q 1)) H) hxl3 (fun q hq hE e => (⟨by omega, by omega, ZB.back hE e.2.2⟩)))⟩
theorem sl_pdq64_spec (H : Heap) (lH : Heap) (lA : Option Addr) (l : List Int) (lc : Nat) (hl : My lH H lA lc 1 (l.map i64c)) (nl : lH.next ≤ H.next) (ll : l.length ≤ 12)  (b : Int) (hb : b = (l.length : Int)) (lim : Int) : ∃ v H', Spec Try.prog 64 [.slice lA l.length lc, .int .i64 0, .int .i64 b, .int .i64 lim] H v H' ∧ ((v = .tuple #[]) ∧ (My lH H' lA lc 1 ((Spec.insF l 1 (l.length - 1)).map i64c)) ∧ ((Spec.insF l 1 (l.length - 1)).length = l.length) ∧ (Fr (fun q => (lH.next ≤ q ∧ q < H.next ∧ ZB H q 1)) H H')) := by
  refine spec_go4 E0_ok 134 (f := 64) Try.func64 rfl rfl rfl ?_
  refine aw_seq ?_
  refine aw_reg ?_
  refine st_op (ev_assign rfl) rfl rfl rfl ?_
  try show aw _ _ _ _ _ _
  refine aw_seq ?_
  refine aw_reg ?_
  refine st_op (ev_assign rfl) rfl rfl rfl ?_
  try show aw _ _ _ _ _ _
  refine aw_block ?_
  refine aw_loop ?_
  refine aw_block ?_
  refine aw_seq ?_
  refine aw_reg ?_
  refine st_op (ev_move rfl) rfl rfl rfl ?_
  refine st_op (ev_move rfl) rfl rfl rfl ?_
  refine st_op (ev_int64 (c := b - 0) rfl rfl rfl (by omega) (by omega)) rfl rfl rfl ?_
  refine st_op (ev_assign rfl) rfl rfl rfl ?_
  try show aw _ _ _ _ _ _
  refine aw_seq ?_
  refine aw_seq ?_
  refine aw_reg ?_
  refine st_op (ev_move rfl) rfl rfl rfl ?_
  refine st_op (ev_int rfl rfl rfl) rfl rfl rfl ?_
  try show aw _ _ _ _ _ _
  by_cases hc1 : (decide (b - 0 ≤ 12)) = true
  · refine aw_condT hc1 rfl ?_
    try show aw _ _ _ _ _ _
    have hc1 := of_decide_eq_true hc1
    refine aw_seq ?_
    refine aw_reg ?_
    refine st_op (ev_move rfl) rfl rfl rfl ?_
    refine st_op (ev_move rfl) rfl rfl rfl ?_
    refine st_op (ev_move rfl) rfl rfl rfl ?_
    refine st_call rfl rfl rfl ent84 rfl rfl rfl ?_
    obtain ⟨_, H3, hs2, hs2v, hm6, hq5, hx4⟩ := sl_insert64_spec H lH lA l lc hl (by omega) (by first | omega | (simp only [List.length_append, List.length_cons, List.length_nil, List.length_map, List.length_set, List.length_replicate, Spec.bytesOf_length]; omega) | (simp; omega))  b (by first | omega | (simp only [List.length_append, List.length_cons, List.length_nil, List.length_map, List.length_set, List.length_replicate, Spec.bytesOf_length]; omega) | (simp; omega))
    rw [hs2v] at hs2; clear hs2v
    refine ⟨_, H3, hs2, ?_⟩
    have H3n : H.next ≤ H3.next := hx4.1
    try show aw _ _ _ _ _ _
    refine aw_ret ?_
    have hres : (Spec.insF l 1 (l.length - 1)) = (Spec.insF l 1 (l.length - 1)) := by rfl
    exact ⟨.tuple #[], rfl, rfl, (by rw [hres]; exact hm6), (by exact Spec.insF_len _ _ _), (Fr.transG (Fr.refl (fun q => (lH.next ≤ q ∧ q < H.next ∧ ZB H q 1)) H) hx4 (fun q hq hE e => (⟨by omega, by omega, ZB.back hE e.2.2⟩)))⟩
  · rw [Bool.not_eq_true] at hc1; refine aw_condF hc1 rfl ?_
    try show aw _ _ _ _ _ _
    have hc1 := of_decide_eq_false hc1
    exfalso; omega
theorem sl_Sort64_spec (H : Heap) (lH : Heap) (lA : Option Addr) (l : List Int) (lc : Nat) (hl : My lH H lA lc 1 (l.map i64c)) (nl : lH.next ≤ H.next) (ll : l.length ≤ 12) : ∃ v H', Spec Try.prog 42 [.slice lA l.length lc] H v H' ∧ ((v = .tuple #[]) ∧ (My lH H' lA lc 1 ((Spec.insF l 1 (l.length - 1)).map i64c)) ∧ ((Spec.insF l 1 (l.length - 1)).length = l.length) ∧ (Fr (fun q => (lH.next ≤ q ∧ q < H.next ∧ ZB H q 1)) H H')) := by
  refine spec_go1 E0_ok 11 (f := 42) Try.func42 rfl rfl rfl ?_
  refine aw_seq ?_
  refine aw_reg ?_
  refine st_op (ev_move rfl) rfl rfl rfl ?_
  refine st_op (ev_lenSl rfl Try.underlying35) rfl rfl rfl ?_
  refine st_op (ev_assign rfl) rfl rfl rfl ?_
  try show aw _ _ _ _ _ _
  refine aw_reg ?_
  refine st_op (ev_move rfl) rfl rfl rfl ?_
  refine st_op (ev_move rfl) rfl rfl rfl ?_
  refine st_op (ev_move rfl) rfl rfl rfl ?_
  refine st_op (ev_convI Try.underlying3 Try.underlying70 rfl (wrU64 (by omega) (by omega))) rfl rfl rfl ?_
  refine st_call rfl rfl rfl ent65 rfl rfl rfl ?_
  obtain ⟨_, H2, hs1, hs1v, hx3⟩ := bits_Len_spec H (l.length : Int) ⟨by omega, by omega⟩
  rw [hs1v] at hs1; clear hs1v
  rw [hx3] at hs1; clear hx3
  refine ⟨_, H, hs1, ?_⟩
  refine st_call rfl rfl rfl ent64 rfl rfl rfl ?_
  obtain ⟨_, H5, hs4, hs4v, hm8, hq7, hx6⟩ := sl_pdq64_spec H lH lA l lc hl (by omega) (by first | omega | (simp only [List.length_append, List.length_cons, List.length_nil, List.length_map, List.length_set, List.length_replicate, Spec.bytesOf_length]; omega) | (simp; omega))  (l.length : Int) (by first | omega | (simp only [List.length_append, List.length_cons, List.length_nil, List.length_map, List.length_set, List.length_replicate, Spec.bytesOf_length]; omega) | (simp; omega)) (Spec.len8 (l.length : Int))
  rw [hs4v] at hs4; clear hs4v
  refine ⟨_, H5, hs4, ?_⟩
  have H5n : H.next ≤ H5.next := hx6.1
  try show aw _ _ _ _ _ _
  have hres : (Spec.insF l 1 (l.length - 1)) = (Spec.insF l 1 (l.length - 1)) := by rfl
  exact ⟨.tuple #[], rfl, rfl, (by rw [hres]; exact hm8), (by exact Spec.insF_len _ _ _), (Fr.transG (Fr.refl (fun q => (lH.next ≤ q ∧ q < H.next ∧ ZB H q 1)) H) hx6 (fun q hq hE e => (⟨by omega, by omega, ZB.back hE e.2.2⟩)))⟩
theorem conf_Middle_spec (H : Heap) (lA : Option Addr) (l : List Int) (lc : Nat) (hl : Row H lA lc 1 (l.map i64c)) (cl : l.length ≤ lc) (ll : l.length ≤ 274877906944) (at_A : Option Addr) (at_ : List Int) (at_c : Nat) (hat_ : Row H at_A at_c 1 (at_.map i64c)) (cat_ : at_.length ≤ at_c) (lat_ : at_.length ≤ 274877906944) (bat_ : Spec.Ints at_) : ∃ v H', Spec Try.prog 20 [.slice lA l.length lc, .slice at_A at_.length at_c] H v H' ∧ ((v = .int .i64 (Spec.midF l at_)) ∧ (Ext H H')) := by
  refine spec_go2 E0_ok 40 (f := 20) Try.func20 rfl rfl rfl ?_
  refine aw_seq ?_
  refine aw_reg ?_
  refine st_op (ev_assign rfl) rfl rfl rfl ?_
  try show aw _ _ _ _ _ _
  refine aw_seq ?_
  refine aw_seq ?_
  refine aw_reg ?_
  refine st_op (ev_move rfl) rfl rfl rfl ?_
  refine st_call rfl rfl rfl ent19 rfl rfl rfl ?_
  obtain ⟨_, H2, hs1, hs1v, hx3⟩ := conf_May_spec H lA l lc hl cl (by first | omega | (simp only [List.length_append, List.length_cons, List.length_nil, List.length_map, List.length_set, List.length_replicate, Spec.bytesOf_length]; omega) | (simp; omega))
  rw [hs1v] at hs1; clear hs1v
  refine ⟨_, H2, hs1, ?_⟩
  have H2n : H.next ≤ H2.next := hx3.1
  refine st_op (ev_not rfl) rfl rfl rfl ?_
  try show aw _ _ _ _ _ _
  by_cases hc4 : (!(Spec.mayC l)) = true
  · refine aw_condT hc4 rfl ?_
    try show aw _ _ _ _ _ _
    replace hc4 : (Spec.mayC l) = false := by rw [Bool.not_eq_true'] at hc4; exact hc4
    refine aw_seq ?_
    refine aw_reg ?_
    refine st_op (ev_assign rfl) rfl rfl rfl ?_
    try show aw _ _ _ _ _ _
    refine aw_ret ?_
    have hres : (Spec.midF l at_) = 0 := by unfold Spec.midF; rw [if_neg (by simp_all)]
    exact ⟨.int .i64 0, rfl, by rw [hres], hx3⟩
  · rw [Bool.not_eq_true] at hc4; refine aw_condF hc4 rfl ?_
    try show aw _ _ _ _ _ _
    replace hc4 : (Spec.mayC l) = true := by rw [Bool.not_eq_false'] at hc4; exact hc4
    obtain ⟨hm1, hm2, hm3⟩ := Spec.mayC_says hc4
    refine aw_skip ?_
    try show aw _ _ _ _ _ _
    refine aw_seq ?_
    refine aw_reg ?_
    refine st_op (ev_assign rfl) rfl rfl rfl ?_
    try show aw _ _ _ _ _ _
    refine aw_seq ?_
    refine aw_seq ?_
    refine aw_reg ?_
    refine st_op (ev_move rfl) rfl rfl rfl ?_
    refine st_op (ev_lenSl rfl Try.underlying28) rfl rfl rfl ?_
    refine st_op (ev_move rfl) rfl rfl rfl ?_
    try show aw _ _ _ _ _ _
    refine aw_block ?_
    have hm6 : My H2 H2 none 0 1 (([] : List Int).map i64c) := .nil
    refine aw_keep [1, 5, 12, 13, 14] (l' := (.cons 1 (.slice at_A at_.length at_c) (.cons 5 (.slice none 0 0) (.cons 12 (.slice lA l.length lc) (.cons 13 (.int .i64 (l.length : Int)) (.cons 14 (.int .i64 0) .nil)))))) (by repeat (first | exact Up.done | refine Up.then ?_ | refine Up.inBlock ?_)) rfl ?_
    refine aw_iter (α := Nat × Option Addr × Nat × List Int × Heap) (fun a => l.length - a.1) (fun a => (.cons 1 (.slice at_A at_.length at_c) (.cons 5 (.slice a.2.1 a.2.2.2.1.length a.2.2.1) (.cons 12 (.slice lA l.length lc) (.cons 13 (.int .i64 (l.length : Int)) (.cons 14 (.int .i64 (a.1 : Int)) .nil)))))) (fun a => a.2.2.2.2) (fun a => (a.1 ≤ l.length) ∧ (a.2.2.2.1 = (l.take a.1).map (Spec.valF at_)) ∧ (a.2.2.2.1.length = a.1) ∧ (My H2 a.2.2.2.2 a.2.1 a.2.2.1 1 (a.2.2.2.1.map i64c)) ∧ (Ext H2 a.2.2.2.2)) (0, none, 0, ([] : List Int), H2) ⟨(show 0 ≤ l.length from Nat.zero_le _), (show ([] : List Int) = (l.take 0).map (Spec.valF at_) from rfl), (show ([] : List Int).length = 0 from rfl), (show My H2 H2 none 0 1 (([] : List Int).map i64c) from hm6), (show Ext H2 H2 from (Ext.refl H2))⟩ ?_
    rintro ⟨i, A, cp, acc, Hl5⟩ ⟨hi, hv, hal, hm7, hxl8⟩ ih9
    replace hi : i ≤ l.length := hi
    replace hv : acc = (l.take i).map (Spec.valF at_) := hv
    replace hal : acc.length = i := hal
    replace hm7 : My H2 Hl5 A cp 1 (acc.map i64c) := hm7
    replace hxl8 : Ext H2 Hl5 := hxl8
    show aw _ _ _ (RL _ (.cons 1 (.slice at_A at_.length at_c) (.cons 5 (.slice A acc.length cp) (.cons 12 (.slice lA l.length lc) (.cons 13 (.int .i64 (l.length : Int)) (.cons 14 (.int .i64 (i : Int)) .nil)))))) Hl5 _
    have Hl5n : H2.next ≤ Hl5.next := hxl8.1
    refine aw_seq ?_
    refine aw_reg ?_
    refine st_op (ev_int rfl rfl rfl) rfl rfl rfl ?_
    try show aw _ _ _ _ _ _
    refine aw_seq ?_
    by_cases hc10 : (decide ((i : Int) < (l.length : Int))) = true
    · refine aw_condT hc10 rfl ?_
      try show aw _ _ _ _ _ _
      have hc10 := of_decide_eq_true hc10
      refine aw_skip ?_
      try show aw _ _ _ _ _ _
      refine aw_seq ?_
      refine aw_block ?_
      refine aw_seq ?_
      refine aw_reg ?_
      have hx12 : Ext H Hl5 := (Ext.trans hx3 hxl8)
      have h11 := Row.ext hl hx12
      have hi13 : 0 ≤ ((i : Int) : Int) := by omega
      have hi14 : ((i : Int) : Int) < ((l.length : Nat) : Int) := by first | omega | (simp only [List.length_append, List.length_cons, List.length_nil, List.length_map, List.length_set, List.length_replicate, Spec.bytesOf_length]; omega) | (simp; omega)
      obtain ⟨x15, hx16⟩ : ∃ e, l[i]? = some e := ⟨_, List.getElem?_eq_getElem (by first | omega | (simp only [List.length_append, List.length_cons, List.length_nil, List.length_map, List.length_set, List.length_replicate, Spec.bytesOf_length]; omega) | (simp; omega))⟩
      have x15m := hm1 _ (List.mem_of_getElem? hx16)
      refine st_op (ev_at rfl rfl h11 (getMap i64c hx16) (by first | rfl | omega | simp) hi13 hi14 el28) rfl rfl rfl ?_
      refine st_op (ev_atL rfl h11 (getMap i64c hx16) one3 rfl) rfl rfl rfl ?_
      refine st_op (ev_assign rfl) rfl rfl rfl ?_
      try show aw _ _ _ _ _ _
      refine aw_seq ?_
      refine aw_reg ?_
      refine st_op (ev_assign rfl) rfl rfl rfl ?_
      try show aw _ _ _ _ _ _
      refine aw_seq ?_
      refine aw_seq ?_
      refine aw_reg ?_
      refine st_op (ev_move rfl) rfl rfl rfl ?_
      refine st_op (ev_move rfl) rfl rfl rfl ?_
      refine st_op (ev_lenSl rfl Try.underlying35) rfl rfl rfl ?_
      refine st_op (ev_int rfl rfl rfl) rfl rfl rfl ?_
      try show aw _ _ _ _ _ _
      by_cases hc17 : (decide (x15 < (at_.length : Int))) = true
      · refine aw_condT hc17 rfl ?_
        try show aw _ _ _ _ _ _
        have hc17 := of_decide_eq_true hc17
        refine aw_reg ?_
        refine st_op (ev_move rfl) rfl rfl rfl ?_
        refine st_op (ev_move rfl) rfl rfl rfl ?_
        have h18 := Row.ext hat_ hx12
        have hi19 : 0 ≤ (x15 : Int) := by omega
        have hi20 : (x15 : Int) < ((at_.length : Nat) : Int) := by first | omega | (simp only [List.length_append, List.length_cons, List.length_nil, List.length_map, List.length_set, List.length_replicate, Spec.bytesOf_length]; omega) | (simp; omega)
        obtain ⟨x21, hx22⟩ : ∃ e, at_[(x15).toNat]? = some e := ⟨_, List.getElem?_eq_getElem (by first | omega | (simp only [List.length_append, List.length_cons, List.length_nil, List.length_map, List.length_set, List.length_replicate, Spec.bytesOf_length]; omega) | (simp; omega))⟩
        have x21b : -9223372036854775808 ≤ x21 ∧ x21 ≤ 9223372036854775807 := by first | exact bat_ _ (List.mem_of_getElem? hx22) | exact ⟨by omega, by omega⟩
        refine st_op (ev_at rfl rfl h18 (getMap i64c hx22) (by first | rfl | omega | simp) hi19 hi20 el35) rfl rfl rfl ?_
        refine st_op (ev_atL rfl h18 (getMap i64c hx22) one2 rfl) rfl rfl rfl ?_
        refine st_op (ev_assign rfl) rfl rfl rfl ?_
        try show aw _ _ _ _ _ _
        refine aw_reg ?_
        refine st_op (ev_move rfl) rfl rfl rfl ?_
        refine st_op (ev_move rfl) rfl rfl rfl ?_
        obtain ⟨b23, H24, he25, b23e, H24n_, hm27, f26⟩ := mem_lit Hl5 (xs := ([.int .i64 x21] : List Value)) (m := 1) (rows := [[.int .i64 x21]]) rfl eok35 (by decide) (by decide) zf2 rfl (allLen rfl) rfl
        replace hm27 : My Hl5 H24 (some ⟨b23, 0, none⟩) 1 1 ([x21].map i64c) := hm27
        refine st_op (he25 _ _ _ _ _ _ _ _ rfl) rfl rfl rfl ?_
        have hx28 : Ext Hl5 H24 := Ext.new (by omega) H24n_ f26
        have H24n : Hl5.next ≤ H24.next := hx28.1
        have h29 := My.ext hm7 hx28
        obtain ⟨A30, c31, H32, W33, he34, hm35, hf36⟩ := mem_append (f := i64c) (old := acc) (new := [x21]) (m := acc.length) (mx := 1) (c := cp) (by first | rfl | simp) (by first | rfl | simp) eok35 (by decide) hm7 h29 (by omega) (((My.row hm27)).srcF (by decide) (by first | rfl | simp)) rfl i64c_len i64c_one (by first | omega | (simp only [List.length_append, List.length_cons, List.length_nil, List.length_map, List.length_set, List.length_replicate, Spec.bytesOf_length]; omega) | (simp; omega)) (by first | omega | (simp only [List.length_append, List.length_cons, List.length_nil, List.length_map, List.length_set, List.length_replicate, Spec.bytesOf_length]; omega) | (simp; omega))
        refine st_op (he34 _ _ _ _ _ _ _ _ _ _ rfl rfl isrow35) rfl rfl rfl ?_
        have H32n : H24.next ≤ H32.next := hf36.1
        have hl37 : (acc ++ [x21]).length = acc.length + 1 := by simp
        refine st_op (ev_assign rfl) rfl rfl rfl ?_
        try show aw _ _ _ _ _ _
        refine aw_reg ?_
        refine st_op (ev_int64 (c := (i : Int) + 1) rfl rfl rfl (by omega) (by omega)) rfl rfl rfl ?_
        refine st_op (ev_move rfl) rfl rfl rfl ?_
        try show aw _ _ _ _ _ _
        have hx38 : Ext H2 H32 := (Ext.then (Ext.trans hxl8 hx28) hf36 (fun q hq e => by omega))
        refine aw_keep [1, 5, 12, 13, 14] (l' := (.cons 1 (.slice at_A at_.length at_c) (.cons 5 (.slice A30 ((acc ++ [x21]).length) c31) (.cons 12 (.slice lA l.length lc) (.cons 13 (.int .i64 (l.length : Int)) (.cons 14 (.int .i64 ((i : Int) + 1)) .nil)))))) (by repeat (first | exact Up.done | refine Up.then ?_ | refine Up.inBlock ?_)) rfl ?_
        exact ih9 (i + 1, A30, c31, (acc ++ [x21]), H32) ⟨(show (i + 1) ≤ l.length from (by omega)), (show (acc ++ [x21]) = (l.take (i + 1)).map (Spec.valF at_) from (by rw [List.take_add_one, hx16, List.map_append, ← hv]; simp only [Option.toList_some, List.map_cons, List.map_nil]; first | rw [Spec.valF_lt (by omega) hx22] | rw [show Spec.valF at_ x15 = 0 from if_neg (by omega)])), (show (acc ++ [x21]).length = (i + 1) from (by rw [List.length_append, hal]; rfl)), (show My H2 H32 A30 c31 1 ((acc ++ [x21]).map i64c) from hm35), (show Ext H2 H32 from hx38)⟩ (by simp only; omega)
      · rw [Bool.not_eq_true] at hc17; refine aw_condF hc17 rfl ?_
        try show aw _ _ _ _ _ _
        have hc17 := of_decide_eq_false hc17
        refine aw_skip ?_
        try show aw _ _ _ _ _ _
        refine aw_reg ?_
        refine st_op (ev_move rfl) rfl rfl rfl ?_
        refine st_op (ev_move rfl) rfl rfl rfl ?_
        obtain ⟨b39, H40, he41, b39e, H40n_, hm43, f42⟩ := mem_lit Hl5 (xs := ([.int .i64 0] : List Value)) (m := 1) (rows := [[.int .i64 0]]) rfl eok35 (by decide) (by decide) zf2 rfl (allLen rfl) rfl
        replace hm43 : My Hl5 H40 (some ⟨b39, 0, none⟩) 1 1 ([0].map i64c) := hm43
        refine st_op (he41 _ _ _ _ _ _ _ _ rfl) rfl rfl rfl ?_
        have hx44 : Ext Hl5 H40 := Ext.new (by omega) H40n_ f42
        have H40n : Hl5.next ≤ H40.next := hx44.1
        have h45 := My.ext hm7 hx44
        obtain ⟨A46, c47, H48, W49, he50, hm51, hf52⟩ := mem_append (f := i64c) (old := acc) (new := [0]) (m := acc.length) (mx := 1) (c := cp) (by first | rfl | simp) (by first | rfl | simp) eok35 (by decide) hm7 h45 (by omega) (((My.row hm43)).srcF (by decide) (by first | rfl | simp)) rfl i64c_len i64c_one (by first | omega | (simp only [List.length_append, List.length_cons, List.length_nil, List.length_map, List.length_set, List.length_replicate, Spec.bytesOf_length]; omega) | (simp; omega)) (by first | omega | (simp only [List.length_append, List.length_cons, List.length_nil, List.length_map, List.length_set, List.length_replicate, Spec.bytesOf_length]; omega) | (simp; omega))
        refine st_op (he50 _ _ _ _ _ _ _ _ _ _ rfl rfl isrow35) rfl rfl rfl ?_
        have H48n : H40.next ≤ H48.next := hf52.1
        have hl53 : (acc ++ [0]).length = acc.length + 1 := by simp
        refine st_op (ev_assign rfl) rfl rfl rfl ?_
        try show aw _ _ _ _ _ _
        refine aw_reg ?_
        refine st_op (ev_int64 (c := (i : Int) + 1) rfl rfl rfl (by omega) (by omega)) rfl rfl rfl ?_
        refine st_op (ev_move rfl) rfl rfl rfl ?_
        try show aw _ _ _ _ _ _
        have hx54 : Ext H2 H48 := (Ext.then (Ext.trans hxl8 hx44) hf52 (fun q hq e => by omega))
        refine aw_keep [1, 5, 12, 13, 14] (l' := (.cons 1 (.slice at_A at_.length at_c) (.cons 5 (.slice A46 ((acc ++ [0]).length) c47) (.cons 12 (.slice lA l.length lc) (.cons 13 (.int .i64 (l.length : Int)) (.cons 14 (.int .i64 ((i : Int) + 1)) .nil)))))) (by repeat (first | exact Up.done | refine Up.then ?_ | refine Up.inBlock ?_)) rfl ?_
        exact ih9 (i + 1, A46, c47, (acc ++ [0]), H48) ⟨(show (i + 1) ≤ l.length from (by omega)), (show (acc ++ [0]) = (l.take (i + 1)).map (Spec.valF at_) from (by rw [List.take_add_one, hx16, List.map_append, ← hv]; simp only [Option.toList_some, List.map_cons, List.map_nil]; first | rw [Spec.valF_lt (by omega) hx22] | rw [show Spec.valF at_ x15 = 0 from if_neg (by omega)])), (show (acc ++ [0]).length = (i + 1) from (by rw [List.length_append, hal]; rfl)), (show My H2 H48 A46 c47 1 ((acc ++ [0]).map i64c) from hm51), (show Ext H2 H48 from hx54)⟩ (by simp only; omega)
    · rw [Bool.not_eq_true] at hc10; refine aw_condF hc10 rfl ?_
      try show aw _ _ _ _ _ _
      have hc10 := of_decide_eq_false hc10
      refine aw_exit ?_
      try show aw _ _ _ _ _ _
      refine aw_seq ?_
      refine aw_reg ?_
      refine st_op (ev_move rfl) rfl rfl rfl ?_
      refine st_call rfl rfl rfl ent42 rfl rfl rfl ?_
      obtain ⟨_, H56, hs55, hs55v, hm59, hq58, hx57⟩ := sl_Sort64_spec Hl5 H2 A acc cp hm7 (by omega) (by first | omega | (simp only [List.length_append, List.length_cons, List.length_nil, List.length_map, List.length_set, List.length_replicate, Spec.bytesOf_length]; omega) | (simp; omega))
      rw [hs55v] at hs55; clear hs55v
      refine ⟨_, H56, hs55, ?_⟩
      have H56n : Hl5.next ≤ H56.next := hx57.1
      rw [show acc.length = (Spec.insF acc 1 (acc.length - 1)).length from hq58.symm]
      try show aw _ _ _ _ _ _
      refine aw_seq ?_
      refine aw_reg ?_
      refine st_op (ev_move rfl) rfl rfl rfl ?_
      refine st_op (ev_move rfl) rfl rfl rfl ?_
      refine st_op (ev_lenSl rfl Try.underlying35) rfl rfl rfl ?_
      refine st_op (ev_int64 (c := ((Spec.insF acc 1 (acc.length - 1)).length : Int) - 1) rfl rfl rfl (by omega) (by omega)) rfl rfl rfl ?_
      refine st_op (ev_quoN (a := ((Spec.insF acc 1 (acc.length - 1)).length : Int) - 1) (c := 2) rfl rfl (by omega) (by decide) (wrI64 (by omega) (by omega))) rfl rfl rfl ?_
      have hi60 : 0 ≤ (((((Spec.insF acc 1 (acc.length - 1)).length : Int) - 1) / 2) : Int) := by omega
      have hi61 : (((((Spec.insF acc 1 (acc.length - 1)).length : Int) - 1) / 2) : Int) < (((Spec.insF acc 1 (acc.length - 1)).length : Nat) : Int) := by first | omega | (simp only [List.length_append, List.length_cons, List.length_nil, List.length_map, List.length_set, List.length_replicate, Spec.bytesOf_length]; omega) | (simp; omega)
      obtain ⟨x62, hx63⟩ : ∃ e, (Spec.insF acc 1 (acc.length - 1))[(((((Spec.insF acc 1 (acc.length - 1)).length : Int) - 1) / 2)).toNat]? = some e := ⟨_, List.getElem?_eq_getElem (by first | omega | (simp only [List.length_append, List.length_cons, List.length_nil, List.length_map, List.length_set, List.length_replicate, Spec.bytesOf_length]; omega) | (simp; omega))⟩
      skip
      refine st_op (ev_at rfl rfl (My.row hm59) (getMap i64c hx63) (by first | rfl | omega | simp) hi60 hi61 el35) rfl rfl rfl ?_
      refine st_op (ev_atL rfl (My.row hm59) (getMap i64c hx63) one2 rfl) rfl rfl rfl ?_
      refine st_op (ev_assign rfl) rfl rfl rfl ?_
      try show aw _ _ _ _ _ _
      refine aw_ret ?_
      have hx64 : Ext H H56 := (Ext.then (Ext.trans hx3 hxl8) hx57 (fun q hq e => by omega))
      have hres : (Spec.midF l at_) = x62 := by have ha : acc = l.map (Spec.valF at_) := (by rw [hv, List.take_of_length_le (by omega)]); rw [Spec.midF, if_pos hc4, ← ha, List.getD_eq_getElem?_getD]; have h2 := hx63; rw [show (((((Spec.insF acc 1 (acc.length - 1)).length : Int) - 1) / 2)).toNat = (l.length - 1) / 2 by omega, show acc.length - 1 = l.length - 1 by omega] at h2; rw [h2]; rfl
      exact ⟨.int .i64 x62, rfl, by rw [hres], hx64⟩
theorem sl_Index_spec (H : Heap) (lA : Option Addr) (l : List Int) (lc : Nat) (hl : Row H lA lc 1 (l.map i64c)) (cl : l.length ≤ lc) (ll : l.length ≤ 140737488355328) (x : Int) : ∃ v H', Spec Try.prog 83 [.slice lA l.length lc, .int .i64 x] H v H' ∧ ((v = .int .i64 (Spec.ixF x l 0)) ∧ (Ext H H')) := by
  refine spec_go2 E0_ok 19 (f := 83) Try.func83 rfl rfl rfl ?_
  refine aw_seq ?_
  refine aw_reg ?_
  refine st_op (ev_assign rfl) rfl rfl rfl ?_
  try show aw _ _ _ _ _ _
  refine aw_seq ?_
  refine aw_seq ?_
  refine aw_reg ?_
  refine st_op (ev_move rfl) rfl rfl rfl ?_
  refine st_op (ev_lenSl rfl Try.underlying28) rfl rfl rfl ?_
  refine st_op (ev_move rfl) rfl rfl rfl ?_
  try show aw _ _ _ _ _ _
  refine aw_block ?_
  refine aw_keep [0, 1, 7, 8] (l' := (.cons 0 (.slice lA l.length lc) (.cons 1 (.int .i64 x) (.cons 7 (.int .i64 (l.length : Int)) (.cons 8 (.int .i64 0) .nil))))) (by repeat (first | exact Up.done | refine Up.then ?_ | refine Up.inBlock ?_)) rfl ?_
  refine aw_iter (α := Nat × Heap) (fun a => l.length - a.1) (fun a => (.cons 0 (.slice lA l.length lc) (.cons 1 (.int .i64 x) (.cons 7 (.int .i64 (l.length : Int)) (.cons 8 (.int .i64 (a.1 : Int)) .nil))))) (fun a => a.2) (fun a => (a.1 ≤ l.length) ∧ (Spec.ixF x l 0 = Spec.ixF x (l.drop a.1) (a.1 : Int)) ∧ (Ext H a.2)) (0, H) ⟨(show 0 ≤ l.length from Nat.zero_le _), (show Spec.ixF x l 0 = Spec.ixF x (l.drop 0) (0 : Int) from rfl), (show Ext H H from (Ext.refl H))⟩ ?_
  rintro ⟨i, Hl1⟩ ⟨hi, hv, hxl2⟩ ih3
  replace hi : i ≤ l.length := hi
  replace hv : Spec.ixF x l 0 = Spec.ixF x (l.drop i) (i : Int) := hv
  replace hxl2 : Ext H Hl1 := hxl2
  show aw _ _ _ (RL _ (.cons 0 (.slice lA l.length lc) (.cons 1 (.int .i64 x) (.cons 7 (.int .i64 (l.length : Int)) (.cons 8 (.int .i64 (i : Int)) .nil))))) Hl1 _
  have Hl1n : H.next ≤ Hl1.next := hxl2.1
  refine aw_seq ?_
  refine aw_reg ?_
  refine st_op (ev_int rfl rfl rfl) rfl rfl rfl ?_
  try show aw _ _ _ _ _ _
  refine aw_seq ?_
  by_cases hc4 : (decide ((i : Int) < (l.length : Int))) = true
  · refine aw_condT hc4 rfl ?_
    try show aw _ _ _ _ _ _
    have hc4 := of_decide_eq_true hc4
    refine aw_skip ?_
    try show aw _ _ _ _ _ _
    refine aw_seq ?_
    refine aw_block ?_
    refine aw_seq ?_
    refine aw_reg ?_
    refine st_op (ev_move rfl) rfl rfl rfl ?_
    refine st_op (ev_assign rfl) rfl rfl rfl ?_
    try show aw _ _ _ _ _ _
    refine aw_seq ?_
    refine aw_reg ?_
    refine st_op (ev_move rfl) rfl rfl rfl ?_
    refine st_op (ev_move rfl) rfl rfl rfl ?_
    refine st_op (ev_move rfl) rfl rfl rfl ?_
    have h5 := Row.ext hl hxl2
    have hi6 : 0 ≤ ((i : Int) : Int) := by omega
    have hi7 : ((i : Int) : Int) < ((l.length : Nat) : Int) := by first | omega | (simp only [List.length_append, List.length_cons, List.length_nil, List.length_map, List.length_set, List.length_replicate, Spec.bytesOf_length]; omega) | (simp; omega)
    obtain ⟨x8, hx9⟩ : ∃ e, l[i]? = some e := ⟨_, List.getElem?_eq_getElem (by first | omega | (simp only [List.length_append, List.length_cons, List.length_nil, List.length_map, List.length_set, List.length_replicate, Spec.bytesOf_length]; omega) | (simp; omega))⟩
    refine st_op (ev_at rfl rfl h5 (getMap i64c hx9) (by first | rfl | omega | simp) hi6 hi7 el28) rfl rfl rfl ?_
    refine st_op (ev_atL rfl h5 (getMap i64c hx9) one3 rfl) rfl rfl rfl ?_
    refine st_op (ev_int rfl rfl rfl) rfl rfl rfl ?_
    try show aw _ _ _ _ _ _
    by_cases hc10 : (x == x8) = true
    · refine aw_condT hc10 rfl ?_
      try show aw _ _ _ _ _ _
      have hc10 := eq_of_beq hc10
      refine aw_seq ?_
      refine aw_reg ?_
      refine st_op (ev_move rfl) rfl rfl rfl ?_
      refine st_op (ev_assign rfl) rfl rfl rfl ?_
      try show aw _ _ _ _ _ _
      refine aw_ret ?_
      have hres : (Spec.ixF x l 0) = (i : Int) := by rw [hv, drop_at hx9, Spec.ixF, if_pos (by assumption)]
      exact ⟨.int .i64 (i : Int), rfl, by rw [hres], hxl2⟩
    · rw [Bool.not_eq_true] at hc10; refine aw_condF hc10 rfl ?_
      try show aw _ _ _ _ _ _
      have hc10 := ne_of_beq_false hc10
      refine aw_skip ?_
      try show aw _ _ _ _ _ _
      refine aw_reg ?_
      refine st_op (ev_int64 (c := (i : Int) + 1) rfl rfl rfl (by omega) (by omega)) rfl rfl rfl ?_
      refine st_op (ev_move rfl) rfl rfl rfl ?_
      try show aw _ _ _ _ _ _
      refine aw_keep [0, 1, 7, 8] (l' := (.cons 0 (.slice lA l.length lc) (.cons 1 (.int .i64 x) (.cons 7 (.int .i64 (l.length : Int)) (.cons 8 (.int .i64 ((i : Int) + 1)) .nil))))) (by repeat (first | exact Up.done | refine Up.then ?_ | refine Up.inBlock ?_)) rfl ?_
      exact ih3 (i + 1, Hl1) ⟨(show (i + 1) ≤ l.length from (by omega)), (show Spec.ixF x l 0 = Spec.ixF x (l.drop (i + 1)) ((i + 1) : Int) from (by rw [hv, drop_at hx9, Spec.ixF, if_neg (by assumption)] <;> rfl)), (show Ext H Hl1 from hxl2)⟩ (by simp only; omega)
  · rw [Bool.not_eq_true] at hc4; refine aw_condF hc4 rfl ?_
    try show aw _ _ _ _ _ _
    have hc4 := of_decide_eq_false hc4
    refine aw_exit ?_
    try show aw _ _ _ _ _ _
    refine aw_seq ?_
    refine aw_reg ?_
    refine st_op (ev_assign rfl) rfl rfl rfl ?_
    try show aw _ _ _ _ _ _
    refine aw_ret ?_
    have hres : (Spec.ixF x l 0) = (-1) := by rw [hv, List.drop_eq_nil_of_le (by omega)]; rfl
    exact ⟨.int .i64 (-1), rfl, by rw [hres], hxl2⟩
theorem sl_Contains_spec (H : Heap) (lA : Option Addr) (l : List Int) (lc : Nat) (hl : Row H lA lc 1 (l.map i64c)) (cl : l.length ≤ lc) (ll : l.length ≤ 140737488355328) (x : Int) : ∃ v H', Spec Try.prog 63 [.slice lA l.length lc, .int .i64 x] H v H' ∧ ((v = .bool (decide (x ∈ l))) ∧ (Ext H H')) := by
  refine spec_go2 E0_ok 9 (f := 63) Try.func63 rfl rfl rfl ?_
  refine aw_seq ?_
  refine aw_reg ?_
  refine st_op (ev_assign rfl) rfl rfl rfl ?_
  try show aw _ _ _ _ _ _
  refine aw_seq ?_
  refine aw_reg ?_
  refine st_op (ev_move rfl) rfl rfl rfl ?_
  refine st_op (ev_move rfl) rfl rfl rfl ?_
  refine st_call rfl rfl rfl ent83 rfl rfl rfl ?_
  obtain ⟨_, H2, hs1, hs1v, hx3⟩ := sl_Index_spec H lA l lc hl cl (by first | omega | (simp only [List.length_append, List.length_cons, List.length_nil, List.length_map, List.length_set, List.length_replicate, Spec.bytesOf_length]; omega) | (simp; omega)) x
  rw [hs1v] at hs1; clear hs1v
  refine ⟨_, H2, hs1, ?_⟩
  have H2n : H.next ≤ H2.next := hx3.1
  refine st_op (ev_int rfl rfl rfl) rfl rfl rfl ?_
  refine st_op (ev_assign rfl) rfl rfl rfl ?_
  try show aw _ _ _ _ _ _
  refine aw_ret ?_
  have hres : (decide (x ∈ l)) = (decide ((Spec.ixF x l 0) ≥ 0)) := by exact decide_eq_decide.2 (Spec.ixF_mem (by decide)).symm
  exact ⟨.bool (decide ((Spec.ixF x l 0) ≥ 0)), rfl, by rw [hres], hx3⟩
theorem conf_Has_spec (H : Heap) (lA : Option Addr) (l : List Int) (lc : Nat) (hl : Row H lA lc 1 (l.map i64c)) (cl : l.length ≤ lc) (ll : l.length ≤ 140737488355328) (x : Int) : ∃ v H', Spec Try.prog 35 [.slice lA l.length lc, .int .i64 x] H v H' ∧ ((v = .bool (decide (x ∈ l))) ∧ (Ext H H')) := by
  refine spec_go2 E0_ok 8 (f := 35) Try.func35 rfl rfl rfl ?_
  refine aw_seq ?_
  refine aw_reg ?_
  refine st_op (ev_assign rfl) rfl rfl rfl ?_
  try show aw _ _ _ _ _ _
  refine aw_seq ?_
  refine aw_reg ?_
  refine st_op (ev_move rfl) rfl rfl rfl ?_
  refine st_op (ev_move rfl) rfl rfl rfl ?_
  refine st_call rfl rfl rfl ent63 rfl rfl rfl ?_
  obtain ⟨_, H2, hs1, hs1v, hx3⟩ := sl_Contains_spec H lA l lc hl cl (by first | omega | (simp only [List.length_append, List.length_cons, List.length_nil, List.length_map, List.length_set, List.length_replicate, Spec.bytesOf_length]; omega) | (simp; omega)) x
  rw [hs1v] at hs1; clear hs1v
  refine ⟨_, H2, hs1, ?_⟩
  have H2n : H.next ≤ H2.next := hx3.1
  refine st_op (ev_assign rfl) rfl rfl rfl ?_
  try show aw _ _ _ _ _ _
  refine aw_ret ?_
  have hres : (decide (x ∈ l)) = (decide (x ∈ l)) := by rfl
  exact ⟨.bool (decide (x ∈ l)), rfl, by rw [hres], hx3⟩
theorem conf_Majority_spec (H : Heap) (lA : Option Addr) (l : List Int) (lc : Nat) (hl : Row H lA lc 1 (l.map i64c)) (cl : l.length ≤ lc) (ll : l.length ≤ 274877906944) (mA : Option Addr) (m : List Int) (mc : Nat) (hm : Row H mA mc 1 (m.map i64c)) (cm : m.length ≤ mc) (lm : m.length ≤ 274877906944) : ∃ v H', Spec Try.prog 21 [.slice lA l.length lc, .slice mA m.length mc] H v H' ∧ ((v = .bool (Spec.mayC l && decide (2 * Spec.cntF m l > l.length))) ∧ (Ext H H')) := by
  refine spec_go2 E0_ok 29 (f := 21) Try.func21 rfl rfl rfl ?_
  refine aw_seq ?_
  refine aw_reg ?_
  refine st_op (ev_assign rfl) rfl rfl rfl ?_
  try show aw _ _ _ _ _ _
  refine aw_seq ?_
  refine aw_reg ?_
  refine st_op (ev_assign rfl) rfl rfl rfl ?_
  try show aw _ _ _ _ _ _
  refine aw_seq ?_
  refine aw_seq ?_
  refine aw_reg ?_
  refine st_op (ev_move rfl) rfl rfl rfl ?_
  refine st_op (ev_lenSl rfl Try.underlying28) rfl rfl rfl ?_
  refine st_op (ev_move rfl) rfl rfl rfl ?_
  try show aw _ _ _ _ _ _
  refine aw_block ?_
  refine aw_keep [0, 1, 5, 8, 9, 10] (l' := (.cons 0 (.slice lA l.length lc) (.cons 1 (.slice mA m.length mc) (.cons 5 (.int .i64 0) (.cons 8 (.slice lA l.length lc) (.cons 9 (.int .i64 (l.length : Int)) (.cons 10 (.int .i64 0) .nil))))))) (by repeat (first | exact Up.done | refine Up.then ?_ | refine Up.inBlock ?_)) rfl ?_
  refine aw_iter (α := Nat × Int × Heap) (fun a => l.length - a.1) (fun a => (.cons 0 (.slice lA l.length lc) (.cons 1 (.slice mA m.length mc) (.cons 5 (.int .i64 a.2.1) (.cons 8 (.slice lA l.length lc) (.cons 9 (.int .i64 (l.length : Int)) (.cons 10 (.int .i64 (a.1 : Int)) .nil))))))) (fun a => a.2.2) (fun a => (a.1 ≤ l.length) ∧ (a.2.1 ≤ a.1) ∧ (a.2.1 + Spec.cntF m (l.drop a.1) = Spec.cntF m l) ∧ (0 ≤ a.2.1 ∧ a.2.1 ≤ 1099511627776) ∧ (Ext H a.2.2)) (0, (0 : Int), H) ⟨(show 0 ≤ l.length from Nat.zero_le _), (show (0 : Int) ≤ 0 from (by decide)), (show (0 : Int) + Spec.cntF m (l.drop 0) = Spec.cntF m l from (by simp)), (show 0 ≤ (0 : Int) ∧ (0 : Int) ≤ 1099511627776 from ⟨by omega, by omega⟩), (show Ext H H from (Ext.refl H))⟩ ?_
  rintro ⟨i, n, Hl1⟩ ⟨hi, hni, hv, hn2, hxl3⟩ ih4
  replace hi : i ≤ l.length := hi
  replace hni : n ≤ i := hni
  replace hv : n + Spec.cntF m (l.drop i) = Spec.cntF m l := hv
  replace hn2 : 0 ≤ n ∧ n ≤ 1099511627776 := hn2
  replace hxl3 : Ext H Hl1 := hxl3
  show aw _ _ _ (RL _ (.cons 0 (.slice lA l.length lc) (.cons 1 (.slice mA m.length mc) (.cons 5 (.int .i64 n) (.cons 8 (.slice lA l.length lc) (.cons 9 (.int .i64 (l.length : Int)) (.cons 10 (.int .i64 (i : Int)) .nil))))))) Hl1 _
  have Hl1n : H.next ≤ Hl1.next := hxl3.1
  refine aw_seq ?_
  refine aw_reg ?_
  refine st_op (ev_int rfl rfl rfl) rfl rfl rfl ?_
  try show aw _ _ _ _ _ _
  refine aw_seq ?_
  by_cases hc5 : (decide ((i : Int) < (l.length : Int))) = true
  · refine aw_condT hc5 rfl ?_
    try show aw _ _ _ _ _ _
    have hc5 := of_decide_eq_true hc5
    refine aw_skip ?_
    try show aw _ _ _ _ _ _
    refine aw_seq ?_
    refine aw_block ?_
    refine aw_seq ?_
    refine aw_reg ?_
    have h6 := Row.ext hl hxl3
    have hi7 : 0 ≤ ((i : Int) : Int) := by omega
    have hi8 : ((i : Int) : Int) < ((l.length : Nat) : Int) := by first | omega | (simp only [List.length_append, List.length_cons, List.length_nil, List.length_map, List.length_set, List.length_replicate, Spec.bytesOf_length]; omega) | (simp; omega)
    obtain ⟨x9, hx10⟩ : ∃ e, l[i]? = some e := ⟨_, List.getElem?_eq_getElem (by first | omega | (simp only [List.length_append, List.length_cons, List.length_nil, List.length_map, List.length_set, List.length_replicate, Spec.bytesOf_length]; omega) | (simp; omega))⟩
    refine st_op (ev_at rfl rfl h6 (getMap i64c hx10) (by first | rfl | omega | simp) hi7 hi8 el28) rfl rfl rfl ?_
    refine st_op (ev_atL rfl h6 (getMap i64c hx10) one3 rfl) rfl rfl rfl ?_
    refine st_op (ev_assign rfl) rfl rfl rfl ?_
    try show aw _ _ _ _ _ _
    refine aw_seq ?_
    refine aw_reg ?_
    refine st_op (ev_move rfl) rfl rfl rfl ?_
    refine st_op (ev_move rfl) rfl rfl rfl ?_
    refine st_call rfl rfl rfl ent35 rfl rfl rfl ?_
    have h11 := Row.ext hm hxl3
    obtain ⟨_, H13, hs12, hs12v, hx14⟩ := conf_Has_spec Hl1 mA m mc h11 cm (by first | omega | (simp only [List.length_append, List.length_cons, List.length_nil, List.length_map, List.length_set, List.length_replicate, Spec.bytesOf_length]; omega) | (simp; omega)) x9
    rw [hs12v] at hs12; clear hs12v
    refine ⟨_, H13, hs12, ?_⟩
    have H13n : Hl1.next ≤ H13.next := hx14.1
    try show aw _ _ _ _ _ _
    by_cases hc15 : (decide (x9 ∈ m)) = true
    · refine aw_condT hc15 rfl ?_
      try show aw _ _ _ _ _ _
      have hc15 := of_decide_eq_true hc15
      refine aw_reg ?_
      refine st_op (ev_move rfl) rfl rfl rfl ?_
      refine st_op (ev_int64 (c := n + 1) rfl rfl rfl (by omega) (by omega)) rfl rfl rfl ?_
      refine st_op (ev_assign rfl) rfl rfl rfl ?_
      try show aw _ _ _ _ _ _
      refine aw_reg ?_
      refine st_op (ev_int64 (c := (i : Int) + 1) rfl rfl rfl (by omega) (by omega)) rfl rfl rfl ?_
      refine st_op (ev_move rfl) rfl rfl rfl ?_
      try show aw _ _ _ _ _ _
      have hx16 : Ext H H13 := (Ext.trans hxl3 hx14)
      refine aw_keep [0, 1, 5, 8, 9, 10] (l' := (.cons 0 (.slice lA l.length lc) (.cons 1 (.slice mA m.length mc) (.cons 5 (.int .i64 (n + 1)) (.cons 8 (.slice lA l.length lc) (.cons 9 (.int .i64 (l.length : Int)) (.cons 10 (.int .i64 ((i : Int) + 1)) .nil))))))) (by repeat (first | exact Up.done | refine Up.then ?_ | refine Up.inBlock ?_)) rfl ?_
      exact ih4 (i + 1, n + 1, H13) ⟨(show (i + 1) ≤ l.length from (by omega)), (show (n + 1) ≤ (i + 1) from (by omega)), (show (n + 1) + Spec.cntF m (l.drop (i + 1)) = Spec.cntF m l from (by rw [← hv, drop_at hx10, Spec.cntF]; first | (rw [if_pos (by assumption)]; omega) | (rw [if_neg (by assumption)]; omega))), (show 0 ≤ (n + 1) ∧ (n + 1) ≤ 1099511627776 from ⟨by omega, by omega⟩), (show Ext H H13 from hx16)⟩ (by simp only; omega)
    · rw [Bool.not_eq_true] at hc15; refine aw_condF hc15 rfl ?_
      try show aw _ _ _ _ _ _
      have hc15 := of_decide_eq_false hc15
      refine aw_skip ?_
      try show aw _ _ _ _ _ _
      refine aw_reg ?_
      refine st_op (ev_int64 (c := (i : Int) + 1) rfl rfl rfl (by omega) (by omega)) rfl rfl rfl ?_
      refine st_op (ev_move rfl) rfl rfl rfl ?_
      try show aw _ _ _ _ _ _
      have hx17 : Ext H H13 := (Ext.trans hxl3 hx14)
      refine aw_keep [0, 1, 5, 8, 9, 10] (l' := (.cons 0 (.slice lA l.length lc) (.cons 1 (.slice mA m.length mc) (.cons 5 (.int .i64 n) (.cons 8 (.slice lA l.length lc) (.cons 9 (.int .i64 (l.length : Int)) (.cons 10 (.int .i64 ((i : Int) + 1)) .nil))))))) (by repeat (first | exact Up.done | refine Up.then ?_ | refine Up.inBlock ?_)) rfl ?_
      exact ih4 (i + 1, n, H13) ⟨(show (i + 1) ≤ l.length from (by omega)), (show n ≤ (i + 1) from (by omega)), (show n + Spec.cntF m (l.drop (i + 1)) = Spec.cntF m l from (by rw [← hv, drop_at hx10, Spec.cntF]; first | (rw [if_pos (by assumption)]; omega) | (rw [if_neg (by assumption)]; omega))), (show 0 ≤ n ∧ n ≤ 1099511627776 from ⟨by omega, by omega⟩), (show Ext H H13 from hx17)⟩ (by simp only; omega)
  · rw [Bool.not_eq_true] at hc5; refine aw_condF hc5 rfl ?_
    try show aw _ _ _ _ _ _
    have hc5 := of_decide_eq_false hc5
    refine aw_exit ?_
    try show aw _ _ _ _ _ _
    refine aw_seq ?_
    refine aw_reg ?_
    refine st_op (ev_move rfl) rfl rfl rfl ?_
    refine st_call rfl rfl rfl ent19 rfl rfl rfl ?_
    have h18 := Row.ext hl hxl3
    obtain ⟨_, H20, hs19, hs19v, hx21⟩ := conf_May_spec Hl1 lA l lc h18 cl (by first | omega | (simp only [List.length_append, List.length_cons, List.length_nil, List.length_map, List.length_set, List.length_replicate, Spec.bytesOf_length]; omega) | (simp; omega))
    rw [hs19v] at hs19; clear hs19v
    refine ⟨_, H20, hs19, ?_⟩
    have H20n : Hl1.next ≤ H20.next := hx21.1
    refine st_op (ev_move rfl) rfl rfl rfl ?_
    refine st_bool 22 rfl (fun hb22 => ?_) (fun hb22 => ?_)
    ·
      refine st_op (ev_move rfl) rfl rfl rfl ?_
      refine st_op (ev_int64 (c := 2 * n) rfl rfl rfl (by omega) (by omega)) rfl rfl rfl ?_
      refine st_op (ev_move rfl) rfl rfl rfl ?_
      refine st_op (ev_lenSl rfl Try.underlying28) rfl rfl rfl ?_
      refine st_op (ev_int rfl rfl rfl) rfl rfl rfl ?_
      refine st_op (ev_pickT rfl rfl) rfl rfl rfl ?_
      refine st_op (ev_assign rfl) rfl rfl rfl ?_
      try show aw _ _ _ _ _ _
      refine aw_ret ?_
      have hx23 : Ext H H20 := (Ext.trans hxl3 hx21)
      have hres : (Spec.mayC l && decide (2 * Spec.cntF m l > l.length)) = (decide (2 * n > (l.length : Int))) := by rw [show Spec.cntF m l = n from by rw [← hv, List.drop_eq_nil_of_le (by omega)]; simp [Spec.cntF]]; simp_all
      exact ⟨.bool (decide (2 * n > (l.length : Int))), rfl, by rw [hres], hx23⟩
    ·
      refine st_skip rfl rfl rfl ?_
      refine st_skip rfl rfl rfl ?_
      refine st_skip rfl rfl rfl ?_
      refine st_skip rfl rfl rfl ?_
      refine st_skip rfl rfl rfl ?_
      refine st_op (ev_pickF rfl rfl) rfl rfl rfl ?_
      refine st_op (ev_assign rfl) rfl rfl rfl ?_
      try show aw _ _ _ _ _ _
      refine aw_ret ?_
      have hx24 : Ext H H20 := (Ext.trans hxl3 hx21)
      have hres : (Spec.mayC l && decide (2 * Spec.cntF m l > l.length)) = false := by rw [show Spec.cntF m l = n from by rw [← hv, List.drop_eq_nil_of_le (by omega)]; simp [Spec.cntF]]; simp_all
      exact ⟨.bool false, rfl, by rw [hres], hx24⟩
theorem law_ConfMiddle_spec (H : Heap) (bits : Int) (hbits : -9223372036854775808 ≤ bits ∧ bits ≤ 9223372036854775807) (at_A : Option Addr) (at_ : List Int) (at_c : Nat) (hat_ : Row H at_A at_c 1 (at_.map i64c)) (cat_ : at_.length ≤ at_c) (lat_ : at_.length ≤ 140737488355328) (bat_ : Spec.Ints at_) : ∃ v H', Spec Try.prog 5 [.int .i64 bits, .slice at_A at_.length at_c] H v H' ∧ ((v = .bool true) ∧ (Ext H H')) := by
  refine spec_go2 E0_ok 77 (f := 5) Try.func5 rfl rfl rfl ?_
  refine aw_seq ?_
  refine aw_reg ?_
  refine st_op (ev_assign rfl) rfl rfl rfl ?_
  try show aw _ _ _ _ _ _
  refine aw_seq ?_
  refine aw_reg ?_
  refine st_call rfl rfl rfl ent17 rfl rfl rfl ?_
  obtain ⟨_, H2, hs1, hs1v, hx3⟩ := law20_begun_spec H 
  rw [hs1v] at hs1; clear hs1v
  rw [hx3] at hs1; clear hx3
  refine ⟨_, H, hs1, ?_⟩
  refine st_op (ev_assign rfl) rfl rfl rfl ?_
  try show aw _ _ _ _ _ _
  refine aw_seq ?_
  refine aw_seq ?_
  refine aw_reg ?_
  refine st_op (ev_move rfl) rfl rfl rfl ?_
  refine st_op (ev_not rfl) rfl rfl rfl ?_
  try show aw _ _ _ _ _ _
  refine aw_cond (t := false) rfl ?_
  try show aw _ _ _ _ _ _
  refine aw_skip ?_
  try show aw _ _ _ _ _ _
  refine aw_seq ?_
  refine aw_reg ?_
  refine st_op (ev_move rfl) rfl rfl rfl ?_
  refine st_call rfl rfl rfl ent18 rfl rfl rfl ?_
  obtain ⟨_, H5, hs4, A7, c8, hs4v, hm9, hq10, hx6⟩ := law20_set_spec H bits ⟨by omega, by omega⟩
  rw [hs4v] at hs4; clear hs4v
  generalize hR12 : (Spec.setN (fun (j : Nat) => Int.tmod (Spec.shr .i64 bits (j : Int)) 2 ≠ 0) 7) = r11 at hs4 hm9 hq10
  refine ⟨_, H5, hs4, ?_⟩
  have H5n : H.next ≤ H5.next := hx6.1
  refine st_op (ev_assign rfl) rfl rfl rfl ?_
  try show aw _ _ _ _ _ _
  refine aw_seq ?_
  refine aw_seq ?_
  refine aw_reg ?_
  refine st_op (ev_move rfl) rfl rfl rfl ?_
  refine st_call rfl rfl rfl ent19 rfl rfl rfl ?_
  obtain ⟨_, H14, hs13, hs13v, hx15⟩ := conf_May_spec H5 A7 r11 c8 (My.row hm9) (My.capF hm9 (by first | omega | (simp only [List.length_append, List.length_cons, List.length_nil, List.length_map, List.length_set, List.length_replicate, Spec.bytesOf_length]; omega) | (simp; omega))) (by first | omega | (simp only [List.length_append, List.length_cons, List.length_nil, List.length_map, List.length_set, List.length_replicate, Spec.bytesOf_length]; omega) | (simp; omega))
  rw [hs13v] at hs13; clear hs13v
  refine ⟨_, H14, hs13, ?_⟩
  have H14n : H5.next ≤ H14.next := hx15.1
  refine st_op (ev_not rfl) rfl rfl rfl ?_
  refine st_op (ev_move rfl) rfl rfl rfl ?_
  refine st_bool 20 rfl (fun hb16 => ?_) (fun hb16 => ?_)
  ·
    replace hb16 : (Spec.mayC r11) = false := by rw [Bool.not_eq_true'] at hb16; exact hb16
    refine st_skip rfl rfl rfl ?_
    refine st_skip rfl rfl rfl ?_
    refine st_skip rfl rfl rfl ?_
    refine st_op (ev_pickT rfl rfl) rfl rfl rfl ?_
    try show aw _ _ _ _ _ _
    refine aw_cond (t := true) rfl ?_
    try show aw _ _ _ _ _ _
    refine aw_seq ?_
    refine aw_reg ?_
    refine st_op (ev_assign rfl) rfl rfl rfl ?_
    try show aw _ _ _ _ _ _
    refine aw_ret ?_
    have hx17 : Ext H H14 := (Ext.trans hx6 hx15)
    have hres : true = true := by simp_all
    exact ⟨.bool true, rfl, by rw [hres], hx17⟩
  ·
    replace hb16 : (Spec.mayC r11) = true := by rw [Bool.not_eq_false'] at hb16; exact hb16
    obtain ⟨hm1, hm2, hm3⟩ := Spec.mayC_says hb16
    refine st_op (ev_move rfl) rfl rfl rfl ?_
    refine st_op (ev_lenSl rfl Try.underlying35) rfl rfl rfl ?_
    refine st_op (ev_int rfl rfl rfl) rfl rfl rfl ?_
    refine st_op (ev_pickF rfl rfl) rfl rfl rfl ?_
    try show aw _ _ _ _ _ _
    by_cases hc18 : (decide ((at_.length : Int) > 10)) = true
    · refine aw_condT hc18 rfl ?_
      try show aw _ _ _ _ _ _
      have hc18 := of_decide_eq_true hc18
      refine aw_seq ?_
      refine aw_reg ?_
      refine st_op (ev_assign rfl) rfl rfl rfl ?_
      try show aw _ _ _ _ _ _
      refine aw_ret ?_
      have hx19 : Ext H H14 := (Ext.trans hx6 hx15)
      have hres : true = true := by simp_all
      exact ⟨.bool true, rfl, by rw [hres], hx19⟩
    · rw [Bool.not_eq_true] at hc18; refine aw_condF hc18 rfl ?_
      try show aw _ _ _ _ _ _
      have hc18 := of_decide_eq_false hc18
      refine aw_skip ?_
      try show aw _ _ _ _ _ _
      refine aw_seq ?_
      refine aw_reg ?_
      refine st_op (ev_move rfl) rfl rfl rfl ?_
      refine st_op (ev_move rfl) rfl rfl rfl ?_
      refine st_call rfl rfl rfl ent20 rfl rfl rfl ?_
      have h20 := My.ext hm9 hx15
      have hx22 : Ext H H14 := (Ext.trans hx6 hx15)
      have h21 := Row.ext hat_ hx22
      obtain ⟨_, H24, hs23, hs23v, hx25⟩ := conf_Middle_spec H14 A7 r11 c8 (My.row h20) (My.capF h20 (by first | omega | (simp only [List.length_append, List.length_cons, List.length_nil, List.length_map, List.length_set, List.length_replicate, Spec.bytesOf_length]; omega) | (simp; omega))) (by first | omega | (simp only [List.length_append, List.length_cons, List.length_nil, List.length_map, List.length_set, List.length_replicate, Spec.bytesOf_length]; omega) | (simp; omega)) at_A at_ at_c h21 cat_ (by first | omega | (simp only [List.length_append, List.length_cons, List.length_nil, List.length_map, List.length_set, List.length_replicate, Spec.bytesOf_length]; omega) | (simp; omega)) (by first | assumption | omega | decide | (simp_all; done))
      rw [hs23v] at hs23; clear hs23v
      generalize hR27 : (Spec.midF r11 at_) = r26 at hs23
      refine ⟨_, H24, hs23, ?_⟩
      have H24n : H14.next ≤ H24.next := hx25.1
      refine st_op (ev_assign rfl) rfl rfl rfl ?_
      try show aw _ _ _ _ _ _
      refine aw_seq ?_
      refine aw_reg ?_
      refine st_op (ev_assign rfl) rfl rfl rfl ?_
      refine st_op (ev_assign rfl) rfl rfl rfl ?_
      try show aw _ _ _ _ _ _
      refine aw_seq ?_
      refine aw_seq ?_
      refine aw_reg ?_
      refine st_op (ev_assign rfl) rfl rfl rfl ?_
      try show aw _ _ _ _ _ _
      refine aw_block ?_
      have hm29 : My H24 H24 none 0 1 (([] : List Int).map i64c) := .nil
      have hm31 : My H24 H24 none 0 1 (([] : List Int).map i64c) := .nil
      refine aw_keep [1, 6, 7, 8, 9, 10] (l' := (.cons 1 (.slice at_A at_.length at_c) (.cons 6 (.slice A7 r11.length c8) (.cons 7 (.int .i64 r26) (.cons 8 (.slice none 0 0) (.cons 9 (.slice none 0 0) (.cons 10 (.int .i64 0) .nil))))))) (by repeat (first | exact Up.done | refine Up.then ?_ | refine Up.inBlock ?_)) rfl ?_
      refine aw_iter (α := Nat × Option Addr × Nat × List Int × Option Addr × Nat × List Int × Heap) (fun a => r11.length - a.1) (fun a => (.cons 1 (.slice at_A at_.length at_c) (.cons 6 (.slice A7 r11.length c8) (.cons 7 (.int .i64 r26) (.cons 8 (.slice a.2.1 a.2.2.2.1.length a.2.2.1) (.cons 9 (.slice a.2.2.2.2.1 a.2.2.2.2.2.2.1.length a.2.2.2.2.2.1) (.cons 10 (.int .i64 (a.1 : Int)) .nil))))))) (fun a => a.2.2.2.2.2.2.2) (fun a => (a.1 ≤ r11.length) ∧ (a.2.2.2.1 = (r11.take a.1).filter (fun x => decide (r26 ≤ Spec.valF at_ x))) ∧ (a.2.2.2.2.2.2.1 = (r11.take a.1).filter (fun x => decide (r26 < Spec.valF at_ x))) ∧ (a.2.2.2.1.length ≤ a.1) ∧ (a.2.2.2.2.2.2.1.length ≤ a.1) ∧ (Apart a.2.1 a.2.2.2.2.1) ∧ (a.2.2.2.1 = [] → a.2.1 = none) ∧ (a.2.2.2.2.2.2.1 = [] → a.2.2.2.2.1 = none) ∧ (My H24 a.2.2.2.2.2.2.2 a.2.1 a.2.2.1 1 (a.2.2.2.1.map i64c)) ∧ (My H24 a.2.2.2.2.2.2.2 a.2.2.2.2.1 a.2.2.2.2.2.1 1 (a.2.2.2.2.2.2.1.map i64c)) ∧ (Ext H24 a.2.2.2.2.2.2.2)) (0, none, 0, ([] : List Int), none, 0, ([] : List Int), H24) ⟨(show 0 ≤ r11.length from Nat.zero_le _), (show ([] : List Int) = (r11.take 0).filter (fun x => decide (r26 ≤ Spec.valF at_ x)) from rfl), (show ([] : List Int) = (r11.take 0).filter (fun x => decide (r26 < Spec.valF at_ x)) from rfl), (show ([] : List Int).length ≤ 0 from Nat.le_refl _), (show ([] : List Int).length ≤ 0 from Nat.le_refl _), (show Apart none none from Apart.none), (show ([] : List Int) = [] → none = none from (fun _ => rfl)), (show ([] : List Int) = [] → none = none from (fun _ => rfl)), (show My H24 H24 none 0 1 (([] : List Int).map i64c) from hm29), (show My H24 H24 none 0 1 (([] : List Int).map i64c) from hm31), (show Ext H24 H24 from (Ext.refl H24))⟩ ?_
      rintro ⟨i, A1, p1, ha, A3, p3, mo, Hl28⟩ ⟨hi, hha, hmo, hal, hml, hap, hn1, hn3, hm30, hm32, hxl33⟩ ih34
      replace hi : i ≤ r11.length := hi
      replace hha : ha = (r11.take i).filter (fun x => decide (r26 ≤ Spec.valF at_ x)) := hha
      replace hmo : mo = (r11.take i).filter (fun x => decide (r26 < Spec.valF at_ x)) := hmo
      replace hal : ha.length ≤ i := hal
      replace hml : mo.length ≤ i := hml
      replace hap : Apart A1 A3 := hap
      replace hn1 : ha = [] → A1 = none := hn1
      replace hn3 : mo = [] → A3 = none := hn3
      replace hm30 : My H24 Hl28 A1 p1 1 (ha.map i64c) := hm30
      replace hm32 : My H24 Hl28 A3 p3 1 (mo.map i64c) := hm32
      replace hxl33 : Ext H24 Hl28 := hxl33
      show aw _ _ _ (RL _ (.cons 1 (.slice at_A at_.length at_c) (.cons 6 (.slice A7 r11.length c8) (.cons 7 (.int .i64 r26) (.cons 8 (.slice A1 ha.length p1) (.cons 9 (.slice A3 mo.length p3) (.cons 10 (.int .i64 (i : Int)) .nil))))))) Hl28 _
      have Hl28n : H24.next ≤ Hl28.next := hxl33.1
      refine aw_seq ?_
      refine aw_seq ?_
      refine aw_reg ?_
      refine st_op (ev_move rfl) rfl rfl rfl ?_
      refine st_op (ev_move rfl) rfl rfl rfl ?_
      refine st_op (ev_lenSl rfl Try.underlying28) rfl rfl rfl ?_
      refine st_op (ev_int rfl rfl rfl) rfl rfl rfl ?_
      try show aw _ _ _ _ _ _
      by_cases hc35 : (decide ((i : Int) < (r11.length : Int))) = true
      · refine aw_condT hc35 rfl ?_
        try show aw _ _ _ _ _ _
        have hc35 := of_decide_eq_true hc35
        refine aw_skip ?_
        try show aw _ _ _ _ _ _
        refine aw_seq ?_
        refine aw_block ?_
        refine aw_seq ?_
        refine aw_reg ?_
        refine st_op (ev_assign rfl) rfl rfl rfl ?_
        try show aw _ _ _ _ _ _
        refine aw_seq ?_
        refine aw_seq ?_
        refine aw_reg ?_
        refine st_op (ev_move rfl) rfl rfl rfl ?_
        refine st_op (ev_move rfl) rfl rfl rfl ?_
        have hx37 : Ext H14 Hl28 := (Ext.trans hx25 hxl33)
        have h36 := My.ext h20 hx37
        have hi38 : 0 ≤ ((i : Int) : Int) := by omega
        have hi39 : ((i : Int) : Int) < ((r11.length : Nat) : Int) := by first | omega | (simp only [List.length_append, List.length_cons, List.length_nil, List.length_map, List.length_set, List.length_replicate, Spec.bytesOf_length]; omega) | (simp; omega)
        obtain ⟨x40, hx41⟩ : ∃ e, r11[i]? = some e := ⟨_, List.getElem?_eq_getElem (by first | omega | (simp only [List.length_append, List.length_cons, List.length_nil, List.length_map, List.length_set, List.length_replicate, Spec.bytesOf_length]; omega) | (simp; omega))⟩
        have x40m := hm1 _ (List.mem_of_getElem? hx41)
        refine st_op (ev_at rfl rfl (My.row h36) (getMap i64c hx41) (by first | rfl | omega | simp) hi38 hi39 el28) rfl rfl rfl ?_
        refine st_op (ev_atL rfl (My.row h36) (getMap i64c hx41) one3 rfl) rfl rfl rfl ?_
        refine st_op (ev_move rfl) rfl rfl rfl ?_
        refine st_op (ev_lenSl rfl Try.underlying35) rfl rfl rfl ?_
        refine st_op (ev_int rfl rfl rfl) rfl rfl rfl ?_
        try show aw _ _ _ _ _ _
        by_cases hc42 : (decide (x40 < (at_.length : Int))) = true
        · refine aw_condT hc42 rfl ?_
          try show aw _ _ _ _ _ _
          have hc42 := of_decide_eq_true hc42
          refine aw_reg ?_
          refine st_op (ev_move rfl) rfl rfl rfl ?_
          refine st_op (ev_move rfl) rfl rfl rfl ?_
          refine st_op (ev_move rfl) rfl rfl rfl ?_
          have hi43 : 0 ≤ ((i : Int) : Int) := by omega
          have hi44 : ((i : Int) : Int) < ((r11.length : Nat) : Int) := by first | omega | (simp only [List.length_append, List.length_cons, List.length_nil, List.length_map, List.length_set, List.length_replicate, Spec.bytesOf_length]; omega) | (simp; omega)
          refine st_op (ev_at rfl rfl (My.row h36) (getMap i64c hx41) (by first | rfl | omega | simp) hi43 hi44 el28) rfl rfl rfl ?_
          refine st_op (ev_atL rfl (My.row h36) (getMap i64c hx41) one3 rfl) rfl rfl rfl ?_
          have h45 := Row.ext h21 hx37
          have hi46 : 0 ≤ (x40 : Int) := by omega
          have hi47 : (x40 : Int) < ((at_.length : Nat) : Int) := by first | omega | (simp only [List.length_append, List.length_cons, List.length_nil, List.length_map, List.length_set, List.length_replicate, Spec.bytesOf_length]; omega) | (simp; omega)
          obtain ⟨x48, hx49⟩ : ∃ e, at_[(x40).toNat]? = some e := ⟨_, List.getElem?_eq_getElem (by first | omega | (simp only [List.length_append, List.length_cons, List.length_nil, List.length_map, List.length_set, List.length_replicate, Spec.bytesOf_length]; omega) | (simp; omega))⟩
          have x48b : -9223372036854775808 ≤ x48 ∧ x48 ≤ 9223372036854775807 := bat_ _ (List.mem_of_getElem? hx49)
          refine st_op (ev_at rfl rfl h45 (getMap i64c hx49) (by first | rfl | omega | simp) hi46 hi47 el35) rfl rfl rfl ?_
          refine st_op (ev_atL rfl h45 (getMap i64c hx49) one2 rfl) rfl rfl rfl ?_
          refine st_op (ev_assign rfl) rfl rfl rfl ?_
          try show aw _ _ _ _ _ _
          refine aw_seq ?_
          refine aw_seq ?_
          refine aw_reg ?_
          refine st_op (ev_move rfl) rfl rfl rfl ?_
          refine st_op (ev_move rfl) rfl rfl rfl ?_
          refine st_op (ev_int rfl rfl rfl) rfl rfl rfl ?_
          try show aw _ _ _ _ _ _
          by_cases hc50 : (decide (x48 ≥ r26)) = true
          · refine aw_condT hc50 rfl ?_
            try show aw _ _ _ _ _ _
            have hc50 := of_decide_eq_true hc50
            refine aw_reg ?_
            refine st_op (ev_move rfl) rfl rfl rfl ?_
            refine st_op (ev_move rfl) rfl rfl rfl ?_
            refine st_op (ev_move rfl) rfl rfl rfl ?_
            have hi51 : 0 ≤ ((i : Int) : Int) := by omega
            have hi52 : ((i : Int) : Int) < ((r11.length : Nat) : Int) := by first | omega | (simp only [List.length_append, List.length_cons, List.length_nil, List.length_map, List.length_set, List.length_replicate, Spec.bytesOf_length]; omega) | (simp; omega)
            refine st_op (ev_at rfl rfl (My.row h36) (getMap i64c hx41) (by first | rfl | omega | simp) hi51 hi52 el28) rfl rfl rfl ?_
            refine st_op (ev_atL rfl (My.row h36) (getMap i64c hx41) one3 rfl) rfl rfl rfl ?_
            obtain ⟨b53, H54, he55, b53e, H54n_, hm57, f56⟩ := mem_lit Hl28 (xs := ([.int .i64 x40] : List Value)) (m := 1) (rows := [[.int .i64 x40]]) rfl eok28 (by decide) (by decide) zf3 rfl (allLen rfl) rfl
            replace hm57 : My Hl28 H54 (some ⟨b53, 0, none⟩) 1 1 ([x40].map i64c) := hm57
            refine st_op (he55 _ _ _ _ _ _ _ _ rfl) rfl rfl rfl ?_
            have hx58 : Ext Hl28 H54 := Ext.new (by omega) H54n_ f56
            have H54n : Hl28.next ≤ H54.next := hx58.1
            have h59 := My.ext hm32 hx58
            have h60 := My.ext hm30 hx58
            obtain ⟨A61, c62, H63, W64, he65, hm66, hf69, hA68⟩ := mem_append2 (f := i64c) (old := ha) (new := [x40]) (m := ha.length) (mx := 1) (c := p1) (by first | rfl | simp) (by first | rfl | simp) eok28 (by decide) hm30 h60 (by omega) (((My.row hm57)).srcF (by decide) (by first | rfl | simp)) rfl i64c_len i64c_one (by first | omega | (simp only [List.length_append, List.length_cons, List.length_nil, List.length_map, List.length_set, List.length_replicate, Spec.bytesOf_length]; omega) | (simp; omega)) (by first | omega | (simp only [List.length_append, List.length_cons, List.length_nil, List.length_map, List.length_set, List.length_replicate, Spec.bytesOf_length]; omega) | (simp; omega))
            have hf67 := Fr.mono hf69 (fun q h => h.2)
            refine st_op (he65 _ _ _ _ _ _ _ _ _ _ rfl rfl isrow28) rfl rfl rfl ?_
            have h71 := My.frB h59 hf69 (fun a ha e => e.1.elim fun a2 h2 => hap a2 a h2.1 ha h2.2.symm)
            have hap70 := Apart.append hap h59 ((Classical.em (mo = [])).elim (fun e => .inl (hn3 e)) (fun e => .inr (.inl (fun q => e (List.map_eq_nil_iff.1 q))))) hA68
            have H63n : H54.next ≤ H63.next := hf67.1
            refine st_op (ev_assign rfl) rfl rfl rfl ?_
            try show aw _ _ _ _ _ _
            refine aw_seq ?_
            refine aw_reg ?_
            refine st_op (ev_move rfl) rfl rfl rfl ?_
            refine st_op (ev_move rfl) rfl rfl rfl ?_
            refine st_op (ev_int rfl rfl rfl) rfl rfl rfl ?_
            try show aw _ _ _ _ _ _
            by_cases hc72 : (decide (x48 > r26)) = true
            · refine aw_condT hc72 rfl ?_
              try show aw _ _ _ _ _ _
              have hc72 := of_decide_eq_true hc72
              refine aw_reg ?_
              refine st_op (ev_move rfl) rfl rfl rfl ?_
              refine st_op (ev_move rfl) rfl rfl rfl ?_
              refine st_op (ev_move rfl) rfl rfl rfl ?_
              have hx74 : Ext H14 H63 := (Ext.then (Ext.trans hx37 hx58) hf67 (fun q hq e => by omega))
              have h73 := My.ext h20 hx74
              have hi75 : 0 ≤ ((i : Int) : Int) := by omega
              have hi76 : ((i : Int) : Int) < ((r11.length : Nat) : Int) := by first | omega | (simp only [List.length_append, List.length_cons, List.length_nil, List.length_map, List.length_set, List.length_replicate, Spec.bytesOf_length]; omega) | (simp; omega)
              refine st_op (ev_at rfl rfl (My.row h73) (getMap i64c hx41) (by first | rfl | omega | simp) hi75 hi76 el28) rfl rfl rfl ?_
              refine st_op (ev_atL rfl (My.row h73) (getMap i64c hx41) one3 rfl) rfl rfl rfl ?_
              obtain ⟨b77, H78, he79, b77e, H78n_, hm81, f80⟩ := mem_lit H63 (xs := ([.int .i64 x40] : List Value)) (m := 1) (rows := [[.int .i64 x40]]) rfl eok28 (by decide) (by decide) zf3 rfl (allLen rfl) rfl
              replace hm81 : My H63 H78 (some ⟨b77, 0, none⟩) 1 1 ([x40].map i64c) := hm81
              refine st_op (he79 _ _ _ _ _ _ _ _ rfl) rfl rfl rfl ?_
              have hx82 : Ext H63 H78 := Ext.new (by omega) H78n_ f80
              have H78n : H63.next ≤ H78.next := hx82.1
              have h83 := My.ext hm66 hx82
              have h84 := My.ext h71 hx82
              obtain ⟨A85, c86, H87, W88, he89, hm90, hf93, hA92⟩ := mem_append2 (f := i64c) (old := mo) (new := [x40]) (m := mo.length) (mx := 1) (c := p3) (by first | rfl | simp) (by first | rfl | simp) eok28 (by decide) hm32 h84 (by omega) (((My.row hm81)).srcF (by decide) (by first | rfl | simp)) rfl i64c_len i64c_one (by first | omega | (simp only [List.length_append, List.length_cons, List.length_nil, List.length_map, List.length_set, List.length_replicate, Spec.bytesOf_length]; omega) | (simp; omega)) (by first | omega | (simp only [List.length_append, List.length_cons, List.length_nil, List.length_map, List.length_set, List.length_replicate, Spec.bytesOf_length]; omega) | (simp; omega))
              have hf91 := Fr.mono hf93 (fun q h => h.2)
              refine st_op (he89 _ _ _ _ _ _ _ _ _ _ rfl rfl isrow28) rfl rfl rfl ?_
              have h95 := My.frB h83 hf93 (fun a ha e => e.1.elim fun a2 h2 => (Apart.symm hap70) a2 a h2.1 ha h2.2.symm)
              have hap94 := Apart.append (Apart.symm hap70) h83 (.inr (.inl (by simp))) hA92
              have H87n : H78.next ≤ H87.next := hf91.1
              refine st_op (ev_assign rfl) rfl rfl rfl ?_
              try show aw _ _ _ _ _ _
              refine aw_reg ?_
              refine st_op (ev_move rfl) rfl rfl rfl ?_
              refine st_op (ev_int64 (c := (i : Int) + 1) rfl rfl rfl (by omega) (by omega)) rfl rfl rfl ?_
              refine st_op (ev_assign rfl) rfl rfl rfl ?_
              try show aw _ _ _ _ _ _
              have hx96 : Ext H24 H87 := (Ext.then (Ext.trans (Ext.then (Ext.trans hxl33 hx58) hf67 (fun q hq e => by omega)) hx82) hf91 (fun q hq e => by omega))
              refine aw_keep [1, 6, 7, 8, 9, 10] (l' := (.cons 1 (.slice at_A at_.length at_c) (.cons 6 (.slice A7 r11.length c8) (.cons 7 (.int .i64 r26) (.cons 8 (.slice A61 ((ha ++ [x40]).length) c62) (.cons 9 (.slice A85 ((mo ++ [x40]).length) c86) (.cons 10 (.int .i64 ((i : Int) + 1)) .nil))))))) (by repeat (first | exact Up.done | refine Up.then ?_ | refine Up.inBlock ?_)) rfl ?_
              exact ih34 (i + 1, A61, c62, (ha ++ [x40]), A85, c86, (mo ++ [x40]), H87) ⟨(show (i + 1) ≤ r11.length from (by omega)), (show (ha ++ [x40]) = (r11.take (i + 1)).filter (fun x => decide (r26 ≤ Spec.valF at_ x)) from (by first | (exfalso; omega) | skip; rw [List.take_add_one, hx41, List.filter_append, ← hha]; simp only [Option.toList_some, List.filter_cons, List.filter_nil, (show Spec.valF at_ x40 = x48 from Spec.valF_lt (by omega) hx49)]; first | rw [if_pos (decide_eq_true (by omega))] | (rw [if_neg (fun h => absurd (of_decide_eq_true h) (by omega)), List.append_nil]))), (show (mo ++ [x40]) = (r11.take (i + 1)).filter (fun x => decide (r26 < Spec.valF at_ x)) from (by first | (exfalso; omega) | skip; rw [List.take_add_one, hx41, List.filter_append, ← hmo]; simp only [Option.toList_some, List.filter_cons, List.filter_nil, (show Spec.valF at_ x40 = x48 from Spec.valF_lt (by omega) hx49)]; first | rw [if_pos (decide_eq_true (by omega))] | (rw [if_neg (fun h => absurd (of_decide_eq_true h) (by omega)), List.append_nil]))), (show (ha ++ [x40]).length ≤ (i + 1) from (by first | omega | (rw [List.length_append]; simp; omega))), (show (mo ++ [x40]).length ≤ (i + 1) from (by first | omega | (rw [List.length_append]; simp; omega))), (show Apart A61 A85 from (Apart.symm hap94)), (show (ha ++ [x40]) = [] → A61 = none from (fun h => by simp at h)), (show (mo ++ [x40]) = [] → A85 = none from (fun h => by simp at h)), (show My H24 H87 A61 c62 1 ((ha ++ [x40]).map i64c) from h95), (show My H24 H87 A85 c86 1 ((mo ++ [x40]).map i64c) from hm90), (show Ext H24 H87 from hx96)⟩ (by simp only; omega)
            · rw [Bool.not_eq_true] at hc72; refine aw_condF hc72 rfl ?_
              try show aw _ _ _ _ _ _
              have hc72 := of_decide_eq_false hc72
              refine aw_skip ?_
              try show aw _ _ _ _ _ _
              refine aw_reg ?_
              refine st_op (ev_move rfl) rfl rfl rfl ?_
              refine st_op (ev_int64 (c := (i : Int) + 1) rfl rfl rfl (by omega) (by omega)) rfl rfl rfl ?_
              refine st_op (ev_assign rfl) rfl rfl rfl ?_
              try show aw _ _ _ _ _ _
              have hx97 : Ext H24 H63 := (Ext.then (Ext.trans hxl33 hx58) hf67 (fun q hq e => by omega))
              refine aw_keep [1, 6, 7, 8, 9, 10] (l' := (.cons 1 (.slice at_A at_.length at_c) (.cons 6 (.slice A7 r11.length c8) (.cons 7 (.int .i64 r26) (.cons 8 (.slice A61 ((ha ++ [x40]).length) c62) (.cons 9 (.slice A3 mo.length p3) (.cons 10 (.int .i64 ((i : Int) + 1)) .nil))))))) (by repeat (first | exact Up.done | refine Up.then ?_ | refine Up.inBlock ?_)) rfl ?_
              exact ih34 (i + 1, A61, c62, (ha ++ [x40]), A3, p3, mo, H63) ⟨(show (i + 1) ≤ r11.length from (by omega)), (show (ha ++ [x40]) = (r11.take (i + 1)).filter (fun x => decide (r26 ≤ Spec.valF at_ x)) from (by first | (exfalso; omega) | skip; rw [List.take_add_one, hx41, List.filter_append, ← hha]; simp only [Option.toList_some, List.filter_cons, List.filter_nil, (show Spec.valF at_ x40 = x48 from Spec.valF_lt (by omega) hx49)]; first | rw [if_pos (decide_eq_true (by omega))] | (rw [if_neg (fun h => absurd (of_decide_eq_true h) (by omega)), List.append_nil]))), (show mo = (r11.take (i + 1)).filter (fun x => decide (r26 < Spec.valF at_ x)) from (by first | (exfalso; omega) | skip; rw [List.take_add_one, hx41, List.filter_append, ← hmo]; simp only [Option.toList_some, List.filter_cons, List.filter_nil, (show Spec.valF at_ x40 = x48 from Spec.valF_lt (by omega) hx49)]; first | rw [if_pos (decide_eq_true (by omega))] | (rw [if_neg (fun h => absurd (of_decide_eq_true h) (by omega)), List.append_nil]))), (show (ha ++ [x40]).length ≤ (i + 1) from (by first | omega | (rw [List.length_append]; simp; omega))), (show mo.length ≤ (i + 1) from (by first | omega | (rw [List.length_append]; simp; omega))), (show Apart A61 A3 from hap70), (show (ha ++ [x40]) = [] → A61 = none from (fun h => by simp at h)), (show mo = [] → A3 = none from hn3), (show My H24 H63 A61 c62 1 ((ha ++ [x40]).map i64c) from hm66), (show My H24 H63 A3 p3 1 (mo.map i64c) from h71), (show Ext H24 H63 from hx97)⟩ (by simp only; omega)
          · rw [Bool.not_eq_true] at hc50; refine aw_condF hc50 rfl ?_
            try show aw _ _ _ _ _ _
            have hc50 := of_decide_eq_false hc50
            refine aw_skip ?_
            try show aw _ _ _ _ _ _
            refine aw_seq ?_
            refine aw_reg ?_
            refine st_op (ev_move rfl) rfl rfl rfl ?_
            refine st_op (ev_move rfl) rfl rfl rfl ?_
            refine st_op (ev_int rfl rfl rfl) rfl rfl rfl ?_
            try show aw _ _ _ _ _ _
            by_cases hc98 : (decide (x48 > r26)) = true
            · refine aw_condT hc98 rfl ?_
              try show aw _ _ _ _ _ _
              have hc98 := of_decide_eq_true hc98
              refine aw_reg ?_
              refine st_op (ev_move rfl) rfl rfl rfl ?_
              refine st_op (ev_move rfl) rfl rfl rfl ?_
              refine st_op (ev_move rfl) rfl rfl rfl ?_
              have hi99 : 0 ≤ ((i : Int) : Int) := by omega
              have hi100 : ((i : Int) : Int) < ((r11.length : Nat) : Int) := by first | omega | (simp only [List.length_append, List.length_cons, List.length_nil, List.length_map, List.length_set, List.length_replicate, Spec.bytesOf_length]; omega) | (simp; omega)
              refine st_op (ev_at rfl rfl (My.row h36) (getMap i64c hx41) (by first | rfl | omega | simp) hi99 hi100 el28) rfl rfl rfl ?_
              refine st_op (ev_atL rfl (My.row h36) (getMap i64c hx41) one3 rfl) rfl rfl rfl ?_
              obtain ⟨b101, H102, he103, b101e, H102n_, hm105, f104⟩ := mem_lit Hl28 (xs := ([.int .i64 x40] : List Value)) (m := 1) (rows := [[.int .i64 x40]]) rfl eok28 (by decide) (by decide) zf3 rfl (allLen rfl) rfl
              replace hm105 : My Hl28 H102 (some ⟨b101, 0, none⟩) 1 1 ([x40].map i64c) := hm105
              refine st_op (he103 _ _ _ _ _ _ _ _ rfl) rfl rfl rfl ?_
              have hx106 : Ext Hl28 H102 := Ext.new (by omega) H102n_ f104
              have H102n : Hl28.next ≤ H102.next := hx106.1
              have h107 := My.ext hm30 hx106
              have h108 := My.ext hm32 hx106
              obtain ⟨A109, c110, H111, W112, he113, hm114, hf117, hA116⟩ := mem_append2 (f := i64c) (old := mo) (new := [x40]) (m := mo.length) (mx := 1) (c := p3) (by first | rfl | simp) (by first | rfl | simp) eok28 (by decide) hm32 h108 (by omega) (((My.row hm105)).srcF (by decide) (by first | rfl | simp)) rfl i64c_len i64c_one (by first | omega | (simp only [List.length_append, List.length_cons, List.length_nil, List.length_map, List.length_set, List.length_replicate, Spec.bytesOf_length]; omega) | (simp; omega)) (by first | omega | (simp only [List.length_append, List.length_cons, List.length_nil, List.length_map, List.length_set, List.length_replicate, Spec.bytesOf_length]; omega) | (simp; omega))
              have hf115 := Fr.mono hf117 (fun q h => h.2)
              refine st_op (he113 _ _ _ _ _ _ _ _ _ _ rfl rfl isrow28) rfl rfl rfl ?_
              have h119 := My.frB h107 hf117 (fun a ha e => e.1.elim fun a2 h2 => (Apart.symm hap) a2 a h2.1 ha h2.2.symm)
              have hap118 := Apart.append (Apart.symm hap) h107 ((Classical.em (ha = [])).elim (fun e => .inl (hn1 e)) (fun e => .inr (.inl (fun q => e (List.map_eq_nil_iff.1 q))))) hA116
              have H111n : H102.next ≤ H111.next := hf115.1
              refine st_op (ev_assign rfl) rfl rfl rfl ?_
              try show aw _ _ _ _ _ _
              refine aw_reg ?_
              refine st_op (ev_move rfl) rfl rfl rfl ?_
              refine st_op (ev_int64 (c := (i : Int) + 1) rfl rfl rfl (by omega) (by omega)) rfl rfl rfl ?_
              refine st_op (ev_assign rfl) rfl rfl rfl ?_
              try show aw _ _ _ _ _ _
              have hx120 : Ext H24 H111 := (Ext.then (Ext.trans hxl33 hx106) hf115 (fun q hq e => by omega))
              refine aw_keep [1, 6, 7, 8, 9, 10] (l' := (.cons 1 (.slice at_A at_.length at_c) (.cons 6 (.slice A7 r11.length c8) (.cons 7 (.int .i64 r26) (.cons 8 (.slice A1 ha.length p1) (.cons 9 (.slice A109 ((mo ++ [x40]).length) c110) (.cons 10 (.int .i64 ((i : Int) + 1)) .nil))))))) (by repeat (first | exact Up.done | refine Up.then ?_ | refine Up.inBlock ?_)) rfl ?_
              exact ih34 (i + 1, A1, p1, ha, A109, c110, (mo ++ [x40]), H111) ⟨(show (i + 1) ≤ r11.length from (by omega)), (show ha = (r11.take (i + 1)).filter (fun x => decide (r26 ≤ Spec.valF at_ x)) from (by first | (exfalso; omega) | skip; rw [List.take_add_one, hx41, List.filter_append, ← hha]; simp only [Option.toList_some, List.filter_cons, List.filter_nil, (show Spec.valF at_ x40 = x48 from Spec.valF_lt (by omega) hx49)]; first | rw [if_pos (decide_eq_true (by omega))] | (rw [if_neg (fun h => absurd (of_decide_eq_true h) (by omega)), List.append_nil]))), (show (mo ++ [x40]) = (r11.take (i + 1)).filter (fun x => decide (r26 < Spec.valF at_ x)) from (by first | (exfalso; omega) | skip; rw [List.take_add_one, hx41, List.filter_append, ← hmo]; simp only [Option.toList_some, List.filter_cons, List.filter_nil, (show Spec.valF at_ x40 = x48 from Spec.valF_lt (by omega) hx49)]; first | rw [if_pos (decide_eq_true (by omega))] | (rw [if_neg (fun h => absurd (of_decide_eq_true h) (by omega)), List.append_nil]))), (show ha.length ≤ (i + 1) from (by first | omega | (rw [List.length_append]; simp; omega))), (show (mo ++ [x40]).length ≤ (i + 1) from (by first | omega | (rw [List.length_append]; simp; omega))), (show Apart A1 A109 from (Apart.symm hap118)), (show ha = [] → A1 = none from hn1), (show (mo ++ [x40]) = [] → A109 = none from (fun h => by simp at h)), (show My H24 H111 A1 p1 1 (ha.map i64c) from h119), (show My H24 H111 A109 c110 1 ((mo ++ [x40]).map i64c) from hm114), (show Ext H24 H111 from hx120)⟩ (by simp only; omega)
            · rw [Bool.not_eq_true] at hc98; refine aw_condF hc98 rfl ?_
              try show aw _ _ _ _ _ _
              have hc98 := of_decide_eq_false hc98
              refine aw_skip ?_
              try show aw _ _ _ _ _ _
              refine aw_reg ?_
              refine st_op (ev_move rfl) rfl rfl rfl ?_
              refine st_op (ev_int64 (c := (i : Int) + 1) rfl rfl rfl (by omega) (by omega)) rfl rfl rfl ?_
              refine st_op (ev_assign rfl) rfl rfl rfl ?_
              try show aw _ _ _ _ _ _
              refine aw_keep [1, 6, 7, 8, 9, 10] (l' := (.cons 1 (.slice at_A at_.length at_c) (.cons 6 (.slice A7 r11.length c8) (.cons 7 (.int .i64 r26) (.cons 8 (.slice A1 ha.length p1) (.cons 9 (.slice A3 mo.length p3) (.cons 10 (.int .i64 ((i : Int) + 1)) .nil))))))) (by repeat (first | exact Up.done | refine Up.then ?_ | refine Up.inBlock ?_)) rfl ?_
              exact ih34 (i + 1, A1, p1, ha, A3, p3, mo, Hl28) ⟨(show (i + 1) ≤ r11.length from (by omega)), (show ha = (r11.take (i + 1)).filter (fun x => decide (r26 ≤ Spec.valF at_ x)) from (by first | (exfalso; omega) | skip; rw [List.take_add_one, hx41, List.filter_append, ← hha]; simp only [Option.toList_some, List.filter_cons, List.filter_nil, (show Spec.valF at_ x40 = x48 from Spec.valF_lt (by omega) hx49)]; first | rw [if_pos (decide_eq_true (by omega))] | (rw [if_neg (fun h => absurd (of_decide_eq_true h) (by omega)), List.append_nil]))), (show mo = (r11.take (i + 1)).filter (fun x => decide (r26 < Spec.valF at_ x)) from (by first | (exfalso; omega) | skip; rw [List.take_add_one, hx41, List.filter_append, ← hmo]; simp only [Option.toList_some, List.filter_cons, List.filter_nil, (show Spec.valF at_ x40 = x48 from Spec.valF_lt (by omega) hx49)]; first | rw [if_pos (decide_eq_true (by omega))] | (rw [if_neg (fun h => absurd (of_decide_eq_true h) (by omega)), List.append_nil]))), (show ha.length ≤ (i + 1) from (by first | omega | (rw [List.length_append]; simp; omega))), (show mo.length ≤ (i + 1) from (by first | omega | (rw [List.length_append]; simp; omega))), (show Apart A1 A3 from hap), (show ha = [] → A1 = none from hn1), (show mo = [] → A3 = none from hn3), (show My H24 Hl28 A1 p1 1 (ha.map i64c) from hm30), (show My H24 Hl28 A3 p3 1 (mo.map i64c) from hm32), (show Ext H24 Hl28 from hxl33)⟩ (by simp only; omega)
        · rw [Bool.not_eq_true] at hc42; refine aw_condF hc42 rfl ?_
          try show aw _ _ _ _ _ _
          have hc42 := of_decide_eq_false hc42
          refine aw_skip ?_
          try show aw _ _ _ _ _ _
          refine aw_seq ?_
          refine aw_seq ?_
          refine aw_reg ?_
          refine st_op (ev_move rfl) rfl rfl rfl ?_
          refine st_op (ev_move rfl) rfl rfl rfl ?_
          refine st_op (ev_int rfl rfl rfl) rfl rfl rfl ?_
          try show aw _ _ _ _ _ _
          by_cases hc121 : (decide (0 ≥ r26)) = true
          · refine aw_condT hc121 rfl ?_
            try show aw _ _ _ _ _ _
            have hc121 := of_decide_eq_true hc121
            refine aw_reg ?_
            refine st_op (ev_move rfl) rfl rfl rfl ?_
            refine st_op (ev_move rfl) rfl rfl rfl ?_
            refine st_op (ev_move rfl) rfl rfl rfl ?_
            have hi122 : 0 ≤ ((i : Int) : Int) := by omega
            have hi123 : ((i : Int) : Int) < ((r11.length : Nat) : Int) := by first | omega | (simp only [List.length_append, List.length_cons, List.length_nil, List.length_map, List.length_set, List.length_replicate, Spec.bytesOf_length]; omega) | (simp; omega)
            refine st_op (ev_at rfl rfl (My.row h36) (getMap i64c hx41) (by first | rfl | omega | simp) hi122 hi123 el28) rfl rfl rfl ?_
            refine st_op (ev_atL rfl (My.row h36) (getMap i64c hx41) one3 rfl) rfl rfl rfl ?_
            obtain ⟨b124, H125, he126, b124e, H125n_, hm128, f127⟩ := mem_lit Hl28 (xs := ([.int .i64 x40] : List Value)) (m := 1) (rows := [[.int .i64 x40]]) rfl eok28 (by decide) (by decide) zf3 rfl (allLen rfl) rfl
            replace hm128 : My Hl28 H125 (some ⟨b124, 0, none⟩) 1 1 ([x40].map i64c) := hm128
            refine st_op (he126 _ _ _ _ _ _ _ _ rfl) rfl rfl rfl ?_
            have hx129 : Ext Hl28 H125 := Ext.new (by omega) H125n_ f127
            have H125n : Hl28.next ≤ H125.next := hx129.1
            have h130 := My.ext hm32 hx129
            have h131 := My.ext hm30 hx129
            obtain ⟨A132, c133, H134, W135, he136, hm137, hf140, hA139⟩ := mem_append2 (f := i64c) (old := ha) (new := [x40]) (m := ha.length) (mx := 1) (c := p1) (by first | rfl | simp) (by first | rfl | simp) eok28 (by decide) hm30 h131 (by omega) (((My.row hm128)).srcF (by decide) (by first | rfl | simp)) rfl i64c_len i64c_one (by first | omega | (simp only [List.length_append, List.length_cons, List.length_nil, List.length_map, List.length_set, List.length_replicate, Spec.bytesOf_length]; omega) | (simp; omega)) (by first | omega | (simp only [List.length_append, List.length_cons, List.length_nil, List.length_map, List.length_set, List.length_replicate, Spec.bytesOf_length]; omega) | (simp; omega))
            have hf138 := Fr.mono hf140 (fun q h => h.2)
            refine st_op (he136 _ _ _ _ _ _ _ _ _ _ rfl rfl isrow28) rfl rfl rfl ?_
            have h142 := My.frB h130 hf140 (fun a ha e => e.1.elim fun a2 h2 => hap a2 a h2.1 ha h2.2.symm)
            have hap141 := Apart.append hap h130 ((Classical.em (mo = [])).elim (fun e => .inl (hn3 e)) (fun e => .inr (.inl (fun q => e (List.map_eq_nil_iff.1 q))))) hA139
            have H134n : H125.next ≤ H134.next := hf138.1
            refine st_op (ev_assign rfl) rfl rfl rfl ?_
            try show aw _ _ _ _ _ _
            refine aw_seq ?_
            refine aw_reg ?_
            refine st_op (ev_move rfl) rfl rfl rfl ?_
            refine st_op (ev_move rfl) rfl rfl rfl ?_
            refine st_op (ev_int rfl rfl rfl) rfl rfl rfl ?_
            try show aw _ _ _ _ _ _
            by_cases hc143 : (decide (0 > r26)) = true
            · refine aw_condT hc143 rfl ?_
              try show aw _ _ _ _ _ _
              have hc143 := of_decide_eq_true hc143
              refine aw_reg ?_
              refine st_op (ev_move rfl) rfl rfl rfl ?_
              refine st_op (ev_move rfl) rfl rfl rfl ?_
              refine st_op (ev_move rfl) rfl rfl rfl ?_
              have hx145 : Ext H14 H134 := (Ext.then (Ext.trans hx37 hx129) hf138 (fun q hq e => by omega))
              have h144 := My.ext h20 hx145
              have hi146 : 0 ≤ ((i : Int) : Int) := by omega
              have hi147 : ((i : Int) : Int) < ((r11.length : Nat) : Int) := by first | omega | (simp only [List.length_append, List.length_cons, List.length_nil, List.length_map, List.length_set, List.length_replicate, Spec.bytesOf_length]; omega) | (simp; omega)
              refine st_op (ev_at rfl rfl (My.row h144) (getMap i64c hx41) (by first | rfl | omega | simp) hi146 hi147 el28) rfl rfl rfl ?_
              refine st_op (ev_atL rfl (My.row h144) (getMap i64c hx41) one3 rfl) rfl rfl rfl ?_
              obtain ⟨b148, H149, he150, b148e, H149n_, hm152, f151⟩ := mem_lit H134 (xs := ([.int .i64 x40] : List Value)) (m := 1) (rows := [[.int .i64 x40]]) rfl eok28 (by decide) (by decide) zf3 rfl (allLen rfl) rfl
              replace hm152 : My H134 H149 (some ⟨b148, 0, none⟩) 1 1 ([x40].map i64c) := hm152
              refine st_op (he150 _ _ _ _ _ _ _ _ rfl) rfl rfl rfl ?_
              have hx153 : Ext H134 H149 := Ext.new (by omega) H149n_ f151
              have H149n : H134.next ≤ H149.next := hx153.1
              have h154 := My.ext hm137 hx153
              have h155 := My.ext h142 hx153
              obtain ⟨A156, c157, H158, W159, he160, hm161, hf164, hA163⟩ := mem_append2 (f := i64c) (old := mo) (new := [x40]) (m := mo.length) (mx := 1) (c := p3) (by first | rfl | simp) (by first | rfl | simp) eok28 (by decide) hm32 h155 (by omega) (((My.row hm152)).srcF (by decide) (by first | rfl | simp)) rfl i64c_len i64c_one (by first | omega | (simp only [List.length_append, List.length_cons, List.length_nil, List.length_map, List.length_set, List.length_replicate, Spec.bytesOf_length]; omega) | (simp; omega)) (by first | omega | (simp only [List.length_append, List.length_cons, List.length_nil, List.length_map, List.length_set, List.length_replicate, Spec.bytesOf_length]; omega) | (simp; omega))
              have hf162 := Fr.mono hf164 (fun q h => h.2)
              refine st_op (he160 _ _ _ _ _ _ _ _ _ _ rfl rfl isrow28) rfl rfl rfl ?_
              have h166 := My.frB h154 hf164 (fun a ha e => e.1.elim fun a2 h2 => (Apart.symm hap141) a2 a h2.1 ha h2.2.symm)
              have hap165 := Apart.append (Apart.symm hap141) h154 (.inr (.inl (by simp))) hA163
              have H158n : H149.next ≤ H158.next := hf162.1
              refine st_op (ev_assign rfl) rfl rfl rfl ?_
              try show aw _ _ _ _ _ _
              refine aw_reg ?_
              refine st_op (ev_move rfl) rfl rfl rfl ?_
              refine st_op (ev_int64 (c := (i : Int) + 1) rfl rfl rfl (by omega) (by omega)) rfl rfl rfl ?_
              refine st_op (ev_assign rfl) rfl rfl rfl ?_
              try show aw _ _ _ _ _ _
              have hx167 : Ext H24 H158 := (Ext.then (Ext.trans (Ext.then (Ext.trans hxl33 hx129) hf138 (fun q hq e => by omega)) hx153) hf162 (fun q hq e => by omega))
              refine aw_keep [1, 6, 7, 8, 9, 10] (l' := (.cons 1 (.slice at_A at_.length at_c) (.cons 6 (.slice A7 r11.length c8) (.cons 7 (.int .i64 r26) (.cons 8 (.slice A132 ((ha ++ [x40]).length) c133) (.cons 9 (.slice A156 ((mo ++ [x40]).length) c157) (.cons 10 (.int .i64 ((i : Int) + 1)) .nil))))))) (by repeat (first | exact Up.done | refine Up.then ?_ | refine Up.inBlock ?_)) rfl ?_
              exact ih34 (i + 1, A132, c133, (ha ++ [x40]), A156, c157, (mo ++ [x40]), H158) ⟨(show (i + 1) ≤ r11.length from (by omega)), (show (ha ++ [x40]) = (r11.take (i + 1)).filter (fun x => decide (r26 ≤ Spec.valF at_ x)) from (by first | (exfalso; omega) | skip; rw [List.take_add_one, hx41, List.filter_append, ← hha]; simp only [Option.toList_some, List.filter_cons, List.filter_nil, (show Spec.valF at_ x40 = 0 from if_neg (by omega))]; first | rw [if_pos (decide_eq_true (by omega))] | (rw [if_neg (fun h => absurd (of_decide_eq_true h) (by omega)), List.append_nil]))), (show (mo ++ [x40]) = (r11.take (i + 1)).filter (fun x => decide (r26 < Spec.valF at_ x)) from (by first | (exfalso; omega) | skip; rw [List.take_add_one, hx41, List.filter_append, ← hmo]; simp only [Option.toList_some, List.filter_cons, List.filter_nil, (show Spec.valF at_ x40 = 0 from if_neg (by omega))]; first | rw [if_pos (decide_eq_true (by omega))] | (rw [if_neg (fun h => absurd (of_decide_eq_true h) (by omega)), List.append_nil]))), (show (ha ++ [x40]).length ≤ (i + 1) from (by first | omega | (rw [List.length_append]; simp; omega))), (show (mo ++ [x40]).length ≤ (i + 1) from (by first | omega | (rw [List.length_append]; simp; omega))), (show Apart A132 A156 from (Apart.symm hap165)), (show (ha ++ [x40]) = [] → A132 = none from (fun h => by simp at h)), (show (mo ++ [x40]) = [] → A156 = none from (fun h => by simp at h)), (show My H24 H158 A132 c133 1 ((ha ++ [x40]).map i64c) from h166), (show My H24 H158 A156 c157 1 ((mo ++ [x40]).map i64c) from hm161), (show Ext H24 H158 from hx167)⟩ (by simp only; omega)
            · rw [Bool.not_eq_true] at hc143; refine aw_condF hc143 rfl ?_
              try show aw _ _ _ _ _ _
              have hc143 := of_decide_eq_false hc143
              refine aw_skip ?_
              try show aw _ _ _ _ _ _
              refine aw_reg ?_
              refine st_op (ev_move rfl) rfl rfl rfl ?_
              refine st_op (ev_int64 (c := (i : Int) + 1) rfl rfl rfl (by omega) (by omega)) rfl rfl rfl ?_
              refine st_op (ev_assign rfl) rfl rfl rfl ?_
              try show aw _ _ _ _ _ _
              have hx168 : Ext H24 H134 := (Ext.then (Ext.trans hxl33 hx129) hf138 (fun q hq e => by omega))
              refine aw_keep [1, 6, 7, 8, 9, 10] (l' := (.cons 1 (.slice at_A at_.length at_c) (.cons 6 (.slice A7 r11.length c8) (.cons 7 (.int .i64 r26) (.cons 8 (.slice A132 ((ha ++ [x40]).length) c133) (.cons 9 (.slice A3 mo.length p3) (.cons 10 (.int .i64 ((i : Int) + 1)) .nil))))))) (by repeat (first | exact Up.done | refine Up.then ?_ | refine Up.inBlock ?_)) rfl ?_
              exact ih34 (i + 1, A132, c133, (ha ++ [x40]), A3, p3, mo, H134) ⟨(show (i + 1) ≤ r11.length from (by omega)), (show (ha ++ [x40]) = (r11.take (i + 1)).filter (fun x => decide (r26 ≤ Spec.valF at_ x)) from (by first | (exfalso; omega) | skip; rw [List.take_add_one, hx41, List.filter_append, ← hha]; simp only [Option.toList_some, List.filter_cons, List.filter_nil, (show Spec.valF at_ x40 = 0 from if_neg (by omega))]; first | rw [if_pos (decide_eq_true (by omega))] | (rw [if_neg (fun h => absurd (of_decide_eq_true h) (by omega)), List.append_nil]))), (show mo = (r11.take (i + 1)).filter (fun x => decide (r26 < Spec.valF at_ x)) from (by first | (exfalso; omega) | skip; rw [List.take_add_one, hx41, List.filter_append, ← hmo]; simp only [Option.toList_some, List.filter_cons, List.filter_nil, (show Spec.valF at_ x40 = 0 from if_neg (by omega))]; first | rw [if_pos (decide_eq_true (by omega))] | (rw [if_neg (fun h => absurd (of_decide_eq_true h) (by omega)), List.append_nil]))), (show (ha ++ [x40]).length ≤ (i + 1) from (by first | omega | (rw [List.length_append]; simp; omega))), (show mo.length ≤ (i + 1) from (by first | omega | (rw [List.length_append]; simp; omega))), (show Apart A132 A3 from hap141), (show (ha ++ [x40]) = [] → A132 = none from (fun h => by simp at h)), (show mo = [] → A3 = none from hn3), (show My H24 H134 A132 c133 1 ((ha ++ [x40]).map i64c) from hm137), (show My H24 H134 A3 p3 1 (mo.map i64c) from h142), (show Ext H24 H134 from hx168)⟩ (by simp only; omega)
          · rw [Bool.not_eq_true] at hc121; refine aw_condF hc121 rfl ?_
            try show aw _ _ _ _ _ _
            have hc121 := of_decide_eq_false hc121
            refine aw_skip ?_
            try show aw _ _ _ _ _ _
            refine aw_seq ?_
            refine aw_reg ?_
            refine st_op (ev_move rfl) rfl rfl rfl ?_
            refine st_op (ev_move rfl) rfl rfl rfl ?_
            refine st_op (ev_int rfl rfl rfl) rfl rfl rfl ?_
            try show aw _ _ _ _ _ _
            by_cases hc169 : (decide (0 > r26)) = true
            · refine aw_condT hc169 rfl ?_
              try show aw _ _ _ _ _ _
              have hc169 := of_decide_eq_true hc169
              exfalso; omega
            · rw [Bool.not_eq_true] at hc169; refine aw_condF hc169 rfl ?_
              try show aw _ _ _ _ _ _
              have hc169 := of_decide_eq_false hc169
              refine aw_skip ?_
              try show aw _ _ _ _ _ _
              refine aw_reg ?_
              refine st_op (ev_move rfl) rfl rfl rfl ?_
              refine st_op (ev_int64 (c := (i : Int) + 1) rfl rfl rfl (by omega) (by omega)) rfl rfl rfl ?_
              refine st_op (ev_assign rfl) rfl rfl rfl ?_
              try show aw _ _ _ _ _ _
              refine aw_keep [1, 6, 7, 8, 9, 10] (l' := (.cons 1 (.slice at_A at_.length at_c) (.cons 6 (.slice A7 r11.length c8) (.cons 7 (.int .i64 r26) (.cons 8 (.slice A1 ha.length p1) (.cons 9 (.slice A3 mo.length p3) (.cons 10 (.int .i64 ((i : Int) + 1)) .nil))))))) (by repeat (first | exact Up.done | refine Up.then ?_ | refine Up.inBlock ?_)) rfl ?_
              exact ih34 (i + 1, A1, p1, ha, A3, p3, mo, Hl28) ⟨(show (i + 1) ≤ r11.length from (by omega)), (show ha = (r11.take (i + 1)).filter (fun x => decide (r26 ≤ Spec.valF at_ x)) from (by first | (exfalso; omega) | skip; rw [List.take_add_one, hx41, List.filter_append, ← hha]; simp only [Option.toList_some, List.filter_cons, List.filter_nil, (show Spec.valF at_ x40 = 0 from if_neg (by omega))]; first | rw [if_pos (decide_eq_true (by omega))] | (rw [if_neg (fun h => absurd (of_decide_eq_true h) (by omega)), List.append_nil]))), (show mo = (r11.take (i + 1)).filter (fun x => decide (r26 < Spec.valF at_ x)) from (by first | (exfalso; omega) | skip; rw [List.take_add_one, hx41, List.filter_append, ← hmo]; simp only [Option.toList_some, List.filter_cons, List.filter_nil, (show Spec.valF at_ x40 = 0 from if_neg (by omega))]; first | rw [if_pos (decide_eq_true (by omega))] | (rw [if_neg (fun h => absurd (of_decide_eq_true h) (by omega)), List.append_nil]))), (show ha.length ≤ (i + 1) from (by first | omega | (rw [List.length_append]; simp; omega))), (show mo.length ≤ (i + 1) from (by first | omega | (rw [List.length_append]; simp; omega))), (show Apart A1 A3 from hap), (show ha = [] → A1 = none from hn1), (show mo = [] → A3 = none from hn3), (show My H24 Hl28 A1 p1 1 (ha.map i64c) from hm30), (show My H24 Hl28 A3 p3 1 (mo.map i64c) from hm32), (show Ext H24 Hl28 from hxl33)⟩ (by simp only; omega)
      · rw [Bool.not_eq_true] at hc35; refine aw_condF hc35 rfl ?_
        try show aw _ _ _ _ _ _
        have hc35 := of_decide_eq_false hc35
        refine aw_exit ?_
        try show aw _ _ _ _ _ _
        refine aw_seq ?_
        refine aw_reg ?_
        refine st_op (ev_move rfl) rfl rfl rfl ?_
        refine st_op (ev_move rfl) rfl rfl rfl ?_
        refine st_call rfl rfl rfl ent21 rfl rfl rfl ?_
        have hx171 : Ext H14 Hl28 := (Ext.trans hx25 hxl33)
        have h170 := My.ext h20 hx171
        obtain ⟨_, H173, hs172, hs172v, hx174⟩ := conf_Majority_spec Hl28 A7 r11 c8 (My.row h170) (My.capF h170 (by first | omega | (simp only [List.length_append, List.length_cons, List.length_nil, List.length_map, List.length_set, List.length_replicate, Spec.bytesOf_length]; omega) | (simp; omega))) (by first | omega | (simp only [List.length_append, List.length_cons, List.length_nil, List.length_map, List.length_set, List.length_replicate, Spec.bytesOf_length]; omega) | (simp; omega)) A1 ha p1 (My.row hm30) (My.capF hm30 (by first | omega | (simp only [List.length_append, List.length_cons, List.length_nil, List.length_map, List.length_set, List.length_replicate, Spec.bytesOf_length]; omega) | (simp; omega))) (by first | omega | (simp only [List.length_append, List.length_cons, List.length_nil, List.length_map, List.length_set, List.length_replicate, Spec.bytesOf_length]; omega) | (simp; omega))
        rw [hs172v] at hs172; clear hs172v
        refine ⟨_, H173, hs172, ?_⟩
        have H173n : Hl28.next ≤ H173.next := hx174.1
        refine st_op (ev_move rfl) rfl rfl rfl ?_
        refine st_bool 71 rfl (fun hb175 => ?_) (fun hb175 => ?_)
        ·
          refine st_op (ev_move rfl) rfl rfl rfl ?_
          refine st_op (ev_move rfl) rfl rfl rfl ?_
          refine st_call rfl rfl rfl ent21 rfl rfl rfl ?_
          have h176 := My.ext h170 hx174
          have h177 := My.ext hm32 hx174
          obtain ⟨_, H179, hs178, hs178v, hx180⟩ := conf_Majority_spec H173 A7 r11 c8 (My.row h176) (My.capF h176 (by first | omega | (simp only [List.length_append, List.length_cons, List.length_nil, List.length_map, List.length_set, List.length_replicate, Spec.bytesOf_length]; omega) | (simp; omega))) (by first | omega | (simp only [List.length_append, List.length_cons, List.length_nil, List.length_map, List.length_set, List.length_replicate, Spec.bytesOf_length]; omega) | (simp; omega)) A3 mo p3 (My.row h177) (My.capF h177 (by first | omega | (simp only [List.length_append, List.length_cons, List.length_nil, List.length_map, List.length_set, List.length_replicate, Spec.bytesOf_length]; omega) | (simp; omega))) (by first | omega | (simp only [List.length_append, List.length_cons, List.length_nil, List.length_map, List.length_set, List.length_replicate, Spec.bytesOf_length]; omega) | (simp; omega))
          rw [hs178v] at hs178; clear hs178v
          refine ⟨_, H179, hs178, ?_⟩
          have H179n : H173.next ≤ H179.next := hx180.1
          refine st_op (ev_not rfl) rfl rfl rfl ?_
          refine st_op (ev_pickT rfl rfl) rfl rfl rfl ?_
          refine st_op (ev_assign rfl) rfl rfl rfl ?_
          try show aw _ _ _ _ _ _
          refine aw_ret ?_
          have hx181 : Ext H H179 := (Ext.trans (Ext.trans (Ext.trans (Ext.trans hx22 hx25) hxl33) hx174) hx180)
          have hres : true = (!(Spec.mayC r11 && decide (2 * Spec.cntF mo r11 > r11.length))) := by have hk := Spec.mid_law hb16 hR27; rw [List.take_of_length_le (by omega)] at hha hmo; rw [← hha, ← hmo] at hk; first | (rw [hk.2]; rfl) | (exfalso; exact Bool.noConfusion (hk.1.symm.trans (show _ = false from by assumption)))
          exact ⟨.bool (!(Spec.mayC r11 && decide (2 * Spec.cntF mo r11 > r11.length))), rfl, by rw [hres], hx181⟩
        ·
          refine st_skip rfl rfl rfl ?_
          refine st_skip rfl rfl rfl ?_
          refine st_skip rfl rfl rfl ?_
          refine st_skip rfl rfl rfl ?_
          refine st_op (ev_pickF rfl rfl) rfl rfl rfl ?_
          refine st_op (ev_assign rfl) rfl rfl rfl ?_
          try show aw _ _ _ _ _ _
          refine aw_ret ?_
          have hx182 : Ext H H173 := (Ext.trans (Ext.trans (Ext.trans hx22 hx25) hxl33) hx174)
          have hres : true = false := by have hk := Spec.mid_law hb16 hR27; rw [List.take_of_length_le (by omega)] at hha hmo; rw [← hha, ← hmo] at hk; first | (rw [hk.2]; rfl) | (exfalso; exact Bool.noConfusion (hk.1.symm.trans (show _ = false from by assumption)))
          exact ⟨.bool false, rfl, by rw [hres], hx182⟩

end Go.AM
