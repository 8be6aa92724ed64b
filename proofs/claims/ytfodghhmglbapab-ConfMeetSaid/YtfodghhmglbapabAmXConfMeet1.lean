/- Part of a machine of its own for this claim: the program's code over memory without draws. -/
import Derived.Test.YtfodghhmglbapabAmPCf3
import Derived.Test.YtfodghhmglbapabAmD
import Derived.Test.YtfodghhmglbapabAmE
import Derived.Test.YtfodghhmglbapabProg
import Derived.KernelRfl
set_option linter.unusedVariables false
set_option linter.unusedSimpArgs false
set_option linter.unnecessarySimpa false
set_option linter.unusedVariables false
set_option linter.unusedSimpArgs false
set_option linter.unnecessarySimpa false
namespace Go.AM
open Go Go.Proofs

noncomputable def E0 : TypeId → Bool := eqTy Try.prog
theorem E0_ok : EqOk Try.prog E0 := eqTy_ok
theorem mixed : Try.prog.follows .mixedOrders = true := by kernel_rfl

noncomputable def X0 (f : FuncId) : List Tmp := (bif_ (Nat.ble 67 f) (bif_ (Nat.ble 100 f) (bif_ (Nat.ble 117 f) (bif_ (Nat.ble 125 f) (bif_ (Nat.ble 129 f) (bif_ (Nat.ble 131 f) (bif_ (Nat.ble 132 f) (bif_ (Nat.ble 133 f) [0, 1, 2, 3, 8, 9, 18] [0, 2, 3, 4, 5, 6, 7, 14, 18, 25]) [0, 1, 2, 3, 8, 9, 18]) (bif_ (Nat.ble 130 f) [0, 2] [0, 1, 2, 3, 4, 10])) (bif_ (Nat.ble 127 f) (bif_ (Nat.ble 128 f) [0, 1, 2, 6] [0, 1, 2, 3, 8, 9, 16, 36, 52]) (bif_ (Nat.ble 126 f) [0, 1, 2, 6, 8, 9, 10, 11, 12, 22] [0, 2]))) (bif_ (Nat.ble 121 f) (bif_ (Nat.ble 123 f) (bif_ (Nat.ble 124 f) [0, 2, 3, 4, 5, 30] [0, 2, 3, 4, 5, 30]) (bif_ (Nat.ble 122 f) [0, 2, 3, 4, 5, 6, 7, 8, 9, 10, 11, 12, 21, 31, 37, 43] [0, 2])) (bif_ (Nat.ble 119 f) (bif_ (Nat.ble 120 f) [0, 1, 2, 3, 4, 10] [0, 1, 2, 6]) (bif_ (Nat.ble 118 f) [0, 2] [0, 2])))) (bif_ (Nat.ble 108 f) (bif_ (Nat.ble 112 f) (bif_ (Nat.ble 114 f) (bif_ (Nat.ble 115 f) (bif_ (Nat.ble 116 f) [0, 1, 2, 3, 8, 9, 16, 36, 52] [0, 1, 2, 3, 8, 9, 10, 11, 43, 60, 65, 112, 129, 134]) [0, 1, 2, 3, 8, 9, 10, 43, 59, 64]) (bif_ (Nat.ble 113 f) [0, 1, 4] [0, 1, 2, 6, 7, 8, 9, 10, 14, 32, 37, 41, 61, 65, 78, 98, 103, 116])) (bif_ (Nat.ble 110 f) (bif_ (Nat.ble 111 f) [0, 1, 2, 6, 7, 13] [0, 1, 2, 6, 7, 8, 9, 10, 11, 12, 32, 34, 49, 51, 54]) (bif_ (Nat.ble 109 f) [0, 1, 2, 6, 7, 8, 9, 10, 15, 33, 43] [0, 1, 2, 6, 7, 8, 9, 10, 19, 30]))) (bif_ (Nat.ble 104 f) (bif_ (Nat.ble 106 f) (bif_ (Nat.ble 107 f) [0, 1, 2, 6, 7, 12, 30] [0, 1, 4]) (bif_ (Nat.ble 105 f) [0, 1, 2] [0, 1, 2, 4])) (bif_ (Nat.ble 102 f) (bif_ (Nat.ble 103 f) [0, 2, 3, 4, 5, 6, 7, 8, 9, 10, 11, 12, 13, 14, 15, 16, 25, 59, 62, 73, 84] [0, 1, 2, 21]) (bif_ (Nat.ble 101 f) [0, 2, 3, 4, 5, 6, 7, 8, 9, 10, 19, 28, 29, 39, 72] [0, 2, 3, 4, 5]))))) (bif_ (Nat.ble 83 f) (bif_ (Nat.ble 91 f) (bif_ (Nat.ble 95 f) (bif_ (Nat.ble 97 f) (bif_ (Nat.ble 98 f) (bif_ (Nat.ble 99 f) [0, 2, 3, 4, 5, 6, 7, 8, 9, 10, 11, 12, 16, 28, 36, 56, 76] [0, 2]) [0, 2]) (bif_ (Nat.ble 96 f) [0, 1, 4, 5, 7, 10, 11, 12, 13, 20, 21] [0, 1, 2, 3, 4, 8])) (bif_ (Nat.ble 93 f) (bif_ (Nat.ble 94 f) [0, 2, 4, 8, 14] [0, 2, 4, 8]) (bif_ (Nat.ble 92 f) [0, 1, 2, 3, 8, 9, 10, 11, 43, 60, 65, 112, 129, 134] [0, 1, 2, 3, 8, 9, 10, 43, 59, 64]))) (bif_ (Nat.ble 87 f) (bif_ (Nat.ble 89 f) (bif_ (Nat.ble 90 f) [0, 1, 4] [0, 1, 2, 6, 7, 8, 9, 10, 14, 32, 37, 41, 61, 65, 78, 98, 103, 116]) (bif_ (Nat.ble 88 f) [0, 1, 2, 6, 7, 13] [0, 1, 2, 6, 7, 8, 9, 10, 11, 12, 32, 34, 49, 51, 54])) (bif_ (Nat.ble 85 f) (bif_ (Nat.ble 86 f) [0, 1, 2, 6, 7, 8, 9, 10, 15, 33, 43] [0, 1, 2, 6, 7, 8, 9, 10, 19, 30]) (bif_ (Nat.ble 84 f) [0, 1, 2, 6, 7, 12, 30] [0, 1, 4, 5, 7, 8, 9, 16])))) (bif_ (Nat.ble 75 f) (bif_ (Nat.ble 79 f) (bif_ (Nat.ble 81 f) (bif_ (Nat.ble 82 f) [0, 1, 4, 5, 7, 8, 9, 16] [0, 1, 2, 3, 8, 9, 10, 11, 12, 13, 14, 15, 16, 17, 18, 23, 29, 35, 50, 68, 72, 87, 113]) (bif_ (Nat.ble 80 f) [0, 1, 2, 3, 4] [0, 2, 3, 7, 37])) (bif_ (Nat.ble 77 f) (bif_ (Nat.ble 78 f) [0, 1, 4, 8] [0, 1, 4, 5, 7, 8, 9, 16]) (bif_ (Nat.ble 76 f) [0, 1, 2, 3, 4, 5, 6, 9, 28] [0, 1, 2, 3, 4, 6, 12, 13, 14, 15, 41]))) (bif_ (Nat.ble 71 f) (bif_ (Nat.ble 73 f) (bif_ (Nat.ble 74 f) [0, 1, 4, 6, 7, 8, 9, 10, 19] [0, 2]) (bif_ (Nat.ble 72 f) [0, 1, 4] [0, 2, 3, 4, 5, 6, 7, 8, 9, 10, 50, 82])) (bif_ (Nat.ble 69 f) (bif_ (Nat.ble 70 f) [0, 2, 3, 4, 5, 6, 7, 8, 9, 13, 24] [0, 1, 4, 5, 10, 14]) (bif_ (Nat.ble 68 f) [0, 1, 4, 5, 6, 17] [0, 1, 2, 3, 4, 6, 8, 10, 29, 30, 31, 32, 40, 41, 42, 43, 54])))))) (bif_ (Nat.ble 33 f) (bif_ (Nat.ble 50 f) (bif_ (Nat.ble 58 f) (bif_ (Nat.ble 62 f) (bif_ (Nat.ble 64 f) (bif_ (Nat.ble 65 f) (bif_ (Nat.ble 66 f) [0, 2, 4] [0, 2]) [0, 1, 2, 3, 8, 9, 10, 11, 12, 13, 14, 15, 16, 17, 18, 23, 29, 35, 50, 68, 72, 87, 113]) (bif_ (Nat.ble 63 f) [0, 1, 4] [0, 1, 3])) (bif_ (Nat.ble 60 f) (bif_ (Nat.ble 61 f) [0, 1, 4, 5, 6, 7, 12, 19, 29] [0, 2]) (bif_ (Nat.ble 59 f) [0, 2, 4] [0, 1, 4, 5, 10, 14, 26]))) (bif_ (Nat.ble 54 f) (bif_ (Nat.ble 56 f) (bif_ (Nat.ble 57 f) [0, 1, 2] [0, 2, 3, 4, 5, 9, 22]) (bif_ (Nat.ble 55 f) [0, 1, 2, 3, 4] [0, 1, 2])) (bif_ (Nat.ble 52 f) (bif_ (Nat.ble 53 f) [0, 2] [0, 2]) (bif_ (Nat.ble 51 f) [0, 1, 2] [0, 1, 4, 5, 6, 7, 16])))) (bif_ (Nat.ble 41 f) (bif_ (Nat.ble 45 f) (bif_ (Nat.ble 47 f) (bif_ (Nat.ble 48 f) (bif_ (Nat.ble 49 f) [0, 1, 2, 3] [0, 1, 4, 5, 6, 7, 12, 19, 29]) [0, 1, 2, 6, 7, 16]) (bif_ (Nat.ble 46 f) [0, 1, 2, 4, 47, 59, 62] [0, 2, 3, 4, 6, 7, 8, 9, 10, 11, 17, 18, 19, 20, 25, 51])) (bif_ (Nat.ble 43 f) (bif_ (Nat.ble 44 f) [0, 1, 2, 3, 4, 5, 8, 17] [0, 1, 2]) (bif_ (Nat.ble 42 f) [0, 2] [0, 1, 4, 5, 6, 8, 17]))) (bif_ (Nat.ble 37 f) (bif_ (Nat.ble 39 f) (bif_ (Nat.ble 40 f) [0, 2, 3, 5, 8, 9, 10, 11, 12] [0, 1, 4, 5, 10, 14, 25]) (bif_ (Nat.ble 38 f) [0, 2, 3, 4, 5, 7, 8, 9, 22] [0, 2])) (bif_ (Nat.ble 35 f) (bif_ (Nat.ble 36 f) [0, 1, 4] [0, 1, 4]) (bif_ (Nat.ble 34 f) [0, 1, 3, 4, 5, 6, 24] [0, 1, 4, 5, 6, 21]))))) (bif_ (Nat.ble 16 f) (bif_ (Nat.ble 24 f) (bif_ (Nat.ble 28 f) (bif_ (Nat.ble 30 f) (bif_ (Nat.ble 31 f) (bif_ (Nat.ble 32 f) [0, 1, 2, 3, 4] [0, 1, 2, 3, 4, 5, 7, 61, 84, 91, 124, 129]) [0, 1, 2]) (bif_ (Nat.ble 29 f) [0] [0, 1, 3, 4, 5, 9])) (bif_ (Nat.ble 26 f) (bif_ (Nat.ble 27 f) [0, 1, 4, 12] [0, 2, 4]) (bif_ (Nat.ble 25 f) [0, 1, 3, 4, 19] [0, 1, 2, 3, 4, 6]))) (bif_ (Nat.ble 20 f) (bif_ (Nat.ble 22 f) (bif_ (Nat.ble 23 f) [0, 1, 4, 5, 13] [0, 1, 4, 5, 6, 7]) (bif_ (Nat.ble 21 f) [0, 1, 4, 5, 7, 8, 9, 10, 11, 16] [0, 1, 4, 5, 7, 8, 11, 12, 13, 14, 15, 21])) (bif_ (Nat.ble 18 f) (bif_ (Nat.ble 19 f) [0, 2, 3, 4, 5, 6, 7, 8, 30] [0, 2, 3, 4, 6, 14]) (bif_ (Nat.ble 17 f) [0, 1, 2, 3, 4] [0, 2, 3, 4, 7, 10, 11])))) (bif_ (Nat.ble 8 f) (bif_ (Nat.ble 12 f) (bif_ (Nat.ble 14 f) (bif_ (Nat.ble 15 f) [0, 1, 2, 3, 8, 9, 11, 18] [0, 1, 2, 6, 7, 16]) (bif_ (Nat.ble 13 f) [0, 1, 2, 6, 7, 16] [0, 1, 4, 8])) (bif_ (Nat.ble 10 f) (bif_ (Nat.ble 11 f) [0, 1, 4, 8] [0, 1, 2, 3, 6]) (bif_ (Nat.ble 9 f) [0, 1, 2, 12] [0, 1, 2, 3, 8, 9, 10, 11, 12, 13, 14, 15, 18, 32, 44, 59, 63, 87]))) (bif_ (Nat.ble 4 f) (bif_ (Nat.ble 6 f) (bif_ (Nat.ble 7 f) [0, 2, 3, 4, 5, 6, 7, 8, 9, 10, 11, 12, 13, 14, 15, 18, 27, 48, 52, 62, 79, 81, 88, 90, 95, 110, 138, 139, 157, 162, 169, 170, 222] [0, 1, 3, 5]) (bif_ (Nat.ble 5 f) [0, 1, 4, 5, 6, 7, 8, 9, 10, 11, 14, 24, 31, 40, 50, 60] [0, 1, 4, 5, 6, 7, 8, 9, 10, 13, 19, 29, 37, 44, 52, 61, 79])) (bif_ (Nat.ble 2 f) (bif_ (Nat.ble 3 f) [0, 1] []) []))))))

theorem ElemInfo.mk3 : ∃ i, Try.prog.info? 3 = some i ∧ i.size = 1 ∧ i.bytes = 8 ∧ (i.zero.map fun z => z.cells.size) = some 1 := elemInfo (by kernel_rfl)
theorem zf3 : ∃ i z, Try.prog.info? 3 = some i ∧ i.zero = some z ∧ z.cells.toList.all flat = true := zeroFlat (by kernel_rfl)
theorem el28 : elemIs Try.prog 28 1 = true := by kernel_rfl
theorem ent107 : enters Try.prog 107 = true := by kernel_rfl
theorem ent113 : enters Try.prog 113 = true := by kernel_rfl
theorem ent130 : enters Try.prog 130 = true := by kernel_rfl
theorem ent17 : enters Try.prog 17 = true := by kernel_rfl
theorem ent18 : enters Try.prog 18 = true := by kernel_rfl
theorem ent19 : enters Try.prog 19 = true := by kernel_rfl
theorem ent21 : enters Try.prog 21 = true := by kernel_rfl
theorem ent33 : enters Try.prog 33 = true := by kernel_rfl
theorem ent34 : enters Try.prog 34 = true := by kernel_rfl
theorem ent35 : enters Try.prog 35 = true := by kernel_rfl
theorem ent59 : enters Try.prog 59 = true := by kernel_rfl
theorem ent60 : enters Try.prog 60 = true := by kernel_rfl
theorem ent61 : enters Try.prog 61 = true := by kernel_rfl
theorem ent62 : enters Try.prog 62 = true := by kernel_rfl
theorem ent63 : enters Try.prog 63 = true := by kernel_rfl
theorem ent65 : enters Try.prog 65 = true := by kernel_rfl
theorem ent81 : enters Try.prog 81 = true := by kernel_rfl
theorem ent82 : enters Try.prog 82 = true := by kernel_rfl
theorem ent83 : enters Try.prog 83 = true := by kernel_rfl
theorem eok28 : ElemOk Try.prog 28 3 1 8 := ⟨Try.underlying28, ElemInfo.mk3⟩
theorem isrow28 : isRow Try.prog (some 28) = true := by kernel_rfl
theorem one3 : oneB Try.prog 3 = true := by kernel_rfl
theorem size3 : sizeIs Try.prog 3 1 = true := by kernel_rfl
theorem zero3 : ZeroIs Try.prog 3 [.int .i64 0] := ⟨.int .i64 0, by kernel_rfl, rfl, rfl, rfl⟩
theorem law20_begun_ran : okF (runF Try.prog X0 1000 40 17 [] Hp.nil) = true := by kernel_rfl
theorem law20_begun_spec (H : Heap) : ∃ v H', Spec Try.prog 17 [] H v H' ∧ (v = .bool true ∧ H' = H) := ⟨_, _, okF_any mixed law20_begun_ran H, rfl, rfl⟩
theorem law20_set_spec (H : Heap) (bits : Int) (hbits : -9223372036854775808 ≤ bits ∧ bits ≤ 9223372036854775807) : ∃ v H', Spec Try.prog 18 [.int .i64 bits] H v H' ∧ (∃ rA0 rc0, (v = .slice rA0 ((Spec.setN (fun (j : Nat) => Int.tmod (Spec.shr .i64 bits (j : Int)) 2 ≠ 0) 7).length) rc0) ∧ (My H H' rA0 rc0 1 ((Spec.setN (fun (j : Nat) => Int.tmod (Spec.shr .i64 bits (j : Int)) 2 ≠ 0) 7).map i64c)) ∧ (((Spec.setN (fun (j : Nat) => Int.tmod (Spec.shr .i64 bits (j : Int)) 2 ≠ 0) 7)).length ≤ 7) ∧ (Ext H H')) := by
  refine spec_go1 E0_ok 21 (f := 18) Try.func18 rfl rfl rfl ?_
  refine aw_seq ?_
  refine aw_reg ?_
  refine st_op (ev_assign rfl) rfl rfl rfl ?_
  try show aw _ _ _ _ _ _
  refine aw_seq ?_
  refine aw_reg ?_
  refine st_op (ev_assign rfl) rfl rfl rfl ?_
  try show aw _ _ _ _ _ _
  refine aw_seq ?_
  refine aw_seq ?_
  refine aw_reg ?_
  refine st_op (ev_assign rfl) rfl rfl rfl ?_
  try show aw _ _ _ _ _ _
  refine aw_block ?_
  have hm2 : My H H none 0 1 (([] : List Int).map i64c) := .nil
  refine aw_keep [0, 3, 4] (l' := (.cons 0 (.int .i64 bits) (.cons 3 (.slice none 0 0) (.cons 4 (.int .i64 0) .nil)))) (by repeat (first | exact Up.done | refine Up.then ?_ | refine Up.inBlock ?_)) rfl ?_
  refine aw_iter (α := Nat × Option Addr × Nat × List Int × Heap) (fun a => 7 - a.1) (fun a => (.cons 0 (.int .i64 bits) (.cons 3 (.slice a.2.1 a.2.2.2.1.length a.2.2.1) (.cons 4 (.int .i64 (a.1 : Int)) .nil)))) (fun a => a.2.2.2.2) (fun a => (a.1 ≤ 7) ∧ (a.2.2.2.1 = Spec.setN (fun (j : Nat) => Int.tmod (Spec.shr .i64 bits (j : Int)) 2 ≠ 0) a.1) ∧ (a.2.2.2.1.length ≤ a.1) ∧ (My H a.2.2.2.2 a.2.1 a.2.2.1 1 (a.2.2.2.1.map i64c)) ∧ (Ext H a.2.2.2.2)) (0, none, 0, ([] : List Int), H) ⟨(show 0 ≤ 7 from Nat.zero_le _), (show ([] : List Int) = Spec.setN (fun (j : Nat) => Int.tmod (Spec.shr .i64 bits (j : Int)) 2 ≠ 0) 0 from rfl), (show ([] : List Int).length ≤ 0 from Nat.le_refl _), (show My H H none 0 1 (([] : List Int).map i64c) from hm2), (show Ext H H from (Ext.refl H))⟩ ?_
  rintro ⟨i, A, cp, l, Hl1⟩ ⟨hi, hv, hll, hm3, hxl4⟩ ih5
  replace hi : i ≤ 7 := hi
  replace hv : l = Spec.setN (fun (j : Nat) => Int.tmod (Spec.shr .i64 bits (j : Int)) 2 ≠ 0) i := hv
  replace hll : l.length ≤ i := hll
  replace hm3 : My H Hl1 A cp 1 (l.map i64c) := hm3
  replace hxl4 : Ext H Hl1 := hxl4
  show aw _ _ _ (RL _ (.cons 0 (.int .i64 bits) (.cons 3 (.slice A l.length cp) (.cons 4 (.int .i64 (i : Int)) .nil)))) Hl1 _
  have Hl1n : H.next ≤ Hl1.next := hxl4.1
  refine aw_seq ?_
  refine aw_seq ?_
  refine aw_reg ?_
  refine st_op (ev_move rfl) rfl rfl rfl ?_
  refine st_op (ev_int rfl rfl rfl) rfl rfl rfl ?_
  try show aw _ _ _ _ _ _
  by_cases hc6 : (decide ((i : Int) < 7)) = true
  · refine aw_condT hc6 rfl ?_
    try show aw _ _ _ _ _ _
    have hc6 := of_decide_eq_true hc6
    refine aw_skip ?_
    try show aw _ _ _ _ _ _
    refine aw_seq ?_
    refine aw_block ?_
    refine aw_seq ?_
    refine aw_reg ?_
    refine st_op (ev_move rfl) rfl rfl rfl ?_
    refine st_op (ev_move rfl) rfl rfl rfl ?_
    refine st_op (ev_convI Try.underlying3 Try.underlying70 rfl (wrU64 (by omega) (by omega))) rfl rfl rfl ?_
    have hw7 : -9223372036854775808 ≤ (Spec.shr .i64 bits (i : Int)) ∧ (Spec.shr .i64 bits (i : Int)) ≤ 9223372036854775807 := Spec.shr_rng (by omega) (by decide) (by decide)
    refine st_op (ev_shrV rfl rfl (by omega)) rfl rfl rfl ?_
    have ht8 : -2 < Int.tmod (Spec.shr .i64 bits (i : Int)) 2 ∧ Int.tmod (Spec.shr .i64 bits (i : Int)) 2 < 2 := tmod_bd (Spec.shr .i64 bits (i : Int)) (by decide)
    refine st_op (ev_rem (b := 2) rfl rfl (by decide)) rfl rfl rfl ?_
    refine st_op (ev_int rfl rfl rfl) rfl rfl rfl ?_
    try show aw _ _ _ _ _ _
    by_cases hc9 : ((Int.tmod (Spec.shr .i64 bits (i : Int)) 2) != 0) = true
    · refine aw_condT hc9 rfl ?_
      try show aw _ _ _ _ _ _
      have hc9 : ¬ ((Int.tmod (Spec.shr .i64 bits (i : Int)) 2) = 0) := by simpa using hc9
      refine aw_reg ?_
      refine st_op (ev_move rfl) rfl rfl rfl ?_
      refine st_op (ev_move rfl) rfl rfl rfl ?_
      refine st_op (ev_int64 (c := (i : Int) + 1) rfl rfl rfl (by omega) (by omega)) rfl rfl rfl ?_
      obtain ⟨b10, H11, he12, b10e, H11n_, hm14, f13⟩ := mem_lit Hl1 (xs := ([.int .i64 ((i : Int) + 1)] : List Value)) (m := 1) (rows := [[.int .i64 ((i : Int) + 1)]]) rfl eok28 (by decide) (by decide) zf3 rfl (allLen rfl) rfl
      replace hm14 : My Hl1 H11 (some ⟨b10, 0, none⟩) 1 1 ([(i : Int) + 1].map i64c) := hm14
      refine st_op (he12 _ _ _ _ _ _ _ _ rfl) rfl rfl rfl ?_
      have hx15 : Ext Hl1 H11 := Ext.new (by omega) H11n_ f13
      have H11n : Hl1.next ≤ H11.next := hx15.1
      have h16 := My.ext hm3 hx15
      obtain ⟨A17, c18, H19, W20, he21, hm22, hf23⟩ := mem_append (f := i64c) (old := l) (new := [(i : Int) + 1]) (m := l.length) (mx := 1) (c := cp) (by first | rfl | simp) (by first | rfl | simp) eok28 (by decide) hm3 h16 (by omega) (((My.row hm14)).srcF (by decide) (by first | rfl | simp)) rfl i64c_len i64c_one (by first | omega | (simp only [List.length_append, List.length_cons, List.length_nil, List.length_map, List.length_set, List.length_replicate, Spec.bytesOf_length]; omega) | (simp; omega)) (by first | omega | (simp only [List.length_append, List.length_cons, List.length_nil, List.length_map, List.length_set, List.length_replicate, Spec.bytesOf_length]; omega) | (simp; omega))
      refine st_op (he21 _ _ _ _ _ _ _ _ _ _ rfl rfl isrow28) rfl rfl rfl ?_
      have H19n : H11.next ≤ H19.next := hf23.1
      have hl24 : (l ++ [(i : Int) + 1]).length = l.length + 1 := by simp
      refine st_op (ev_assign rfl) rfl rfl rfl ?_
      try show aw _ _ _ _ _ _
      refine aw_reg ?_
      refine st_op (ev_move rfl) rfl rfl rfl ?_
      refine st_op (ev_int64 (c := (i : Int) + 1) rfl rfl rfl (by omega) (by omega)) rfl rfl rfl ?_
      refine st_op (ev_assign rfl) rfl rfl rfl ?_
      try show aw _ _ _ _ _ _
      have hx25 : Ext H H19 := (Ext.then (Ext.trans hxl4 hx15) hf23 (fun q hq e => by omega))
      refine aw_keep [0, 3, 4] (l' := (.cons 0 (.int .i64 bits) (.cons 3 (.slice A17 ((l ++ [(i : Int) + 1]).length) c18) (.cons 4 (.int .i64 ((i : Int) + 1)) .nil)))) (by repeat (first | exact Up.done | refine Up.then ?_ | refine Up.inBlock ?_)) rfl ?_
      exact ih5 (i + 1, A17, c18, (l ++ [(i : Int) + 1]), H19) ⟨(show (i + 1) ≤ 7 from (by omega)), (show (l ++ [(i : Int) + 1]) = Spec.setN (fun (j : Nat) => Int.tmod (Spec.shr .i64 bits (j : Int)) 2 ≠ 0) (i + 1) from (by rw [Spec.setN, ← hv]; first | rw [if_pos (by assumption)] | (rw [if_neg (fun h => h (by assumption)), List.append_nil]))), (show (l ++ [(i : Int) + 1]).length ≤ (i + 1) from (by first | omega | (rw [List.length_append]; simp; omega))), (show My H H19 A17 c18 1 ((l ++ [(i : Int) + 1]).map i64c) from hm22), (show Ext H H19 from hx25)⟩ (by simp only; omega)
    · rw [Bool.not_eq_true] at hc9; refine aw_condF hc9 rfl ?_
      try show aw _ _ _ _ _ _
      have hc9 : ((Int.tmod (Spec.shr .i64 bits (i : Int)) 2) = 0) := by simpa using hc9
      refine aw_skip ?_
      try show aw _ _ _ _ _ _
      refine aw_reg ?_
      refine st_op (ev_move rfl) rfl rfl rfl ?_
      refine st_op (ev_int64 (c := (i : Int) + 1) rfl rfl rfl (by omega) (by omega)) rfl rfl rfl ?_
      refine st_op (ev_assign rfl) rfl rfl rfl ?_
      try show aw _ _ _ _ _ _
      refine aw_keep [0, 3, 4] (l' := (.cons 0 (.int .i64 bits) (.cons 3 (.slice A l.length cp) (.cons 4 (.int .i64 ((i : Int) + 1)) .nil)))) (by repeat (first | exact Up.done | refine Up.then ?_ | refine Up.inBlock ?_)) rfl ?_
      exact ih5 (i + 1, A, cp, l, Hl1) ⟨(show (i + 1) ≤ 7 from (by omega)), (show l = Spec.setN (fun (j : Nat) => Int.tmod (Spec.shr .i64 bits (j : Int)) 2 ≠ 0) (i + 1) from (by rw [Spec.setN, ← hv]; first | rw [if_pos (by assumption)] | (rw [if_neg (fun h => h (by assumption)), List.append_nil]))), (show l.length ≤ (i + 1) from (by first | omega | (rw [List.length_append]; simp; omega))), (show My H Hl1 A cp 1 (l.map i64c) from hm3), (show Ext H Hl1 from hxl4)⟩ (by simp only; omega)
  · rw [Bool.not_eq_true] at hc6; refine aw_condF hc6 rfl ?_
    try show aw _ _ _ _ _ _
    have hc6 := of_decide_eq_false hc6
    refine aw_exit ?_
    try show aw _ _ _ _ _ _
    refine aw_seq ?_
    refine aw_reg ?_
    refine st_op (ev_move rfl) rfl rfl rfl ?_
    refine st_op (ev_assign rfl) rfl rfl rfl ?_
    try show aw _ _ _ _ _ _
    refine aw_ret ?_
    have hres : (Spec.setN (fun (j : Nat) => Int.tmod (Spec.shr .i64 bits (j : Int)) 2 ≠ 0) 7) = l := by rw [hv, show i = 7 by omega]
    exact ⟨.slice A l.length cp, rfl, A, cp, by rw [hres]; first | done | rfl | simp, (by rw [hres]; exact hm3), (by rw [hres]; omega), hxl4⟩
theorem sl_Clone_spec (H : Heap) (lA : Option Addr) (l : List Int) (lc : Nat) (hl : Row H lA lc 1 (l.map i64c)) (cl : l.length ≤ lc) (ll : l.length ≤ 137438953472) : ∃ v H', Spec Try.prog 59 [.slice lA l.length lc] H v H' ∧ (∃ rA0 rc0, (v = .slice rA0 l.length rc0) ∧ (My H H' rA0 rc0 1 (l.map i64c)) ∧ (Ext H H')) := by
  refine spec_go1 E0_ok 8 (f := 59) Try.func59 rfl rfl rfl ?_
  refine aw_seq ?_
  refine aw_reg ?_
  refine st_op (ev_assign rfl) rfl rfl rfl ?_
  try show aw _ _ _ _ _ _
  refine aw_seq ?_
  refine aw_seq ?_
  refine aw_reg ?_
  refine st_op (ev_move rfl) rfl rfl rfl ?_
  refine st_op (ev_nilSl rfl rfl Try.underlying28) rfl rfl rfl ?_
  try show aw _ _ _ _ _ _
  by_cases hc1 : (Option.isNone lA) = true
  · refine aw_condT hc1 rfl ?_
    try show aw _ _ _ _ _ _
    refine aw_seq ?_
    refine aw_reg ?_
    refine st_op (ev_assign rfl) rfl rfl rfl ?_
    try show aw _ _ _ _ _ _
    refine aw_ret ?_
    have hm2 : My H H none 0 1 (([] : List Int).map i64c) := .nil
    have hres : l = ([] : List Int) := by exact Row.isNone hl (by assumption)
    exact ⟨.slice none 0 0, rfl, none, 0, by rw [hres]; first | done | rfl | simp, (by rw [hres]; exact hm2), (Ext.refl H)⟩
  · rw [Bool.not_eq_true] at hc1; refine aw_condF hc1 rfl ?_
    try show aw _ _ _ _ _ _
    refine aw_skip ?_
    try show aw _ _ _ _ _ _
    refine aw_seq ?_
    refine aw_reg ?_
    obtain ⟨b3, H4, he5, b3e, H4n_, hm7, f6⟩ := mem_lit H (xs := ([] : List Value)) (m := 0) (rows := ([] : List (List Value))) rfl eok28 (by decide) (by decide) zf3 rfl (allLen rfl) rfl
    replace hm7 : My H H4 (some ⟨b3, 0, none⟩) 0 1 (([] : List Int).map i64c) := hm7
    refine st_op (he5 _ _ _ _ _ _ _ _ rfl) rfl rfl rfl ?_
    have hx8 : Ext H H4 := Ext.new (by omega) H4n_ f6
    have H4n : H.next ≤ H4.next := hx8.1
    refine st_op (ev_move rfl) rfl rfl rfl ?_
    have h9 := Row.ext hl hx8
    obtain ⟨A10, c11, H12, W13, he14, hm15, hf16⟩ := mem_append (f := i64c) (old := ([] : List Int)) (new := l) (m := 0) (mx := l.length) (c := 0) (by first | rfl | simp) (by first | rfl | simp) eok28 (by decide) hm7 hm7 (by omega) ((h9).srcF (by decide) (by first | rfl | simp)) rfl i64c_len i64c_one (by first | omega | (simp only [List.length_append, List.length_cons, List.length_nil, List.length_map, List.length_set, List.length_replicate, Spec.bytesOf_length]; omega) | (simp; omega)) (by first | omega | (simp only [List.length_append, List.length_cons, List.length_nil, List.length_map, List.length_set, List.length_replicate, Spec.bytesOf_length]; omega) | (simp; omega))
    refine st_op (he14 _ _ _ _ _ _ _ _ _ _ rfl rfl isrow28) rfl rfl rfl ?_
    have H12n : H4.next ≤ H12.next := hf16.1
    rw [List.nil_append] at hm15
    refine st_op (ev_assign rfl) rfl rfl rfl ?_
    try show aw _ _ _ _ _ _
    refine aw_ret ?_
    have hx17 : Ext H H12 := (Ext.then hx8 hf16 (fun q hq e => by omega))
    have hres : l = l := by rfl
    exact ⟨.slice A10 l.length c11, rfl, A10, c11, by rw [hres]; first | done | rfl | simp, (by rw [hres]; exact hm15), hx17⟩
theorem bits_Len_spec (H : Heap) (x : Int) (hx : 0 ≤ x ∧ x ≤ 12) : ∃ v H', Spec Try.prog 65 [.int .u64 x] H v H' ∧ ((v = .int .i64 (Spec.len8 x)) ∧ (H' = H)) := by
  have h : x = 0 ∨ x = 1 ∨ x = 2 ∨ x = 3 ∨ x = 4 ∨ x = 5 ∨ x = 6 ∨ x = 7 ∨ x = 8 ∨ x = 9 ∨ x = 10 ∨ x = 11 ∨ x = 12 := by omega
  rcases h with rfl | rfl | rfl | rfl | rfl | rfl | rfl | rfl | rfl | rfl | rfl | rfl | rfl
  · exact ⟨_, _, valF_any mixed (X := X0) (N := 1000) (n := 40) (v := .int .i64 0) (by kernel_rfl) rfl rfl H, rfl, rfl⟩
  · exact ⟨_, _, valF_any mixed (X := X0) (N := 1000) (n := 40) (v := .int .i64 1) (by kernel_rfl) rfl rfl H, rfl, rfl⟩
  · exact ⟨_, _, valF_any mixed (X := X0) (N := 1000) (n := 40) (v := .int .i64 2) (by kernel_rfl) rfl rfl H, rfl, rfl⟩
  · exact ⟨_, _, valF_any mixed (X := X0) (N := 1000) (n := 40) (v := .int .i64 2) (by kernel_rfl) rfl rfl H, rfl, rfl⟩
  · exact ⟨_, _, valF_any mixed (X := X0) (N := 1000) (n := 40) (v := .int .i64 3) (by kernel_rfl) rfl rfl H, rfl, rfl⟩
  · exact ⟨_, _, valF_any mixed (X := X0) (N := 1000) (n := 40) (v := .int .i64 3) (by kernel_rfl) rfl rfl H, rfl, rfl⟩
  · exact ⟨_, _, valF_any mixed (X := X0) (N := 1000) (n := 40) (v := .int .i64 3) (by kernel_rfl) rfl rfl H, rfl, rfl⟩
  · exact ⟨_, _, valF_any mixed (X := X0) (N := 1000) (n := 40) (v := .int .i64 3) (by kernel_rfl) rfl rfl H, rfl, rfl⟩
  · exact ⟨_, _, valF_any mixed (X := X0) (N := 1000) (n := 40) (v := .int .i64 4) (by kernel_rfl) rfl rfl H, rfl, rfl⟩
  · exact ⟨_, _, valF_any mixed (X := X0) (N := 1000) (n := 40) (v := .int .i64 4) (by kernel_rfl) rfl rfl H, rfl, rfl⟩
  · exact ⟨_, _, valF_any mixed (X := X0) (N := 1000) (n := 40) (v := .int .i64 4) (by kernel_rfl) rfl rfl H, rfl, rfl⟩
  · exact ⟨_, _, valF_any mixed (X := X0) (N := 1000) (n := 40) (v := .int .i64 4) (by kernel_rfl) rfl rfl H, rfl, rfl⟩
  · exact ⟨_, _, valF_any mixed (X := X0) (N := 1000) (n := 40) (v := .int .i64 4) (by kernel_rfl) rfl rfl H, rfl, rfl⟩
theorem cmp_isNaN_spec (H : Heap) (x : Int) : ∃ v H', Spec Try.prog 130 [.int .i64 x] H v H' ∧ ((v = .bool false) ∧ (Ext H H')) := by
  refine spec_go1 E0_ok 6 (f := 130) Try.func130 rfl rfl rfl ?_
  refine aw_seq ?_
  refine aw_reg ?_
  refine st_op (ev_assign rfl) rfl rfl rfl ?_
  try show aw _ _ _ _ _ _
  refine aw_seq ?_
  refine aw_reg ?_
  refine st_op (ev_move rfl) rfl rfl rfl ?_
  refine st_op (ev_move rfl) rfl rfl rfl ?_
  refine st_op (ev_int (v := .bool false) rfl rfl (by simp [intBin])) rfl rfl rfl ?_
  refine st_op (ev_assign rfl) rfl rfl rfl ?_
  try show aw _ _ _ _ _ _
  refine aw_ret ?_
  exact ⟨.bool false, rfl, rfl, (Ext.refl H)⟩
theorem cmp_Less_spec (H : Heap) (x : Int) (y : Int) : ∃ v H', Spec Try.prog 113 [.int .i64 x, .int .i64 y] H v H' ∧ ((v = .bool (decide (x < y))) ∧ (Ext H H')) := by
  refine spec_go2 E0_ok 17 (f := 113) Try.func113 rfl rfl rfl ?_
  refine aw_seq ?_
  refine aw_reg ?_
  refine st_op (ev_assign rfl) rfl rfl rfl ?_
  try show aw _ _ _ _ _ _
  refine aw_seq ?_
  refine aw_reg ?_
  refine st_op (ev_move rfl) rfl rfl rfl ?_
  refine st_call rfl rfl rfl ent130 rfl rfl rfl ?_
  obtain ⟨_, H2, hs1, hs1v, hx3⟩ := cmp_isNaN_spec H x
  rw [hs1v] at hs1; clear hs1v
  refine ⟨_, H2, hs1, ?_⟩
  have H2n : H.next ≤ H2.next := hx3.1
  refine st_op (ev_move rfl) rfl rfl rfl ?_
  refine st_skip rfl rfl rfl ?_
  refine st_skip rfl rfl rfl ?_
  refine st_skip rfl rfl rfl ?_
  refine st_op (ev_pickF rfl rfl) rfl rfl rfl ?_
  refine st_op (ev_move rfl) rfl rfl rfl ?_
  refine st_op (ev_move rfl) rfl rfl rfl ?_
  refine st_op (ev_move rfl) rfl rfl rfl ?_
  refine st_op (ev_int rfl rfl rfl) rfl rfl rfl ?_
  refine st_op (ev_pickF rfl rfl) rfl rfl rfl ?_
  refine st_op (ev_assign rfl) rfl rfl rfl ?_
  try show aw _ _ _ _ _ _
  refine aw_ret ?_
  have hres : (decide (x < y)) = (decide (x < y)) := by rfl
  exact ⟨.bool (decide (x < y)), rfl, by rw [hres], hx3⟩
theorem sl_insert_spec (H : Heap) (lH : Heap) (lA : Option Addr) (l : List Int) (lc : Nat) (hl : My lH H lA lc 1 (l.map i64c)) (nl : lH.next ≤ H.next) (ll : l.length ≤ 1073741824)  (b : Int) (hb : b = (l.length : Int)) : ∃ v H', Spec Try.prog 107 [.slice lA l.length lc, .int .i64 0, .int .i64 b] H v H' ∧ ((v = .tuple #[]) ∧ (My lH H' lA lc 1 ((Spec.insF l 1 (l.length - 1)).map i64c)) ∧ ((Spec.insF l 1 (l.length - 1)).length = l.length) ∧ (Fr (fun q => (lH.next ≤ q ∧ q < H.next ∧ ZB H q 1)) H H')) := by
  refine spec_go3 E0_ok 49 (f := 107) Try.func107 rfl rfl rfl ?_
  refine aw_seq ?_
  refine aw_reg ?_
  refine st_op (ev_move rfl) rfl rfl rfl ?_
  refine st_op (ev_int64 (c := 1) rfl rfl rfl (by omega) (by omega)) rfl rfl rfl ?_
  refine st_op (ev_assign rfl) rfl rfl rfl ?_
  try show aw _ _ _ _ _ _
  refine aw_block ?_
  refine aw_keep [0, 1, 2, 6] (l' := (.cons 0 (.slice lA l.length lc) (.cons 1 (.int .i64 0) (.cons 2 (.int .i64 b) (.cons 6 (.int .i64 1) .nil))))) (by repeat (first | exact Up.done | refine Up.then ?_ | refine Up.inBlock ?_)) rfl ?_
  refine aw_iter (α := Nat × List Int × Heap) (fun a => l.length + 1 - a.1) (fun a => (.cons 0 (.slice lA l.length lc) (.cons 1 (.int .i64 0) (.cons 2 (.int .i64 b) (.cons 6 (.int .i64 (a.1 : Int)) .nil))))) (fun a => a.2.2) (fun a => (1 ≤ a.1 ∧ a.1 ≤ l.length + 1) ∧ (a.1 ≤ l.length ∨ l.length = 0) ∧ (a.2.1.length = l.length) ∧ (Spec.insF l 1 (l.length - 1) = Spec.insF a.2.1 a.1 (l.length - a.1)) ∧ (My lH a.2.2 lA lc 1 (a.2.1.map i64c)) ∧ (Fr (fun q => (lH.next ≤ q ∧ q < H.next ∧ ZB H q 1)) H a.2.2)) (1, l, H) ⟨(show 1 ≤ 1 ∧ 1 ≤ l.length + 1 from (by omega)), (show 1 ≤ l.length ∨ l.length = 0 from (by omega)), (show l.length = l.length from rfl), (show Spec.insF l 1 (l.length - 1) = Spec.insF l 1 (l.length - 1) from rfl), (show My lH H lA lc 1 (l.map i64c) from hl), (show Fr (fun q => (lH.next ≤ q ∧ q < H.next ∧ ZB H q 1)) H H from (Fr.refl _ H))⟩ ?_
  rintro ⟨i, l1, Hl1⟩ ⟨hi, hib, hle, hv, hm2, hxl3⟩ ih4
  replace hi : 1 ≤ i ∧ i ≤ l.length + 1 := hi
  replace hib : i ≤ l.length ∨ l.length = 0 := hib
  replace hle : l1.length = l.length := hle
  replace hv : Spec.insF l 1 (l.length - 1) = Spec.insF l1 i (l.length - i) := hv
  replace hm2 : My lH Hl1 lA lc 1 (l1.map i64c) := hm2
  replace hxl3 : Fr (fun q => (lH.next ≤ q ∧ q < H.next ∧ ZB H q 1)) H Hl1 := hxl3
  show aw _ _ _ (RL _ (.cons 0 (.slice lA l.length lc) (.cons 1 (.int .i64 0) (.cons 2 (.int .i64 b) (.cons 6 (.int .i64 (i : Int)) .nil))))) Hl1 _
  have Hl1n : H.next ≤ Hl1.next := hxl3.1
  refine aw_seq ?_
  refine aw_seq ?_
  refine aw_reg ?_
  refine st_op (ev_move rfl) rfl rfl rfl ?_
  refine st_op (ev_move rfl) rfl rfl rfl ?_
  refine st_op (ev_int rfl rfl rfl) rfl rfl rfl ?_
  try show aw _ _ _ _ _ _
  by_cases hc5 : (decide ((i : Int) < b)) = true
  · refine aw_condT hc5 rfl ?_
    try show aw _ _ _ _ _ _
    have hc5 := of_decide_eq_true hc5
    refine aw_skip ?_
    try show aw _ _ _ _ _ _
    refine aw_seq ?_
    refine aw_block ?_
    refine aw_seq ?_
    refine aw_reg ?_
    refine st_op (ev_move rfl) rfl rfl rfl ?_
    refine st_op (ev_assign rfl) rfl rfl rfl ?_
    try show aw _ _ _ _ _ _
    refine aw_block ?_
    refine aw_keep [0, 1, 2, 6, 7] (l' := (.cons 0 (.slice lA l.length lc) (.cons 1 (.int .i64 0) (.cons 2 (.int .i64 b) (.cons 6 (.int .i64 (i : Int)) (.cons 7 (.int .i64 (i : Int)) .nil)))))) (by repeat (first | exact Up.done | refine Up.then ?_ | refine Up.inBlock ?_)) rfl ?_
    refine aw_iter (α := Nat × List Int × Heap) (fun a => a.1) (fun a => (.cons 0 (.slice lA l.length lc) (.cons 1 (.int .i64 0) (.cons 2 (.int .i64 b) (.cons 6 (.int .i64 (i : Int)) (.cons 7 (.int .i64 (a.1 : Int)) .nil)))))) (fun a => a.2.2) (fun a => (a.1 ≤ i) ∧ (a.2.1.length = l.length) ∧ (Spec.sink l1 i = Spec.sink a.2.1 a.1) ∧ (My lH a.2.2 lA lc 1 (a.2.1.map i64c)) ∧ (Fr (fun q => (lH.next ≤ q ∧ q < Hl1.next ∧ ZB Hl1 q 1)) Hl1 a.2.2)) (i, l1, Hl1) ⟨(show i ≤ i from Nat.le_refl _), (show l1.length = l.length from hle), (show Spec.sink l1 i = Spec.sink l1 i from rfl), (show My lH Hl1 lA lc 1 (l1.map i64c) from hm2), (show Fr (fun q => (lH.next ≤ q ∧ q < Hl1.next ∧ ZB Hl1 q 1)) Hl1 Hl1 from (Fr.refl _ Hl1))⟩ ?_
    rintro ⟨j, l2, Hl6⟩ ⟨hj, hle2, hvi, hm7, hxl8⟩ ih9
    replace hj : j ≤ i := hj
    replace hle2 : l2.length = l.length := hle2
    replace hvi : Spec.sink l1 i = Spec.sink l2 j := hvi
    replace hm7 : My lH Hl6 lA lc 1 (l2.map i64c) := hm7
    replace hxl8 : Fr (fun q => (lH.next ≤ q ∧ q < Hl1.next ∧ ZB Hl1 q 1)) Hl1 Hl6 := hxl8
    show aw _ _ _ (RL _ (.cons 0 (.slice lA l.length lc) (.cons 1 (.int .i64 0) (.cons 2 (.int .i64 b) (.cons 6 (.int .i64 (i : Int)) (.cons 7 (.int .i64 (j : Int)) .nil)))))) Hl6 _
    have Hl6n : Hl1.next ≤ Hl6.next := hxl8.1
    refine aw_seq ?_
    refine aw_seq ?_
    refine aw_marks (fun b => b < Hl6.next) [(false, false), (false, false), (false, false), (false, false), (false, false), (false, false), (false, false), (false, false), (false, false), (false, false), (false, false), (false, false), (false, false), (false, false), (false, false)] mixed (by kernel_rfl) (by kernel_rfl) ?_
    refine sm_op (ev_move rfl) rfl rfl rfl ?_
    refine sm_op (ev_move rfl) rfl rfl rfl ?_
    refine sm_op (ev_int rfl rfl rfl) rfl rfl rfl ?_
    refine sm_op (ev_move rfl) rfl rfl rfl ?_
    refine sm_bool 19 rfl (fun hb10 => ?_) (fun hb10 => ?_)
    ·
      have hb10 := of_decide_eq_true hb10
      refine sm_op (ev_move rfl) rfl rfl rfl ?_
      refine sm_op (ev_move rfl) rfl rfl rfl ?_
      have hi11 : 0 ≤ ((j : Int) : Int) := by omega
      have hi12 : ((j : Int) : Int) < ((l.length : Nat) : Int) := by first | omega | (simp only [List.length_append, List.length_cons, List.length_nil, List.length_map, List.length_set, List.length_replicate, Spec.bytesOf_length]; omega) | (simp; omega)
      obtain ⟨x13, hx14⟩ : ∃ e, l2[j]? = some e := ⟨_, List.getElem?_eq_getElem (by first | omega | (simp only [List.length_append, List.length_cons, List.length_nil, List.length_map, List.length_set, List.length_replicate, Spec.bytesOf_length]; omega) | (simp; omega))⟩
      refine sm_op (ev_at rfl rfl (My.row hm7) (getMap i64c hx14) (by first | rfl | omega | simp) hi11 hi12 el28) rfl rfl rfl ?_
      refine sm_op (ev_atL rfl (My.row hm7) (getMap i64c hx14) one3 rfl) rfl rfl rfl ?_
      refine sm_op (ev_move rfl) rfl rfl rfl ?_
      refine sm_op (ev_move rfl) rfl rfl rfl ?_
      refine sm_op (ev_int64 (c := (j : Int) - 1) rfl rfl rfl (by omega) (by omega)) rfl rfl rfl ?_
      have hi15 : 0 ≤ ((j : Int) - 1 : Int) := by omega
      have hi16 : ((j : Int) - 1 : Int) < ((l.length : Nat) : Int) := by first | omega | (simp only [List.length_append, List.length_cons, List.length_nil, List.length_map, List.length_set, List.length_replicate, Spec.bytesOf_length]; omega) | (simp; omega)
      obtain ⟨x17, hx18⟩ : ∃ e, l2[(((j : Int) - 1)).toNat]? = some e := ⟨_, List.getElem?_eq_getElem (by first | omega | (simp only [List.length_append, List.length_cons, List.length_nil, List.length_map, List.length_set, List.length_replicate, Spec.bytesOf_length]; omega) | (simp; omega))⟩
      refine sm_op (ev_at rfl rfl (My.row hm7) (getMap i64c hx18) (by first | rfl | omega | simp) hi15 hi16 el28) rfl rfl rfl ?_
      refine sm_op (ev_atL rfl (My.row hm7) (getMap i64c hx18) one3 rfl) rfl rfl rfl ?_
      refine sm_call rfl rfl rfl ent113 rfl rfl rfl ?_
      obtain ⟨_, H20, hs19, hs19v, hx21⟩ := cmp_Less_spec Hl6 x13 x17
      rw [hs19v] at hs19; clear hs19v
      refine ⟨_, H20, hs19, (fun _ b hb => hx21.2 b (by omega)), ?_⟩
      have H20n : Hl6.next ≤ H20.next := hx21.1
      refine sm_op (ev_pickT rfl rfl) rfl rfl rfl ?_
      try show aw _ _ _ _ _ _
      by_cases hc22 : (decide (x13 < x17)) = true
      · refine aw_condT hc22 rfl ?_
        try show aw _ _ _ _ _ _
        have hc22 := of_decide_eq_true hc22
        refine aw_skip ?_
        try show aw _ _ _ _ _ _
        refine aw_seq ?_
        refine aw_block ?_
        refine aw_marks (fun b => b < H20.next) [(false, false), (false, false), (false, false), (false, false), (false, false), (false, false), (false, false), (false, false), (false, false), (false, false), (false, false), (false, false), (false, false), (false, false), (false, false), (false, false), (false, false), (false, false)] mixed (by kernel_rfl) (by kernel_rfl) ?_
        refine sm_op (ev_move rfl) rfl rfl rfl ?_
        refine sm_op (ev_move rfl) rfl rfl rfl ?_
        refine sm_op (ev_move rfl) rfl rfl rfl ?_
        refine sm_op (ev_move rfl) rfl rfl rfl ?_
        refine sm_op (ev_int64 (c := (j : Int) - 1) rfl rfl rfl (by omega) (by omega)) rfl rfl rfl ?_
        refine sm_op (ev_move rfl) rfl rfl rfl ?_
        refine sm_op (ev_move rfl) rfl rfl rfl ?_
        refine sm_op (ev_int64 (c := (j : Int) - 1) rfl rfl rfl (by omega) (by omega)) rfl rfl rfl ?_
        have h23 := My.ext hm7 hx21
        have hi24 : 0 ≤ ((j : Int) - 1 : Int) := by omega
        have hi25 : ((j : Int) - 1 : Int) < ((l.length : Nat) : Int) := by first | omega | (simp only [List.length_append, List.length_cons, List.length_nil, List.length_map, List.length_set, List.length_replicate, Spec.bytesOf_length]; omega) | (simp; omega)
        refine sm_op (ev_at rfl rfl (My.row h23) (getMap i64c hx18) (by first | rfl | omega | simp) hi24 hi25 el28) rfl rfl rfl ?_
        refine sm_op (ev_atL rfl (My.row h23) (getMap i64c hx18) one3 rfl) rfl rfl rfl ?_
        refine sm_op (ev_move rfl) rfl rfl rfl ?_
        refine sm_op (ev_move rfl) rfl rfl rfl ?_
        have hi26 : 0 ≤ ((j : Int) : Int) := by omega
        have hi27 : ((j : Int) : Int) < ((l.length : Nat) : Int) := by first | omega | (simp only [List.length_append, List.length_cons, List.length_nil, List.length_map, List.length_set, List.length_replicate, Spec.bytesOf_length]; omega) | (simp; omega)
        refine sm_op (ev_at rfl rfl (My.row h23) (getMap i64c hx14) (by first | rfl | omega | simp) hi26 hi27 el28) rfl rfl rfl ?_
        refine sm_op (ev_atL rfl (My.row h23) (getMap i64c hx14) one3 rfl) rfl rfl rfl ?_
        have hi28 : 0 ≤ ((j : Int) : Int) := by omega
        have hi29 : ((j : Int) : Int) < ((l.length : Nat) : Int) := by first | omega | (simp only [List.length_append, List.length_cons, List.length_nil, List.length_map, List.length_set, List.length_replicate, Spec.bytesOf_length]; omega) | (simp; omega)
        refine sm_op (ev_at rfl rfl (My.row h23) (getMap i64c hx14) (by first | rfl | omega | simp) hi28 hi29 el28) rfl rfl rfl ?_
        obtain ⟨H30, W31, he32, hm33, hf34, H30n_⟩ := mem_storeAt (v := .int .i64 x17) size3 rfl rfl hm7 h23 (getMap i64c hx14) (show 0 < 1 by decide)
        rw [show (i64c x13).set 0 (.int .i64 x17) = i64c x17 from rfl, ← List.map_set] at hm33
        refine sm_op0 (he32 _ _ _ _ _ _ _ _ _ rfl rfl) rfl rfl ?_
        have H30n : H20.next ≤ H30.next := hf34.1
        have hi35 : 0 ≤ ((j : Int) - 1 : Int) := by omega
        have hi36 : ((j : Int) - 1 : Int) < ((l.length : Nat) : Int) := by first | omega | (simp only [List.length_append, List.length_cons, List.length_nil, List.length_map, List.length_set, List.length_replicate, Spec.bytesOf_length]; omega) | (simp; omega)
        obtain ⟨x37, hx38⟩ : ∃ e, (l2.set j x17)[(((j : Int) - 1)).toNat]? = some e := ⟨_, List.getElem?_eq_getElem (by first | omega | (simp only [List.length_append, List.length_cons, List.length_nil, List.length_map, List.length_set, List.length_replicate, Spec.bytesOf_length]; omega) | (simp; omega))⟩
        refine sm_op (ev_at rfl rfl (My.row hm33) (getMap i64c hx38) (by first | rfl | omega | simp) hi35 hi36 el28) rfl rfl rfl ?_
        obtain ⟨H39, W40, he41, hm42, hf43, H39n_⟩ := mem_storeAt (v := .int .i64 x13) size3 rfl rfl hm33 hm33 (getMap i64c hx38) (show 0 < 1 by decide)
        rw [show (i64c x37).set 0 (.int .i64 x13) = i64c x13 from rfl, ← List.map_set] at hm42
        refine sm_op0 (he41 _ _ _ _ _ _ _ _ _ rfl rfl) rfl rfl ?_
        have H39n : H30.next ≤ H39.next := hf43.1
        try show aw _ _ _ _ _ _
        refine aw_reg ?_
        refine st_op (ev_move rfl) rfl rfl rfl ?_
        refine st_op (ev_int64 (c := (j : Int) - 1) rfl rfl rfl (by omega) (by omega)) rfl rfl rfl ?_
        refine st_op (ev_assign rfl) rfl rfl rfl ?_
        try show aw _ _ _ _ _ _
        refine aw_keep [0, 1, 2, 6, 7] (l' := (.cons 0 (.slice lA l.length lc) (.cons 1 (.int .i64 0) (.cons 2 (.int .i64 b) (.cons 6 (.int .i64 (i : Int)) (.cons 7 (.int .i64 ((j : Int) - 1)) .nil)))))) (by repeat (first | exact Up.done | refine Up.then ?_ | refine Up.inBlock ?_)) rfl ?_
        rw [show ((j : Int) - 1) = ((j - 1 : Nat) : Int) by omega]
        exact ih9 (j - 1, ((l2.set j x17).set ((((j : Int) - 1)).toNat) x13), H39) ⟨(show (j - 1) ≤ i from (by omega)), (show ((l2.set j x17).set ((((j : Int) - 1)).toNat) x13).length = l.length from (by simp only [List.length_set]; exact hle2)), (show Spec.sink l1 i = Spec.sink ((l2.set j x17).set ((((j : Int) - 1)).toNat) x13) (j - 1) from (by rw [hvi, Spec.sink_lt (by omega) hx14 (by have hy := hx18; rwa [show ((j : Int) - 1).toNat = j - 1 by omega] at hy) (by omega), show j - 1 = ((j : Int) - 1).toNat by omega])), (show My lH H39 lA lc 1 (((l2.set j x17).set ((((j : Int) - 1)).toNat) x13).map i64c) from hm42), (show Fr (fun q => (lH.next ≤ q ∧ q < Hl1.next ∧ ZB Hl1 q 1)) Hl1 H39 from (Fr.transG (Fr.transG (Fr.trans (Fr.transG (Fr.refl (fun q => (lH.next ≤ q ∧ q < Hl1.next ∧ ZB Hl1 q 1)) Hl1) hxl8 (fun q hq hE e => (⟨by omega, by omega, ZB.back hE e.2.2⟩))) (hx21.fr fun _ => False) (fun q hq (e : False) => e.elim)) hf34 (fun q hq hE e => (⟨by omega, by omega, ZB.back hE e.2.2⟩))) hf43 (fun q hq hE e => (⟨by omega, by omega, ZB.back hE e.2.2⟩))))⟩ (by simp only; omega)
      · rw [Bool.not_eq_true] at hc22; refine aw_condF hc22 rfl ?_
        try show aw _ _ _ _ _ _
        have hc22 := of_decide_eq_false hc22
        refine aw_exit ?_
        try show aw _ _ _ _ _ _
        refine aw_reg ?_
        refine st_op (ev_move rfl) rfl rfl rfl ?_
        refine st_op (ev_int64 (c := (i : Int) + 1) rfl rfl rfl (by omega) (by omega)) rfl rfl rfl ?_
        refine st_op (ev_assign rfl) rfl rfl rfl ?_
        try show aw _ _ _ _ _ _
        have h44 := My.ext hm7 hx21
        refine aw_keep [0, 1, 2, 6] (l' := (.cons 0 (.slice lA l.length lc) (.cons 1 (.int .i64 0) (.cons 2 (.int .i64 b) (.cons 6 (.int .i64 ((i : Int) + 1)) .nil))))) (by repeat (first | exact Up.done | refine Up.then ?_ | refine Up.inBlock ?_)) rfl ?_
        exact ih4 (i + 1, l2, H20) ⟨(show 1 ≤ (i + 1) ∧ (i + 1) ≤ l.length + 1 from (by omega)), (show (i + 1) ≤ l.length ∨ l.length = 0 from (by omega)), (show l2.length = l.length from hle2), (show Spec.insF l 1 (l.length - 1) = Spec.insF l2 (i + 1) (l.length - (i + 1)) from (by rw [hv, show l.length - i = (l.length - (i + 1)) + 1 by omega, Spec.insF, show Spec.sink l1 i = l2 from (by rw [hvi]; exact Spec.sink_ge (by omega) hx14 (by have hy := hx18; rwa [show ((j : Int) - 1).toNat = j - 1 by omega] at hy) (by omega))])), (show My lH H20 lA lc 1 (l2.map i64c) from h44), (show Fr (fun q => (lH.next ≤ q ∧ q < H.next ∧ ZB H q 1)) H H20 from (Fr.trans (Fr.transG (Fr.transG (Fr.refl (fun q => (lH.next ≤ q ∧ q < H.next ∧ ZB H q 1)) H) hxl3 (fun q hq hE e => (⟨by omega, by omega, ZB.back hE e.2.2⟩))) hxl8 (fun q hq hE e => (⟨by omega, by omega, ZB.back hE e.2.2⟩))) (hx21.fr fun _ => False) (fun q hq (e : False) => e.elim)))⟩ (by simp only; omega)
    ·
      have hb10 := of_decide_eq_false hb10
      refine sm_skip rfl rfl rfl ?_
      refine sm_skip rfl rfl rfl ?_
      refine sm_skip rfl rfl rfl ?_
      refine sm_skip rfl rfl rfl ?_
      refine sm_skip rfl rfl rfl ?_
      refine sm_skip rfl rfl rfl ?_
      refine sm_skip rfl rfl rfl ?_
      refine sm_skip rfl rfl rfl ?_
      refine sm_skip rfl rfl rfl ?_
      refine sm_skip rfl rfl rfl ?_
      refine sm_op (ev_pickF rfl rfl) rfl rfl rfl ?_
      try show aw _ _ _ _ _ _
      refine aw_cond (t := false) rfl ?_
      try show aw _ _ _ _ _ _
      refine aw_exit ?_
      try show aw _ _ _ _ _ _
      refine aw_reg ?_
      refine st_op (ev_move rfl) rfl rfl rfl ?_
      refine st_op (ev_int64 (c := (i : Int) + 1) rfl rfl rfl (by omega) (by omega)) rfl rfl rfl ?_
      refine st_op (ev_assign rfl) rfl rfl rfl ?_
      try show aw _ _ _ _ _ _
      refine aw_keep [0, 1, 2, 6] (l' := (.cons 0 (.slice lA l.length lc) (.cons 1 (.int .i64 0) (.cons 2 (.int .i64 b) (.cons 6 (.int .i64 ((i : Int) + 1)) .nil))))) (by repeat (first | exact Up.done | refine Up.then ?_ | refine Up.inBlock ?_)) rfl ?_
      exact ih4 (i + 1, l2, Hl6) ⟨(show 1 ≤ (i + 1) ∧ (i + 1) ≤ l.length + 1 from (by omega)), (show (i + 1) ≤ l.length ∨ l.length = 0 from (by omega)), (show l2.length = l.length from hle2), (show Spec.insF l 1 (l.length - 1) = Spec.insF l2 (i + 1) (l.length - (i + 1)) from (by rw [hv, show l.length - i = (l.length - (i + 1)) + 1 by omega, Spec.insF, show Spec.sink l1 i = l2 from (by rw [hvi, show j = 0 by omega]; rfl)])), (show My lH Hl6 lA lc 1 (l2.map i64c) from hm7), (show Fr (fun q => (lH.next ≤ q ∧ q < H.next ∧ ZB H q 1)) H Hl6 from (Fr.transG (Fr.transG (Fr.refl (fun q => (lH.next ≤ q ∧ q < H.next ∧ ZB H q 1)) H) hxl3 (fun q hq hE e => (⟨by omega, by omega, ZB.back hE e.2.2⟩))) hxl8 (fun q hq hE e => (⟨by omega, by omega, ZB.back hE e.2.2⟩))))⟩ (by simp only; omega)
  · rw [Bool.not_eq_true] at hc5; refine aw_condF hc5 rfl ?_
    try show aw _ _ _ _ _ _
    have hc5 := of_decide_eq_false hc5
    refine aw_exit ?_
    try show aw _ _ _ _ _ _
    have hres : (Spec.insF l 1 (l.length - 1)) = l1 := by rw [hv, show l.length - i = 0 by omega]; rfl
    exact ⟨.tuple #[], rfl, rfl, (by rw [hres]; exact hm2), (by exact Spec.insF_len _ _ _), (Fr.transG (Fr.refl (fun q => (lH.next ≤ q ∧ q < H.next ∧ ZB H q 1)) H) hxl3 (fun q hq hE e => (⟨by omega, by omega, ZB.back hE e.2.2⟩)))⟩
theorem sl_pdq_spec (H : Heap) (lH : Heap) (lA : Option Addr) (l : List Int) (lc : Nat) (hl : My lH H lA lc 1 (l.map i64c)) (nl : lH.next ≤ H.next) (ll : l.length ≤ 12)  (b : Int) (hb : b = (l.length : Int)) (lim : Int) : ∃ v H', Spec Try.prog 81 [.slice lA l.length lc, .int .i64 0, .int .i64 b, .int .i64 lim] H v H' ∧ ((v = .tuple #[]) ∧ (My lH H' lA lc 1 ((Spec.insF l 1 (l.length - 1)).map i64c)) ∧ ((Spec.insF l 1 (l.length - 1)).length = l.length) ∧ (Fr (fun q => (lH.next ≤ q ∧ q < H.next ∧ ZB H q 1)) H H')) := by
  refine spec_go4 E0_ok 134 (f := 81) Try.func81 rfl rfl rfl ?_
  refine aw_seq ?_
  refine aw_reg ?_
  refine st_op (ev_assign rfl) rfl rfl rfl ?_
  try show aw _ _ _ _ _ _
  refine aw_seq ?_
  refine aw_reg ?_
  refine st_op (ev_assign rfl) rfl rfl rfl ?_
  try show aw _ _ _ _ _ _
  refine aw_block ?_
  refine aw_loop ?_
  refine aw_block ?_
  refine aw_seq ?_
  refine aw_reg ?_
  refine st_op (ev_move rfl) rfl rfl rfl ?_
  refine st_op (ev_move rfl) rfl rfl rfl ?_
  refine st_op (ev_int64 (c := b - 0) rfl rfl rfl (by omega) (by omega)) rfl rfl rfl ?_
  refine st_op (ev_assign rfl) rfl rfl rfl ?_
  try show aw _ _ _ _ _ _
  refine aw_seq ?_
  refine aw_seq ?_
  refine aw_reg ?_
  refine st_op (ev_move rfl) rfl rfl rfl ?_
  refine st_op (ev_int rfl rfl rfl) rfl rfl rfl ?_
  try show aw _ _ _ _ _ _
  by_cases hc1 : (decide (b - 0 ≤ 12)) = true
  · refine aw_condT hc1 rfl ?_
    try show aw _ _ _ _ _ _
    have hc1 := of_decide_eq_true hc1
    refine aw_seq ?_
    refine aw_reg ?_
    refine st_op (ev_move rfl) rfl rfl rfl ?_
    refine st_op (ev_move rfl) rfl rfl rfl ?_
    refine st_op (ev_move rfl) rfl rfl rfl ?_
    refine st_call rfl rfl rfl ent107 rfl rfl rfl ?_
    obtain ⟨_, H3, hs2, hs2v, hm6, hq5, hx4⟩ := sl_insert_spec H lH lA l lc hl (by omega) (by first | omega | (simp only [List.length_append, List.length_cons, List.length_nil, List.length_map, List.length_set, List.length_replicate, Spec.bytesOf_length]; omega) | (simp; omega))  b (by first | omega | (simp only [List.length_append, List.length_cons, List.length_nil, List.length_map, List.length_set, List.length_replicate, Spec.bytesOf_length]; omega) | (simp; omega))
    rw [hs2v] at hs2; clear hs2v
    refine ⟨_, H3, hs2, ?_⟩
    have H3n : H.next ≤ H3.next := hx4.1
    try show aw _ _ _ _ _ _
    refine aw_ret ?_
    have hres : (Spec.insF l 1 (l.length - 1)) = (Spec.insF l 1 (l.length - 1)) := by rfl
    exact ⟨.tuple #[], rfl, rfl, (by rw [hres]; exact hm6), (by exact Spec.insF_len _ _ _), (Fr.transG (Fr.refl (fun q => (lH.next ≤ q ∧ q < H.next ∧ ZB H q 1)) H) hx4 (fun q hq hE e => (⟨by omega, by omega, ZB.back hE e.2.2⟩)))⟩
  · rw [Bool.not_eq_true] at hc1; refine aw_condF hc1 rfl ?_
    try show aw _ _ _ _ _ _
    have hc1 := of_decide_eq_false hc1
    exfalso; omega
theorem sl_Sort_spec (H : Heap) (lH : Heap) (lA : Option Addr) (l : List Int) (lc : Nat) (hl : My lH H lA lc 1 (l.map i64c)) (nl : lH.next ≤ H.next) (ll : l.length ≤ 12) : ∃ v H', Spec Try.prog 60 [.slice lA l.length lc] H v H' ∧ ((v = .tuple #[]) ∧ (My lH H' lA lc 1 ((Spec.insF l 1 (l.length - 1)).map i64c)) ∧ ((Spec.insF l 1 (l.length - 1)).length = l.length) ∧ (Fr (fun q => (lH.next ≤ q ∧ q < H.next ∧ ZB H q 1)) H H')) := by
  refine spec_go1 E0_ok 11 (f := 60) Try.func60 rfl rfl rfl ?_
  refine aw_seq ?_
  refine aw_reg ?_
  refine st_op (ev_move rfl) rfl rfl rfl ?_
  refine st_op (ev_lenSl rfl Try.underlying28) rfl rfl rfl ?_
  refine st_op (ev_assign rfl) rfl rfl rfl ?_
  try show aw _ _ _ _ _ _
  refine aw_reg ?_
  refine st_op (ev_move rfl) rfl rfl rfl ?_
  refine st_op (ev_move rfl) rfl rfl rfl ?_
  refine st_op (ev_move rfl) rfl rfl rfl ?_
  refine st_op (ev_convI Try.underlying3 Try.underlying70 rfl (wrU64 (by omega) (by omega))) rfl rfl rfl ?_
  refine st_call rfl rfl rfl ent65 rfl rfl rfl ?_
  obtain ⟨_, H2, hs1, hs1v, hx3⟩ := bits_Len_spec H (l.length : Int) ⟨by omega, by omega⟩
  rw [hs1v] at hs1; clear hs1v
  rw [hx3] at hs1; clear hx3
  refine ⟨_, H, hs1, ?_⟩
  refine st_call rfl rfl rfl ent81 rfl rfl rfl ?_
  obtain ⟨_, H5, hs4, hs4v, hm8, hq7, hx6⟩ := sl_pdq_spec H lH lA l lc hl (by omega) (by first | omega | (simp only [List.length_append, List.length_cons, List.length_nil, List.length_map, List.length_set, List.length_replicate, Spec.bytesOf_length]; omega) | (simp; omega))  (l.length : Int) (by first | omega | (simp only [List.length_append, List.length_cons, List.length_nil, List.length_map, List.length_set, List.length_replicate, Spec.bytesOf_length]; omega) | (simp; omega)) (Spec.len8 (l.length : Int))
  rw [hs4v] at hs4; clear hs4v
  refine ⟨_, H5, hs4, ?_⟩
  have H5n : H.next ≤ H5.next := hx6.1
  try show aw _ _ _ _ _ _
  have hres : (Spec.insF l 1 (l.length - 1)) = (Spec.insF l 1 (l.length - 1)) := by rfl
  exact ⟨.tuple #[], rfl, rfl, (by rw [hres]; exact hm8), (by exact Spec.insF_len _ _ _), (Fr.transG (Fr.refl (fun q => (lH.next ≤ q ∧ q < H.next ∧ ZB H q 1)) H) hx6 (fun q hq hE e => (⟨by omega, by omega, ZB.back hE e.2.2⟩)))⟩
theorem conf_May_spec (H : Heap) (lA : Option Addr) (l : List Int) (lc : Nat) (hl : Row H lA lc 1 (l.map i64c)) (cl : l.length ≤ lc) (ll : l.length ≤ 274877906944) : ∃ v H', Spec Try.prog 19 [.slice lA l.length lc] H v H' ∧ ((v = .bool (Spec.mayC l)) ∧ (Ext H H')) := by
  refine spec_go1 E0_ok 35 (f := 19) Try.func19 rfl rfl rfl ?_
  refine aw_seq ?_
  refine aw_reg ?_
  refine st_op (ev_assign rfl) rfl rfl rfl ?_
  try show aw _ _ _ _ _ _
  refine aw_seq ?_
  refine aw_seq ?_
  refine aw_reg ?_
  refine st_op (ev_move rfl) rfl rfl rfl ?_
  refine st_op (ev_lenSl rfl Try.underlying28) rfl rfl rfl ?_
  refine st_op (ev_move rfl) rfl rfl rfl ?_
  try show aw _ _ _ _ _ _
  refine aw_block ?_
  refine aw_keep [0, 5, 6, 7] (l' := (.cons 0 (.slice lA l.length lc) (.cons 5 (.slice lA l.length lc) (.cons 6 (.int .i64 (l.length : Int)) (.cons 7 (.int .i64 0) .nil))))) (by repeat (first | exact Up.done | refine Up.then ?_ | refine Up.inBlock ?_)) rfl ?_
  refine aw_iter (α := Nat × Int × Heap) (fun a => l.length - a.1) (fun a => (.cons 0 (.slice lA l.length lc) (.cons 5 (.slice lA l.length lc) (.cons 6 (.int .i64 (l.length : Int)) (.cons 7 (.int .i64 (a.1 : Int)) .nil))))) (fun a => a.2.2) (fun a => (a.1 ≤ l.length) ∧ (Spec.upF 0 l = Spec.upF a.2.1 (l.drop a.1)) ∧ ((a.1 = 0 → a.2.1 = 0) ∧ (0 < a.1 → l[a.1 - 1]? = some a.2.1)) ∧ (Ext H a.2.2)) (0, (0 : Int), H) ⟨(show 0 ≤ l.length from Nat.zero_le _), (show Spec.upF 0 l = Spec.upF (0 : Int) (l.drop 0) from rfl), (show (0 = 0 → (0 : Int) = 0) ∧ (0 < 0 → l[0 - 1]? = some (0 : Int)) from ⟨fun _ => rfl, fun h => absurd h (by decide)⟩), (show Ext H H from (Ext.refl H))⟩ ?_
  rintro ⟨i, pv, Hl1⟩ ⟨hi, hv, hpv, hxl2⟩ ih3
  replace hi : i ≤ l.length := hi
  replace hv : Spec.upF 0 l = Spec.upF pv (l.drop i) := hv
  replace hpv : (i = 0 → pv = 0) ∧ (0 < i → l[i - 1]? = some pv) := hpv
  replace hxl2 : Ext H Hl1 := hxl2
  show aw _ _ _ (RL _ (.cons 0 (.slice lA l.length lc) (.cons 5 (.slice lA l.length lc) (.cons 6 (.int .i64 (l.length : Int)) (.cons 7 (.int .i64 (i : Int)) .nil))))) Hl1 _
  have Hl1n : H.next ≤ Hl1.next := hxl2.1
  refine aw_seq ?_
  refine aw_reg ?_
  refine st_op (ev_int rfl rfl rfl) rfl rfl rfl ?_
  try show aw _ _ _ _ _ _
  refine aw_seq ?_
  by_cases hc4 : (decide ((i : Int) < (l.length : Int))) = true
  · refine aw_condT hc4 rfl ?_
    try show aw _ _ _ _ _ _
    have hc4 := of_decide_eq_true hc4
    refine aw_skip ?_
    try show aw _ _ _ _ _ _
    refine aw_seq ?_
    refine aw_block ?_
    refine aw_seq ?_
    refine aw_reg ?_
    refine st_op (ev_move rfl) rfl rfl rfl ?_
    have h5 := Row.ext hl hxl2
    have hi6 : 0 ≤ ((i : Int) : Int) := by omega
    have hi7 : ((i : Int) : Int) < ((l.length : Nat) : Int) := by first | omega | (simp only [List.length_append, List.length_cons, List.length_nil, List.length_map, List.length_set, List.length_replicate, Spec.bytesOf_length]; omega) | (simp; omega)
    obtain ⟨x8, hx9⟩ : ∃ e, l[i]? = some e := ⟨_, List.getElem?_eq_getElem (by first | omega | (simp only [List.length_append, List.length_cons, List.length_nil, List.length_map, List.length_set, List.length_replicate, Spec.bytesOf_length]; omega) | (simp; omega))⟩
    refine st_op (ev_at rfl rfl h5 (getMap i64c hx9) (by first | rfl | omega | simp) hi6 hi7 el28) rfl rfl rfl ?_
    refine st_op (ev_atL rfl h5 (getMap i64c hx9) one3 rfl) rfl rfl rfl ?_
    refine st_op (ev_assign rfl) rfl rfl rfl ?_
    refine st_op (ev_assign rfl) rfl rfl rfl ?_
    try show aw _ _ _ _ _ _
    refine aw_seq ?_
    refine aw_reg ?_
    refine st_op (ev_move rfl) rfl rfl rfl ?_
    refine st_op (ev_int rfl rfl rfl) rfl rfl rfl ?_
    refine st_op (ev_move rfl) rfl rfl rfl ?_
    refine st_bool 14 rfl (fun hb10 => ?_) (fun hb10 => ?_)
    ·
      have hb10 := of_decide_eq_true hb10
      refine st_skip rfl rfl rfl ?_
      refine st_skip rfl rfl rfl ?_
      refine st_op (ev_pickT rfl rfl) rfl rfl rfl ?_
      refine st_op (ev_move rfl) rfl rfl rfl ?_
      refine st_skip rfl rfl rfl ?_
      refine st_skip rfl rfl rfl ?_
      refine st_skip rfl rfl rfl ?_
      refine st_skip rfl rfl rfl ?_
      refine st_skip rfl rfl rfl ?_
      refine st_skip rfl rfl rfl ?_
      refine st_skip rfl rfl rfl ?_
      refine st_skip rfl rfl rfl ?_
      refine st_skip rfl rfl rfl ?_
      refine st_skip rfl rfl rfl ?_
      refine st_skip rfl rfl rfl ?_
      refine st_op (ev_pickT rfl rfl) rfl rfl rfl ?_
      try show aw _ _ _ _ _ _
      refine aw_cond (t := true) rfl ?_
      try show aw _ _ _ _ _ _
      refine aw_seq ?_
      refine aw_reg ?_
      refine st_op (ev_assign rfl) rfl rfl rfl ?_
      try show aw _ _ _ _ _ _
      refine aw_ret ?_
      have hres : (Spec.mayC l) = false := by unfold Spec.mayC; rw [hv, drop_at hx9, Spec.upF, if_pos (by omega)]; rfl
      exact ⟨.bool false, rfl, by rw [hres], hxl2⟩
    ·
      have hb10 := of_decide_eq_false hb10
      refine st_op (ev_move rfl) rfl rfl rfl ?_
      refine st_op (ev_int rfl rfl rfl) rfl rfl rfl ?_
      refine st_op (ev_pickF rfl rfl) rfl rfl rfl ?_
      refine st_op (ev_move rfl) rfl rfl rfl ?_
      refine st_bool 18 rfl (fun hb11 => ?_) (fun hb11 => ?_)
      ·
        have hb11 := of_decide_eq_true hb11
        refine st_skip rfl rfl rfl ?_
        refine st_skip rfl rfl rfl ?_
        refine st_skip rfl rfl rfl ?_
        refine st_skip rfl rfl rfl ?_
        refine st_skip rfl rfl rfl ?_
        refine st_skip rfl rfl rfl ?_
        refine st_skip rfl rfl rfl ?_
        refine st_skip rfl rfl rfl ?_
        refine st_skip rfl rfl rfl ?_
        refine st_skip rfl rfl rfl ?_
        refine st_skip rfl rfl rfl ?_
        refine st_op (ev_pickT rfl rfl) rfl rfl rfl ?_
        try show aw _ _ _ _ _ _
        refine aw_cond (t := true) rfl ?_
        try show aw _ _ _ _ _ _
        refine aw_seq ?_
        refine aw_reg ?_
        refine st_op (ev_assign rfl) rfl rfl rfl ?_
        try show aw _ _ _ _ _ _
        refine aw_ret ?_
        have hres : (Spec.mayC l) = false := by unfold Spec.mayC; rw [hv, drop_at hx9, Spec.upF, if_pos (by omega)]; rfl
        exact ⟨.bool false, rfl, by rw [hres], hxl2⟩
      ·
        have hb11 := of_decide_eq_false hb11
        refine st_op (ev_move rfl) rfl rfl rfl ?_
        refine st_op (ev_int rfl rfl rfl) rfl rfl rfl ?_
        refine st_op (ev_move rfl) rfl rfl rfl ?_
        refine st_bool 21 rfl (fun hb12 => ?_) (fun hb12 => ?_)
        ·
          have hb12 := of_decide_eq_true hb12
          refine st_op (ev_move rfl) rfl rfl rfl ?_
          refine st_op (ev_move rfl) rfl rfl rfl ?_
          refine st_op (ev_int64 (c := (i : Int) - 1) rfl rfl rfl (by omega) (by omega)) rfl rfl rfl ?_
          have hi13 : 0 ≤ ((i : Int) - 1 : Int) := by omega
          have hi14 : ((i : Int) - 1 : Int) < ((l.length : Nat) : Int) := by first | omega | (simp only [List.length_append, List.length_cons, List.length_nil, List.length_map, List.length_set, List.length_replicate, Spec.bytesOf_length]; omega) | (simp; omega)
          obtain ⟨x15, hx16⟩ : ∃ e, l[(((i : Int) - 1)).toNat]? = some e := ⟨_, List.getElem?_eq_getElem (by first | omega | (simp only [List.length_append, List.length_cons, List.length_nil, List.length_map, List.length_set, List.length_replicate, Spec.bytesOf_length]; omega) | (simp; omega))⟩
          have x15p : x15 = pv := by have q := hpv.2 (by omega); rw [show (((((i : Int) - 1)).toNat) : Nat) = i - 1 by omega] at hx16; rw [hx16] at q; cases q; rfl
          refine st_op (ev_at rfl rfl h5 (getMap i64c hx16) (by first | rfl | omega | simp) hi13 hi14 el28) rfl rfl rfl ?_
          refine st_op (ev_atL rfl h5 (getMap i64c hx16) one3 rfl) rfl rfl rfl ?_
          refine st_op (ev_move rfl) rfl rfl rfl ?_
          refine st_op (ev_int rfl rfl rfl) rfl rfl rfl ?_
          refine st_op (ev_pickT rfl rfl) rfl rfl rfl ?_
          refine st_op (ev_pickF rfl rfl) rfl rfl rfl ?_
          try show aw _ _ _ _ _ _
          by_cases hc17 : (decide (x15 ≥ x8)) = true
          · refine aw_condT hc17 rfl ?_
            try show aw _ _ _ _ _ _
            have hc17 := of_decide_eq_true hc17
            refine aw_seq ?_
            refine aw_reg ?_
            refine st_op (ev_assign rfl) rfl rfl rfl ?_
            try show aw _ _ _ _ _ _
            refine aw_ret ?_
            have hres : (Spec.mayC l) = false := by unfold Spec.mayC; rw [hv, drop_at hx9, Spec.upF, if_pos (by omega)]; rfl
            exact ⟨.bool false, rfl, by rw [hres], hxl2⟩
          · rw [Bool.not_eq_true] at hc17; refine aw_condF hc17 rfl ?_
            try show aw _ _ _ _ _ _
            have hc17 := of_decide_eq_false hc17
            refine aw_skip ?_
            try show aw _ _ _ _ _ _
            refine aw_reg ?_
            refine st_op (ev_int64 (c := (i : Int) + 1) rfl rfl rfl (by omega) (by omega)) rfl rfl rfl ?_
            refine st_op (ev_move rfl) rfl rfl rfl ?_
            try show aw _ _ _ _ _ _
            refine aw_keep [0, 5, 6, 7] (l' := (.cons 0 (.slice lA l.length lc) (.cons 5 (.slice lA l.length lc) (.cons 6 (.int .i64 (l.length : Int)) (.cons 7 (.int .i64 ((i : Int) + 1)) .nil))))) (by repeat (first | exact Up.done | refine Up.then ?_ | refine Up.inBlock ?_)) rfl ?_
            exact ih3 (i + 1, x8, Hl1) ⟨(show (i + 1) ≤ l.length from (by omega)), (show Spec.upF 0 l = Spec.upF x8 (l.drop (i + 1)) from (by rw [hv, drop_at hx9, Spec.upF, if_neg (by omega)])), (show ((i + 1) = 0 → x8 = 0) ∧ (0 < (i + 1) → l[(i + 1) - 1]? = some x8) from ⟨fun h => absurd h (by omega), fun _ => by rw [Nat.add_sub_cancel]; exact hx9⟩), (show Ext H Hl1 from hxl2)⟩ (by simp only; omega)
        ·
          have hb12 := of_decide_eq_false hb12
          refine st_skip rfl rfl rfl ?_
          refine st_skip rfl rfl rfl ?_
          refine st_skip rfl rfl rfl ?_
          refine st_skip rfl rfl rfl ?_
          refine st_skip rfl rfl rfl ?_
          refine st_skip rfl rfl rfl ?_
          refine st_skip rfl rfl rfl ?_
          refine st_op (ev_pickF rfl rfl) rfl rfl rfl ?_
          refine st_op (ev_pickF rfl rfl) rfl rfl rfl ?_
          try show aw _ _ _ _ _ _
          refine aw_cond (t := false) rfl ?_
          try show aw _ _ _ _ _ _
          refine aw_skip ?_
          try show aw _ _ _ _ _ _
          refine aw_reg ?_
          refine st_op (ev_int64 (c := (i : Int) + 1) rfl rfl rfl (by omega) (by omega)) rfl rfl rfl ?_
          refine st_op (ev_move rfl) rfl rfl rfl ?_
          try show aw _ _ _ _ _ _
          refine aw_keep [0, 5, 6, 7] (l' := (.cons 0 (.slice lA l.length lc) (.cons 5 (.slice lA l.length lc) (.cons 6 (.int .i64 (l.length : Int)) (.cons 7 (.int .i64 ((i : Int) + 1)) .nil))))) (by repeat (first | exact Up.done | refine Up.then ?_ | refine Up.inBlock ?_)) rfl ?_
          exact ih3 (i + 1, x8, Hl1) ⟨(show (i + 1) ≤ l.length from (by omega)), (show Spec.upF 0 l = Spec.upF x8 (l.drop (i + 1)) from (by rw [hv, drop_at hx9, Spec.upF, if_neg (by have := hpv.1 (by omega); omega)])), (show ((i + 1) = 0 → x8 = 0) ∧ (0 < (i + 1) → l[(i + 1) - 1]? = some x8) from ⟨fun h => absurd h (by omega), fun _ => by rw [Nat.add_sub_cancel]; exact hx9⟩), (show Ext H Hl1 from hxl2)⟩ (by simp only; omega)
  · rw [Bool.not_eq_true] at hc4; refine aw_condF hc4 rfl ?_
    try show aw _ _ _ _ _ _
    have hc4 := of_decide_eq_false hc4
    refine aw_exit ?_
    try show aw _ _ _ _ _ _
    refine aw_seq ?_
    refine aw_reg ?_
    refine st_op (ev_move rfl) rfl rfl rfl ?_
    refine st_op (ev_lenSl rfl Try.underlying28) rfl rfl rfl ?_
    refine st_op (ev_int rfl rfl rfl) rfl rfl rfl ?_
    refine st_op (ev_assign rfl) rfl rfl rfl ?_
    try show aw _ _ _ _ _ _
    refine aw_ret ?_
    have hres : (Spec.mayC l) = (decide ((l.length : Int) > 0)) := by unfold Spec.mayC; rw [hv, List.drop_eq_nil_of_le (by omega)]; simp [Spec.upF]
    exact ⟨.bool (decide ((l.length : Int) > 0)), rfl, by rw [hres], hxl2⟩
theorem conf_Add_spec (H : Heap) (lA : Option Addr) (l : List Int) (lc : Nat) (hl : Row H lA lc 1 (l.map i64c)) (cl : l.length ≤ lc) (ll : l.length ≤ 8) (k : Int) (hk : -9223372036854775808 ≤ k ∧ k ≤ 9223372036854775807) : ∃ v H', Spec Try.prog 33 [.slice lA l.length lc, .int .i64 k] H v H' ∧ (∃ rA0 rc0, (v = .tuple #[.slice rA0 (((Spec.addC l k).1).length) rc0, .bool ((Spec.addC l k).2)]) ∧ (My H H' rA0 rc0 1 (((Spec.addC l k).1).map i64c)) ∧ (((Spec.addC l k)).1.length ≤ 7) ∧ (Ext H H')) := by
  refine spec_go2 E0_ok 23 (f := 33) Try.func33 rfl rfl rfl ?_
  refine aw_seq ?_
  refine aw_reg ?_
  refine st_op (ev_assign rfl) rfl rfl rfl ?_
  refine st_op (ev_assign rfl) rfl rfl rfl ?_
  try show aw _ _ _ _ _ _
  refine aw_seq ?_
  refine aw_reg ?_
  refine st_op (ev_move rfl) rfl rfl rfl ?_
  refine st_call rfl rfl rfl ent59 rfl rfl rfl ?_
  obtain ⟨_, H2, hs1, A4, c5, hs1v, hm6, hx3⟩ := sl_Clone_spec H lA l lc hl cl (by first | omega | (simp only [List.length_append, List.length_cons, List.length_nil, List.length_map, List.length_set, List.length_replicate, Spec.bytesOf_length]; omega) | (simp; omega))
  rw [hs1v] at hs1; clear hs1v
  refine ⟨_, H2, hs1, ?_⟩
  have H2n : H.next ≤ H2.next := hx3.1
  refine st_op (ev_move rfl) rfl rfl rfl ?_
  obtain ⟨b7, H8, he9, b7e, H8n_, hm11, f10⟩ := mem_lit H2 (xs := ([.int .i64 k] : List Value)) (m := 1) (rows := [[.int .i64 k]]) rfl eok28 (by decide) (by decide) zf3 rfl (allLen rfl) rfl
  replace hm11 : My H2 H8 (some ⟨b7, 0, none⟩) 1 1 ([k].map i64c) := hm11
  refine st_op (he9 _ _ _ _ _ _ _ _ rfl) rfl rfl rfl ?_
  have hx12 : Ext H2 H8 := Ext.new (by omega) H8n_ f10
  have H8n : H2.next ≤ H8.next := hx12.1
  have h13 := My.ext hm6 hx12
  obtain ⟨A14, c15, H16, W17, he18, hm19, hf20⟩ := mem_append (f := i64c) (old := l) (new := [k]) (m := l.length) (mx := 1) (c := c5) (by first | rfl | simp) (by first | rfl | simp) eok28 (by decide) hm6 h13 (by omega) (((My.row hm11)).srcF (by decide) (by first | rfl | simp)) rfl i64c_len i64c_one (by first | omega | (simp only [List.length_append, List.length_cons, List.length_nil, List.length_map, List.length_set, List.length_replicate, Spec.bytesOf_length]; omega) | (simp; omega)) (by first | omega | (simp only [List.length_append, List.length_cons, List.length_nil, List.length_map, List.length_set, List.length_replicate, Spec.bytesOf_length]; omega) | (simp; omega))
  refine st_op (he18 _ _ _ _ _ _ _ _ _ _ rfl rfl isrow28) rfl rfl rfl ?_
  have H16n : H8.next ≤ H16.next := hf20.1
  have hl21 : (l ++ [k]).length = l.length + 1 := by simp
  refine st_op (ev_assign rfl) rfl rfl rfl ?_
  try show aw _ _ _ _ _ _
  refine aw_seq ?_
  refine aw_reg ?_
  refine st_op (ev_move rfl) rfl rfl rfl ?_
  refine st_call rfl rfl rfl ent60 rfl rfl rfl ?_
  obtain ⟨_, H23, hs22, hs22v, hm26, hq25, hx24⟩ := sl_Sort_spec H16 H A14 (l ++ [k]) c15 hm19 (by omega) (by first | omega | (simp only [List.length_append, List.length_cons, List.length_nil, List.length_map, List.length_set, List.length_replicate, Spec.bytesOf_length]; omega) | (simp; omega))
  rw [hs22v] at hs22; clear hs22v
  refine ⟨_, H23, hs22, ?_⟩
  have H23n : H16.next ≤ H23.next := hx24.1
  rw [show (l ++ [k]).length = (Spec.insF (l ++ [k]) 1 ((l ++ [k]).length - 1)).length from hq25.symm]
  try show aw _ _ _ _ _ _
  refine aw_seq ?_
  refine aw_seq ?_
  refine aw_reg ?_
  refine st_op (ev_move rfl) rfl rfl rfl ?_
  refine st_call rfl rfl rfl ent19 rfl rfl rfl ?_
  have hx28 : Ext H H23 := (Ext.then (Ext.then (Ext.trans hx3 hx12) hf20 (fun q hq e => by omega)) hx24 (fun q hq e => by omega))
  have h27 := Row.ext hl hx28
  obtain ⟨_, H30, hs29, hs29v, hx31⟩ := conf_May_spec H23 lA l lc h27 cl (by first | omega | (simp only [List.length_append, List.length_cons, List.length_nil, List.length_map, List.length_set, List.length_replicate, Spec.bytesOf_length]; omega) | (simp; omega))
  rw [hs29v] at hs29; clear hs29v
  refine ⟨_, H30, hs29, ?_⟩
  have H30n : H23.next ≤ H30.next := hx31.1
  refine st_op (ev_not rfl) rfl rfl rfl ?_
  refine st_op (ev_move rfl) rfl rfl rfl ?_
  refine st_bool 17 rfl (fun hb32 => ?_) (fun hb32 => ?_)
  ·
    replace hb32 : (Spec.mayC l) = false := by rw [Bool.not_eq_true'] at hb32; exact hb32
    refine st_skip rfl rfl rfl ?_
    refine st_skip rfl rfl rfl ?_
    refine st_skip rfl rfl rfl ?_
    refine st_op (ev_pickT rfl rfl) rfl rfl rfl ?_
    try show aw _ _ _ _ _ _
    refine aw_cond (t := true) rfl ?_
    try show aw _ _ _ _ _ _
    refine aw_seq ?_
    refine aw_reg ?_
    refine st_op (ev_assign rfl) rfl rfl rfl ?_
    refine st_op (ev_assign rfl) rfl rfl rfl ?_
    try show aw _ _ _ _ _ _
    refine aw_ret ?_
    have hm33 : My H30 H30 none 0 1 (([] : List Int).map i64c) := .nil
    have hx34 : Ext H H30 := (Ext.trans hx28 hx31)
    have hres : (Spec.addC l k) = (([] : List Int), false) := by simp_all [Spec.addC, Spec.insS]
    exact ⟨.tuple #[.slice none 0 0, .bool false], rfl, none, 0, by rw [hres]; first | done | rfl | simp, (by rw [hres]; exact (My.older hm33 (by omega))), (by exact Spec.addC_len), hx34⟩
  ·
    replace hb32 : (Spec.mayC l) = true := by rw [Bool.not_eq_false'] at hb32; exact hb32
    refine st_op (ev_move rfl) rfl rfl rfl ?_
    refine st_call rfl rfl rfl ent19 rfl rfl rfl ?_
    have h35 := My.ext hm26 hx31
    obtain ⟨_, H37, hs36, hs36v, hx38⟩ := conf_May_spec H30 A14 (Spec.insF (l ++ [k]) 1 ((l ++ [k]).length - 1)) c15 (My.row h35) (My.capF h35 (by first | omega | (simp only [List.length_append, List.length_cons, List.length_nil, List.length_map, List.length_set, List.length_replicate, Spec.bytesOf_length]; omega) | (simp; omega))) (by first | omega | (simp only [List.length_append, List.length_cons, List.length_nil, List.length_map, List.length_set, List.length_replicate, Spec.bytesOf_length]; omega) | (simp; omega))
    rw [hs36v] at hs36; clear hs36v
    refine ⟨_, H37, hs36, ?_⟩
    have H37n : H30.next ≤ H37.next := hx38.1
    refine st_op (ev_not rfl) rfl rfl rfl ?_
    refine st_op (ev_pickF rfl rfl) rfl rfl rfl ?_
    try show aw _ _ _ _ _ _
    by_cases hc39 : (!(Spec.mayC (Spec.insF (l ++ [k]) 1 ((l ++ [k]).length - 1)))) = true
    · refine aw_condT hc39 rfl ?_
      try show aw _ _ _ _ _ _
      replace hc39 : (Spec.mayC (Spec.insF (l ++ [k]) 1 ((l ++ [k]).length - 1))) = false := by rw [Bool.not_eq_true'] at hc39; exact hc39
      refine aw_seq ?_
      refine aw_reg ?_
      refine st_op (ev_assign rfl) rfl rfl rfl ?_
      refine st_op (ev_assign rfl) rfl rfl rfl ?_
      try show aw _ _ _ _ _ _
      refine aw_ret ?_
      have hm40 : My H37 H37 none 0 1 (([] : List Int).map i64c) := .nil
      have hx41 : Ext H H37 := (Ext.trans (Ext.trans hx28 hx31) hx38)
      have hres : (Spec.addC l k) = (([] : List Int), false) := by simp_all [Spec.addC, Spec.insS]
      exact ⟨.tuple #[.slice none 0 0, .bool false], rfl, none, 0, by rw [hres]; first | done | rfl | simp, (by rw [hres]; exact (My.older hm40 (by omega))), (by exact Spec.addC_len), hx41⟩
    · rw [Bool.not_eq_true] at hc39; refine aw_condF hc39 rfl ?_
      try show aw _ _ _ _ _ _
      replace hc39 : (Spec.mayC (Spec.insF (l ++ [k]) 1 ((l ++ [k]).length - 1))) = true := by rw [Bool.not_eq_false'] at hc39; exact hc39
      refine aw_skip ?_
      try show aw _ _ _ _ _ _
      refine aw_seq ?_
      refine aw_reg ?_
      refine st_op (ev_move rfl) rfl rfl rfl ?_
      refine st_op (ev_assign rfl) rfl rfl rfl ?_
      refine st_op (ev_assign rfl) rfl rfl rfl ?_
      try show aw _ _ _ _ _ _
      refine aw_ret ?_
      have h42 := My.ext h35 hx38
      have hx43 : Ext H H37 := (Ext.trans (Ext.trans hx28 hx31) hx38)
      have hres : (Spec.addC l k) = ((Spec.insF (l ++ [k]) 1 ((l ++ [k]).length - 1)), true) := by simp_all [Spec.addC, Spec.insS]
      exact ⟨.tuple #[.slice A14 ((Spec.insF (l ++ [k]) 1 ((l ++ [k]).length - 1)).length) c15, .bool true], rfl, A14, c15, by rw [hres]; first | done | rfl | simp, (by rw [hres]; exact h42), (by exact Spec.addC_len), hx43⟩
theorem conf_Remove1_spec (H : Heap) (y : Int) (id : Int) (cl : Nat) (hcl : cl < H.next) (Bcl : H.blk cl = some ⟨[.int .i64 id], 1, false, false⟩) : ∃ v H', Spec Try.prog 62 [.int .i64 y, .pointer (some ⟨cl, 0, none⟩)] H v H' ∧ ((v = .bool (y == id)) ∧ (Ext H H')) := by
  refine spec_go2 E0_ok 7 (f := 62) Try.func62 rfl rfl rfl ?_
  refine aw_seq ?_
  refine aw_reg ?_
  refine st_op (ev_assign rfl) rfl rfl rfl ?_
  try show aw _ _ _ _ _ _
  refine aw_seq ?_
  refine aw_reg ?_
  refine st_op (ev_move rfl) rfl rfl rfl ?_
  refine st_op (ev_load rfl (lvar_one one3 Bcl rfl)) rfl rfl rfl ?_
  refine st_op (ev_int rfl rfl rfl) rfl rfl rfl ?_
  refine st_op (ev_assign rfl) rfl rfl rfl ?_
  try show aw _ _ _ _ _ _
  refine aw_ret ?_
  have hres : (y == id) = (y == id) := by rfl
  exact ⟨.bool (y == id), rfl, by rw [hres], (Ext.refl H)⟩
theorem rm_find_spec (H : Heap) (lA : Option Addr) (l : List Int) (lc : Nat) (hl : Row H lA lc 1 (l.map i64c)) (cl : l.length ≤ lc) (ll : l.length ≤ 1099511627776) (id : Int) (cl : Nat) (hcl : cl < H.next) (Bcl : H.blk cl = some ⟨[.int .i64 id], 1, false, false⟩) : ∃ v H', Spec Try.prog 82 [.slice lA l.length lc, .func (.func 62) #[] #[.pointer (some ⟨cl, 0, none⟩)]] H v H' ∧ ((v = .int .i64 (Spec.findF (fun (y : Int) => y == id) l 0)) ∧ (-1 ≤ (Spec.findF (fun (y : Int) => y == id) l 0) ∧ (Spec.findF (fun (y : Int) => y == id) l 0) < (l.length : Int)) ∧ (Ext H H')) := by
  refine spec_go2 E0_ok 19 (f := 82) Try.func82 rfl rfl rfl ?_
  refine aw_seq ?_
  refine aw_reg ?_
  refine st_op (ev_assign rfl) rfl rfl rfl ?_
  try show aw _ _ _ _ _ _
  refine aw_seq ?_
  refine aw_seq ?_
  refine aw_reg ?_
  refine st_op (ev_move rfl) rfl rfl rfl ?_
  refine st_op (ev_lenSl rfl Try.underlying28) rfl rfl rfl ?_
  refine st_op (ev_move rfl) rfl rfl rfl ?_
  try show aw _ _ _ _ _ _
  refine aw_block ?_
  refine aw_keep [0, 1, 7, 8] (l' := (.cons 0 (.slice lA l.length lc) (.cons 1 (.func (.func 62) #[] #[.pointer (some ⟨cl, 0, none⟩)]) (.cons 7 (.int .i64 (l.length : Int)) (.cons 8 (.int .i64 0) .nil))))) (by repeat (first | exact Up.done | refine Up.then ?_ | refine Up.inBlock ?_)) rfl ?_
  refine aw_iter (α := Nat × Heap) (fun a => l.length - a.1) (fun a => (.cons 0 (.slice lA l.length lc) (.cons 1 (.func (.func 62) #[] #[.pointer (some ⟨cl, 0, none⟩)]) (.cons 7 (.int .i64 (l.length : Int)) (.cons 8 (.int .i64 (a.1 : Int)) .nil))))) (fun a => a.2) (fun a => (a.1 ≤ l.length) ∧ (Spec.findF (fun (y : Int) => y == id) l 0 = Spec.findF (fun (y : Int) => y == id) (l.drop a.1) (a.1 : Int)) ∧ (Ext H a.2)) (0, H) ⟨(show 0 ≤ l.length from Nat.zero_le _), (show Spec.findF (fun (y : Int) => y == id) l 0 = Spec.findF (fun (y : Int) => y == id) (l.drop 0) (0 : Int) from rfl), (show Ext H H from (Ext.refl H))⟩ ?_
  rintro ⟨i, Hl1⟩ ⟨hi, hv, hxl2⟩ ih3
  replace hi : i ≤ l.length := hi
  replace hv : Spec.findF (fun (y : Int) => y == id) l 0 = Spec.findF (fun (y : Int) => y == id) (l.drop i) (i : Int) := hv
  replace hxl2 : Ext H Hl1 := hxl2
  show aw _ _ _ (RL _ (.cons 0 (.slice lA l.length lc) (.cons 1 (.func (.func 62) #[] #[.pointer (some ⟨cl, 0, none⟩)]) (.cons 7 (.int .i64 (l.length : Int)) (.cons 8 (.int .i64 (i : Int)) .nil))))) Hl1 _
  have Hl1n : H.next ≤ Hl1.next := hxl2.1
  refine aw_seq ?_
  refine aw_reg ?_
  refine st_op (ev_int rfl rfl rfl) rfl rfl rfl ?_
  try show aw _ _ _ _ _ _
  refine aw_seq ?_
  by_cases hc4 : (decide ((i : Int) < (l.length : Int))) = true
  · refine aw_condT hc4 rfl ?_
    try show aw _ _ _ _ _ _
    have hc4 := of_decide_eq_true hc4
    refine aw_skip ?_
    try show aw _ _ _ _ _ _
    refine aw_seq ?_
    refine aw_block ?_
    refine aw_seq ?_
    refine aw_reg ?_
    refine st_op (ev_move rfl) rfl rfl rfl ?_
    refine st_op (ev_assign rfl) rfl rfl rfl ?_
    try show aw _ _ _ _ _ _
    refine aw_seq ?_
    refine aw_reg ?_
    refine st_op (ev_move rfl) rfl rfl rfl ?_
    refine st_op (ev_move rfl) rfl rfl rfl ?_
    refine st_op (ev_move rfl) rfl rfl rfl ?_
    have h5 := Row.ext hl hxl2
    have hi6 : 0 ≤ ((i : Int) : Int) := by omega
    have hi7 : ((i : Int) : Int) < ((l.length : Nat) : Int) := by first | omega | (simp only [List.length_append, List.length_cons, List.length_nil, List.length_map, List.length_set, List.length_replicate, Spec.bytesOf_length]; omega) | (simp; omega)
    obtain ⟨x8, hx9⟩ : ∃ e, l[i]? = some e := ⟨_, List.getElem?_eq_getElem (by first | omega | (simp only [List.length_append, List.length_cons, List.length_nil, List.length_map, List.length_set, List.length_replicate, Spec.bytesOf_length]; omega) | (simp; omega))⟩
    refine st_op (ev_at rfl rfl h5 (getMap i64c hx9) (by first | rfl | omega | simp) hi6 hi7 el28) rfl rfl rfl ?_
    refine st_op (ev_atL rfl h5 (getMap i64c hx9) one3 rfl) rfl rfl rfl ?_
    refine st_callv rfl rfl rfl rfl rfl ent62 rfl rfl rfl ?_
    have h10 := Ext.blk hxl2 (by omega) Bcl
    obtain ⟨_, H12, hs11, hs11v, hx13⟩ := conf_Remove1_spec Hl1 x8 id cl (by omega) h10
    rw [hs11v] at hs11; clear hs11v
    refine ⟨_, H12, hs11, ?_⟩
    have H12n : Hl1.next ≤ H12.next := hx13.1
    try show aw _ _ _ _ _ _
    by_cases hc14 : (x8 == id) = true
    · refine aw_condT hc14 rfl ?_
      try show aw _ _ _ _ _ _
      have hc14 := eq_of_beq hc14
      refine aw_seq ?_
      refine aw_reg ?_
      refine st_op (ev_move rfl) rfl rfl rfl ?_
      refine st_op (ev_assign rfl) rfl rfl rfl ?_
      try show aw _ _ _ _ _ _
      refine aw_ret ?_
      have hx15 : Ext H H12 := (Ext.trans hxl2 hx13)
      have hres : (Spec.findF (fun (y : Int) => y == id) l 0) = (i : Int) := by rw [hv, drop_at hx9, Spec.findF, if_pos (by exact beq_iff_eq.2 (by assumption))]
      exact ⟨.int .i64 (i : Int), rfl, by rw [hres], (by exact Spec.findF_bd _ _), hx15⟩
    · rw [Bool.not_eq_true] at hc14; refine aw_condF hc14 rfl ?_
      try show aw _ _ _ _ _ _
      have hc14 := ne_of_beq_false hc14
      refine aw_skip ?_
      try show aw _ _ _ _ _ _
      refine aw_reg ?_
      refine st_op (ev_int64 (c := (i : Int) + 1) rfl rfl rfl (by omega) (by omega)) rfl rfl rfl ?_
      refine st_op (ev_move rfl) rfl rfl rfl ?_
      try show aw _ _ _ _ _ _
      have hx16 : Ext H H12 := (Ext.trans hxl2 hx13)
      refine aw_keep [0, 1, 7, 8] (l' := (.cons 0 (.slice lA l.length lc) (.cons 1 (.func (.func 62) #[] #[.pointer (some ⟨cl, 0, none⟩)]) (.cons 7 (.int .i64 (l.length : Int)) (.cons 8 (.int .i64 ((i : Int) + 1)) .nil))))) (by repeat (first | exact Up.done | refine Up.then ?_ | refine Up.inBlock ?_)) rfl ?_
      exact ih3 (i + 1, H12) ⟨(show (i + 1) ≤ l.length from (by omega)), (show Spec.findF (fun (y : Int) => y == id) l 0 = Spec.findF (fun (y : Int) => y == id) (l.drop (i + 1)) ((i + 1) : Int) from (by rw [hv, drop_at hx9, Spec.findF, if_neg (by first | exact beq_eq_false_iff_ne.2 (by assumption) | simp_all)] <;> rfl)), (show Ext H H12 from hx16)⟩ (by simp only; omega)
  · rw [Bool.not_eq_true] at hc4; refine aw_condF hc4 rfl ?_
    try show aw _ _ _ _ _ _
    have hc4 := of_decide_eq_false hc4
    refine aw_exit ?_
    try show aw _ _ _ _ _ _
    refine aw_seq ?_
    refine aw_reg ?_
    refine st_op (ev_assign rfl) rfl rfl rfl ?_
    try show aw _ _ _ _ _ _
    refine aw_ret ?_
    have hres : (Spec.findF (fun (y : Int) => y == id) l 0) = (-1) := by rw [hv, List.drop_eq_nil_of_le (by omega)]; rfl
    exact ⟨.int .i64 (-1), rfl, by rw [hres], (by exact Spec.findF_bd _ _), hxl2⟩
theorem rm_del_spec (H : Heap) (lH : Heap) (lA : Option Addr) (l : List Int) (lc : Nat) (hl : My lH H lA lc 1 (l.map i64c)) (nl : lH.next ≤ H.next) (ll : l.length ≤ 137438953472) (id : Int) (cl : Nat) (hcl : cl < H.next) (Bcl : H.blk cl = some ⟨[.int .i64 id], 1, false, false⟩) (ucl : cl < lH.next) : ∃ v H', Spec Try.prog 61 [.slice lA l.length lc, .func (.func 62) #[] #[.pointer (some ⟨cl, 0, none⟩)]] H v H' ∧ (∃ rA0 rc0, (v = .slice rA0 ((l.filter (Spec.notp (fun (y : Int) => y == id))).length) rc0) ∧ (My lH H' rA0 rc0 1 ((l.filter (Spec.notp (fun (y : Int) => y == id))).map i64c)) ∧ (((l.filter (Spec.notp (fun (y : Int) => y == id)))).length ≤ l.length) ∧ (Fr (fun q => (lH.next ≤ q ∧ q < H.next ∧ ZB H q 1)) H H')) := by
  refine spec_go2 E0_ok 42 (f := 61) Try.func61 rfl rfl rfl ?_
  refine aw_seq ?_
  refine aw_reg ?_
  refine st_op (ev_assign rfl) rfl rfl rfl ?_
  try show aw _ _ _ _ _ _
  refine aw_seq ?_
  refine aw_reg ?_
  refine st_op (ev_move rfl) rfl rfl rfl ?_
  refine st_op (ev_move rfl) rfl rfl rfl ?_
  refine st_call rfl rfl rfl ent82 rfl rfl rfl ?_
  obtain ⟨_, H2, hs1, hs1v, hq4, hx3⟩ := rm_find_spec H lA l lc (My.row hl) (My.capF hl (by first | omega | (simp only [List.length_append, List.length_cons, List.length_nil, List.length_map, List.length_set, List.length_replicate, Spec.bytesOf_length]; omega) | (simp; omega))) (by first | omega | (simp only [List.length_append, List.length_cons, List.length_nil, List.length_map, List.length_set, List.length_replicate, Spec.bytesOf_length]; omega) | (simp; omega)) id cl (by omega) Bcl
  rw [hs1v] at hs1; clear hs1v
  generalize hR6 : (Spec.findF (fun (y : Int) => y == id) l 0) = r5 at hs1 hq4
  refine ⟨_, H2, hs1, ?_⟩
  have H2n : H.next ≤ H2.next := hx3.1
  refine st_op (ev_assign rfl) rfl rfl rfl ?_
  try show aw _ _ _ _ _ _
  refine aw_seq ?_
  refine aw_seq ?_
  refine aw_reg ?_
  refine st_op (ev_move rfl) rfl rfl rfl ?_
  refine st_op (ev_int rfl rfl rfl) rfl rfl rfl ?_
  try show aw _ _ _ _ _ _
  by_cases hc7 : (r5 == (-1)) = true
  · refine aw_condT hc7 rfl ?_
    try show aw _ _ _ _ _ _
    have hc7 := eq_of_beq hc7
    refine aw_seq ?_
    refine aw_reg ?_
    refine st_op (ev_move rfl) rfl rfl rfl ?_
    refine st_op (ev_assign rfl) rfl rfl rfl ?_
    try show aw _ _ _ _ _ _
    refine aw_ret ?_
    have h8 := My.ext hl hx3
    have hres : (l.filter (Spec.notp (fun (y : Int) => y == id))) = l := by exact Spec.findF_none (by first | assumption | (rw [hR6]; assumption))
    exact ⟨.slice lA l.length lc, rfl, lA, lc, by rw [hres]; first | done | rfl | simp, (by rw [hres]; exact h8), (by exact List.length_filter_le _ _), (Fr.trans (Fr.refl (fun q => (lH.next ≤ q ∧ q < H.next ∧ ZB H q 1)) H) (hx3.fr fun _ => False) (fun q hq (e : False) => e.elim))⟩
  · rw [Bool.not_eq_true] at hc7; refine aw_condF hc7 rfl ?_
    try show aw _ _ _ _ _ _
    have hc7 := ne_of_beq_false hc7
    refine aw_skip ?_
    try show aw _ _ _ _ _ _
    refine aw_seq ?_
    refine aw_seq ?_
    refine aw_reg ?_
    refine st_op (ev_move rfl) rfl rfl rfl ?_
    refine st_op (ev_int64 (c := r5 + 1) rfl rfl rfl (by omega) (by omega)) rfl rfl rfl ?_
    refine st_op (ev_assign rfl) rfl rfl rfl ?_
    try show aw _ _ _ _ _ _
    refine aw_block ?_
    obtain ⟨hdi, hr0⟩ := Spec.DelInv.begin (p := (fun (y : Int) => y == id)) (l := l) hR6 (by assumption)
    have hdi0 := hdi.le
    have h12 := My.ext hl hx3
    refine aw_keep [0, 1, 5, 6] (l' := (.cons 0 (.slice lA l.length lc) (.cons 1 (.func (.func 62) #[] #[.pointer (some ⟨cl, 0, none⟩)]) (.cons 5 (.int .i64 r5) (.cons 6 (.int .i64 (r5 + 1)) .nil))))) (by repeat (first | exact Up.done | refine Up.then ?_ | refine Up.inBlock ?_)) rfl ?_
    refine aw_iter (α := Int × Int × List Int × Heap) (fun a => l.length - a.2.1.toNat) (fun a => (.cons 0 (.slice lA l.length lc) (.cons 1 (.func (.func 62) #[] #[.pointer (some ⟨cl, 0, none⟩)]) (.cons 5 (.int .i64 a.1) (.cons 6 (.int .i64 a.2.1) .nil))))) (fun a => a.2.2.2) (fun a => (a.1 < a.2.1) ∧ (Spec.DelInv (fun (y : Int) => y == id) l a.2.2.1 a.1.toNat a.2.1.toNat) ∧ (0 ≤ a.1 ∧ a.1 ≤ 274877906944) ∧ (0 ≤ a.2.1 ∧ a.2.1 ≤ 274877906944) ∧ (My lH a.2.2.2 lA lc 1 (a.2.2.1.map i64c)) ∧ (Fr (fun q => (lH.next ≤ q ∧ q < H2.next ∧ ZB H2 q 1)) H2 a.2.2.2)) (r5, r5 + 1, l, H2) ⟨(show r5 < (r5 + 1) from (by omega)), (show Spec.DelInv (fun (y : Int) => y == id) l l r5.toNat (r5 + 1).toNat from hdi), (show 0 ≤ r5 ∧ r5 ≤ 274877906944 from ⟨by omega, by omega⟩), (show 0 ≤ (r5 + 1) ∧ (r5 + 1) ≤ 274877906944 from ⟨by omega, by omega⟩), (show My lH H2 lA lc 1 (l.map i64c) from h12), (show Fr (fun q => (lH.next ≤ q ∧ q < H2.next ∧ ZB H2 q 1)) H2 H2 from (Fr.refl _ H2))⟩ ?_
    rintro ⟨i, j, l1, Hl9⟩ ⟨hij, hinv, hn10, hn11, hm13, hxl14⟩ ih15
    replace hij : i < j := hij
    replace hinv : Spec.DelInv (fun (y : Int) => y == id) l l1 i.toNat j.toNat := hinv
    replace hn10 : 0 ≤ i ∧ i ≤ 274877906944 := hn10
    replace hn11 : 0 ≤ j ∧ j ≤ 274877906944 := hn11
    replace hm13 : My lH Hl9 lA lc 1 (l1.map i64c) := hm13
    replace hxl14 : Fr (fun q => (lH.next ≤ q ∧ q < H2.next ∧ ZB H2 q 1)) H2 Hl9 := hxl14
    show aw _ _ _ (RL _ (.cons 0 (.slice lA l.length lc) (.cons 1 (.func (.func 62) #[] #[.pointer (some ⟨cl, 0, none⟩)]) (.cons 5 (.int .i64 i) (.cons 6 (.int .i64 j) .nil))))) Hl9 _
    have Hl9n : H2.next ≤ Hl9.next := hxl14.1
    have hle1 := hinv.len
    have hlt1 := hinv.lt
    have hle2 := hinv.le
    refine aw_seq ?_
    refine aw_seq ?_
    refine aw_reg ?_
    refine st_op (ev_move rfl) rfl rfl rfl ?_
    refine st_op (ev_move rfl) rfl rfl rfl ?_
    refine st_op (ev_lenSl rfl Try.underlying28) rfl rfl rfl ?_
    refine st_op (ev_int rfl rfl rfl) rfl rfl rfl ?_
    try show aw _ _ _ _ _ _
    by_cases hc16 : (decide (j < (l.length : Int))) = true
    · refine aw_condT hc16 rfl ?_
      try show aw _ _ _ _ _ _
      have hc16 := of_decide_eq_true hc16
      refine aw_skip ?_
      try show aw _ _ _ _ _ _
      refine aw_seq ?_
      refine aw_block ?_
      refine aw_seq ?_
      refine aw_reg ?_
      refine st_op (ev_move rfl) rfl rfl rfl ?_
      refine st_op (ev_move rfl) rfl rfl rfl ?_
      have hi17 : 0 ≤ (j : Int) := by omega
      have hi18 : (j : Int) < ((l.length : Nat) : Int) := by first | omega | (simp only [List.length_append, List.length_cons, List.length_nil, List.length_map, List.length_set, List.length_replicate, Spec.bytesOf_length]; omega) | (simp; omega)
      obtain ⟨x19, hx20⟩ : ∃ e, l1[(j).toNat]? = some e := ⟨_, List.getElem?_eq_getElem (by first | omega | (simp only [List.length_append, List.length_cons, List.length_nil, List.length_map, List.length_set, List.length_replicate, Spec.bytesOf_length]; omega) | (simp; omega))⟩
      refine st_op (ev_at rfl rfl (My.row hm13) (getMap i64c hx20) (by first | rfl | omega | simp) hi17 hi18 el28) rfl rfl rfl ?_
      refine st_op (ev_atL rfl (My.row hm13) (getMap i64c hx20) one3 rfl) rfl rfl rfl ?_
      refine st_op (ev_assign rfl) rfl rfl rfl ?_
      try show aw _ _ _ _ _ _
      refine aw_seq ?_
      refine aw_reg ?_
      refine st_op (ev_move rfl) rfl rfl rfl ?_
      refine st_op (ev_move rfl) rfl rfl rfl ?_
      refine st_callv rfl rfl rfl rfl rfl ent62 rfl rfl rfl ?_
      have h21 := Ext.blk hx3 (by omega) Bcl
      have h22 := Fr.blk hxl14 (by omega) (fun e => (by omega)) h21
      obtain ⟨_, H24, hs23, hs23v, hx25⟩ := conf_Remove1_spec Hl9 x19 id cl (by omega) h22
      rw [hs23v] at hs23; clear hs23v
      refine ⟨_, H24, hs23, ?_⟩
      have H24n : Hl9.next ≤ H24.next := hx25.1
      refine st_op (ev_not rfl) rfl rfl rfl ?_
      try show aw _ _ _ _ _ _
      by_cases hc26 : (!(x19 == id)) = true
      · refine aw_condT hc26 rfl ?_
        try show aw _ _ _ _ _ _
        replace hc26 : (x19 == id) = false := by rw [Bool.not_eq_true'] at hc26; exact hc26
        have hc26 := ne_of_beq_false hc26
        refine aw_seq ?_
        refine aw_reg ?_
        refine st_op (ev_move rfl) rfl rfl rfl ?_
        refine st_op (ev_move rfl) rfl rfl rfl ?_
        refine st_op (ev_move rfl) rfl rfl rfl ?_
        have h27 := My.ext hm13 hx25
        have hi28 : 0 ≤ (i : Int) := by omega
        have hi29 : (i : Int) < ((l.length : Nat) : Int) := by first | omega | (simp only [List.length_append, List.length_cons, List.length_nil, List.length_map, List.length_set, List.length_replicate, Spec.bytesOf_length]; omega) | (simp; omega)
        obtain ⟨x30, hx31⟩ : ∃ e, l1[(i).toNat]? = some e := ⟨_, List.getElem?_eq_getElem (by first | omega | (simp only [List.length_append, List.length_cons, List.length_nil, List.length_map, List.length_set, List.length_replicate, Spec.bytesOf_length]; omega) | (simp; omega))⟩
        refine st_op (ev_at rfl rfl (My.row h27) (getMap i64c hx31) (by first | rfl | omega | simp) hi28 hi29 el28) rfl rfl rfl ?_
        obtain ⟨H32, W33, he34, hm35, hf36, H32n_⟩ := mem_storeAt (v := .int .i64 x19) size3 rfl rfl hm13 h27 (getMap i64c hx31) (show 0 < 1 by decide)
        rw [show (i64c x30).set 0 (.int .i64 x19) = i64c x19 from rfl, ← List.map_set] at hm35
        refine st_op0 (he34 _ _ _ _ _ _ _ _ _ rfl rfl) rfl rfl ?_
        have H32n : H24.next ≤ H32.next := hf36.1
        try show aw _ _ _ _ _ _
        refine aw_reg ?_
        refine st_op (ev_move rfl) rfl rfl rfl ?_
        refine st_op (ev_int64 (c := i + 1) rfl rfl rfl (by omega) (by omega)) rfl rfl rfl ?_
        refine st_op (ev_assign rfl) rfl rfl rfl ?_
        try show aw _ _ _ _ _ _
        refine aw_reg ?_
        refine st_op (ev_move rfl) rfl rfl rfl ?_
        refine st_op (ev_int64 (c := j + 1) rfl rfl rfl (by omega) (by omega)) rfl rfl rfl ?_
        refine st_op (ev_assign rfl) rfl rfl rfl ?_
        try show aw _ _ _ _ _ _
        refine aw_keep [0, 1, 5, 6] (l' := (.cons 0 (.slice lA l.length lc) (.cons 1 (.func (.func 62) #[] #[.pointer (some ⟨cl, 0, none⟩)]) (.cons 5 (.int .i64 (i + 1)) (.cons 6 (.int .i64 (j + 1)) .nil))))) (by repeat (first | exact Up.done | refine Up.then ?_ | refine Up.inBlock ?_)) rfl ?_
        exact ih15 (i + 1, j + 1, (l1.set ((i).toNat) x19), H32) ⟨(show (i + 1) < (j + 1) from (by omega)), (show Spec.DelInv (fun (y : Int) => y == id) l (l1.set ((i).toNat) x19) (i + 1).toNat (j + 1).toNat from (by rw [show (i + 1).toNat = i.toNat + 1 by omega, show (j + 1).toNat = j.toNat + 1 by omega]; first | exact hinv.keep hx20 (by first | exact beq_eq_false_iff_ne.2 (by assumption) | simp_all) | exact hinv.skip hx20 (by exact beq_iff_eq.2 (by assumption)))), (show 0 ≤ (i + 1) ∧ (i + 1) ≤ 274877906944 from ⟨by omega, by omega⟩), (show 0 ≤ (j + 1) ∧ (j + 1) ≤ 274877906944 from ⟨by omega, by omega⟩), (show My lH H32 lA lc 1 ((l1.set ((i).toNat) x19).map i64c) from hm35), (show Fr (fun q => (lH.next ≤ q ∧ q < H2.next ∧ ZB H2 q 1)) H2 H32 from (Fr.transG (Fr.trans (Fr.transG (Fr.refl (fun q => (lH.next ≤ q ∧ q < H2.next ∧ ZB H2 q 1)) H2) hxl14 (fun q hq hE e => (⟨by omega, by omega, ZB.back hE e.2.2⟩))) (hx25.fr fun _ => False) (fun q hq (e : False) => e.elim)) hf36 (fun q hq hE e => (⟨by omega, by omega, ZB.back hE e.2.2⟩))))⟩ (by simp only; omega)
      · rw [Bool.not_eq_true] at hc26; refine aw_condF hc26 rfl ?_
        try show aw _ _ _ _ _ _
        replace hc26 : (x19 == id) = true := by rw [Bool.not_eq_false'] at hc26; exact hc26
        have hc26 := eq_of_beq hc26
        refine aw_skip ?_
        try show aw _ _ _ _ _ _
        refine aw_reg ?_
        refine st_op (ev_move rfl) rfl rfl rfl ?_
        refine st_op (ev_int64 (c := j + 1) rfl rfl rfl (by omega) (by omega)) rfl rfl rfl ?_
        refine st_op (ev_assign rfl) rfl rfl rfl ?_
        try show aw _ _ _ _ _ _
        have h37 := My.ext hm13 hx25
        refine aw_keep [0, 1, 5, 6] (l' := (.cons 0 (.slice lA l.length lc) (.cons 1 (.func (.func 62) #[] #[.pointer (some ⟨cl, 0, none⟩)]) (.cons 5 (.int .i64 i) (.cons 6 (.int .i64 (j + 1)) .nil))))) (by repeat (first | exact Up.done | refine Up.then ?_ | refine Up.inBlock ?_)) rfl ?_
        exact ih15 (i, j + 1, l1, H24) ⟨(show i < (j + 1) from (by omega)), (show Spec.DelInv (fun (y : Int) => y == id) l l1 i.toNat (j + 1).toNat from (by rw [show (j + 1).toNat = j.toNat + 1 by omega]; first | exact hinv.keep hx20 (by first | exact beq_eq_false_iff_ne.2 (by assumption) | simp_all) | exact hinv.skip hx20 (by exact beq_iff_eq.2 (by assumption)))), (show 0 ≤ i ∧ i ≤ 274877906944 from ⟨by omega, by omega⟩), (show 0 ≤ (j + 1) ∧ (j + 1) ≤ 274877906944 from ⟨by omega, by omega⟩), (show My lH H24 lA lc 1 (l1.map i64c) from h37), (show Fr (fun q => (lH.next ≤ q ∧ q < H2.next ∧ ZB H2 q 1)) H2 H24 from (Fr.trans (Fr.transG (Fr.refl (fun q => (lH.next ≤ q ∧ q < H2.next ∧ ZB H2 q 1)) H2) hxl14 (fun q hq hE e => (⟨by omega, by omega, ZB.back hE e.2.2⟩))) (hx25.fr fun _ => False) (fun q hq (e : False) => e.elim)))⟩ (by simp only; omega)
    · rw [Bool.not_eq_true] at hc16; refine aw_condF hc16 rfl ?_
      try show aw _ _ _ _ _ _
      have hc16 := of_decide_eq_false hc16
      refine aw_exit ?_
      try show aw _ _ _ _ _ _
      refine aw_seq ?_
      refine aw_reg ?_
      refine st_op (ev_move rfl) rfl rfl rfl ?_
      refine st_op (ev_move rfl) rfl rfl rfl ?_
      obtain ⟨A38, c39, L40, hL41, hl42, hs43, hr44⟩ := sliceA_my i64c el28 (by decide) hm13 (by first | omega | (simp only [List.length_append, List.length_cons, List.length_nil, List.length_map, List.length_set, List.length_replicate, Spec.bytesOf_length]; omega) | (simp; omega)) (lo := some (.int .i64 i)) (hi := none) (p := (i).toNat) (q := l1.length) rfl (bound_int (by first | omega | (simp only [List.length_append, List.length_cons, List.length_nil, List.length_map, List.length_set, List.length_replicate, Spec.bytesOf_length]; omega) | (simp; omega)) (by first | omega | (simp only [List.length_append, List.length_cons, List.length_nil, List.length_map, List.length_set, List.length_replicate, Spec.bytesOf_length]; omega) | (simp; omega)) (by first | rfl | omega)) (by first | omega | (simp only [List.length_append, List.length_cons, List.length_nil, List.length_map, List.length_set, List.length_replicate, Spec.bytesOf_length]; omega) | (simp; omega)) (by first | omega | (simp only [List.length_append, List.length_cons, List.length_nil, List.length_map, List.length_set, List.length_replicate, Spec.bytesOf_length]; omega) | (simp; omega)) (.inl rfl)
      rw [show l1.length = l.length from by first | rfl | (simp; done) | omega] at hs43
      refine st_op (ev_slice rfl rfl rfl rfl hs43) rfl rfl rfl ?_
      obtain ⟨H46, W47, he48, hm49, hf50, H46n_⟩ := mem_clear (e0 := (0 : Int)) (p := (i).toNat) eok28 el28 zero3 rfl hm13 hm13 hs43 (.inr ⟨_, _, rfl, by first | rfl | simp⟩) (by first | omega | (simp only [List.length_append, List.length_cons, List.length_nil, List.length_map, List.length_set, List.length_replicate, Spec.bytesOf_length]; omega) | (simp; omega))
      refine st_op0 (he48 _ _ _ _ _ _ _ _ rfl) rfl rfl ?_
      have H46n : Hl9.next ≤ H46.next := hf50.1
      have hl51 : (l1.take ((i).toNat) ++ List.replicate L40.length (0 : Int) ++ l1.drop ((i).toNat + L40.length)).length = l1.length := by simp only [List.length_append, List.length_take, List.length_replicate, List.length_drop]; omega
      try show aw _ _ _ _ _ _
      refine aw_seq ?_
      refine aw_reg ?_
      refine st_op (ev_move rfl) rfl rfl rfl ?_
      refine st_op (ev_move rfl) rfl rfl rfl ?_
      obtain ⟨A52, c53, L54, hL55, hl56, hs57, hr58⟩ := sliceA_my i64c el28 (by decide) hm49 (by first | omega | (simp only [List.length_append, List.length_cons, List.length_nil, List.length_map, List.length_set, List.length_replicate, Spec.bytesOf_length]; omega) | (simp; omega)) (lo := none) (hi := some (.int .i64 i)) (p := 0) (q := (i).toNat) (by rw [Option.isSome_some, if_pos rfl]; exact bound_int (by first | omega | (simp only [List.length_append, List.length_cons, List.length_nil, List.length_map, List.length_set, List.length_replicate, Spec.bytesOf_length]; omega) | (simp; omega)) (by first | omega | (simp only [List.length_append, List.length_cons, List.length_nil, List.length_map, List.length_set, List.length_replicate, Spec.bytesOf_length]; omega) | (simp; omega)) (by first | rfl | omega)) rfl (by first | omega | (simp only [List.length_append, List.length_cons, List.length_nil, List.length_map, List.length_set, List.length_replicate, Spec.bytesOf_length]; omega) | (simp; omega)) (by first | omega | (simp only [List.length_append, List.length_cons, List.length_nil, List.length_map, List.length_set, List.length_replicate, Spec.bytesOf_length]; omega) | (simp; omega)) (.inr ⟨_, _, rfl⟩)
      rw [show (l1.take ((i).toNat) ++ List.replicate L40.length (0 : Int) ++ l1.drop ((i).toNat + L40.length)).length = l.length from by first | rfl | (simp; done) | omega] at hs57
      refine st_op (ev_slice rfl rfl rfl rfl hs57) rfl rfl rfl ?_
      refine st_op (ev_assign rfl) rfl rfl rfl ?_
      try show aw _ _ _ _ _ _
      refine aw_ret ?_
      have hres : (l.filter (Spec.notp (fun (y : Int) => y == id))) = L54 := by rw [hL55]; rw [List.drop_zero, Nat.sub_zero, Spec.del_take (by omega), hinv.done (by omega)]
      exact ⟨.slice A52 L54.length c53, rfl, A52, c53, by rw [hres]; first | done | rfl | simp, (by rw [hres]; exact hr58), (by exact List.length_filter_le _ _), (Fr.transG (Fr.transG (Fr.trans (Fr.refl (fun q => (lH.next ≤ q ∧ q < H.next ∧ ZB H q 1)) H) (hx3.fr fun _ => False) (fun q hq (e : False) => e.elim)) hxl14 (fun q hq hE e => (⟨by omega, by omega, ZB.back hE e.2.2⟩))) hf50 (fun q hq hE e => (⟨by omega, by omega, ZB.back hE e.2.2⟩)))⟩
theorem sl_Index_spec (H : Heap) (lA : Option Addr) (l : List Int) (lc : Nat) (hl : Row H lA lc 1 (l.map i64c)) (cl : l.length ≤ lc) (ll : l.length ≤ 140737488355328) (x : Int) : ∃ v H', Spec Try.prog 83 [.slice lA l.length lc, .int .i64 x] H v H' ∧ ((v = .int .i64 (Spec.ixF x l 0)) ∧ (Ext H H')) := by
  refine spec_go2 E0_ok 19 (f := 83) Try.func83 rfl rfl rfl ?_
  refine aw_seq ?_
  refine aw_reg ?_
  refine st_op (ev_assign rfl) rfl rfl rfl ?_
  try show aw _ _ _ _ _ _
  refine aw_seq ?_
  refine aw_seq ?_
  refine aw_reg ?_
  refine st_op (ev_move rfl) rfl rfl rfl ?_
  refine st_op (ev_lenSl rfl Try.underlying28) rfl rfl rfl ?_
  refine st_op (ev_move rfl) rfl rfl rfl ?_
  try show aw _ _ _ _ _ _
  refine aw_block ?_
  refine aw_keep [0, 1, 7, 8] (l' := (.cons 0 (.slice lA l.length lc) (.cons 1 (.int .i64 x) (.cons 7 (.int .i64 (l.length : Int)) (.cons 8 (.int .i64 0) .nil))))) (by repeat (first | exact Up.done | refine Up.then ?_ | refine Up.inBlock ?_)) rfl ?_
  refine aw_iter (α := Nat × Heap) (fun a => l.length - a.1) (fun a => (.cons 0 (.slice lA l.length lc) (.cons 1 (.int .i64 x) (.cons 7 (.int .i64 (l.length : Int)) (.cons 8 (.int .i64 (a.1 : Int)) .nil))))) (fun a => a.2) (fun a => (a.1 ≤ l.length) ∧ (Spec.ixF x l 0 = Spec.ixF x (l.drop a.1) (a.1 : Int)) ∧ (Ext H a.2)) (0, H) ⟨(show 0 ≤ l.length from Nat.zero_le _), (show Spec.ixF x l 0 = Spec.ixF x (l.drop 0) (0 : Int) from rfl), (show Ext H H from (Ext.refl H))⟩ ?_
  rintro ⟨i, Hl1⟩ ⟨hi, hv, hxl2⟩ ih3
  replace hi : i ≤ l.length := hi
  replace hv : Spec.ixF x l 0 = Spec.ixF x (l.drop i) (i : Int) := hv
  replace hxl2 : Ext H Hl1 := hxl2
  show aw _ _ _ (RL _ (.cons 0 (.slice lA l.length lc) (.cons 1 (.int .i64 x) (.cons 7 (.int .i64 (l.length : Int)) (.cons 8 (.int .i64 (i : Int)) .nil))))) Hl1 _
  have Hl1n : H.next ≤ Hl1.next := hxl2.1
  refine aw_seq ?_
  refine aw_reg ?_
  refine st_op (ev_int rfl rfl rfl) rfl rfl rfl ?_
  try show aw _ _ _ _ _ _
  refine aw_seq ?_
  by_cases hc4 : (decide ((i : Int) < (l.length : Int))) = true
  · refine aw_condT hc4 rfl ?_
    try show aw _ _ _ _ _ _
    have hc4 := of_decide_eq_true hc4
    refine aw_skip ?_
    try show aw _ _ _ _ _ _
    refine aw_seq ?_
    refine aw_block ?_
    refine aw_seq ?_
    refine aw_reg ?_
    refine st_op (ev_move rfl) rfl rfl rfl ?_
    refine st_op (ev_assign rfl) rfl rfl rfl ?_
    try show aw _ _ _ _ _ _
    refine aw_seq ?_
    refine aw_reg ?_
    refine st_op (ev_move rfl) rfl rfl rfl ?_
    refine st_op (ev_move rfl) rfl rfl rfl ?_
    refine st_op (ev_move rfl) rfl rfl rfl ?_
    have h5 := Row.ext hl hxl2
    have hi6 : 0 ≤ ((i : Int) : Int) := by omega
    have hi7 : ((i : Int) : Int) < ((l.length : Nat) : Int) := by first | omega | (simp only [List.length_append, List.length_cons, List.length_nil, List.length_map, List.length_set, List.length_replicate, Spec.bytesOf_length]; omega) | (simp; omega)
    obtain ⟨x8, hx9⟩ : ∃ e, l[i]? = some e := ⟨_, List.getElem?_eq_getElem (by first | omega | (simp only [List.length_append, List.length_cons, List.length_nil, List.length_map, List.length_set, List.length_replicate, Spec.bytesOf_length]; omega) | (simp; omega))⟩
    refine st_op (ev_at rfl rfl h5 (getMap i64c hx9) (by first | rfl | omega | simp) hi6 hi7 el28) rfl rfl rfl ?_
    refine st_op (ev_atL rfl h5 (getMap i64c hx9) one3 rfl) rfl rfl rfl ?_
    refine st_op (ev_int rfl rfl rfl) rfl rfl rfl ?_
    try show aw _ _ _ _ _ _
    by_cases hc10 : (x == x8) = true
    · refine aw_condT hc10 rfl ?_
      try show aw _ _ _ _ _ _
      have hc10 := eq_of_beq hc10
      refine aw_seq ?_
      refine aw_reg ?_
      refine st_op (ev_move rfl) rfl rfl rfl ?_
      refine st_op (ev_assign rfl) rfl rfl rfl ?_
      try show aw _ _ _ _ _ _
      refine aw_ret ?_
      have hres : (Spec.ixF x l 0) = (i : Int) := by rw [hv, drop_at hx9, Spec.ixF, if_pos (by assumption)]
      exact ⟨.int .i64 (i : Int), rfl, by rw [hres], hxl2⟩
    · rw [Bool.not_eq_true] at hc10; refine aw_condF hc10 rfl ?_
      try show aw _ _ _ _ _ _
      have hc10 := ne_of_beq_false hc10
      refine aw_skip ?_
      try show aw _ _ _ _ _ _
      refine aw_reg ?_
      refine st_op (ev_int64 (c := (i : Int) + 1) rfl rfl rfl (by omega) (by omega)) rfl rfl rfl ?_
      refine st_op (ev_move rfl) rfl rfl rfl ?_
      try show aw _ _ _ _ _ _
      refine aw_keep [0, 1, 7, 8] (l' := (.cons 0 (.slice lA l.length lc) (.cons 1 (.int .i64 x) (.cons 7 (.int .i64 (l.length : Int)) (.cons 8 (.int .i64 ((i : Int) + 1)) .nil))))) (by repeat (first | exact Up.done | refine Up.then ?_ | refine Up.inBlock ?_)) rfl ?_
      exact ih3 (i + 1, Hl1) ⟨(show (i + 1) ≤ l.length from (by omega)), (show Spec.ixF x l 0 = Spec.ixF x (l.drop (i + 1)) ((i + 1) : Int) from (by rw [hv, drop_at hx9, Spec.ixF, if_neg (by assumption)] <;> rfl)), (show Ext H Hl1 from hxl2)⟩ (by simp only; omega)
  · rw [Bool.not_eq_true] at hc4; refine aw_condF hc4 rfl ?_
    try show aw _ _ _ _ _ _
    have hc4 := of_decide_eq_false hc4
    refine aw_exit ?_
    try show aw _ _ _ _ _ _
    refine aw_seq ?_
    refine aw_reg ?_
    refine st_op (ev_assign rfl) rfl rfl rfl ?_
    try show aw _ _ _ _ _ _
    refine aw_ret ?_
    have hres : (Spec.ixF x l 0) = (-1) := by rw [hv, List.drop_eq_nil_of_le (by omega)]; rfl
    exact ⟨.int .i64 (-1), rfl, by rw [hres], hxl2⟩
theorem sl_Contains_spec (H : Heap) (lA : Option Addr) (l : List Int) (lc : Nat) (hl : Row H lA lc 1 (l.map i64c)) (cl : l.length ≤ lc) (ll : l.length ≤ 140737488355328) (x : Int) : ∃ v H', Spec Try.prog 63 [.slice lA l.length lc, .int .i64 x] H v H' ∧ ((v = .bool (decide (x ∈ l))) ∧ (Ext H H')) := by
  refine spec_go2 E0_ok 9 (f := 63) Try.func63 rfl rfl rfl ?_
  refine aw_seq ?_
  refine aw_reg ?_
  refine st_op (ev_assign rfl) rfl rfl rfl ?_
  try show aw _ _ _ _ _ _
  refine aw_seq ?_
  refine aw_reg ?_
  refine st_op (ev_move rfl) rfl rfl rfl ?_
  refine st_op (ev_move rfl) rfl rfl rfl ?_
  refine st_call rfl rfl rfl ent83 rfl rfl rfl ?_
  obtain ⟨_, H2, hs1, hs1v, hx3⟩ := sl_Index_spec H lA l lc hl cl (by first | omega | (simp only [List.length_append, List.length_cons, List.length_nil, List.length_map, List.length_set, List.length_replicate, Spec.bytesOf_length]; omega) | (simp; omega)) x
  rw [hs1v] at hs1; clear hs1v
  refine ⟨_, H2, hs1, ?_⟩
  have H2n : H.next ≤ H2.next := hx3.1
  refine st_op (ev_int rfl rfl rfl) rfl rfl rfl ?_
  refine st_op (ev_assign rfl) rfl rfl rfl ?_
  try show aw _ _ _ _ _ _
  refine aw_ret ?_
  have hres : (decide (x ∈ l)) = (decide ((Spec.ixF x l 0) ≥ 0)) := by exact decide_eq_decide.2 (Spec.ixF_mem (by decide)).symm
  exact ⟨.bool (decide ((Spec.ixF x l 0) ≥ 0)), rfl, by rw [hres], hx3⟩
theorem conf_Has_spec (H : Heap) (lA : Option Addr) (l : List Int) (lc : Nat) (hl : Row H lA lc 1 (l.map i64c)) (cl : l.length ≤ lc) (ll : l.length ≤ 140737488355328) (x : Int) : ∃ v H', Spec Try.prog 35 [.slice lA l.length lc, .int .i64 x] H v H' ∧ ((v = .bool (decide (x ∈ l))) ∧ (Ext H H')) := by
  refine spec_go2 E0_ok 8 (f := 35) Try.func35 rfl rfl rfl ?_
  refine aw_seq ?_
  refine aw_reg ?_
  refine st_op (ev_assign rfl) rfl rfl rfl ?_
  try show aw _ _ _ _ _ _
  refine aw_seq ?_
  refine aw_reg ?_
  refine st_op (ev_move rfl) rfl rfl rfl ?_
  refine st_op (ev_move rfl) rfl rfl rfl ?_
  refine st_call rfl rfl rfl ent63 rfl rfl rfl ?_
  obtain ⟨_, H2, hs1, hs1v, hx3⟩ := sl_Contains_spec H lA l lc hl cl (by first | omega | (simp only [List.length_append, List.length_cons, List.length_nil, List.length_map, List.length_set, List.length_replicate, Spec.bytesOf_length]; omega) | (simp; omega)) x
  rw [hs1v] at hs1; clear hs1v
  refine ⟨_, H2, hs1, ?_⟩
  have H2n : H.next ≤ H2.next := hx3.1
  refine st_op (ev_assign rfl) rfl rfl rfl ?_
  try show aw _ _ _ _ _ _
  refine aw_ret ?_
  have hres : (decide (x ∈ l)) = (decide (x ∈ l)) := by rfl
  exact ⟨.bool (decide (x ∈ l)), rfl, by rw [hres], hx3⟩
theorem conf_Remove_spec (H : Heap) (lA : Option Addr) (l : List Int) (lc : Nat) (hl : Row H lA lc 1 (l.map i64c)) (cl : l.length ≤ lc) (ll : l.length ≤ 8) (k : Int) : ∃ v H', Spec Try.prog 34 [.slice lA l.length lc, .int .i64 k] H v H' ∧ (∃ rA0 rc0, (v = .tuple #[.slice rA0 (((Spec.remC l k).1).length) rc0, .bool ((Spec.remC l k).2)]) ∧ (My H H' rA0 rc0 1 (((Spec.remC l k).1).map i64c)) ∧ (((Spec.remC l k)).1.length ≤ 7) ∧ (Ext H H')) := by
  refine spec_go2 E0_ok 26 (f := 34) Try.func34 rfl rfl rfl ?_
  refine aw_seq ?_
  refine aw_reg ?_
  obtain ⟨b1, H2, he3, b1e, H2n_, hB5, f4⟩ := mem_box (P := Try.prog) H (v := .int .i64 k) (cs := [.int .i64 k]) rfl rfl
  refine st_op (he3 _ _ _ _ _ _ _ _ _ rfl) rfl rfl rfl ?_
  have hx6 : Ext H H2 := Ext.new (by omega) H2n_ f4
  have H2n : H.next ≤ H2.next := hx6.1
  refine st_op (ev_assign rfl) rfl rfl rfl ?_
  refine st_op (ev_assign rfl) rfl rfl rfl ?_
  try show aw _ _ _ _ _ _
  refine aw_seq ?_
  refine aw_reg ?_
  refine st_op (ev_move rfl) rfl rfl rfl ?_
  refine st_call rfl rfl rfl ent59 rfl rfl rfl ?_
  have h7 := Row.ext hl hx6
  obtain ⟨_, H9, hs8, A11, c12, hs8v, hm13, hx10⟩ := sl_Clone_spec H2 lA l lc h7 cl (by first | omega | (simp only [List.length_append, List.length_cons, List.length_nil, List.length_map, List.length_set, List.length_replicate, Spec.bytesOf_length]; omega) | (simp; omega))
  rw [hs8v] at hs8; clear hs8v
  refine ⟨_, H9, hs8, ?_⟩
  have H9n : H2.next ≤ H9.next := hx10.1
  refine st_op (ev_makeFunc rfl) rfl rfl rfl ?_
  refine st_call rfl rfl rfl ent61 rfl rfl rfl ?_
  have h14 := Ext.blk hx10 (by omega) hB5
  obtain ⟨_, H16, hs15, A18, c19, hs15v, hm20, hq21, hx17⟩ := rm_del_spec H9 H2 A11 l c12 hm13 (by omega) (by first | omega | (simp only [List.length_append, List.length_cons, List.length_nil, List.length_map, List.length_set, List.length_replicate, Spec.bytesOf_length]; omega) | (simp; omega)) k b1 (by omega) h14 (by omega)
  rw [hs15v] at hs15; clear hs15v
  generalize hR23 : (l.filter (Spec.notp (fun (y : Int) => y == k))) = r22 at hs15 hm20 hq21
  refine ⟨_, H16, hs15, ?_⟩
  have H16n : H9.next ≤ H16.next := hx17.1
  refine st_op (ev_assign rfl) rfl rfl rfl ?_
  try show aw _ _ _ _ _ _
  refine aw_seq ?_
  refine aw_seq ?_
  refine aw_reg ?_
  refine st_op (ev_move rfl) rfl rfl rfl ?_
  refine st_call rfl rfl rfl ent19 rfl rfl rfl ?_
  have hx25 : Ext H2 H16 := (Ext.then hx10 hx17 (fun q hq e => by omega))
  have h24 := Row.ext h7 hx25
  obtain ⟨_, H27, hs26, hs26v, hx28⟩ := conf_May_spec H16 lA l lc h24 cl (by first | omega | (simp only [List.length_append, List.length_cons, List.length_nil, List.length_map, List.length_set, List.length_replicate, Spec.bytesOf_length]; omega) | (simp; omega))
  rw [hs26v] at hs26; clear hs26v
  refine ⟨_, H27, hs26, ?_⟩
  have H27n : H16.next ≤ H27.next := hx28.1
  refine st_op (ev_not rfl) rfl rfl rfl ?_
  refine st_op (ev_move rfl) rfl rfl rfl ?_
  refine st_bool 14 rfl (fun hb29 => ?_) (fun hb29 => ?_)
  ·
    replace hb29 : (Spec.mayC l) = false := by rw [Bool.not_eq_true'] at hb29; exact hb29
    refine st_skip rfl rfl rfl ?_
    refine st_skip rfl rfl rfl ?_
    refine st_skip rfl rfl rfl ?_
    refine st_skip rfl rfl rfl ?_
    refine st_op (ev_pickT rfl rfl) rfl rfl rfl ?_
    refine st_op (ev_move rfl) rfl rfl rfl ?_
    refine st_skip rfl rfl rfl ?_
    refine st_skip rfl rfl rfl ?_
    refine st_skip rfl rfl rfl ?_
    refine st_op (ev_pickT rfl rfl) rfl rfl rfl ?_
    try show aw _ _ _ _ _ _
    refine aw_cond (t := true) rfl ?_
    try show aw _ _ _ _ _ _
    refine aw_seq ?_
    refine aw_reg ?_
    refine st_op (ev_assign rfl) rfl rfl rfl ?_
    refine st_op (ev_assign rfl) rfl rfl rfl ?_
    try show aw _ _ _ _ _ _
    refine aw_ret ?_
    have hm30 : My H27 H27 none 0 1 (([] : List Int).map i64c) := .nil
    have hx31 : Ext H H27 := (Ext.trans (Ext.then (Ext.trans hx6 hx10) hx17 (fun q hq e => by omega)) hx28)
    have hres : (Spec.remC l k) = (([] : List Int), false) := by simp_all [Spec.remC]
    exact ⟨.tuple #[.slice none 0 0, .bool false], rfl, none, 0, by rw [hres]; first | done | rfl | simp, (by rw [hres]; exact (My.older hm30 (by omega))), (by exact Spec.remC_len), hx31⟩
  ·
    replace hb29 : (Spec.mayC l) = true := by rw [Bool.not_eq_false'] at hb29; exact hb29
    refine st_op (ev_move rfl) rfl rfl rfl ?_
    have hx33 : Ext H2 H27 := (Ext.trans hx25 hx28)
    have h32 := Ext.blk hx33 (by omega) hB5
    refine st_op (ev_load rfl (lvar_one one3 h32 rfl)) rfl rfl rfl ?_
    refine st_call rfl rfl rfl ent35 rfl rfl rfl ?_
    have h34 := Row.ext h24 hx28
    obtain ⟨_, H36, hs35, hs35v, hx37⟩ := conf_Has_spec H27 lA l lc h34 cl (by first | omega | (simp only [List.length_append, List.length_cons, List.length_nil, List.length_map, List.length_set, List.length_replicate, Spec.bytesOf_length]; omega) | (simp; omega)) k
    rw [hs35v] at hs35; clear hs35v
    refine ⟨_, H36, hs35, ?_⟩
    have H36n : H27.next ≤ H36.next := hx37.1
    refine st_op (ev_not rfl) rfl rfl rfl ?_
    refine st_op (ev_pickF rfl rfl) rfl rfl rfl ?_
    refine st_op (ev_move rfl) rfl rfl rfl ?_
    refine st_bool 20 rfl (fun hb38 => ?_) (fun hb38 => ?_)
    ·
      replace hb38 : (decide (k ∈ l)) = false := by rw [Bool.not_eq_true'] at hb38; exact hb38
      have hb38 := of_decide_eq_false hb38
      refine st_skip rfl rfl rfl ?_
      refine st_skip rfl rfl rfl ?_
      refine st_skip rfl rfl rfl ?_
      refine st_op (ev_pickT rfl rfl) rfl rfl rfl ?_
      try show aw _ _ _ _ _ _
      refine aw_cond (t := true) rfl ?_
      try show aw _ _ _ _ _ _
      refine aw_seq ?_
      refine aw_reg ?_
      refine st_op (ev_assign rfl) rfl rfl rfl ?_
      refine st_op (ev_assign rfl) rfl rfl rfl ?_
      try show aw _ _ _ _ _ _
      refine aw_ret ?_
      have hm39 : My H36 H36 none 0 1 (([] : List Int).map i64c) := .nil
      have hx40 : Ext H H36 := (Ext.trans (Ext.trans (Ext.then (Ext.trans hx6 hx10) hx17 (fun q hq e => by omega)) hx28) hx37)
      have hres : (Spec.remC l k) = (([] : List Int), false) := by simp_all [Spec.remC]
      exact ⟨.tuple #[.slice none 0 0, .bool false], rfl, none, 0, by rw [hres]; first | done | rfl | simp, (by rw [hres]; exact (My.older hm39 (by omega))), (by exact Spec.remC_len), hx40⟩
    ·
      replace hb38 : (decide (k ∈ l)) = true := by rw [Bool.not_eq_false'] at hb38; exact hb38
      have hb38 := of_decide_eq_true hb38
      refine st_op (ev_move rfl) rfl rfl rfl ?_
      refine st_call rfl rfl rfl ent19 rfl rfl rfl ?_
      have hx42 : Ext H16 H36 := (Ext.trans hx28 hx37)
      have h41 := My.ext hm20 hx42
      obtain ⟨_, H44, hs43, hs43v, hx45⟩ := conf_May_spec H36 A18 r22 c19 (My.row h41) (My.capF h41 (by first | omega | (simp only [List.length_append, List.length_cons, List.length_nil, List.length_map, List.length_set, List.length_replicate, Spec.bytesOf_length]; omega) | (simp; omega))) (by first | omega | (simp only [List.length_append, List.length_cons, List.length_nil, List.length_map, List.length_set, List.length_replicate, Spec.bytesOf_length]; omega) | (simp; omega))
      rw [hs43v] at hs43; clear hs43v
      refine ⟨_, H44, hs43, ?_⟩
      have H44n : H36.next ≤ H44.next := hx45.1
      refine st_op (ev_not rfl) rfl rfl rfl ?_
      refine st_op (ev_pickF rfl rfl) rfl rfl rfl ?_
      try show aw _ _ _ _ _ _
      by_cases hc46 : (!(Spec.mayC r22)) = true
      · refine aw_condT hc46 rfl ?_
        try show aw _ _ _ _ _ _
        replace hc46 : (Spec.mayC r22) = false := by rw [Bool.not_eq_true'] at hc46; exact hc46
        refine aw_seq ?_
        refine aw_reg ?_
        refine st_op (ev_assign rfl) rfl rfl rfl ?_
        refine st_op (ev_assign rfl) rfl rfl rfl ?_
        try show aw _ _ _ _ _ _
        refine aw_ret ?_
        have hm47 : My H44 H44 none 0 1 (([] : List Int).map i64c) := .nil
        have hx48 : Ext H H44 := (Ext.trans (Ext.trans (Ext.trans (Ext.then (Ext.trans hx6 hx10) hx17 (fun q hq e => by omega)) hx28) hx37) hx45)
        have hres : (Spec.remC l k) = (([] : List Int), false) := by simp_all [Spec.remC]
        exact ⟨.tuple #[.slice none 0 0, .bool false], rfl, none, 0, by rw [hres]; first | done | rfl | simp, (by rw [hres]; exact (My.older hm47 (by omega))), (by exact Spec.remC_len), hx48⟩
      · rw [Bool.not_eq_true] at hc46; refine aw_condF hc46 rfl ?_
        try show aw _ _ _ _ _ _
        replace hc46 : (Spec.mayC r22) = true := by rw [Bool.not_eq_false'] at hc46; exact hc46
        refine aw_skip ?_
        try show aw _ _ _ _ _ _
        refine aw_seq ?_
        refine aw_reg ?_
        refine st_op (ev_move rfl) rfl rfl rfl ?_
        refine st_op (ev_assign rfl) rfl rfl rfl ?_
        refine st_op (ev_assign rfl) rfl rfl rfl ?_
        try show aw _ _ _ _ _ _
        refine aw_ret ?_
        have h49 := My.ext h41 hx45
        have hx50 : Ext H H44 := (Ext.trans (Ext.trans (Ext.trans (Ext.then (Ext.trans hx6 hx10) hx17 (fun q hq e => by omega)) hx28) hx37) hx45)
        have hres : (Spec.remC l k) = (r22, true) := by simp_all [Spec.remC]
        exact ⟨.tuple #[.slice A18 r22.length c19, .bool true], rfl, A18, c19, by rw [hres]; first | done | rfl | simp, (by rw [hres]; exact (My.older h49 (by omega))), (by exact Spec.remC_len), hx50⟩
theorem conf_Majority_spec (H : Heap) (lA : Option Addr) (l : List Int) (lc : Nat) (hl : Row H lA lc 1 (l.map i64c)) (cl : l.length ≤ lc) (ll : l.length ≤ 274877906944) (mA : Option Addr) (m : List Int) (mc : Nat) (hm : Row H mA mc 1 (m.map i64c)) (cm : m.length ≤ mc) (lm : m.length ≤ 274877906944) : ∃ v H', Spec Try.prog 21 [.slice lA l.length lc, .slice mA m.length mc] H v H' ∧ ((v = .bool (Spec.mayC l && decide (2 * Spec.cntF m l > l.length))) ∧ (Ext H H')) := by
  refine spec_go2 E0_ok 29 (f := 21) Try.func21 rfl rfl rfl ?_
  refine aw_seq ?_
  refine aw_reg ?_
  refine st_op (ev_assign rfl) rfl rfl rfl ?_
  try show aw _ _ _ _ _ _
  refine aw_seq ?_
  refine aw_reg ?_
  refine st_op (ev_assign rfl) rfl rfl rfl ?_
  try show aw _ _ _ _ _ _
  refine aw_seq ?_
  refine aw_seq ?_
  refine aw_reg ?_
  refine st_op (ev_move rfl) rfl rfl rfl ?_
  refine st_op (ev_lenSl rfl Try.underlying28) rfl rfl rfl ?_
  refine st_op (ev_move rfl) rfl rfl rfl ?_
  try show aw _ _ _ _ _ _
  refine aw_block ?_
  refine aw_keep [0, 1, 5, 8, 9, 10] (l' := (.cons 0 (.slice lA l.length lc) (.cons 1 (.slice mA m.length mc) (.cons 5 (.int .i64 0) (.cons 8 (.slice lA l.length lc) (.cons 9 (.int .i64 (l.length : Int)) (.cons 10 (.int .i64 0) .nil))))))) (by repeat (first | exact Up.done | refine Up.then ?_ | refine Up.inBlock ?_)) rfl ?_
  refine aw_iter (α := Nat × Int × Heap) (fun a => l.length - a.1) (fun a => (.cons 0 (.slice lA l.length lc) (.cons 1 (.slice mA m.length mc) (.cons 5 (.int .i64 a.2.1) (.cons 8 (.slice lA l.length lc) (.cons 9 (.int .i64 (l.length : Int)) (.cons 10 (.int .i64 (a.1 : Int)) .nil))))))) (fun a => a.2.2) (fun a => (a.1 ≤ l.length) ∧ (a.2.1 ≤ a.1) ∧ (a.2.1 + Spec.cntF m (l.drop a.1) = Spec.cntF m l) ∧ (0 ≤ a.2.1 ∧ a.2.1 ≤ 1099511627776) ∧ (Ext H a.2.2)) (0, (0 : Int), H) ⟨(show 0 ≤ l.length from Nat.zero_le _), (show (0 : Int) ≤ 0 from (by decide)), (show (0 : Int) + Spec.cntF m (l.drop 0) = Spec.cntF m l from (by simp)), (show 0 ≤ (0 : Int) ∧ (0 : Int) ≤ 1099511627776 from ⟨by omega, by omega⟩), (show Ext H H from (Ext.refl H))⟩ ?_
  rintro ⟨i, n, Hl1⟩ ⟨hi, hni, hv, hn2, hxl3⟩ ih4
  replace hi : i ≤ l.length := hi
  replace hni : n ≤ i := hni
  replace hv : n + Spec.cntF m (l.drop i) = Spec.cntF m l := hv
  replace hn2 : 0 ≤ n ∧ n ≤ 1099511627776 := hn2
  replace hxl3 : Ext H Hl1 := hxl3
  show aw _ _ _ (RL _ (.cons 0 (.slice lA l.length lc) (.cons 1 (.slice mA m.length mc) (.cons 5 (.int .i64 n) (.cons 8 (.slice lA l.length lc) (.cons 9 (.int .i64 (l.length : Int)) (.cons 10 (.int .i64 (i : Int)) .nil))))))) Hl1 _
  have Hl1n : H.next ≤ Hl1.next := hxl3.1
  refine aw_seq ?_
  refine aw_reg ?_
  refine st_op (ev_int rfl rfl rfl) rfl rfl rfl ?_
  try show aw _ _ _ _ _ _
  refine aw_seq ?_
  by_cases hc5 : (decide ((i : Int) < (l.length : Int))) = true
  · refine aw_condT hc5 rfl ?_
    try show aw _ _ _ _ _ _
    have hc5 := of_decide_eq_true hc5
    refine aw_skip ?_
    try show aw _ _ _ _ _ _
    refine aw_seq ?_
    refine aw_block ?_
    refine aw_seq ?_
    refine aw_reg ?_
    have h6 := Row.ext hl hxl3
    have hi7 : 0 ≤ ((i : Int) : Int) := by omega
    have hi8 : ((i : Int) : Int) < ((l.length : Nat) : Int) := by first | omega | (simp only [List.length_append, List.length_cons, List.length_nil, List.length_map, List.length_set, List.length_replicate, Spec.bytesOf_length]; omega) | (simp; omega)
    obtain ⟨x9, hx10⟩ : ∃ e, l[i]? = some e := ⟨_, List.getElem?_eq_getElem (by first | omega | (simp only [List.length_append, List.length_cons, List.length_nil, List.length_map, List.length_set, List.length_replicate, Spec.bytesOf_length]; omega) | (simp; omega))⟩
    refine st_op (ev_at rfl rfl h6 (getMap i64c hx10) (by first | rfl | omega | simp) hi7 hi8 el28) rfl rfl rfl ?_
    refine st_op (ev_atL rfl h6 (getMap i64c hx10) one3 rfl) rfl rfl rfl ?_
    refine st_op (ev_assign rfl) rfl rfl rfl ?_
    try show aw _ _ _ _ _ _
    refine aw_seq ?_
    refine aw_reg ?_
    refine st_op (ev_move rfl) rfl rfl rfl ?_
    refine st_op (ev_move rfl) rfl rfl rfl ?_
    refine st_call rfl rfl rfl ent35 rfl rfl rfl ?_
    have h11 := Row.ext hm hxl3
    obtain ⟨_, H13, hs12, hs12v, hx14⟩ := conf_Has_spec Hl1 mA m mc h11 cm (by first | omega | (simp only [List.length_append, List.length_cons, List.length_nil, List.length_map, List.length_set, List.length_replicate, Spec.bytesOf_length]; omega) | (simp; omega)) x9
    rw [hs12v] at hs12; clear hs12v
    refine ⟨_, H13, hs12, ?_⟩
    have H13n : Hl1.next ≤ H13.next := hx14.1
    try show aw _ _ _ _ _ _
    by_cases hc15 : (decide (x9 ∈ m)) = true
    · refine aw_condT hc15 rfl ?_
      try show aw _ _ _ _ _ _
      have hc15 := of_decide_eq_true hc15
      refine aw_reg ?_
      refine st_op (ev_move rfl) rfl rfl rfl ?_
      refine st_op (ev_int64 (c := n + 1) rfl rfl rfl (by omega) (by omega)) rfl rfl rfl ?_
      refine st_op (ev_assign rfl) rfl rfl rfl ?_
      try show aw _ _ _ _ _ _
      refine aw_reg ?_
      refine st_op (ev_int64 (c := (i : Int) + 1) rfl rfl rfl (by omega) (by omega)) rfl rfl rfl ?_
      refine st_op (ev_move rfl) rfl rfl rfl ?_
      try show aw _ _ _ _ _ _
      have hx16 : Ext H H13 := (Ext.trans hxl3 hx14)
      refine aw_keep [0, 1, 5, 8, 9, 10] (l' := (.cons 0 (.slice lA l.length lc) (.cons 1 (.slice mA m.length mc) (.cons 5 (.int .i64 (n + 1)) (.cons 8 (.slice lA l.length lc) (.cons 9 (.int .i64 (l.length : Int)) (.cons 10 (.int .i64 ((i : Int) + 1)) .nil))))))) (by repeat (first | exact Up.done | refine Up.then ?_ | refine Up.inBlock ?_)) rfl ?_
      exact ih4 (i + 1, n + 1, H13) ⟨(show (i + 1) ≤ l.length from (by omega)), (show (n + 1) ≤ (i + 1) from (by omega)), (show (n + 1) + Spec.cntF m (l.drop (i + 1)) = Spec.cntF m l from (by rw [← hv, drop_at hx10, Spec.cntF]; first | (rw [if_pos (by assumption)]; omega) | (rw [if_neg (by assumption)]; omega))), (show 0 ≤ (n + 1) ∧ (n + 1) ≤ 1099511627776 from ⟨by omega, by omega⟩), (show Ext H H13 from hx16)⟩ (by simp only; omega)
    · rw [Bool.not_eq_true] at hc15; refine aw_condF hc15 rfl ?_
      try show aw _ _ _ _ _ _
      have hc15 := of_decide_eq_false hc15
      refine aw_skip ?_
      try show aw _ _ _ _ _ _
      refine aw_reg ?_
      refine st_op (ev_int64 (c := (i : Int) + 1) rfl rfl rfl (by omega) (by omega)) rfl rfl rfl ?_
      refine st_op (ev_move rfl) rfl rfl rfl ?_
      try show aw _ _ _ _ _ _
      have hx17 : Ext H H13 := (Ext.trans hxl3 hx14)
      refine aw_keep [0, 1, 5, 8, 9, 10] (l' := (.cons 0 (.slice lA l.length lc) (.cons 1 (.slice mA m.length mc) (.cons 5 (.int .i64 n) (.cons 8 (.slice lA l.length lc) (.cons 9 (.int .i64 (l.length : Int)) (.cons 10 (.int .i64 ((i : Int) + 1)) .nil))))))) (by repeat (first | exact Up.done | refine Up.then ?_ | refine Up.inBlock ?_)) rfl ?_
      exact ih4 (i + 1, n, H13) ⟨(show (i + 1) ≤ l.length from (by omega)), (show n ≤ (i + 1) from (by omega)), (show n + Spec.cntF m (l.drop (i + 1)) = Spec.cntF m l from (by rw [← hv, drop_at hx10, Spec.cntF]; first | (rw [if_pos (by assumption)]; omega) | (rw [if_neg (by assumption)]; omega))), (show 0 ≤ n ∧ n ≤ 1099511627776 from ⟨by omega, by omega⟩), (show Ext H H13 from hx17)⟩ (by simp only; omega)
  · rw [Bool.not_eq_true] at hc5; refine aw_condF hc5 rfl ?_
    try show aw _ _ _ _ _ _
    have hc5 := of_decide_eq_false hc5
    refine aw_exit ?_
    try show aw _ _ _ _ _ _
    refine aw_seq ?_
    refine aw_reg ?_
    refine st_op (ev_move rfl) rfl rfl rfl ?_
    refine st_call rfl rfl rfl ent19 rfl rfl rfl ?_
    have h18 := Row.ext hl hxl3
    obtain ⟨_, H20, hs19, hs19v, hx21⟩ := conf_May_spec Hl1 lA l lc h18 cl (by first | omega | (simp only [List.length_append, List.length_cons, List.length_nil, List.length_map, List.length_set, List.length_replicate, Spec.bytesOf_length]; omega) | (simp; omega))
    rw [hs19v] at hs19; clear hs19v
    refine ⟨_, H20, hs19, ?_⟩
    have H20n : Hl1.next ≤ H20.next := hx21.1
    refine st_op (ev_move rfl) rfl rfl rfl ?_
    refine st_bool 22 rfl (fun hb22 => ?_) (fun hb22 => ?_)
    ·
      refine st_op (ev_move rfl) rfl rfl rfl ?_
      refine st_op (ev_int64 (c := 2 * n) rfl rfl rfl (by omega) (by omega)) rfl rfl rfl ?_
      refine st_op (ev_move rfl) rfl rfl rfl ?_
      refine st_op (ev_lenSl rfl Try.underlying28) rfl rfl rfl ?_
      refine st_op (ev_int rfl rfl rfl) rfl rfl rfl ?_
      refine st_op (ev_pickT rfl rfl) rfl rfl rfl ?_
      refine st_op (ev_assign rfl) rfl rfl rfl ?_
      try show aw _ _ _ _ _ _
      refine aw_ret ?_
      have hx23 : Ext H H20 := (Ext.trans hxl3 hx21)
      have hres : (Spec.mayC l && decide (2 * Spec.cntF m l > l.length)) = (decide (2 * n > (l.length : Int))) := by rw [show Spec.cntF m l = n from by rw [← hv, List.drop_eq_nil_of_le (by omega)]; simp [Spec.cntF]]; simp_all
      exact ⟨.bool (decide (2 * n > (l.length : Int))), rfl, by rw [hres], hx23⟩
    ·
      refine st_skip rfl rfl rfl ?_
      refine st_skip rfl rfl rfl ?_
      refine st_skip rfl rfl rfl ?_
      refine st_skip rfl rfl rfl ?_
      refine st_skip rfl rfl rfl ?_
      refine st_op (ev_pickF rfl rfl) rfl rfl rfl ?_
      refine st_op (ev_assign rfl) rfl rfl rfl ?_
      try show aw _ _ _ _ _ _
      refine aw_ret ?_
      have hx24 : Ext H H20 := (Ext.trans hxl3 hx21)
      have hres : (Spec.mayC l && decide (2 * Spec.cntF m l > l.length)) = false := by rw [show Spec.cntF m l = n from by rw [← hv, List.drop_eq_nil_of_le (by omega)]; simp [Spec.cntF]]; simp_all
      exact ⟨.bool false, rfl, by rw [hres], hx24⟩
theorem law_ConfMeet_spec (H : Heap) (bits : Int) (hbits : -9223372036854775808 ≤ bits ∧ bits ≤ 9223372036854775807) (x : Int) (hx : -9223372036854775808 ≤ x ∧ x ≤ 9223372036854775807) (y : Int) (hy : -9223372036854775808 ≤ y ∧ y ≤ 9223372036854775807) (id : Int) (hid : -9223372036854775808 ≤ id ∧ id ≤ 9223372036854775807) : ∃ v H', Spec Try.prog 8 [.int .i64 bits, .int .i64 x, .int .i64 y, .int .i64 id] H v H' ∧ ((v = .bool true) ∧ (Ext H H')) := by
  refine spec_go4 E0_ok 88 (f := 8) Try.func8 rfl rfl rfl ?_
  refine aw_seq ?_
  refine aw_reg ?_
  refine st_op (ev_assign rfl) rfl rfl rfl ?_
  try show aw _ _ _ _ _ _
  refine aw_seq ?_
  refine aw_reg ?_
  refine st_call rfl rfl rfl ent17 rfl rfl rfl ?_
  obtain ⟨_, H2, hs1, hs1v, hx3⟩ := law20_begun_spec H 
  rw [hs1v] at hs1; clear hs1v
  rw [hx3] at hs1; clear hx3
  refine ⟨_, H, hs1, ?_⟩
  refine st_op (ev_assign rfl) rfl rfl rfl ?_
  try show aw _ _ _ _ _ _
  refine aw_seq ?_
  refine aw_seq ?_
  refine aw_reg ?_
  refine st_op (ev_move rfl) rfl rfl rfl ?_
  refine st_op (ev_not rfl) rfl rfl rfl ?_
  try show aw _ _ _ _ _ _
  refine aw_cond (t := false) rfl ?_
  try show aw _ _ _ _ _ _
  refine aw_skip ?_
  try show aw _ _ _ _ _ _
  refine aw_seq ?_
  refine aw_reg ?_
  refine st_op (ev_move rfl) rfl rfl rfl ?_
  refine st_call rfl rfl rfl ent18 rfl rfl rfl ?_
  obtain ⟨_, H5, hs4, A7, c8, hs4v, hm9, hq10, hx6⟩ := law20_set_spec H bits ⟨by omega, by omega⟩
  rw [hs4v] at hs4; clear hs4v
  generalize hR12 : (Spec.setN (fun (j : Nat) => Int.tmod (Spec.shr .i64 bits (j : Int)) 2 ≠ 0) 7) = r11 at hs4 hm9 hq10
  refine ⟨_, H5, hs4, ?_⟩
  have H5n : H.next ≤ H5.next := hx6.1
  refine st_op (ev_assign rfl) rfl rfl rfl ?_
  try show aw _ _ _ _ _ _
  refine aw_seq ?_
  refine aw_reg ?_
  refine st_op (ev_move rfl) rfl rfl rfl ?_
  refine st_op (ev_move rfl) rfl rfl rfl ?_
  have ht13 : -7 < Int.tmod id 7 ∧ Int.tmod id 7 < 7 := tmod_bd id (by decide)
  refine st_op (ev_rem (b := 7) rfl rfl (by decide)) rfl rfl rfl ?_
  refine st_op (ev_int64 (c := (Int.tmod id 7) + 7) rfl rfl rfl (by omega) (by omega)) rfl rfl rfl ?_
  refine st_op (ev_remN (a := (Int.tmod id 7) + 7) (c := 7) rfl rfl (by omega) (by decide) ) rfl rfl rfl ?_
  refine st_op (ev_int64 (c := 1 + (((Int.tmod id 7) + 7) % 7)) rfl rfl rfl (by omega) (by omega)) rfl rfl rfl ?_
  refine st_call rfl rfl rfl ent33 rfl rfl rfl ?_
  obtain ⟨_, H15, hs14, A17, c18, hs14v, hm19, hq20, hx16⟩ := conf_Add_spec H5 A7 r11 c8 (My.row hm9) (My.capF hm9 (by first | omega | (simp only [List.length_append, List.length_cons, List.length_nil, List.length_map, List.length_set, List.length_replicate, Spec.bytesOf_length]; omega) | (simp; omega))) (by first | omega | (simp only [List.length_append, List.length_cons, List.length_nil, List.length_map, List.length_set, List.length_replicate, Spec.bytesOf_length]; omega) | (simp; omega)) (1 + (((Int.tmod id 7) + 7) % 7)) ⟨by omega, by omega⟩
  rw [hs14v] at hs14; clear hs14v
  generalize hR22 : (Spec.addC r11 (1 + (((Int.tmod id 7) + 7) % 7))) = r21 at hs14 hm19 hq20
  obtain ⟨z23, z24⟩ := r21
  dsimp only at hs14 hm19 hq20
  refine ⟨_, H15, hs14, ?_⟩
  have H15n : H5.next ≤ H15.next := hx16.1
  refine st_op (ev_move rfl) rfl rfl rfl ?_
  refine st_op (ev_extract rfl rfl) rfl rfl rfl ?_
  refine st_op (ev_extract rfl rfl) rfl rfl rfl ?_
  refine st_op (ev_assign rfl) rfl rfl rfl ?_
  refine st_op (ev_assign rfl) rfl rfl rfl ?_
  try show aw _ _ _ _ _ _
  refine aw_seq ?_
  refine aw_seq ?_
  refine aw_reg ?_
  refine st_op (ev_move rfl) rfl rfl rfl ?_
  refine st_op (ev_not rfl) rfl rfl rfl ?_
  try show aw _ _ _ _ _ _
  by_cases hc25 : (!z24) = true
  · refine aw_condT hc25 rfl ?_
    try show aw _ _ _ _ _ _
    replace hc25 : z24 = false := by rw [Bool.not_eq_true'] at hc25; exact hc25
    refine aw_reg ?_
    refine st_op (ev_move rfl) rfl rfl rfl ?_
    refine st_op (ev_move rfl) rfl rfl rfl ?_
    have ht26 : -7 < Int.tmod id 7 ∧ Int.tmod id 7 < 7 := tmod_bd id (by decide)
    refine st_op (ev_rem (b := 7) rfl rfl (by decide)) rfl rfl rfl ?_
    refine st_op (ev_int64 (c := (Int.tmod id 7) + 7) rfl rfl rfl (by omega) (by omega)) rfl rfl rfl ?_
    refine st_op (ev_remN (a := (Int.tmod id 7) + 7) (c := 7) rfl rfl (by omega) (by decide) ) rfl rfl rfl ?_
    refine st_op (ev_int64 (c := 1 + (((Int.tmod id 7) + 7) % 7)) rfl rfl rfl (by omega) (by omega)) rfl rfl rfl ?_
    refine st_call rfl rfl rfl ent34 rfl rfl rfl ?_
    have h27 := My.ext hm9 hx16
    obtain ⟨_, H29, hs28, A31, c32, hs28v, hm33, hq34, hx30⟩ := conf_Remove_spec H15 A7 r11 c8 (My.row h27) (My.capF h27 (by first | omega | (simp only [List.length_append, List.length_cons, List.length_nil, List.length_map, List.length_set, List.length_replicate, Spec.bytesOf_length]; omega) | (simp; omega))) (by first | omega | (simp only [List.length_append, List.length_cons, List.length_nil, List.length_map, List.length_set, List.length_replicate, Spec.bytesOf_length]; omega) | (simp; omega)) (1 + (((Int.tmod id 7) + 7) % 7))
    rw [hs28v] at hs28; clear hs28v
    generalize hR36 : (Spec.remC r11 (1 + (((Int.tmod id 7) + 7) % 7))) = r35 at hs28 hm33 hq34
    obtain ⟨z37, z38⟩ := r35
    dsimp only at hs28 hm33 hq34
    refine ⟨_, H29, hs28, ?_⟩
    have H29n : H15.next ≤ H29.next := hx30.1
    refine st_op (ev_move rfl) rfl rfl rfl ?_
    refine st_op (ev_extract rfl rfl) rfl rfl rfl ?_
    refine st_op (ev_extract rfl rfl) rfl rfl rfl ?_
    refine st_op (ev_assign rfl) rfl rfl rfl ?_
    refine st_op (ev_assign rfl) rfl rfl rfl ?_
    try show aw _ _ _ _ _ _
    refine aw_seq ?_
    refine aw_seq ?_
    refine aw_reg ?_
    refine st_op (ev_move rfl) rfl rfl rfl ?_
    refine st_op (ev_not rfl) rfl rfl rfl ?_
    try show aw _ _ _ _ _ _
    by_cases hc39 : (!z38) = true
    · refine aw_condT hc39 rfl ?_
      try show aw _ _ _ _ _ _
      replace hc39 : z38 = false := by rw [Bool.not_eq_true'] at hc39; exact hc39
      refine aw_reg ?_
      refine st_op (ev_move rfl) rfl rfl rfl ?_
      refine st_op (ev_assign rfl) rfl rfl rfl ?_
      try show aw _ _ _ _ _ _
      refine aw_seq ?_
      refine aw_reg ?_
      refine st_op (ev_move rfl) rfl rfl rfl ?_
      refine st_call rfl rfl rfl ent18 rfl rfl rfl ?_
      obtain ⟨_, H41, hs40, A43, c44, hs40v, hm45, hq46, hx42⟩ := law20_set_spec H29 x ⟨by omega, by omega⟩
      rw [hs40v] at hs40; clear hs40v
      generalize hR48 : (Spec.setN (fun (j : Nat) => Int.tmod (Spec.shr .i64 x (j : Int)) 2 ≠ 0) 7) = r47 at hs40 hm45 hq46
      refine ⟨_, H41, hs40, ?_⟩
      have H41n : H29.next ≤ H41.next := hx42.1
      refine st_op (ev_move rfl) rfl rfl rfl ?_
      refine st_call rfl rfl rfl ent18 rfl rfl rfl ?_
      obtain ⟨_, H50, hs49, A52, c53, hs49v, hm54, hq55, hx51⟩ := law20_set_spec H41 y ⟨by omega, by omega⟩
      rw [hs49v] at hs49; clear hs49v
      generalize hR57 : (Spec.setN (fun (j : Nat) => Int.tmod (Spec.shr .i64 y (j : Int)) 2 ≠ 0) 7) = r56 at hs49 hm54 hq55
      refine ⟨_, H50, hs49, ?_⟩
      have H50n : H41.next ≤ H50.next := hx51.1
      refine st_op (ev_assign rfl) rfl rfl rfl ?_
      refine st_op (ev_assign rfl) rfl rfl rfl ?_
      try show aw _ _ _ _ _ _
      refine aw_seq ?_
      refine aw_seq ?_
      refine aw_reg ?_
      refine st_op (ev_move rfl) rfl rfl rfl ?_
      refine st_op (ev_move rfl) rfl rfl rfl ?_
      refine st_call rfl rfl rfl ent21 rfl rfl rfl ?_
      have hx59 : Ext H15 H50 := (Ext.trans (Ext.trans hx30 hx42) hx51)
      have h58 := My.ext h27 hx59
      have h60 := My.ext hm45 hx51
      obtain ⟨_, H62, hs61, hs61v, hx63⟩ := conf_Majority_spec H50 A7 r11 c8 (My.row h58) (My.capF h58 (by first | omega | (simp only [List.length_append, List.length_cons, List.length_nil, List.length_map, List.length_set, List.length_replicate, Spec.bytesOf_length]; omega) | (simp; omega))) (by first | omega | (simp only [List.length_append, List.length_cons, List.length_nil, List.length_map, List.length_set, List.length_replicate, Spec.bytesOf_length]; omega) | (simp; omega)) A43 r47 c44 (My.row h60) (My.capF h60 (by first | omega | (simp only [List.length_append, List.length_cons, List.length_nil, List.length_map, List.length_set, List.length_replicate, Spec.bytesOf_length]; omega) | (simp; omega))) (by first | omega | (simp only [List.length_append, List.length_cons, List.length_nil, List.length_map, List.length_set, List.length_replicate, Spec.bytesOf_length]; omega) | (simp; omega))
      rw [hs61v] at hs61; clear hs61v
      refine ⟨_, H62, hs61, ?_⟩
      have H62n : H50.next ≤ H62.next := hx63.1
      refine st_op (ev_not rfl) rfl rfl rfl ?_
      refine st_op (ev_move rfl) rfl rfl rfl ?_
      refine st_bool 54 rfl (fun hb64 => ?_) (fun hb64 => ?_)
      ·
        replace hb64 : (Spec.mayC r11 && decide (2 * Spec.cntF r47 r11 > r11.length)) = false := by rw [Bool.not_eq_true'] at hb64; exact hb64
        refine st_skip rfl rfl rfl ?_
        refine st_skip rfl rfl rfl ?_
        refine st_skip rfl rfl rfl ?_
        refine st_skip rfl rfl rfl ?_
        refine st_op (ev_pickT rfl rfl) rfl rfl rfl ?_
        try show aw _ _ _ _ _ _
        refine aw_cond (t := true) rfl ?_
        try show aw _ _ _ _ _ _
        refine aw_seq ?_
        refine aw_reg ?_
        refine st_op (ev_assign rfl) rfl rfl rfl ?_
        try show aw _ _ _ _ _ _
        refine aw_ret ?_
        have hx65 : Ext H H62 := (Ext.trans (Ext.trans (Ext.trans (Ext.trans (Ext.trans hx6 hx16) hx30) hx42) hx51) hx63)
        have hres : true = true := by rfl
        exact ⟨.bool true, rfl, by rw [hres], hx65⟩
      ·
        replace hb64 : (Spec.mayC r11 && decide (2 * Spec.cntF r47 r11 > r11.length)) = true := by rw [Bool.not_eq_false'] at hb64; exact hb64
        refine st_op (ev_move rfl) rfl rfl rfl ?_
        refine st_op (ev_move rfl) rfl rfl rfl ?_
        refine st_call rfl rfl rfl ent21 rfl rfl rfl ?_
        have h66 := My.ext h58 hx63
        have h67 := My.ext hm54 hx63
        obtain ⟨_, H69, hs68, hs68v, hx70⟩ := conf_Majority_spec H62 A7 r11 c8 (My.row h66) (My.capF h66 (by first | omega | (simp only [List.length_append, List.length_cons, List.length_nil, List.length_map, List.length_set, List.length_replicate, Spec.bytesOf_length]; omega) | (simp; omega))) (by first | omega | (simp only [List.length_append, List.length_cons, List.length_nil, List.length_map, List.length_set, List.length_replicate, Spec.bytesOf_length]; omega) | (simp; omega)) A52 r56 c53 (My.row h67) (My.capF h67 (by first | omega | (simp only [List.length_append, List.length_cons, List.length_nil, List.length_map, List.length_set, List.length_replicate, Spec.bytesOf_length]; omega) | (simp; omega))) (by first | omega | (simp only [List.length_append, List.length_cons, List.length_nil, List.length_map, List.length_set, List.length_replicate, Spec.bytesOf_length]; omega) | (simp; omega))
        rw [hs68v] at hs68; clear hs68v
        refine ⟨_, H69, hs68, ?_⟩
        have H69n : H62.next ≤ H69.next := hx70.1
        refine st_op (ev_not rfl) rfl rfl rfl ?_
        refine st_op (ev_pickF rfl rfl) rfl rfl rfl ?_
        try show aw _ _ _ _ _ _
        by_cases hc71 : (!(Spec.mayC r11 && decide (2 * Spec.cntF r56 r11 > r11.length))) = true
        · refine aw_condT hc71 rfl ?_
          try show aw _ _ _ _ _ _
          replace hc71 : (Spec.mayC r11 && decide (2 * Spec.cntF r56 r11 > r11.length)) = false := by rw [Bool.not_eq_true'] at hc71; exact hc71
          refine aw_seq ?_
          refine aw_reg ?_
          refine st_op (ev_assign rfl) rfl rfl rfl ?_
          try show aw _ _ _ _ _ _
          refine aw_ret ?_
          have hx72 : Ext H H69 := (Ext.trans (Ext.trans (Ext.trans (Ext.trans (Ext.trans (Ext.trans hx6 hx16) hx30) hx42) hx51) hx63) hx70)
          have hres : true = true := by rfl
          exact ⟨.bool true, rfl, by rw [hres], hx72⟩
        · rw [Bool.not_eq_true] at hc71; refine aw_condF hc71 rfl ?_
          try show aw _ _ _ _ _ _
          replace hc71 : (Spec.mayC r11 && decide (2 * Spec.cntF r56 r11 > r11.length)) = true := by rw [Bool.not_eq_false'] at hc71; exact hc71
          refine aw_skip ?_
          try show aw _ _ _ _ _ _
          refine aw_seq ?_
          refine aw_seq ?_
          refine aw_reg ?_
          refine st_op (ev_assign rfl) rfl rfl rfl ?_
          try show aw _ _ _ _ _ _
          refine aw_block ?_
          refine aw_keep [10, 11, 13, 14, 15] (l' := (.cons 10 (.slice A7 r11.length c8) (.cons 11 (.slice A7 r11.length c8) (.cons 13 (.slice A43 r47.length c44) (.cons 14 (.slice A52 r56.length c53) (.cons 15 (.int .i64 0) .nil)))))) (by repeat (first | exact Up.done | refine Up.then ?_ | refine Up.inBlock ?_)) rfl ?_
          refine aw_iter (α := Nat × Heap) (fun a => r47.length - a.1) (fun a => (.cons 10 (.slice A7 r11.length c8) (.cons 11 (.slice A7 r11.length c8) (.cons 13 (.slice A43 r47.length c44) (.cons 14 (.slice A52 r56.length c53) (.cons 15 (.int .i64 (a.1 : Int)) .nil)))))) (fun a => a.2) (fun a => (a.1 ≤ r47.length) ∧ (∀ x, x ∈ r47.take a.1 → ¬ (x ∈ r56 ∧ (x ∈ r11 ∨ x ∈ r11))) ∧ (Ext H69 a.2)) (0, H69) ⟨(show 0 ≤ r47.length from Nat.zero_le _), (show ∀ x, x ∈ r47.take 0 → ¬ (x ∈ r56 ∧ (x ∈ r11 ∨ x ∈ r11)) from (by simp)), (show Ext H69 H69 from (Ext.refl H69))⟩ ?_
          rintro ⟨i, Hl73⟩ ⟨hi, hno, hxl74⟩ ih75
          replace hi : i ≤ r47.length := hi
          replace hno : ∀ x, x ∈ r47.take i → ¬ (x ∈ r56 ∧ (x ∈ r11 ∨ x ∈ r11)) := hno
          replace hxl74 : Ext H69 Hl73 := hxl74
          show aw _ _ _ (RL _ (.cons 10 (.slice A7 r11.length c8) (.cons 11 (.slice A7 r11.length c8) (.cons 13 (.slice A43 r47.length c44) (.cons 14 (.slice A52 r56.length c53) (.cons 15 (.int .i64 (i : Int)) .nil)))))) Hl73 _
          have Hl73n : H69.next ≤ Hl73.next := hxl74.1
          refine aw_seq ?_
          refine aw_seq ?_
          refine aw_reg ?_
          refine st_op (ev_move rfl) rfl rfl rfl ?_
          refine st_op (ev_move rfl) rfl rfl rfl ?_
          refine st_op (ev_lenSl rfl Try.underlying28) rfl rfl rfl ?_
          refine st_op (ev_int rfl rfl rfl) rfl rfl rfl ?_
          try show aw _ _ _ _ _ _
          by_cases hc76 : (decide ((i : Int) < (r47.length : Int))) = true
          · refine aw_condT hc76 rfl ?_
            try show aw _ _ _ _ _ _
            have hc76 := of_decide_eq_true hc76
            refine aw_skip ?_
            try show aw _ _ _ _ _ _
            refine aw_seq ?_
            refine aw_block ?_
            refine aw_seq ?_
            refine aw_reg ?_
            refine st_op (ev_move rfl) rfl rfl rfl ?_
            refine st_op (ev_move rfl) rfl rfl rfl ?_
            refine st_op (ev_move rfl) rfl rfl rfl ?_
            have hx78 : Ext H50 Hl73 := (Ext.trans (Ext.trans hx63 hx70) hxl74)
            have h77 := My.ext h60 hx78
            have hi79 : 0 ≤ ((i : Int) : Int) := by omega
            have hi80 : ((i : Int) : Int) < ((r47.length : Nat) : Int) := by first | omega | (simp only [List.length_append, List.length_cons, List.length_nil, List.length_map, List.length_set, List.length_replicate, Spec.bytesOf_length]; omega) | (simp; omega)
            obtain ⟨x81, hx82⟩ : ∃ e, r47[i]? = some e := ⟨_, List.getElem?_eq_getElem (by first | omega | (simp only [List.length_append, List.length_cons, List.length_nil, List.length_map, List.length_set, List.length_replicate, Spec.bytesOf_length]; omega) | (simp; omega))⟩
            refine st_op (ev_at rfl rfl (My.row h77) (getMap i64c hx82) (by first | rfl | omega | simp) hi79 hi80 el28) rfl rfl rfl ?_
            refine st_op (ev_atL rfl (My.row h77) (getMap i64c hx82) one3 rfl) rfl rfl rfl ?_
            refine st_call rfl rfl rfl ent35 rfl rfl rfl ?_
            have hx84 : Ext H62 Hl73 := (Ext.trans hx70 hxl74)
            have h83 := My.ext h67 hx84
            obtain ⟨_, H86, hs85, hs85v, hx87⟩ := conf_Has_spec Hl73 A52 r56 c53 (My.row h83) (My.capF h83 (by first | omega | (simp only [List.length_append, List.length_cons, List.length_nil, List.length_map, List.length_set, List.length_replicate, Spec.bytesOf_length]; omega) | (simp; omega))) (by first | omega | (simp only [List.length_append, List.length_cons, List.length_nil, List.length_map, List.length_set, List.length_replicate, Spec.bytesOf_length]; omega) | (simp; omega)) x81
            rw [hs85v] at hs85; clear hs85v
            refine ⟨_, H86, hs85, ?_⟩
            have H86n : Hl73.next ≤ H86.next := hx87.1
            refine st_op (ev_move rfl) rfl rfl rfl ?_
            refine st_bool 72 rfl (fun hb88 => ?_) (fun hb88 => ?_)
            ·
              have hb88 := of_decide_eq_true hb88
              refine st_op (ev_move rfl) rfl rfl rfl ?_
              refine st_op (ev_move rfl) rfl rfl rfl ?_
              refine st_op (ev_move rfl) rfl rfl rfl ?_
              have h89 := My.ext h77 hx87
              have hi90 : 0 ≤ ((i : Int) : Int) := by omega
              have hi91 : ((i : Int) : Int) < ((r47.length : Nat) : Int) := by first | omega | (simp only [List.length_append, List.length_cons, List.length_nil, List.length_map, List.length_set, List.length_replicate, Spec.bytesOf_length]; omega) | (simp; omega)
              refine st_op (ev_at rfl rfl (My.row h89) (getMap i64c hx82) (by first | rfl | omega | simp) hi90 hi91 el28) rfl rfl rfl ?_
              refine st_op (ev_atL rfl (My.row h89) (getMap i64c hx82) one3 rfl) rfl rfl rfl ?_
              refine st_call rfl rfl rfl ent35 rfl rfl rfl ?_
              have hx93 : Ext H62 H86 := (Ext.trans hx84 hx87)
              have h92 := My.ext h66 hx93
              obtain ⟨_, H95, hs94, hs94v, hx96⟩ := conf_Has_spec H86 A7 r11 c8 (My.row h92) (My.capF h92 (by first | omega | (simp only [List.length_append, List.length_cons, List.length_nil, List.length_map, List.length_set, List.length_replicate, Spec.bytesOf_length]; omega) | (simp; omega))) (by first | omega | (simp only [List.length_append, List.length_cons, List.length_nil, List.length_map, List.length_set, List.length_replicate, Spec.bytesOf_length]; omega) | (simp; omega)) x81
              rw [hs94v] at hs94; clear hs94v
              refine ⟨_, H95, hs94, ?_⟩
              have H95n : H86.next ≤ H95.next := hx96.1
              refine st_op (ev_move rfl) rfl rfl rfl ?_
              refine st_bool 79 rfl (fun hb97 => ?_) (fun hb97 => ?_)
              ·
                have hb97 := of_decide_eq_true hb97
                refine st_skip rfl rfl rfl ?_
                refine st_skip rfl rfl rfl ?_
                refine st_skip rfl rfl rfl ?_
                refine st_skip rfl rfl rfl ?_
                refine st_skip rfl rfl rfl ?_
                refine st_skip rfl rfl rfl ?_
                refine st_op (ev_pickT rfl rfl) rfl rfl rfl ?_
                refine st_op (ev_pickT rfl rfl) rfl rfl rfl ?_
                try show aw _ _ _ _ _ _
                refine aw_cond (t := true) rfl ?_
                try show aw _ _ _ _ _ _
                refine aw_seq ?_
                refine aw_reg ?_
                refine st_op (ev_assign rfl) rfl rfl rfl ?_
                try show aw _ _ _ _ _ _
                refine aw_ret ?_
                have hx98 : Ext H H95 := (Ext.trans (Ext.trans (Ext.trans (Ext.trans (Ext.trans (Ext.trans (Ext.trans (Ext.trans (Ext.trans hx6 hx16) hx30) hx42) hx51) hx63) hx70) hxl74) hx87) hx96)
                have hres : true = true := by rfl
                exact ⟨.bool true, rfl, by rw [hres], hx98⟩
              ·
                have hb97 := of_decide_eq_false hb97
                refine st_op (ev_move rfl) rfl rfl rfl ?_
                refine st_op (ev_move rfl) rfl rfl rfl ?_
                refine st_op (ev_move rfl) rfl rfl rfl ?_
                have h99 := My.ext h89 hx96
                have hi100 : 0 ≤ ((i : Int) : Int) := by omega
                have hi101 : ((i : Int) : Int) < ((r47.length : Nat) : Int) := by first | omega | (simp only [List.length_append, List.length_cons, List.length_nil, List.length_map, List.length_set, List.length_replicate, Spec.bytesOf_length]; omega) | (simp; omega)
                refine st_op (ev_at rfl rfl (My.row h99) (getMap i64c hx82) (by first | rfl | omega | simp) hi100 hi101 el28) rfl rfl rfl ?_
                refine st_op (ev_atL rfl (My.row h99) (getMap i64c hx82) one3 rfl) rfl rfl rfl ?_
                refine st_call rfl rfl rfl ent35 rfl rfl rfl ?_
                have h102 := My.ext h92 hx96
                obtain ⟨_, H104, hs103, hs103v, hx105⟩ := conf_Has_spec H95 A7 r11 c8 (My.row h102) (My.capF h102 (by first | omega | (simp only [List.length_append, List.length_cons, List.length_nil, List.length_map, List.length_set, List.length_replicate, Spec.bytesOf_length]; omega) | (simp; omega))) (by first | omega | (simp only [List.length_append, List.length_cons, List.length_nil, List.length_map, List.length_set, List.length_replicate, Spec.bytesOf_length]; omega) | (simp; omega)) x81
                rw [hs103v] at hs103; clear hs103v
                refine ⟨_, H104, hs103, ?_⟩
                have H104n : H95.next ≤ H104.next := hx105.1
                refine st_op (ev_pickF rfl rfl) rfl rfl rfl ?_
                refine st_op (ev_pickT rfl rfl) rfl rfl rfl ?_
                try show aw _ _ _ _ _ _
                by_cases hc106 : (decide (x81 ∈ r11)) = true
                · refine aw_condT hc106 rfl ?_
                  try show aw _ _ _ _ _ _
                  have hc106 := of_decide_eq_true hc106
                  refine aw_seq ?_
                  refine aw_reg ?_
                  refine st_op (ev_assign rfl) rfl rfl rfl ?_
                  try show aw _ _ _ _ _ _
                  refine aw_ret ?_
                  have hx107 : Ext H H104 := (Ext.trans (Ext.trans (Ext.trans (Ext.trans (Ext.trans (Ext.trans (Ext.trans (Ext.trans (Ext.trans (Ext.trans hx6 hx16) hx30) hx42) hx51) hx63) hx70) hxl74) hx87) hx96) hx105)
                  have hres : true = true := by rfl
                  exact ⟨.bool true, rfl, by rw [hres], hx107⟩
                · rw [Bool.not_eq_true] at hc106; refine aw_condF hc106 rfl ?_
                  try show aw _ _ _ _ _ _
                  have hc106 := of_decide_eq_false hc106
                  refine aw_skip ?_
                  try show aw _ _ _ _ _ _
                  refine aw_reg ?_
                  refine st_op (ev_move rfl) rfl rfl rfl ?_
                  refine st_op (ev_int64 (c := (i : Int) + 1) rfl rfl rfl (by omega) (by omega)) rfl rfl rfl ?_
                  refine st_op (ev_assign rfl) rfl rfl rfl ?_
                  try show aw _ _ _ _ _ _
                  have hx108 : Ext H69 H104 := (Ext.trans (Ext.trans (Ext.trans hxl74 hx87) hx96) hx105)
                  refine aw_keep [10, 11, 13, 14, 15] (l' := (.cons 10 (.slice A7 r11.length c8) (.cons 11 (.slice A7 r11.length c8) (.cons 13 (.slice A43 r47.length c44) (.cons 14 (.slice A52 r56.length c53) (.cons 15 (.int .i64 ((i : Int) + 1)) .nil)))))) (by repeat (first | exact Up.done | refine Up.then ?_ | refine Up.inBlock ?_)) rfl ?_
                  exact ih75 (i + 1, H104) ⟨(show (i + 1) ≤ r47.length from (by omega)), (show ∀ x, x ∈ r47.take (i + 1) → ¬ (x ∈ r56 ∧ (x ∈ r11 ∨ x ∈ r11)) from (fun x hx => by rw [List.take_add_one, hx82, List.mem_append] at hx; rcases hx with hx | hx; exact hno x hx; simp only [Option.toList_some, List.mem_singleton] at hx; subst hx; simp_all)), (show Ext H69 H104 from hx108)⟩ (by simp only; omega)
            ·
              have hb88 := of_decide_eq_false hb88
              refine st_skip rfl rfl rfl ?_
              refine st_skip rfl rfl rfl ?_
              refine st_skip rfl rfl rfl ?_
              refine st_skip rfl rfl rfl ?_
              refine st_skip rfl rfl rfl ?_
              refine st_skip rfl rfl rfl ?_
              refine st_skip rfl rfl rfl ?_
              refine st_skip rfl rfl rfl ?_
              refine st_skip rfl rfl rfl ?_
              refine st_skip rfl rfl rfl ?_
              refine st_skip rfl rfl rfl ?_
              refine st_skip rfl rfl rfl ?_
              refine st_skip rfl rfl rfl ?_
              refine st_skip rfl rfl rfl ?_
              refine st_op (ev_pickF rfl rfl) rfl rfl rfl ?_
              try show aw _ _ _ _ _ _
              refine aw_cond (t := false) rfl ?_
              try show aw _ _ _ _ _ _
              refine aw_skip ?_
              try show aw _ _ _ _ _ _
              refine aw_reg ?_
              refine st_op (ev_move rfl) rfl rfl rfl ?_
              refine st_op (ev_int64 (c := (i : Int) + 1) rfl rfl rfl (by omega) (by omega)) rfl rfl rfl ?_
              refine st_op (ev_assign rfl) rfl rfl rfl ?_
              try show aw _ _ _ _ _ _
              have hx109 : Ext H69 H86 := (Ext.trans hxl74 hx87)
              refine aw_keep [10, 11, 13, 14, 15] (l' := (.cons 10 (.slice A7 r11.length c8) (.cons 11 (.slice A7 r11.length c8) (.cons 13 (.slice A43 r47.length c44) (.cons 14 (.slice A52 r56.length c53) (.cons 15 (.int .i64 ((i : Int) + 1)) .nil)))))) (by repeat (first | exact Up.done | refine Up.then ?_ | refine Up.inBlock ?_)) rfl ?_
              exact ih75 (i + 1, H86) ⟨(show (i + 1) ≤ r47.length from (by omega)), (show ∀ x, x ∈ r47.take (i + 1) → ¬ (x ∈ r56 ∧ (x ∈ r11 ∨ x ∈ r11)) from (fun x hx => by rw [List.take_add_one, hx82, List.mem_append] at hx; rcases hx with hx | hx; exact hno x hx; simp only [Option.toList_some, List.mem_singleton] at hx; subst hx; simp_all)), (show Ext H69 H86 from hx109)⟩ (by simp only; omega)
          · rw [Bool.not_eq_true] at hc76; refine aw_condF hc76 rfl ?_
            try show aw _ _ _ _ _ _
            have hc76 := of_decide_eq_false hc76
            refine aw_exit ?_
            try show aw _ _ _ _ _ _
            refine aw_seq ?_
            refine aw_reg ?_
            refine st_op (ev_assign rfl) rfl rfl rfl ?_
            try show aw _ _ _ _ _ _
            refine aw_ret ?_
            have hx110 : Ext H Hl73 := (Ext.trans (Ext.trans (Ext.trans (Ext.trans (Ext.trans (Ext.trans (Ext.trans hx6 hx16) hx30) hx42) hx51) hx63) hx70) hxl74)
            have hres : true = false := by exfalso; obtain ⟨x, ha, hb, hl⟩ := Spec.meet_law (l := r11) (m := r11) (a := r47) (b := r56) (by first | exact Spec.add_close (by assumption) (by assumption) | exact Spec.rem_close (by assumption) (by assumption) | exact .inl rfl) (by first | exact Spec.maj_says (by assumption) | simp_all) (by first | exact Spec.maj_says (by assumption) | simp_all); exact hno x (by rw [List.take_of_length_le (by omega)]; exact ha) ⟨hb, hl⟩
            exact ⟨.bool false, rfl, by rw [hres], hx110⟩
    · rw [Bool.not_eq_true] at hc39; refine aw_condF hc39 rfl ?_
      try show aw _ _ _ _ _ _
      replace hc39 : z38 = true := by rw [Bool.not_eq_false'] at hc39; exact hc39
      refine aw_skip ?_
      try show aw _ _ _ _ _ _
      refine aw_seq ?_
      refine aw_reg ?_
      refine st_op (ev_move rfl) rfl rfl rfl ?_
      refine st_call rfl rfl rfl ent18 rfl rfl rfl ?_
      obtain ⟨_, H112, hs111, A114, c115, hs111v, hm116, hq117, hx113⟩ := law20_set_spec H29 x ⟨by omega, by omega⟩
      rw [hs111v] at hs111; clear hs111v
      generalize hR119 : (Spec.setN (fun (j : Nat) => Int.tmod (Spec.shr .i64 x (j : Int)) 2 ≠ 0) 7) = r118 at hs111 hm116 hq117
      refine ⟨_, H112, hs111, ?_⟩
      have H112n : H29.next ≤ H112.next := hx113.1
      refine st_op (ev_move rfl) rfl rfl rfl ?_
      refine st_call rfl rfl rfl ent18 rfl rfl rfl ?_
      obtain ⟨_, H121, hs120, A123, c124, hs120v, hm125, hq126, hx122⟩ := law20_set_spec H112 y ⟨by omega, by omega⟩
      rw [hs120v] at hs120; clear hs120v
      generalize hR128 : (Spec.setN (fun (j : Nat) => Int.tmod (Spec.shr .i64 y (j : Int)) 2 ≠ 0) 7) = r127 at hs120 hm125 hq126
      refine ⟨_, H121, hs120, ?_⟩
      have H121n : H112.next ≤ H121.next := hx122.1
      refine st_op (ev_assign rfl) rfl rfl rfl ?_
      refine st_op (ev_assign rfl) rfl rfl rfl ?_
      try show aw _ _ _ _ _ _
      refine aw_seq ?_
      refine aw_seq ?_
      refine aw_reg ?_
      refine st_op (ev_move rfl) rfl rfl rfl ?_
      refine st_op (ev_move rfl) rfl rfl rfl ?_
      refine st_call rfl rfl rfl ent21 rfl rfl rfl ?_
      have hx130 : Ext H15 H121 := (Ext.trans (Ext.trans hx30 hx113) hx122)
      have h129 := My.ext h27 hx130
      have h131 := My.ext hm116 hx122
      obtain ⟨_, H133, hs132, hs132v, hx134⟩ := conf_Majority_spec H121 A7 r11 c8 (My.row h129) (My.capF h129 (by first | omega | (simp only [List.length_append, List.length_cons, List.length_nil, List.length_map, List.length_set, List.length_replicate, Spec.bytesOf_length]; omega) | (simp; omega))) (by first | omega | (simp only [List.length_append, List.length_cons, List.length_nil, List.length_map, List.length_set, List.length_replicate, Spec.bytesOf_length]; omega) | (simp; omega)) A114 r118 c115 (My.row h131) (My.capF h131 (by first | omega | (simp only [List.length_append, List.length_cons, List.length_nil, List.length_map, List.length_set, List.length_replicate, Spec.bytesOf_length]; omega) | (simp; omega))) (by first | omega | (simp only [List.length_append, List.length_cons, List.length_nil, List.length_map, List.length_set, List.length_replicate, Spec.bytesOf_length]; omega) | (simp; omega))
      rw [hs132v] at hs132; clear hs132v
      refine ⟨_, H133, hs132, ?_⟩
      have H133n : H121.next ≤ H133.next := hx134.1
      refine st_op (ev_not rfl) rfl rfl rfl ?_
      refine st_op (ev_move rfl) rfl rfl rfl ?_
      refine st_bool 54 rfl (fun hb135 => ?_) (fun hb135 => ?_)
      ·
        replace hb135 : (Spec.mayC r11 && decide (2 * Spec.cntF r118 r11 > r11.length)) = false := by rw [Bool.not_eq_true'] at hb135; exact hb135
        refine st_skip rfl rfl rfl ?_
        refine st_skip rfl rfl rfl ?_
        refine st_skip rfl rfl rfl ?_
        refine st_skip rfl rfl rfl ?_
        refine st_op (ev_pickT rfl rfl) rfl rfl rfl ?_
        try show aw _ _ _ _ _ _
        refine aw_cond (t := true) rfl ?_
        try show aw _ _ _ _ _ _
        refine aw_seq ?_
        refine aw_reg ?_
        refine st_op (ev_assign rfl) rfl rfl rfl ?_
        try show aw _ _ _ _ _ _
        refine aw_ret ?_
        have hx136 : Ext H H133 := (Ext.trans (Ext.trans (Ext.trans (Ext.trans (Ext.trans hx6 hx16) hx30) hx113) hx122) hx134)
        have hres : true = true := by rfl
        exact ⟨.bool true, rfl, by rw [hres], hx136⟩
      ·
        replace hb135 : (Spec.mayC r11 && decide (2 * Spec.cntF r118 r11 > r11.length)) = true := by rw [Bool.not_eq_false'] at hb135; exact hb135
        refine st_op (ev_move rfl) rfl rfl rfl ?_
        refine st_op (ev_move rfl) rfl rfl rfl ?_
        refine st_call rfl rfl rfl ent21 rfl rfl rfl ?_
        have hx138 : Ext H29 H133 := (Ext.trans (Ext.trans hx113 hx122) hx134)
        have h137 := My.ext hm33 hx138
        have h139 := My.ext hm125 hx134
        obtain ⟨_, H141, hs140, hs140v, hx142⟩ := conf_Majority_spec H133 A31 z37 c32 (My.row h137) (My.capF h137 (by first | omega | (simp only [List.length_append, List.length_cons, List.length_nil, List.length_map, List.length_set, List.length_replicate, Spec.bytesOf_length]; omega) | (simp; omega))) (by first | omega | (simp only [List.length_append, List.length_cons, List.length_nil, List.length_map, List.length_set, List.length_replicate, Spec.bytesOf_length]; omega) | (simp; omega)) A123 r127 c124 (My.row h139) (My.capF h139 (by first | omega | (simp only [List.length_append, List.length_cons, List.length_nil, List.length_map, List.length_set, List.length_replicate, Spec.bytesOf_length]; omega) | (simp; omega))) (by first | omega | (simp only [List.length_append, List.length_cons, List.length_nil, List.length_map, List.length_set, List.length_replicate, Spec.bytesOf_length]; omega) | (simp; omega))
        rw [hs140v] at hs140; clear hs140v
        refine ⟨_, H141, hs140, ?_⟩
        have H141n : H133.next ≤ H141.next := hx142.1
        refine st_op (ev_not rfl) rfl rfl rfl ?_
        refine st_op (ev_pickF rfl rfl) rfl rfl rfl ?_
        try show aw _ _ _ _ _ _
        by_cases hc143 : (!(Spec.mayC z37 && decide (2 * Spec.cntF r127 z37 > z37.length))) = true
        · refine aw_condT hc143 rfl ?_
          try show aw _ _ _ _ _ _
          replace hc143 : (Spec.mayC z37 && decide (2 * Spec.cntF r127 z37 > z37.length)) = false := by rw [Bool.not_eq_true'] at hc143; exact hc143
          refine aw_seq ?_
          refine aw_reg ?_
          refine st_op (ev_assign rfl) rfl rfl rfl ?_
          try show aw _ _ _ _ _ _
          refine aw_ret ?_
          have hx144 : Ext H H141 := (Ext.trans (Ext.trans (Ext.trans (Ext.trans (Ext.trans (Ext.trans hx6 hx16) hx30) hx113) hx122) hx134) hx142)
          have hres : true = true := by rfl
          exact ⟨.bool true, rfl, by rw [hres], hx144⟩
        · rw [Bool.not_eq_true] at hc143; refine aw_condF hc143 rfl ?_
          try show aw _ _ _ _ _ _
          replace hc143 : (Spec.mayC z37 && decide (2 * Spec.cntF r127 z37 > z37.length)) = true := by rw [Bool.not_eq_false'] at hc143; exact hc143
          refine aw_skip ?_
          try show aw _ _ _ _ _ _
          refine aw_seq ?_
          refine aw_seq ?_
          refine aw_reg ?_
          refine st_op (ev_assign rfl) rfl rfl rfl ?_
          try show aw _ _ _ _ _ _
          refine aw_block ?_
          refine aw_keep [10, 11, 13, 14, 15] (l' := (.cons 10 (.slice A7 r11.length c8) (.cons 11 (.slice A31 z37.length c32) (.cons 13 (.slice A114 r118.length c115) (.cons 14 (.slice A123 r127.length c124) (.cons 15 (.int .i64 0) .nil)))))) (by repeat (first | exact Up.done | refine Up.then ?_ | refine Up.inBlock ?_)) rfl ?_
          refine aw_iter (α := Nat × Heap) (fun a => r118.length - a.1) (fun a => (.cons 10 (.slice A7 r11.length c8) (.cons 11 (.slice A31 z37.length c32) (.cons 13 (.slice A114 r118.length c115) (.cons 14 (.slice A123 r127.length c124) (.cons 15 (.int .i64 (a.1 : Int)) .nil)))))) (fun a => a.2) (fun a => (a.1 ≤ r118.length) ∧ (∀ x, x ∈ r118.take a.1 → ¬ (x ∈ r127 ∧ (x ∈ r11 ∨ x ∈ z37))) ∧ (Ext H141 a.2)) (0, H141) ⟨(show 0 ≤ r118.length from Nat.zero_le _), (show ∀ x, x ∈ r118.take 0 → ¬ (x ∈ r127 ∧ (x ∈ r11 ∨ x ∈ z37)) from (by simp)), (show Ext H141 H141 from (Ext.refl H141))⟩ ?_
          rintro ⟨i, Hl145⟩ ⟨hi, hno, hxl146⟩ ih147
          replace hi : i ≤ r118.length := hi
          replace hno : ∀ x, x ∈ r118.take i → ¬ (x ∈ r127 ∧ (x ∈ r11 ∨ x ∈ z37)) := hno
          replace hxl146 : Ext H141 Hl145 := hxl146
          show aw _ _ _ (RL _ (.cons 10 (.slice A7 r11.length c8) (.cons 11 (.slice A31 z37.length c32) (.cons 13 (.slice A114 r118.length c115) (.cons 14 (.slice A123 r127.length c124) (.cons 15 (.int .i64 (i : Int)) .nil)))))) Hl145 _
          have Hl145n : H141.next ≤ Hl145.next := hxl146.1
          refine aw_seq ?_
          refine aw_seq ?_
          refine aw_reg ?_
          refine st_op (ev_move rfl) rfl rfl rfl ?_
          refine st_op (ev_move rfl) rfl rfl rfl ?_
          refine st_op (ev_lenSl rfl Try.underlying28) rfl rfl rfl ?_
          refine st_op (ev_int rfl rfl rfl) rfl rfl rfl ?_
          try show aw _ _ _ _ _ _
          by_cases hc148 : (decide ((i : Int) < (r118.length : Int))) = true
          · refine aw_condT hc148 rfl ?_
            try show aw _ _ _ _ _ _
            have hc148 := of_decide_eq_true hc148
            refine aw_skip ?_
            try show aw _ _ _ _ _ _
            refine aw_seq ?_
            refine aw_block ?_
            refine aw_seq ?_
            refine aw_reg ?_
            refine st_op (ev_move rfl) rfl rfl rfl ?_
            refine st_op (ev_move rfl) rfl rfl rfl ?_
            refine st_op (ev_move rfl) rfl rfl rfl ?_
            have hx150 : Ext H121 Hl145 := (Ext.trans (Ext.trans hx134 hx142) hxl146)
            have h149 := My.ext h131 hx150
            have hi151 : 0 ≤ ((i : Int) : Int) := by omega
            have hi152 : ((i : Int) : Int) < ((r118.length : Nat) : Int) := by first | omega | (simp only [List.length_append, List.length_cons, List.length_nil, List.length_map, List.length_set, List.length_replicate, Spec.bytesOf_length]; omega) | (simp; omega)
            obtain ⟨x153, hx154⟩ : ∃ e, r118[i]? = some e := ⟨_, List.getElem?_eq_getElem (by first | omega | (simp only [List.length_append, List.length_cons, List.length_nil, List.length_map, List.length_set, List.length_replicate, Spec.bytesOf_length]; omega) | (simp; omega))⟩
            refine st_op (ev_at rfl rfl (My.row h149) (getMap i64c hx154) (by first | rfl | omega | simp) hi151 hi152 el28) rfl rfl rfl ?_
            refine st_op (ev_atL rfl (My.row h149) (getMap i64c hx154) one3 rfl) rfl rfl rfl ?_
            refine st_call rfl rfl rfl ent35 rfl rfl rfl ?_
            have hx156 : Ext H133 Hl145 := (Ext.trans hx142 hxl146)
            have h155 := My.ext h139 hx156
            obtain ⟨_, H158, hs157, hs157v, hx159⟩ := conf_Has_spec Hl145 A123 r127 c124 (My.row h155) (My.capF h155 (by first | omega | (simp only [List.length_append, List.length_cons, List.length_nil, List.length_map, List.length_set, List.length_replicate, Spec.bytesOf_length]; omega) | (simp; omega))) (by first | omega | (simp only [List.length_append, List.length_cons, List.length_nil, List.length_map, List.length_set, List.length_replicate, Spec.bytesOf_length]; omega) | (simp; omega)) x153
            rw [hs157v] at hs157; clear hs157v
            refine ⟨_, H158, hs157, ?_⟩
            have H158n : Hl145.next ≤ H158.next := hx159.1
            refine st_op (ev_move rfl) rfl rfl rfl ?_
            refine st_bool 72 rfl (fun hb160 => ?_) (fun hb160 => ?_)
            ·
              have hb160 := of_decide_eq_true hb160
              refine st_op (ev_move rfl) rfl rfl rfl ?_
              refine st_op (ev_move rfl) rfl rfl rfl ?_
              refine st_op (ev_move rfl) rfl rfl rfl ?_
              have h161 := My.ext h149 hx159
              have hi162 : 0 ≤ ((i : Int) : Int) := by omega
              have hi163 : ((i : Int) : Int) < ((r118.length : Nat) : Int) := by first | omega | (simp only [List.length_append, List.length_cons, List.length_nil, List.length_map, List.length_set, List.length_replicate, Spec.bytesOf_length]; omega) | (simp; omega)
              refine st_op (ev_at rfl rfl (My.row h161) (getMap i64c hx154) (by first | rfl | omega | simp) hi162 hi163 el28) rfl rfl rfl ?_
              refine st_op (ev_atL rfl (My.row h161) (getMap i64c hx154) one3 rfl) rfl rfl rfl ?_
              refine st_call rfl rfl rfl ent35 rfl rfl rfl ?_
              have hx165 : Ext H121 H158 := (Ext.trans hx150 hx159)
              have h164 := My.ext h129 hx165
              obtain ⟨_, H167, hs166, hs166v, hx168⟩ := conf_Has_spec H158 A7 r11 c8 (My.row h164) (My.capF h164 (by first | omega | (simp only [List.length_append, List.length_cons, List.length_nil, List.length_map, List.length_set, List.length_replicate, Spec.bytesOf_length]; omega) | (simp; omega))) (by first | omega | (simp only [List.length_append, List.length_cons, List.length_nil, List.length_map, List.length_set, List.length_replicate, Spec.bytesOf_length]; omega) | (simp; omega)) x153
              rw [hs166v] at hs166; clear hs166v
              refine ⟨_, H167, hs166, ?_⟩
              have H167n : H158.next ≤ H167.next := hx168.1
              refine st_op (ev_move rfl) rfl rfl rfl ?_
              refine st_bool 79 rfl (fun hb169 => ?_) (fun hb169 => ?_)
              ·
                have hb169 := of_decide_eq_true hb169
                refine st_skip rfl rfl rfl ?_
                refine st_skip rfl rfl rfl ?_
                refine st_skip rfl rfl rfl ?_
                refine st_skip rfl rfl rfl ?_
                refine st_skip rfl rfl rfl ?_
                refine st_skip rfl rfl rfl ?_
                refine st_op (ev_pickT rfl rfl) rfl rfl rfl ?_
                refine st_op (ev_pickT rfl rfl) rfl rfl rfl ?_
                try show aw _ _ _ _ _ _
                refine aw_cond (t := true) rfl ?_
                try show aw _ _ _ _ _ _
                refine aw_seq ?_
                refine aw_reg ?_
                refine st_op (ev_assign rfl) rfl rfl rfl ?_
                try show aw _ _ _ _ _ _
                refine aw_ret ?_
                have hx170 : Ext H H167 := (Ext.trans (Ext.trans (Ext.trans (Ext.trans (Ext.trans (Ext.trans (Ext.trans (Ext.trans (Ext.trans hx6 hx16) hx30) hx113) hx122) hx134) hx142) hxl146) hx159) hx168)
                have hres : true = true := by rfl
                exact ⟨.bool true, rfl, by rw [hres], hx170⟩
              ·
                have hb169 := of_decide_eq_false hb169
                refine st_op (ev_move rfl) rfl rfl rfl ?_
                refine st_op (ev_move rfl) rfl rfl rfl ?_
                refine st_op (ev_move rfl) rfl rfl rfl ?_
                have h171 := My.ext h161 hx168
                have hi172 : 0 ≤ ((i : Int) : Int) := by omega
                have hi173 : ((i : Int) : Int) < ((r118.length : Nat) : Int) := by first | omega | (simp only [List.length_append, List.length_cons, List.length_nil, List.length_map, List.length_set, List.length_replicate, Spec.bytesOf_length]; omega) | (simp; omega)
                refine st_op (ev_at rfl rfl (My.row h171) (getMap i64c hx154) (by first | rfl | omega | simp) hi172 hi173 el28) rfl rfl rfl ?_
                refine st_op (ev_atL rfl (My.row h171) (getMap i64c hx154) one3 rfl) rfl rfl rfl ?_
                refine st_call rfl rfl rfl ent35 rfl rfl rfl ?_
                have hx175 : Ext H133 H167 := (Ext.trans (Ext.trans hx156 hx159) hx168)
                have h174 := My.ext h137 hx175
                obtain ⟨_, H177, hs176, hs176v, hx178⟩ := conf_Has_spec H167 A31 z37 c32 (My.row h174) (My.capF h174 (by first | omega | (simp only [List.length_append, List.length_cons, List.length_nil, List.length_map, List.length_set, List.length_replicate, Spec.bytesOf_length]; omega) | (simp; omega))) (by first | omega | (simp only [List.length_append, List.length_cons, List.length_nil, List.length_map, List.length_set, List.length_replicate, Spec.bytesOf_length]; omega) | (simp; omega)) x153
                rw [hs176v] at hs176; clear hs176v
                refine ⟨_, H177, hs176, ?_⟩
                have H177n : H167.next ≤ H177.next := hx178.1
                refine st_op (ev_pickF rfl rfl) rfl rfl rfl ?_
                refine st_op (ev_pickT rfl rfl) rfl rfl rfl ?_
                try show aw _ _ _ _ _ _
                by_cases hc179 : (decide (x153 ∈ z37)) = true
                · refine aw_condT hc179 rfl ?_
                  try show aw _ _ _ _ _ _
                  have hc179 := of_decide_eq_true hc179
                  refine aw_seq ?_
                  refine aw_reg ?_
                  refine st_op (ev_assign rfl) rfl rfl rfl ?_
                  try show aw _ _ _ _ _ _
                  refine aw_ret ?_
                  have hx180 : Ext H H177 := (Ext.trans (Ext.trans (Ext.trans (Ext.trans (Ext.trans (Ext.trans (Ext.trans (Ext.trans (Ext.trans (Ext.trans hx6 hx16) hx30) hx113) hx122) hx134) hx142) hxl146) hx159) hx168) hx178)
                  have hres : true = true := by rfl
                  exact ⟨.bool true, rfl, by rw [hres], hx180⟩
                · rw [Bool.not_eq_true] at hc179; refine aw_condF hc179 rfl ?_
                  try show aw _ _ _ _ _ _
                  have hc179 := of_decide_eq_false hc179
                  refine aw_skip ?_
                  try show aw _ _ _ _ _ _
                  refine aw_reg ?_
                  refine st_op (ev_move rfl) rfl rfl rfl ?_
                  refine st_op (ev_int64 (c := (i : Int) + 1) rfl rfl rfl (by omega) (by omega)) rfl rfl rfl ?_
                  refine st_op (ev_assign rfl) rfl rfl rfl ?_
                  try show aw _ _ _ _ _ _
                  have hx181 : Ext H141 H177 := (Ext.trans (Ext.trans (Ext.trans hxl146 hx159) hx168) hx178)
                  refine aw_keep [10, 11, 13, 14, 15] (l' := (.cons 10 (.slice A7 r11.length c8) (.cons 11 (.slice A31 z37.length c32) (.cons 13 (.slice A114 r118.length c115) (.cons 14 (.slice A123 r127.length c124) (.cons 15 (.int .i64 ((i : Int) + 1)) .nil)))))) (by repeat (first | exact Up.done | refine Up.then ?_ | refine Up.inBlock ?_)) rfl ?_
                  exact ih147 (i + 1, H177) ⟨(show (i + 1) ≤ r118.length from (by omega)), (show ∀ x, x ∈ r118.take (i + 1) → ¬ (x ∈ r127 ∧ (x ∈ r11 ∨ x ∈ z37)) from (fun x hx => by rw [List.take_add_one, hx154, List.mem_append] at hx; rcases hx with hx | hx; exact hno x hx; simp only [Option.toList_some, List.mem_singleton] at hx; subst hx; simp_all)), (show Ext H141 H177 from hx181)⟩ (by simp only; omega)
            ·
              have hb160 := of_decide_eq_false hb160
              refine st_skip rfl rfl rfl ?_
              refine st_skip rfl rfl rfl ?_
              refine st_skip rfl rfl rfl ?_
              refine st_skip rfl rfl rfl ?_
              refine st_skip rfl rfl rfl ?_
              refine st_skip rfl rfl rfl ?_
              refine st_skip rfl rfl rfl ?_
              refine st_skip rfl rfl rfl ?_
              refine st_skip rfl rfl rfl ?_
              refine st_skip rfl rfl rfl ?_
              refine st_skip rfl rfl rfl ?_
              refine st_skip rfl rfl rfl ?_
              refine st_skip rfl rfl rfl ?_
              refine st_skip rfl rfl rfl ?_
              refine st_op (ev_pickF rfl rfl) rfl rfl rfl ?_
              try show aw _ _ _ _ _ _
              refine aw_cond (t := false) rfl ?_
              try show aw _ _ _ _ _ _
              refine aw_skip ?_
              try show aw _ _ _ _ _ _
              refine aw_reg ?_
              refine st_op (ev_move rfl) rfl rfl rfl ?_
              refine st_op (ev_int64 (c := (i : Int) + 1) rfl rfl rfl (by omega) (by omega)) rfl rfl rfl ?_
              refine st_op (ev_assign rfl) rfl rfl rfl ?_
              try show aw _ _ _ _ _ _
              have hx182 : Ext H141 H158 := (Ext.trans hxl146 hx159)
              refine aw_keep [10, 11, 13, 14, 15] (l' := (.cons 10 (.slice A7 r11.length c8) (.cons 11 (.slice A31 z37.length c32) (.cons 13 (.slice A114 r118.length c115) (.cons 14 (.slice A123 r127.length c124) (.cons 15 (.int .i64 ((i : Int) + 1)) .nil)))))) (by repeat (first | exact Up.done | refine Up.then ?_ | refine Up.inBlock ?_)) rfl ?_
              exact ih147 (i + 1, H158) ⟨(show (i + 1) ≤ r118.length from (by omega)), (show ∀ x, x ∈ r118.take (i + 1) → ¬ (x ∈ r127 ∧ (x ∈ r11 ∨ x ∈ z37)) from (fun x hx => by rw [List.take_add_one, hx154, List.mem_append] at hx; rcases hx with hx | hx; exact hno x hx; simp only [Option.toList_some, List.mem_singleton] at hx; subst hx; simp_all)), (show Ext H141 H158 from hx182)⟩ (by simp only; omega)
          · rw [Bool.not_eq_true] at hc148; refine aw_condF hc148 rfl ?_
            try show aw _ _ _ _ _ _
            have hc148 := of_decide_eq_false hc148
            refine aw_exit ?_
            try show aw _ _ _ _ _ _
            refine aw_seq ?_
            refine aw_reg ?_
            refine st_op (ev_assign rfl) rfl rfl rfl ?_
            try show aw _ _ _ _ _ _
            refine aw_ret ?_
            have hx183 : Ext H Hl145 := (Ext.trans (Ext.trans (Ext.trans (Ext.trans (Ext.trans (Ext.trans (Ext.trans hx6 hx16) hx30) hx113) hx122) hx134) hx142) hxl146)
            have hres : true = false := by exfalso; obtain ⟨x, ha, hb, hl⟩ := Spec.meet_law (l := r11) (m := z37) (a := r118) (b := r127) (by first | exact Spec.add_close (by assumption) (by assumption) | exact Spec.rem_close (by assumption) (by assumption) | exact .inl rfl) (by first | exact Spec.maj_says (by assumption) | simp_all) (by first | exact Spec.maj_says (by assumption) | simp_all); exact hno x (by rw [List.take_of_length_le (by omega)]; exact ha) ⟨hb, hl⟩
            exact ⟨.bool false, rfl, by rw [hres], hx183⟩
  · rw [Bool.not_eq_true] at hc25; refine aw_condF hc25 rfl ?_
    try show aw _ _ _ _ _ _
    replace hc25 : z24 = true := by rw [Bool.not_eq_false'] at hc25; exact hc25
    refine aw_skip ?_
    try show aw _ _ _ _ _ _
    refine aw_seq ?_
    refine aw_seq ?_
    refine aw_reg ?_
    refine st_op (ev_move rfl) rfl rfl rfl ?_
    refine st_op (ev_not rfl) rfl rfl rfl ?_
    try show aw _ _ _ _ _ _
    by_cases hc184 : (!z24) = true
    · refine aw_condT hc184 rfl ?_
      try show aw _ _ _ _ _ _
      replace hc184 : z24 = false := by rw [Bool.not_eq_true'] at hc184; exact hc184
      refine aw_reg ?_
      refine st_op (ev_move rfl) rfl rfl rfl ?_
      refine st_op (ev_assign rfl) rfl rfl rfl ?_
      try show aw _ _ _ _ _ _
      refine aw_seq ?_
      refine aw_reg ?_
      refine st_op (ev_move rfl) rfl rfl rfl ?_
      refine st_call rfl rfl rfl ent18 rfl rfl rfl ?_
      obtain ⟨_, H186, hs185, A188, c189, hs185v, hm190, hq191, hx187⟩ := law20_set_spec H15 x ⟨by omega, by omega⟩
      rw [hs185v] at hs185; clear hs185v
      generalize hR193 : (Spec.setN (fun (j : Nat) => Int.tmod (Spec.shr .i64 x (j : Int)) 2 ≠ 0) 7) = r192 at hs185 hm190 hq191
      refine ⟨_, H186, hs185, ?_⟩
      have H186n : H15.next ≤ H186.next := hx187.1
      refine st_op (ev_move rfl) rfl rfl rfl ?_
      refine st_call rfl rfl rfl ent18 rfl rfl rfl ?_
      obtain ⟨_, H195, hs194, A197, c198, hs194v, hm199, hq200, hx196⟩ := law20_set_spec H186 y ⟨by omega, by omega⟩
      rw [hs194v] at hs194; clear hs194v
      generalize hR202 : (Spec.setN (fun (j : Nat) => Int.tmod (Spec.shr .i64 y (j : Int)) 2 ≠ 0) 7) = r201 at hs194 hm199 hq200
      refine ⟨_, H195, hs194, ?_⟩
      have H195n : H186.next ≤ H195.next := hx196.1
      refine st_op (ev_assign rfl) rfl rfl rfl ?_
      refine st_op (ev_assign rfl) rfl rfl rfl ?_
      try show aw _ _ _ _ _ _
      refine aw_seq ?_
      refine aw_seq ?_
      refine aw_reg ?_
      refine st_op (ev_move rfl) rfl rfl rfl ?_
      refine st_op (ev_move rfl) rfl rfl rfl ?_
      refine st_call rfl rfl rfl ent21 rfl rfl rfl ?_
      have hx204 : Ext H5 H195 := (Ext.trans (Ext.trans hx16 hx187) hx196)
      have h203 := My.ext hm9 hx204
      have h205 := My.ext hm190 hx196
      obtain ⟨_, H207, hs206, hs206v, hx208⟩ := conf_Majority_spec H195 A7 r11 c8 (My.row h203) (My.capF h203 (by first | omega | (simp only [List.length_append, List.length_cons, List.length_nil, List.length_map, List.length_set, List.length_replicate, Spec.bytesOf_length]; omega) | (simp; omega))) (by first | omega | (simp only [List.length_append, List.length_cons, List.length_nil, List.length_map, List.length_set, List.length_replicate, Spec.bytesOf_length]; omega) | (simp; omega)) A188 r192 c189 (My.row h205) (My.capF h205 (by first | omega | (simp only [List.length_append, List.length_cons, List.length_nil, List.length_map, List.length_set, List.length_replicate, Spec.bytesOf_length]; omega) | (simp; omega))) (by first | omega | (simp only [List.length_append, List.length_cons, List.length_nil, List.length_map, List.length_set, List.length_replicate, Spec.bytesOf_length]; omega) | (simp; omega))
      rw [hs206v] at hs206; clear hs206v
      refine ⟨_, H207, hs206, ?_⟩
      have H207n : H195.next ≤ H207.next := hx208.1
      refine st_op (ev_not rfl) rfl rfl rfl ?_
      refine st_op (ev_move rfl) rfl rfl rfl ?_
      refine st_bool 54 rfl (fun hb209 => ?_) (fun hb209 => ?_)
      ·
        replace hb209 : (Spec.mayC r11 && decide (2 * Spec.cntF r192 r11 > r11.length)) = false := by rw [Bool.not_eq_true'] at hb209; exact hb209
        refine st_skip rfl rfl rfl ?_
        refine st_skip rfl rfl rfl ?_
        refine st_skip rfl rfl rfl ?_
        refine st_skip rfl rfl rfl ?_
        refine st_op (ev_pickT rfl rfl) rfl rfl rfl ?_
        try show aw _ _ _ _ _ _
        refine aw_cond (t := true) rfl ?_
        try show aw _ _ _ _ _ _
        refine aw_seq ?_
        refine aw_reg ?_
        refine st_op (ev_assign rfl) rfl rfl rfl ?_
        try show aw _ _ _ _ _ _
        refine aw_ret ?_
        have hx210 : Ext H H207 := (Ext.trans (Ext.trans (Ext.trans (Ext.trans hx6 hx16) hx187) hx196) hx208)
        have hres : true = true := by rfl
        exact ⟨.bool true, rfl, by rw [hres], hx210⟩
      ·
        replace hb209 : (Spec.mayC r11 && decide (2 * Spec.cntF r192 r11 > r11.length)) = true := by rw [Bool.not_eq_false'] at hb209; exact hb209
        refine st_op (ev_move rfl) rfl rfl rfl ?_
        refine st_op (ev_move rfl) rfl rfl rfl ?_
        refine st_call rfl rfl rfl ent21 rfl rfl rfl ?_
        have h211 := My.ext h203 hx208
        have h212 := My.ext hm199 hx208
        obtain ⟨_, H214, hs213, hs213v, hx215⟩ := conf_Majority_spec H207 A7 r11 c8 (My.row h211) (My.capF h211 (by first | omega | (simp only [List.length_append, List.length_cons, List.length_nil, List.length_map, List.length_set, List.length_replicate, Spec.bytesOf_length]; omega) | (simp; omega))) (by first | omega | (simp only [List.length_append, List.length_cons, List.length_nil, List.length_map, List.length_set, List.length_replicate, Spec.bytesOf_length]; omega) | (simp; omega)) A197 r201 c198 (My.row h212) (My.capF h212 (by first | omega | (simp only [List.length_append, List.length_cons, List.length_nil, List.length_map, List.length_set, List.length_replicate, Spec.bytesOf_length]; omega) | (simp; omega))) (by first | omega | (simp only [List.length_append, List.length_cons, List.length_nil, List.length_map, List.length_set, List.length_replicate, Spec.bytesOf_length]; omega) | (simp; omega))
        rw [hs213v] at hs213; clear hs213v
        refine ⟨_, H214, hs213, ?_⟩
        have H214n : H207.next ≤ H214.next := hx215.1
        refine st_op (ev_not rfl) rfl rfl rfl ?_
        refine st_op (ev_pickF rfl rfl) rfl rfl rfl ?_
        try show aw _ _ _ _ _ _
        by_cases hc216 : (!(Spec.mayC r11 && decide (2 * Spec.cntF r201 r11 > r11.length))) = true
        · refine aw_condT hc216 rfl ?_
          try show aw _ _ _ _ _ _
          replace hc216 : (Spec.mayC r11 && decide (2 * Spec.cntF r201 r11 > r11.length)) = false := by rw [Bool.not_eq_true'] at hc216; exact hc216
          refine aw_seq ?_
          refine aw_reg ?_
          refine st_op (ev_assign rfl) rfl rfl rfl ?_
          try show aw _ _ _ _ _ _
          refine aw_ret ?_
          have hx217 : Ext H H214 := (Ext.trans (Ext.trans (Ext.trans (Ext.trans (Ext.trans hx6 hx16) hx187) hx196) hx208) hx215)
          have hres : true = true := by rfl
          exact ⟨.bool true, rfl, by rw [hres], hx217⟩
        · rw [Bool.not_eq_true] at hc216; refine aw_condF hc216 rfl ?_
          try show aw _ _ _ _ _ _
          replace hc216 : (Spec.mayC r11 && decide (2 * Spec.cntF r201 r11 > r11.length)) = true := by rw [Bool.not_eq_false'] at hc216; exact hc216
          refine aw_skip ?_
          try show aw _ _ _ _ _ _
          refine aw_seq ?_
          refine aw_seq ?_
          refine aw_reg ?_
          refine st_op (ev_assign rfl) rfl rfl rfl ?_
          try show aw _ _ _ _ _ _
          refine aw_block ?_
          refine aw_keep [10, 11, 13, 14, 15] (l' := (.cons 10 (.slice A7 r11.length c8) (.cons 11 (.slice A7 r11.length c8) (.cons 13 (.slice A188 r192.length c189) (.cons 14 (.slice A197 r201.length c198) (.cons 15 (.int .i64 0) .nil)))))) (by repeat (first | exact Up.done | refine Up.then ?_ | refine Up.inBlock ?_)) rfl ?_
          refine aw_iter (α := Nat × Heap) (fun a => r192.length - a.1) (fun a => (.cons 10 (.slice A7 r11.length c8) (.cons 11 (.slice A7 r11.length c8) (.cons 13 (.slice A188 r192.length c189) (.cons 14 (.slice A197 r201.length c198) (.cons 15 (.int .i64 (a.1 : Int)) .nil)))))) (fun a => a.2) (fun a => (a.1 ≤ r192.length) ∧ (∀ x, x ∈ r192.take a.1 → ¬ (x ∈ r201 ∧ (x ∈ r11 ∨ x ∈ r11))) ∧ (Ext H214 a.2)) (0, H214) ⟨(show 0 ≤ r192.length from Nat.zero_le _), (show ∀ x, x ∈ r192.take 0 → ¬ (x ∈ r201 ∧ (x ∈ r11 ∨ x ∈ r11)) from (by simp)), (show Ext H214 H214 from (Ext.refl H214))⟩ ?_
          rintro ⟨i, Hl218⟩ ⟨hi, hno, hxl219⟩ ih220
          replace hi : i ≤ r192.length := hi
          replace hno : ∀ x, x ∈ r192.take i → ¬ (x ∈ r201 ∧ (x ∈ r11 ∨ x ∈ r11)) := hno
          replace hxl219 : Ext H214 Hl218 := hxl219
          show aw _ _ _ (RL _ (.cons 10 (.slice A7 r11.length c8) (.cons 11 (.slice A7 r11.length c8) (.cons 13 (.slice A188 r192.length c189) (.cons 14 (.slice A197 r201.length c198) (.cons 15 (.int .i64 (i : Int)) .nil)))))) Hl218 _
          have Hl218n : H214.next ≤ Hl218.next := hxl219.1
          refine aw_seq ?_
          refine aw_seq ?_
          refine aw_reg ?_
          refine st_op (ev_move rfl) rfl rfl rfl ?_
          refine st_op (ev_move rfl) rfl rfl rfl ?_
          refine st_op (ev_lenSl rfl Try.underlying28) rfl rfl rfl ?_
          refine st_op (ev_int rfl rfl rfl) rfl rfl rfl ?_
          try show aw _ _ _ _ _ _
          by_cases hc221 : (decide ((i : Int) < (r192.length : Int))) = true
          · refine aw_condT hc221 rfl ?_
            try show aw _ _ _ _ _ _
            have hc221 := of_decide_eq_true hc221
            refine aw_skip ?_
            try show aw _ _ _ _ _ _
            refine aw_seq ?_
            refine aw_block ?_
            refine aw_seq ?_
            refine aw_reg ?_
            refine st_op (ev_move rfl) rfl rfl rfl ?_
            refine st_op (ev_move rfl) rfl rfl rfl ?_
            refine st_op (ev_move rfl) rfl rfl rfl ?_
            have hx223 : Ext H195 Hl218 := (Ext.trans (Ext.trans hx208 hx215) hxl219)
            have h222 := My.ext h205 hx223
            have hi224 : 0 ≤ ((i : Int) : Int) := by omega
            have hi225 : ((i : Int) : Int) < ((r192.length : Nat) : Int) := by first | omega | (simp only [List.length_append, List.length_cons, List.length_nil, List.length_map, List.length_set, List.length_replicate, Spec.bytesOf_length]; omega) | (simp; omega)
            obtain ⟨x226, hx227⟩ : ∃ e, r192[i]? = some e := ⟨_, List.getElem?_eq_getElem (by first | omega | (simp only [List.length_append, List.length_cons, List.length_nil, List.length_map, List.length_set, List.length_replicate, Spec.bytesOf_length]; omega) | (simp; omega))⟩
            refine st_op (ev_at rfl rfl (My.row h222) (getMap i64c hx227) (by first | rfl | omega | simp) hi224 hi225 el28) rfl rfl rfl ?_
            refine st_op (ev_atL rfl (My.row h222) (getMap i64c hx227) one3 rfl) rfl rfl rfl ?_
            refine st_call rfl rfl rfl ent35 rfl rfl rfl ?_
            have hx229 : Ext H207 Hl218 := (Ext.trans hx215 hxl219)
            have h228 := My.ext h212 hx229
            obtain ⟨_, H231, hs230, hs230v, hx232⟩ := conf_Has_spec Hl218 A197 r201 c198 (My.row h228) (My.capF h228 (by first | omega | (simp only [List.length_append, List.length_cons, List.length_nil, List.length_map, List.length_set, List.length_replicate, Spec.bytesOf_length]; omega) | (simp; omega))) (by first | omega | (simp only [List.length_append, List.length_cons, List.length_nil, List.length_map, List.length_set, List.length_replicate, Spec.bytesOf_length]; omega) | (simp; omega)) x226
            rw [hs230v] at hs230; clear hs230v
            refine ⟨_, H231, hs230, ?_⟩
            have H231n : Hl218.next ≤ H231.next := hx232.1
            refine st_op (ev_move rfl) rfl rfl rfl ?_
            refine st_bool 72 rfl (fun hb233 => ?_) (fun hb233 => ?_)
            ·
              have hb233 := of_decide_eq_true hb233
              refine st_op (ev_move rfl) rfl rfl rfl ?_
              refine st_op (ev_move rfl) rfl rfl rfl ?_
              refine st_op (ev_move rfl) rfl rfl rfl ?_
              have h234 := My.ext h222 hx232
              have hi235 : 0 ≤ ((i : Int) : Int) := by omega
              have hi236 : ((i : Int) : Int) < ((r192.length : Nat) : Int) := by first | omega | (simp only [List.length_append, List.length_cons, List.length_nil, List.length_map, List.length_set, List.length_replicate, Spec.bytesOf_length]; omega) | (simp; omega)
              refine st_op (ev_at rfl rfl (My.row h234) (getMap i64c hx227) (by first | rfl | omega | simp) hi235 hi236 el28) rfl rfl rfl ?_
              refine st_op (ev_atL rfl (My.row h234) (getMap i64c hx227) one3 rfl) rfl rfl rfl ?_
              refine st_call rfl rfl rfl ent35 rfl rfl rfl ?_
              have hx238 : Ext H207 H231 := (Ext.trans hx229 hx232)
              have h237 := My.ext h211 hx238
              obtain ⟨_, H240, hs239, hs239v, hx241⟩ := conf_Has_spec H231 A7 r11 c8 (My.row h237) (My.capF h237 (by first | omega | (simp only [List.length_append, List.length_cons, List.length_nil, List.length_map, List.length_set, List.length_replicate, Spec.bytesOf_length]; omega) | (simp; omega))) (by first | omega | (simp only [List.length_append, List.length_cons, List.length_nil, List.length_map, List.length_set, List.length_replicate, Spec.bytesOf_length]; omega) | (simp; omega)) x226
              rw [hs239v] at hs239; clear hs239v
              refine ⟨_, H240, hs239, ?_⟩
              have H240n : H231.next ≤ H240.next := hx241.1
              refine st_op (ev_move rfl) rfl rfl rfl ?_
              refine st_bool 79 rfl (fun hb242 => ?_) (fun hb242 => ?_)
              ·
                have hb242 := of_decide_eq_true hb242
                refine st_skip rfl rfl rfl ?_
                refine st_skip rfl rfl rfl ?_
                refine st_skip rfl rfl rfl ?_
                refine st_skip rfl rfl rfl ?_
                refine st_skip rfl rfl rfl ?_
                refine st_skip rfl rfl rfl ?_
                refine st_op (ev_pickT rfl rfl) rfl rfl rfl ?_
                refine st_op (ev_pickT rfl rfl) rfl rfl rfl ?_
                try show aw _ _ _ _ _ _
                refine aw_cond (t := true) rfl ?_
                try show aw _ _ _ _ _ _
                refine aw_seq ?_
                refine aw_reg ?_
                refine st_op (ev_assign rfl) rfl rfl rfl ?_
                try show aw _ _ _ _ _ _
                refine aw_ret ?_
                have hx243 : Ext H H240 := (Ext.trans (Ext.trans (Ext.trans (Ext.trans (Ext.trans (Ext.trans (Ext.trans (Ext.trans hx6 hx16) hx187) hx196) hx208) hx215) hxl219) hx232) hx241)
                have hres : true = true := by rfl
                exact ⟨.bool true, rfl, by rw [hres], hx243⟩
              ·
                have hb242 := of_decide_eq_false hb242
                refine st_op (ev_move rfl) rfl rfl rfl ?_
                refine st_op (ev_move rfl) rfl rfl rfl ?_
                refine st_op (ev_move rfl) rfl rfl rfl ?_
                have h244 := My.ext h234 hx241
                have hi245 : 0 ≤ ((i : Int) : Int) := by omega
                have hi246 : ((i : Int) : Int) < ((r192.length : Nat) : Int) := by first | omega | (simp only [List.length_append, List.length_cons, List.length_nil, List.length_map, List.length_set, List.length_replicate, Spec.bytesOf_length]; omega) | (simp; omega)
                refine st_op (ev_at rfl rfl (My.row h244) (getMap i64c hx227) (by first | rfl | omega | simp) hi245 hi246 el28) rfl rfl rfl ?_
                refine st_op (ev_atL rfl (My.row h244) (getMap i64c hx227) one3 rfl) rfl rfl rfl ?_
                refine st_call rfl rfl rfl ent35 rfl rfl rfl ?_
                have h247 := My.ext h237 hx241
                obtain ⟨_, H249, hs248, hs248v, hx250⟩ := conf_Has_spec H240 A7 r11 c8 (My.row h247) (My.capF h247 (by first | omega | (simp only [List.length_append, List.length_cons, List.length_nil, List.length_map, List.length_set, List.length_replicate, Spec.bytesOf_length]; omega) | (simp; omega))) (by first | omega | (simp only [List.length_append, List.length_cons, List.length_nil, List.length_map, List.length_set, List.length_replicate, Spec.bytesOf_length]; omega) | (simp; omega)) x226
                rw [hs248v] at hs248; clear hs248v
                refine ⟨_, H249, hs248, ?_⟩
                have H249n : H240.next ≤ H249.next := hx250.1
                refine st_op (ev_pickF rfl rfl) rfl rfl rfl ?_
                refine st_op (ev_pickT rfl rfl) rfl rfl rfl ?_
                try show aw _ _ _ _ _ _
                by_cases hc251 : (decide (x226 ∈ r11)) = true
                · refine aw_condT hc251 rfl ?_
                  try show aw _ _ _ _ _ _
                  have hc251 := of_decide_eq_true hc251
                  refine aw_seq ?_
                  refine aw_reg ?_
                  refine st_op (ev_assign rfl) rfl rfl rfl ?_
                  try show aw _ _ _ _ _ _
                  refine aw_ret ?_
                  have hx252 : Ext H H249 := (Ext.trans (Ext.trans (Ext.trans (Ext.trans (Ext.trans (Ext.trans (Ext.trans (Ext.trans (Ext.trans hx6 hx16) hx187) hx196) hx208) hx215) hxl219) hx232) hx241) hx250)
                  have hres : true = true := by rfl
                  exact ⟨.bool true, rfl, by rw [hres], hx252⟩
                · rw [Bool.not_eq_true] at hc251; refine aw_condF hc251 rfl ?_
                  try show aw _ _ _ _ _ _
                  have hc251 := of_decide_eq_false hc251
                  refine aw_skip ?_
                  try show aw _ _ _ _ _ _
                  refine aw_reg ?_
                  refine st_op (ev_move rfl) rfl rfl rfl ?_
                  refine st_op (ev_int64 (c := (i : Int) + 1) rfl rfl rfl (by omega) (by omega)) rfl rfl rfl ?_
                  refine st_op (ev_assign rfl) rfl rfl rfl ?_
                  try show aw _ _ _ _ _ _
                  have hx253 : Ext H214 H249 := (Ext.trans (Ext.trans (Ext.trans hxl219 hx232) hx241) hx250)
                  refine aw_keep [10, 11, 13, 14, 15] (l' := (.cons 10 (.slice A7 r11.length c8) (.cons 11 (.slice A7 r11.length c8) (.cons 13 (.slice A188 r192.length c189) (.cons 14 (.slice A197 r201.length c198) (.cons 15 (.int .i64 ((i : Int) + 1)) .nil)))))) (by repeat (first | exact Up.done | refine Up.then ?_ | refine Up.inBlock ?_)) rfl ?_
                  exact ih220 (i + 1, H249) ⟨(show (i + 1) ≤ r192.length from (by omega)), (show ∀ x, x ∈ r192.take (i + 1) → ¬ (x ∈ r201 ∧ (x ∈ r11 ∨ x ∈ r11)) from (fun x hx => by rw [List.take_add_one, hx227, List.mem_append] at hx; rcases hx with hx | hx; exact hno x hx; simp only [Option.toList_some, List.mem_singleton] at hx; subst hx; simp_all)), (show Ext H214 H249 from hx253)⟩ (by simp only; omega)
            ·
              have hb233 := of_decide_eq_false hb233
              refine st_skip rfl rfl rfl ?_
              refine st_skip rfl rfl rfl ?_
              refine st_skip rfl rfl rfl ?_
              refine st_skip rfl rfl rfl ?_
              refine st_skip rfl rfl rfl ?_
              refine st_skip rfl rfl rfl ?_
              refine st_skip rfl rfl rfl ?_
              refine st_skip rfl rfl rfl ?_
              refine st_skip rfl rfl rfl ?_
              refine st_skip rfl rfl rfl ?_
              refine st_skip rfl rfl rfl ?_
              refine st_skip rfl rfl rfl ?_
              refine st_skip rfl rfl rfl ?_
              refine st_skip rfl rfl rfl ?_
              refine st_op (ev_pickF rfl rfl) rfl rfl rfl ?_
              try show aw _ _ _ _ _ _
              refine aw_cond (t := false) rfl ?_
              try show aw _ _ _ _ _ _
              refine aw_skip ?_
              try show aw _ _ _ _ _ _
              refine aw_reg ?_
              refine st_op (ev_move rfl) rfl rfl rfl ?_
              refine st_op (ev_int64 (c := (i : Int) + 1) rfl rfl rfl (by omega) (by omega)) rfl rfl rfl ?_
              refine st_op (ev_assign rfl) rfl rfl rfl ?_
              try show aw _ _ _ _ _ _
              have hx254 : Ext H214 H231 := (Ext.trans hxl219 hx232)
              refine aw_keep [10, 11, 13, 14, 15] (l' := (.cons 10 (.slice A7 r11.length c8) (.cons 11 (.slice A7 r11.length c8) (.cons 13 (.slice A188 r192.length c189) (.cons 14 (.slice A197 r201.length c198) (.cons 15 (.int .i64 ((i : Int) + 1)) .nil)))))) (by repeat (first | exact Up.done | refine Up.then ?_ | refine Up.inBlock ?_)) rfl ?_
              exact ih220 (i + 1, H231) ⟨(show (i + 1) ≤ r192.length from (by omega)), (show ∀ x, x ∈ r192.take (i + 1) → ¬ (x ∈ r201 ∧ (x ∈ r11 ∨ x ∈ r11)) from (fun x hx => by rw [List.take_add_one, hx227, List.mem_append] at hx; rcases hx with hx | hx; exact hno x hx; simp only [Option.toList_some, List.mem_singleton] at hx; subst hx; simp_all)), (show Ext H214 H231 from hx254)⟩ (by simp only; omega)
          · rw [Bool.not_eq_true] at hc221; refine aw_condF hc221 rfl ?_
            try show aw _ _ _ _ _ _
            have hc221 := of_decide_eq_false hc221
            refine aw_exit ?_
            try show aw _ _ _ _ _ _
            refine aw_seq ?_
            refine aw_reg ?_
            refine st_op (ev_assign rfl) rfl rfl rfl ?_
            try show aw _ _ _ _ _ _
            refine aw_ret ?_
            have hx255 : Ext H Hl218 := (Ext.trans (Ext.trans (Ext.trans (Ext.trans (Ext.trans (Ext.trans hx6 hx16) hx187) hx196) hx208) hx215) hxl219)
            have hres : true = false := by exfalso; obtain ⟨x, ha, hb, hl⟩ := Spec.meet_law (l := r11) (m := r11) (a := r192) (b := r201) (by first | exact Spec.add_close (by assumption) (by assumption) | exact Spec.rem_close (by assumption) (by assumption) | exact .inl rfl) (by first | exact Spec.maj_says (by assumption) | simp_all) (by first | exact Spec.maj_says (by assumption) | simp_all); exact hno x (by rw [List.take_of_length_le (by omega)]; exact ha) ⟨hb, hl⟩
            exact ⟨.bool false, rfl, by rw [hres], hx255⟩
    · rw [Bool.not_eq_true] at hc184; refine aw_condF hc184 rfl ?_
      try show aw _ _ _ _ _ _
      replace hc184 : z24 = true := by rw [Bool.not_eq_false'] at hc184; exact hc184
      refine aw_skip ?_
      try show aw _ _ _ _ _ _
      refine aw_seq ?_
      refine aw_reg ?_
      refine st_op (ev_move rfl) rfl rfl rfl ?_
      refine st_call rfl rfl rfl ent18 rfl rfl rfl ?_
      obtain ⟨_, H257, hs256, A259, c260, hs256v, hm261, hq262, hx258⟩ := law20_set_spec H15 x ⟨by omega, by omega⟩
      rw [hs256v] at hs256; clear hs256v
      generalize hR264 : (Spec.setN (fun (j : Nat) => Int.tmod (Spec.shr .i64 x (j : Int)) 2 ≠ 0) 7) = r263 at hs256 hm261 hq262
      refine ⟨_, H257, hs256, ?_⟩
      have H257n : H15.next ≤ H257.next := hx258.1
      refine st_op (ev_move rfl) rfl rfl rfl ?_
      refine st_call rfl rfl rfl ent18 rfl rfl rfl ?_
      obtain ⟨_, H266, hs265, A268, c269, hs265v, hm270, hq271, hx267⟩ := law20_set_spec H257 y ⟨by omega, by omega⟩
      rw [hs265v] at hs265; clear hs265v
      generalize hR273 : (Spec.setN (fun (j : Nat) => Int.tmod (Spec.shr .i64 y (j : Int)) 2 ≠ 0) 7) = r272 at hs265 hm270 hq271
      refine ⟨_, H266, hs265, ?_⟩
      have H266n : H257.next ≤ H266.next := hx267.1
      refine st_op (ev_assign rfl) rfl rfl rfl ?_
      refine st_op (ev_assign rfl) rfl rfl rfl ?_
      try show aw _ _ _ _ _ _
      refine aw_seq ?_
      refine aw_seq ?_
      refine aw_reg ?_
      refine st_op (ev_move rfl) rfl rfl rfl ?_
      refine st_op (ev_move rfl) rfl rfl rfl ?_
      refine st_call rfl rfl rfl ent21 rfl rfl rfl ?_
      have hx275 : Ext H5 H266 := (Ext.trans (Ext.trans hx16 hx258) hx267)
      have h274 := My.ext hm9 hx275
      have h276 := My.ext hm261 hx267
      obtain ⟨_, H278, hs277, hs277v, hx279⟩ := conf_Majority_spec H266 A7 r11 c8 (My.row h274) (My.capF h274 (by first | omega | (simp only [List.length_append, List.length_cons, List.length_nil, List.length_map, List.length_set, List.length_replicate, Spec.bytesOf_length]; omega) | (simp; omega))) (by first | omega | (simp only [List.length_append, List.length_cons, List.length_nil, List.length_map, List.length_set, List.length_replicate, Spec.bytesOf_length]; omega) | (simp; omega)) A259 r263 c260 (My.row h276) (My.capF h276 (by first | omega | (simp only [List.length_append, List.length_cons, List.length_nil, List.length_map, List.length_set, List.length_replicate, Spec.bytesOf_length]; omega) | (simp; omega))) (by first | omega | (simp only [List.length_append, List.length_cons, List.length_nil, List.length_map, List.length_set, List.length_replicate, Spec.bytesOf_length]; omega) | (simp; omega))
      rw [hs277v] at hs277; clear hs277v
      refine ⟨_, H278, hs277, ?_⟩
      have H278n : H266.next ≤ H278.next := hx279.1
      refine st_op (ev_not rfl) rfl rfl rfl ?_
      refine st_op (ev_move rfl) rfl rfl rfl ?_
      refine st_bool 54 rfl (fun hb280 => ?_) (fun hb280 => ?_)
      ·
        replace hb280 : (Spec.mayC r11 && decide (2 * Spec.cntF r263 r11 > r11.length)) = false := by rw [Bool.not_eq_true'] at hb280; exact hb280
        refine st_skip rfl rfl rfl ?_
        refine st_skip rfl rfl rfl ?_
        refine st_skip rfl rfl rfl ?_
        refine st_skip rfl rfl rfl ?_
        refine st_op (ev_pickT rfl rfl) rfl rfl rfl ?_
        try show aw _ _ _ _ _ _
        refine aw_cond (t := true) rfl ?_
        try show aw _ _ _ _ _ _
        refine aw_seq ?_
        refine aw_reg ?_
        refine st_op (ev_assign rfl) rfl rfl rfl ?_
        try show aw _ _ _ _ _ _
        refine aw_ret ?_
        have hx281 : Ext H H278 := (Ext.trans (Ext.trans (Ext.trans (Ext.trans hx6 hx16) hx258) hx267) hx279)
        have hres : true = true := by rfl
        exact ⟨.bool true, rfl, by rw [hres], hx281⟩
      ·
        replace hb280 : (Spec.mayC r11 && decide (2 * Spec.cntF r263 r11 > r11.length)) = true := by rw [Bool.not_eq_false'] at hb280; exact hb280
        refine st_op (ev_move rfl) rfl rfl rfl ?_
        refine st_op (ev_move rfl) rfl rfl rfl ?_
        refine st_call rfl rfl rfl ent21 rfl rfl rfl ?_
        have hx283 : Ext H15 H278 := (Ext.trans (Ext.trans hx258 hx267) hx279)
        have h282 := My.ext hm19 hx283
        have h284 := My.ext hm270 hx279
        obtain ⟨_, H286, hs285, hs285v, hx287⟩ := conf_Majority_spec H278 A17 z23 c18 (My.row h282) (My.capF h282 (by first | omega | (simp only [List.length_append, List.length_cons, List.length_nil, List.length_map, List.length_set, List.length_replicate, Spec.bytesOf_length]; omega) | (simp; omega))) (by first | omega | (simp only [List.length_append, List.length_cons, List.length_nil, List.length_map, List.length_set, List.length_replicate, Spec.bytesOf_length]; omega) | (simp; omega)) A268 r272 c269 (My.row h284) (My.capF h284 (by first | omega | (simp only [List.length_append, List.length_cons, List.length_nil, List.length_map, List.length_set, List.length_replicate, Spec.bytesOf_length]; omega) | (simp; omega))) (by first | omega | (simp only [List.length_append, List.length_cons, List.length_nil, List.length_map, List.length_set, List.length_replicate, Spec.bytesOf_length]; omega) | (simp; omega))
        rw [hs285v] at hs285; clear hs285v
        refine ⟨_, H286, hs285, ?_⟩
        have H286n : H278.next ≤ H286.next := hx287.1
        refine st_op (ev_not rfl) rfl rfl rfl ?_
        refine st_op (ev_pickF rfl rfl) rfl rfl rfl ?_
        try show aw _ _ _ _ _ _
        by_cases hc288 : (!(Spec.mayC z23 && decide (2 * Spec.cntF r272 z23 > z23.length))) = true
        · refine aw_condT hc288 rfl ?_
          try show aw _ _ _ _ _ _
          replace hc288 : (Spec.mayC z23 && decide (2 * Spec.cntF r272 z23 > z23.length)) = false := by rw [Bool.not_eq_true'] at hc288; exact hc288
          refine aw_seq ?_
          refine aw_reg ?_
          refine st_op (ev_assign rfl) rfl rfl rfl ?_
          try show aw _ _ _ _ _ _
          refine aw_ret ?_
          have hx289 : Ext H H286 := (Ext.trans (Ext.trans (Ext.trans (Ext.trans (Ext.trans hx6 hx16) hx258) hx267) hx279) hx287)
          have hres : true = true := by rfl
          exact ⟨.bool true, rfl, by rw [hres], hx289⟩
        · rw [Bool.not_eq_true] at hc288; refine aw_condF hc288 rfl ?_
          try show aw _ _ _ _ _ _
          replace hc288 : (Spec.mayC z23 && decide (2 * Spec.cntF r272 z23 > z23.length)) = true := by rw [Bool.not_eq_false'] at hc288; exact hc288
          refine aw_skip ?_
          try show aw _ _ _ _ _ _
          refine aw_seq ?_
          refine aw_seq ?_
          refine aw_reg ?_
          refine st_op (ev_assign rfl) rfl rfl rfl ?_
          try show aw _ _ _ _ _ _
          refine aw_block ?_
          refine aw_keep [10, 11, 13, 14, 15] (l' := (.cons 10 (.slice A7 r11.length c8) (.cons 11 (.slice A17 z23.length c18) (.cons 13 (.slice A259 r263.length c260) (.cons 14 (.slice A268 r272.length c269) (.cons 15 (.int .i64 0) .nil)))))) (by repeat (first | exact Up.done | refine Up.then ?_ | refine Up.inBlock ?_)) rfl ?_
          refine aw_iter (α := Nat × Heap) (fun a => r263.length - a.1) (fun a => (.cons 10 (.slice A7 r11.length c8) (.cons 11 (.slice A17 z23.length c18) (.cons 13 (.slice A259 r263.length c260) (.cons 14 (.slice A268 r272.length c269) (.cons 15 (.int .i64 (a.1 : Int)) .nil)))))) (fun a => a.2) (fun a => (a.1 ≤ r263.length) ∧ (∀ x, x ∈ r263.take a.1 → ¬ (x ∈ r272 ∧ (x ∈ r11 ∨ x ∈ z23))) ∧ (Ext H286 a.2)) (0, H286) ⟨(show 0 ≤ r263.length from Nat.zero_le _), (show ∀ x, x ∈ r263.take 0 → ¬ (x ∈ r272 ∧ (x ∈ r11 ∨ x ∈ z23)) from (by simp)), (show Ext H286 H286 from (Ext.refl H286))⟩ ?_
          rintro ⟨i, Hl290⟩ ⟨hi, hno, hxl291⟩ ih292
          replace hi : i ≤ r263.length := hi
          replace hno : ∀ x, x ∈ r263.take i → ¬ (x ∈ r272 ∧ (x ∈ r11 ∨ x ∈ z23)) := hno
          replace hxl291 : Ext H286 Hl290 := hxl291
          show aw _ _ _ (RL _ (.cons 10 (.slice A7 r11.length c8) (.cons 11 (.slice A17 z23.length c18) (.cons 13 (.slice A259 r263.length c260) (.cons 14 (.slice A268 r272.length c269) (.cons 15 (.int .i64 (i : Int)) .nil)))))) Hl290 _
          have Hl290n : H286.next ≤ Hl290.next := hxl291.1
          refine aw_seq ?_
          refine aw_seq ?_
          refine aw_reg ?_
          refine st_op (ev_move rfl) rfl rfl rfl ?_
          refine st_op (ev_move rfl) rfl rfl rfl ?_
          refine st_op (ev_lenSl rfl Try.underlying28) rfl rfl rfl ?_
          refine st_op (ev_int rfl rfl rfl) rfl rfl rfl ?_
          try show aw _ _ _ _ _ _
          by_cases hc293 : (decide ((i : Int) < (r263.length : Int))) = true
          · refine aw_condT hc293 rfl ?_
            try show aw _ _ _ _ _ _
            have hc293 := of_decide_eq_true hc293
            refine aw_skip ?_
            try show aw _ _ _ _ _ _
            refine aw_seq ?_
            refine aw_block ?_
            refine aw_seq ?_
            refine aw_reg ?_
            refine st_op (ev_move rfl) rfl rfl rfl ?_
            refine st_op (ev_move rfl) rfl rfl rfl ?_
            refine st_op (ev_move rfl) rfl rfl rfl ?_
            have hx295 : Ext H266 Hl290 := (Ext.trans (Ext.trans hx279 hx287) hxl291)
            have h294 := My.ext h276 hx295
            have hi296 : 0 ≤ ((i : Int) : Int) := by omega
            have hi297 : ((i : Int) : Int) < ((r263.length : Nat) : Int) := by first | omega | (simp only [List.length_append, List.length_cons, List.length_nil, List.length_map, List.length_set, List.length_replicate, Spec.bytesOf_length]; omega) | (simp; omega)
            obtain ⟨x298, hx299⟩ : ∃ e, r263[i]? = some e := ⟨_, List.getElem?_eq_getElem (by first | omega | (simp only [List.length_append, List.length_cons, List.length_nil, List.length_map, List.length_set, List.length_replicate, Spec.bytesOf_length]; omega) | (simp; omega))⟩
            refine st_op (ev_at rfl rfl (My.row h294) (getMap i64c hx299) (by first | rfl | omega | simp) hi296 hi297 el28) rfl rfl rfl ?_
            refine st_op (ev_atL rfl (My.row h294) (getMap i64c hx299) one3 rfl) rfl rfl rfl ?_
            refine st_call rfl rfl rfl ent35 rfl rfl rfl ?_
            have hx301 : Ext H278 Hl290 := (Ext.trans hx287 hxl291)
            have h300 := My.ext h284 hx301
            obtain ⟨_, H303, hs302, hs302v, hx304⟩ := conf_Has_spec Hl290 A268 r272 c269 (My.row h300) (My.capF h300 (by first | omega | (simp only [List.length_append, List.length_cons, List.length_nil, List.length_map, List.length_set, List.length_replicate, Spec.bytesOf_length]; omega) | (simp; omega))) (by first | omega | (simp only [List.length_append, List.length_cons, List.length_nil, List.length_map, List.length_set, List.length_replicate, Spec.bytesOf_length]; omega) | (simp; omega)) x298
            rw [hs302v] at hs302; clear hs302v
            refine ⟨_, H303, hs302, ?_⟩
            have H303n : Hl290.next ≤ H303.next := hx304.1
            refine st_op (ev_move rfl) rfl rfl rfl ?_
            refine st_bool 72 rfl (fun hb305 => ?_) (fun hb305 => ?_)
            ·
              have hb305 := of_decide_eq_true hb305
              refine st_op (ev_move rfl) rfl rfl rfl ?_
              refine st_op (ev_move rfl) rfl rfl rfl ?_
              refine st_op (ev_move rfl) rfl rfl rfl ?_
              have h306 := My.ext h294 hx304
              have hi307 : 0 ≤ ((i : Int) : Int) := by omega
              have hi308 : ((i : Int) : Int) < ((r263.length : Nat) : Int) := by first | omega | (simp only [List.length_append, List.length_cons, List.length_nil, List.length_map, List.length_set, List.length_replicate, Spec.bytesOf_length]; omega) | (simp; omega)
              refine st_op (ev_at rfl rfl (My.row h306) (getMap i64c hx299) (by first | rfl | omega | simp) hi307 hi308 el28) rfl rfl rfl ?_
              refine st_op (ev_atL rfl (My.row h306) (getMap i64c hx299) one3 rfl) rfl rfl rfl ?_
              refine st_call rfl rfl rfl ent35 rfl rfl rfl ?_
              have hx310 : Ext H266 H303 := (Ext.trans hx295 hx304)
              have h309 := My.ext h274 hx310
              obtain ⟨_, H312, hs311, hs311v, hx313⟩ := conf_Has_spec H303 A7 r11 c8 (My.row h309) (My.capF h309 (by first | omega | (simp only [List.length_append, List.length_cons, List.length_nil, List.length_map, List.length_set, List.length_replicate, Spec.bytesOf_length]; omega) | (simp; omega))) (by first | omega | (simp only [List.length_append, List.length_cons, List.length_nil, List.length_map, List.length_set, List.length_replicate, Spec.bytesOf_length]; omega) | (simp; omega)) x298
              rw [hs311v] at hs311; clear hs311v
              refine ⟨_, H312, hs311, ?_⟩
              have H312n : H303.next ≤ H312.next := hx313.1
              refine st_op (ev_move rfl) rfl rfl rfl ?_
              refine st_bool 79 rfl (fun hb314 => ?_) (fun hb314 => ?_)
              ·
                have hb314 := of_decide_eq_true hb314
                refine st_skip rfl rfl rfl ?_
                refine st_skip rfl rfl rfl ?_
                refine st_skip rfl rfl rfl ?_
                refine st_skip rfl rfl rfl ?_
                refine st_skip rfl rfl rfl ?_
                refine st_skip rfl rfl rfl ?_
                refine st_op (ev_pickT rfl rfl) rfl rfl rfl ?_
                refine st_op (ev_pickT rfl rfl) rfl rfl rfl ?_
                try show aw _ _ _ _ _ _
                refine aw_cond (t := true) rfl ?_
                try show aw _ _ _ _ _ _
                refine aw_seq ?_
                refine aw_reg ?_
                refine st_op (ev_assign rfl) rfl rfl rfl ?_
                try show aw _ _ _ _ _ _
                refine aw_ret ?_
                have hx315 : Ext H H312 := (Ext.trans (Ext.trans (Ext.trans (Ext.trans (Ext.trans (Ext.trans (Ext.trans (Ext.trans hx6 hx16) hx258) hx267) hx279) hx287) hxl291) hx304) hx313)
                have hres : true = true := by rfl
                exact ⟨.bool true, rfl, by rw [hres], hx315⟩
              ·
                have hb314 := of_decide_eq_false hb314
                refine st_op (ev_move rfl) rfl rfl rfl ?_
                refine st_op (ev_move rfl) rfl rfl rfl ?_
                refine st_op (ev_move rfl) rfl rfl rfl ?_
                have h316 := My.ext h306 hx313
                have hi317 : 0 ≤ ((i : Int) : Int) := by omega
                have hi318 : ((i : Int) : Int) < ((r263.length : Nat) : Int) := by first | omega | (simp only [List.length_append, List.length_cons, List.length_nil, List.length_map, List.length_set, List.length_replicate, Spec.bytesOf_length]; omega) | (simp; omega)
                refine st_op (ev_at rfl rfl (My.row h316) (getMap i64c hx299) (by first | rfl | omega | simp) hi317 hi318 el28) rfl rfl rfl ?_
                refine st_op (ev_atL rfl (My.row h316) (getMap i64c hx299) one3 rfl) rfl rfl rfl ?_
                refine st_call rfl rfl rfl ent35 rfl rfl rfl ?_
                have hx320 : Ext H278 H312 := (Ext.trans (Ext.trans hx301 hx304) hx313)
                have h319 := My.ext h282 hx320
                obtain ⟨_, H322, hs321, hs321v, hx323⟩ := conf_Has_spec H312 A17 z23 c18 (My.row h319) (My.capF h319 (by first | omega | (simp only [List.length_append, List.length_cons, List.length_nil, List.length_map, List.length_set, List.length_replicate, Spec.bytesOf_length]; omega) | (simp; omega))) (by first | omega | (simp only [List.length_append, List.length_cons, List.length_nil, List.length_map, List.length_set, List.length_replicate, Spec.bytesOf_length]; omega) | (simp; omega)) x298
                rw [hs321v] at hs321; clear hs321v
                refine ⟨_, H322, hs321, ?_⟩
                have H322n : H312.next ≤ H322.next := hx323.1
                refine st_op (ev_pickF rfl rfl) rfl rfl rfl ?_
                refine st_op (ev_pickT rfl rfl) rfl rfl rfl ?_
                try show aw _ _ _ _ _ _
                by_cases hc324 : (decide (x298 ∈ z23)) = true
                · refine aw_condT hc324 rfl ?_
                  try show aw _ _ _ _ _ _
                  have hc324 := of_decide_eq_true hc324
                  refine aw_seq ?_
                  refine aw_reg ?_
                  refine st_op (ev_assign rfl) rfl rfl rfl ?_
                  try show aw _ _ _ _ _ _
                  refine aw_ret ?_
                  have hx325 : Ext H H322 := (Ext.trans (Ext.trans (Ext.trans (Ext.trans (Ext.trans (Ext.trans (Ext.trans (Ext.trans (Ext.trans hx6 hx16) hx258) hx267) hx279) hx287) hxl291) hx304) hx313) hx323)
                  have hres : true = true := by rfl
                  exact ⟨.bool true, rfl, by rw [hres], hx325⟩
                · rw [Bool.not_eq_true] at hc324; refine aw_condF hc324 rfl ?_
                  try show aw _ _ _ _ _ _
                  have hc324 := of_decide_eq_false hc324
                  refine aw_skip ?_
                  try show aw _ _ _ _ _ _
                  refine aw_reg ?_
                  refine st_op (ev_move rfl) rfl rfl rfl ?_
                  refine st_op (ev_int64 (c := (i : Int) + 1) rfl rfl rfl (by omega) (by omega)) rfl rfl rfl ?_
                  refine st_op (ev_assign rfl) rfl rfl rfl ?_
                  try show aw _ _ _ _ _ _
                  have hx326 : Ext H286 H322 := (Ext.trans (Ext.trans (Ext.trans hxl291 hx304) hx313) hx323)
                  refine aw_keep [10, 11, 13, 14, 15] (l' := (.cons 10 (.slice A7 r11.length c8) (.cons 11 (.slice A17 z23.length c18) (.cons 13 (.slice A259 r263.length c260) (.cons 14 (.slice A268 r272.length c269) (.cons 15 (.int .i64 ((i : Int) + 1)) .nil)))))) (by repeat (first | exact Up.done | refine Up.then ?_ | refine Up.inBlock ?_)) rfl ?_
                  exact ih292 (i + 1, H322) ⟨(show (i + 1) ≤ r263.length from (by omega)), (show ∀ x, x ∈ r263.take (i + 1) → ¬ (x ∈ r272 ∧ (x ∈ r11 ∨ x ∈ z23)) from (fun x hx => by rw [List.take_add_one, hx299, List.mem_append] at hx; rcases hx with hx | hx; exact hno x hx; simp only [Option.toList_some, List.mem_singleton] at hx; subst hx; simp_all)), (show Ext H286 H322 from hx326)⟩ (by simp only; omega)
            ·
              have hb305 := of_decide_eq_false hb305
              refine st_skip rfl rfl rfl ?_
              refine st_skip rfl rfl rfl ?_
              refine st_skip rfl rfl rfl ?_
              refine st_skip rfl rfl rfl ?_
              refine st_skip rfl rfl rfl ?_
              refine st_skip rfl rfl rfl ?_
              refine st_skip rfl rfl rfl ?_
              refine st_skip rfl rfl rfl ?_
              refine st_skip rfl rfl rfl ?_
              refine st_skip rfl rfl rfl ?_
              refine st_skip rfl rfl rfl ?_
              refine st_skip rfl rfl rfl ?_
              refine st_skip rfl rfl rfl ?_
              refine st_skip rfl rfl rfl ?_
              refine st_op (ev_pickF rfl rfl) rfl rfl rfl ?_
              try show aw _ _ _ _ _ _
              refine aw_cond (t := false) rfl ?_
              try show aw _ _ _ _ _ _
              refine aw_skip ?_
              try show aw _ _ _ _ _ _
              refine aw_reg ?_
              refine st_op (ev_move rfl) rfl rfl rfl ?_
              refine st_op (ev_int64 (c := (i : Int) + 1) rfl rfl rfl (by omega) (by omega)) rfl rfl rfl ?_
              refine st_op (ev_assign rfl) rfl rfl rfl ?_
              try show aw _ _ _ _ _ _
              have hx327 : Ext H286 H303 := (Ext.trans hxl291 hx304)
              refine aw_keep [10, 11, 13, 14, 15] (l' := (.cons 10 (.slice A7 r11.length c8) (.cons 11 (.slice A17 z23.length c18) (.cons 13 (.slice A259 r263.length c260) (.cons 14 (.slice A268 r272.length c269) (.cons 15 (.int .i64 ((i : Int) + 1)) .nil)))))) (by repeat (first | exact Up.done | refine Up.then ?_ | refine Up.inBlock ?_)) rfl ?_
              exact ih292 (i + 1, H303) ⟨(show (i + 1) ≤ r263.length from (by omega)), (show ∀ x, x ∈ r263.take (i + 1) → ¬ (x ∈ r272 ∧ (x ∈ r11 ∨ x ∈ z23)) from (fun x hx => by rw [List.take_add_one, hx299, List.mem_append] at hx; rcases hx with hx | hx; exact hno x hx; simp only [Option.toList_some, List.mem_singleton] at hx; subst hx; simp_all)), (show Ext H286 H303 from hx327)⟩ (by simp only; omega)
          · rw [Bool.not_eq_true] at hc293; refine aw_condF hc293 rfl ?_
            try show aw _ _ _ _ _ _
            have hc293 := of_decide_eq_false hc293
            refine aw_exit ?_
            try show aw _ _ _ _ _ _
            refine aw_seq ?_
            refine aw_reg ?_
            refine st_op (ev_assign rfl) rfl rfl rfl ?_
            try show aw _ _ _ _ _ _
            refine aw_ret ?_
            have hx328 : Ext H Hl290 := (Ext.trans (Ext.trans (Ext.trans (Ext.trans (Ext.trans (Ext.trans hx6 hx16) hx258) hx267) hx279) hx287) hxl291)
            have hres : true = false := by exfalso; obtain ⟨x, ha, hb, hl⟩ := Spec.meet_law (l := r11) (m := z23) (a := r263) (b := r272) (by first | exact Spec.add_close (by assumption) (by assumption) | exact Spec.rem_close (by assumption) (by assumption) | exact .inl rfl) (by first | exact Spec.maj_says (by assumption) | simp_all) (by first | exact Spec.maj_says (by assumption) | simp_all); exact hno x (by rw [List.take_of_length_le (by omega)]; exact ha) ⟨hb, hl⟩
            exact ⟨.bool false, rfl, by rw [hres], hx328⟩

end Go.AM
