/- Part of a machine of its own for this claim: the program's code over memory without draws. -/
import Derived.Test.YtfodghhmglbapaaAmPNet
import Derived.Test.YtfodghhmglbapaaAmPCf3
import Derived.Test.YtfodghhmglbapaaAmD
import Derived.Test.YtfodghhmglbapaaAmE
import Derived.Test.YtfodghhmglbapaaProg
import Derived.KernelRfl
set_option linter.unusedVariables false
set_option linter.unusedSimpArgs false
set_option linter.unnecessarySimpa false
set_option linter.unusedVariables false
set_option linter.unusedSimpArgs false
set_option linter.unnecessarySimpa false
namespace Go.AM
open Go Go.Proofs

noncomputable def E0 : TypeId → Bool := eqTy Try.prog
theorem E0_ok : EqOk Try.prog E0 := eqTy_ok
theorem mixed : Try.prog.follows .mixedOrders = true := by kernel_rfl

noncomputable def X0 (f : FuncId) : List Tmp := (bif_ (Nat.ble 34 f) (bif_ (Nat.ble 51 f) (bif_ (Nat.ble 59 f) (bif_ (Nat.ble 63 f) (bif_ (Nat.ble 65 f) (bif_ (Nat.ble 66 f) (bif_ (Nat.ble 67 f) [0, 2, 3, 4, 5, 6, 7, 14, 18, 25] [0, 1, 2, 6, 8, 9, 10, 11, 12, 22]) [0, 2]) (bif_ (Nat.ble 64 f) [0, 2, 3, 4, 5, 30] [0, 2, 3, 4, 5, 30])) (bif_ (Nat.ble 61 f) (bif_ (Nat.ble 62 f) [0, 2, 3, 4, 5, 6, 7, 8, 9, 10, 11, 12, 21, 31, 37, 43] [0, 1, 4]) (bif_ (Nat.ble 60 f) [0, 1, 2] [0, 2, 3, 4, 5, 6, 7, 8, 30]))) (bif_ (Nat.ble 55 f) (bif_ (Nat.ble 57 f) (bif_ (Nat.ble 58 f) [0, 1, 2, 4] [0, 1, 2, 6, 7, 16]) (bif_ (Nat.ble 56 f) [0, 2, 4] [0, 1, 2, 3, 4])) (bif_ (Nat.ble 53 f) (bif_ (Nat.ble 54 f) [0, 2, 3, 4, 5, 6, 7, 8, 9, 10, 11, 12, 13, 14, 15, 16, 25, 59, 62, 73, 84] [0, 1, 2, 21]) (bif_ (Nat.ble 52 f) [0, 2, 3, 4, 5, 6, 7, 8, 9, 10, 19, 28, 29, 39, 72] [0, 2, 3, 4, 5])))) (bif_ (Nat.ble 42 f) (bif_ (Nat.ble 46 f) (bif_ (Nat.ble 48 f) (bif_ (Nat.ble 49 f) (bif_ (Nat.ble 50 f) [0, 2, 3, 4, 5, 6, 7, 8, 9, 10, 11, 12, 16, 28, 36, 56, 76] [0, 2, 3, 7, 37]) [0, 2]) (bif_ (Nat.ble 47 f) [0, 2] [0, 1, 4, 5, 7, 10, 11, 12, 13, 20, 21])) (bif_ (Nat.ble 44 f) (bif_ (Nat.ble 45 f) [0, 1, 2, 3, 4, 8] [0, 1, 2, 3, 4, 5, 6, 9, 28]) (bif_ (Nat.ble 43 f) [0, 2, 3, 4, 5, 7, 8, 9, 22] [0, 1, 2, 3, 4, 6, 12, 13, 14, 15, 41]))) (bif_ (Nat.ble 38 f) (bif_ (Nat.ble 40 f) (bif_ (Nat.ble 41 f) [0, 1, 4, 6, 7, 8, 9, 10, 19] [0, 2]) (bif_ (Nat.ble 39 f) [0, 1, 4, 8] [0, 1, 4, 12])) (bif_ (Nat.ble 36 f) (bif_ (Nat.ble 37 f) [0, 1, 2] [0, 1, 4, 5, 10, 14, 26]) (bif_ (Nat.ble 35 f) [0, 1, 4] [0, 2, 3, 4, 5, 6, 7, 8, 9, 10, 50, 82]))))) (bif_ (Nat.ble 17 f) (bif_ (Nat.ble 25 f) (bif_ (Nat.ble 29 f) (bif_ (Nat.ble 31 f) (bif_ (Nat.ble 32 f) (bif_ (Nat.ble 33 f) [0, 2, 3, 4, 5, 6, 7, 8, 9, 13, 24] [0, 1, 2]) [0, 2, 3, 4, 5, 9, 22]) (bif_ (Nat.ble 30 f) [0, 1, 2, 3, 4] [0, 1, 2])) (bif_ (Nat.ble 27 f) (bif_ (Nat.ble 28 f) [0, 2] [0, 2]) (bif_ (Nat.ble 26 f) [0, 1, 4, 5, 10, 14] [0, 1, 4, 5, 6, 17]))) (bif_ (Nat.ble 21 f) (bif_ (Nat.ble 23 f) (bif_ (Nat.ble 24 f) [0, 1, 2, 3, 4, 6, 8, 10, 29, 30, 31, 32, 40, 41, 42, 43, 54] [0, 1, 2, 4, 47, 59, 62]) (bif_ (Nat.ble 22 f) [0, 1, 2] [0, 1, 4, 5, 6, 7, 16])) (bif_ (Nat.ble 19 f) (bif_ (Nat.ble 20 f) [0, 1, 4, 5, 6, 7] [0, 1, 4, 5, 13]) (bif_ (Nat.ble 18 f) [0, 2, 4] [0, 1, 3, 4, 19])))) (bif_ (Nat.ble 8 f) (bif_ (Nat.ble 12 f) (bif_ (Nat.ble 14 f) (bif_ (Nat.ble 15 f) (bif_ (Nat.ble 16 f) [0] [0, 1, 4, 8]) [0, 1, 2, 3, 4]) (bif_ (Nat.ble 13 f) [0, 2, 3, 4, 6, 7, 8, 9, 10, 11, 17, 18, 19, 20, 25, 51] [0, 1, 2, 3, 4, 5, 7, 61, 84, 91, 124, 129])) (bif_ (Nat.ble 10 f) (bif_ (Nat.ble 11 f) [0, 1, 2, 3, 4, 5, 8, 17] [0, 1, 2]) (bif_ (Nat.ble 9 f) [0, 1, 2, 3, 4, 6] [0, 2, 3, 4, 5, 6, 7, 9, 10, 13, 25, 47]))) (bif_ (Nat.ble 4 f) (bif_ (Nat.ble 6 f) (bif_ (Nat.ble 7 f) [0, 2, 3, 4, 5, 8, 14, 18, 27] [0, 1, 2, 6, 7, 8, 9, 10, 11, 12, 13, 14, 17, 27, 32, 63, 65]) (bif_ (Nat.ble 5 f) [0, 1, 2, 3, 4, 5, 8, 20] [0, 2, 3, 4, 5, 8, 17])) (bif_ (Nat.ble 2 f) (bif_ (Nat.ble 3 f) [0, 1, 2, 3, 4, 5, 10, 11, 12, 13, 14, 15, 18, 31, 41, 62, 70, 82, 88] []) [])))))

theorem ElemInfo.mk45 : ∃ i, Try.prog.info? 45 = some i ∧ i.size = 4 ∧ i.bytes = 40 ∧ (i.zero.map fun z => z.cells.size) = some 4 := elemInfo (by kernel_rfl)
theorem ElemInfo.mk5 : ∃ i, Try.prog.info? 5 = some i ∧ i.size = 1 ∧ i.bytes = 1 ∧ (i.zero.map fun z => z.cells.size) = some 1 := elemInfo (by kernel_rfl)
theorem ElemInfo.mk3 : ∃ i, Try.prog.info? 3 = some i ∧ i.size = 1 ∧ i.bytes = 8 ∧ (i.zero.map fun z => z.cells.size) = some 1 := elemInfo (by kernel_rfl)
theorem ElemInfo.mk26 : ∃ i, Try.prog.info? 26 = some i ∧ i.size = 13 ∧ i.bytes = 136 ∧ (i.zero.map fun z => z.cells.size) = some 13 := elemInfo (by kernel_rfl)
theorem ElemInfo.mk2 : ∃ i, Try.prog.info? 2 = some i ∧ i.size = 1 ∧ i.bytes = 8 ∧ (i.zero.map fun z => z.cells.size) = some 1 := elemInfo (by kernel_rfl)
theorem zf2 : ∃ i z, Try.prog.info? 2 = some i ∧ i.zero = some z ∧ z.cells.toList.all flat = true := zeroFlat (by kernel_rfl)
theorem zf26 : ∃ i z, Try.prog.info? 26 = some i ∧ i.zero = some z ∧ z.cells.toList.all flat = true := zeroFlat (by kernel_rfl)
theorem zf3 : ∃ i z, Try.prog.info? 3 = some i ∧ i.zero = some z ∧ z.cells.toList.all flat = true := zeroFlat (by kernel_rfl)
theorem zf45 : ∃ i z, Try.prog.info? 45 = some i ∧ i.zero = some z ∧ z.cells.toList.all flat = true := zeroFlat (by kernel_rfl)
theorem zf5 : ∃ i z, Try.prog.info? 5 = some i ∧ i.zero = some z ∧ z.cells.toList.all flat = true := zeroFlat (by kernel_rfl)
theorem el22 : elemIs Try.prog 22 4 = true := by kernel_rfl
theorem el29 : elemIs Try.prog 29 1 = true := by kernel_rfl
theorem el56 : elemIs Try.prog 56 1 = true := by kernel_rfl
theorem el71 : elemIs Try.prog 71 13 = true := by kernel_rfl
theorem el77 : elemIs Try.prog 77 1 = true := by kernel_rfl
theorem ent10 : enters Try.prog 10 = true := by kernel_rfl
theorem ent12 : enters Try.prog 12 = true := by kernel_rfl
theorem ent14 : enters Try.prog 14 = true := by kernel_rfl
theorem ent16 : enters Try.prog 16 = true := by kernel_rfl
theorem ent17 : enters Try.prog 17 = true := by kernel_rfl
theorem ent18 : enters Try.prog 18 = true := by kernel_rfl
theorem ent19 : enters Try.prog 19 = true := by kernel_rfl
theorem ent20 : enters Try.prog 20 = true := by kernel_rfl
theorem ent21 : enters Try.prog 21 = true := by kernel_rfl
theorem ent22 : enters Try.prog 22 = true := by kernel_rfl
theorem ent23 : enters Try.prog 23 = true := by kernel_rfl
theorem ent25 : enters Try.prog 25 = true := by kernel_rfl
theorem ent26 : enters Try.prog 26 = true := by kernel_rfl
theorem ent27 : enters Try.prog 27 = true := by kernel_rfl
theorem ent28 : enters Try.prog 28 = true := by kernel_rfl
theorem ent29 : enters Try.prog 29 = true := by kernel_rfl
theorem ent30 : enters Try.prog 30 = true := by kernel_rfl
theorem ent31 : enters Try.prog 31 = true := by kernel_rfl
theorem ent32 : enters Try.prog 32 = true := by kernel_rfl
theorem ent36 : enters Try.prog 36 = true := by kernel_rfl
theorem ent37 : enters Try.prog 37 = true := by kernel_rfl
theorem ent38 : enters Try.prog 38 = true := by kernel_rfl
theorem ent39 : enters Try.prog 39 = true := by kernel_rfl
theorem ent40 : enters Try.prog 40 = true := by kernel_rfl
theorem ent41 : enters Try.prog 41 = true := by kernel_rfl
theorem ent42 : enters Try.prog 42 = true := by kernel_rfl
theorem ent43 : enters Try.prog 43 = true := by kernel_rfl
theorem ent44 : enters Try.prog 44 = true := by kernel_rfl
theorem ent46 : enters Try.prog 46 = true := by kernel_rfl
theorem ent47 : enters Try.prog 47 = true := by kernel_rfl
theorem ent48 : enters Try.prog 48 = true := by kernel_rfl
theorem ent49 : enters Try.prog 49 = true := by kernel_rfl
theorem ent55 : enters Try.prog 55 = true := by kernel_rfl
theorem ent56 : enters Try.prog 56 = true := by kernel_rfl
theorem ent57 : enters Try.prog 57 = true := by kernel_rfl
theorem ent58 : enters Try.prog 58 = true := by kernel_rfl
theorem ent59 : enters Try.prog 59 = true := by kernel_rfl
theorem ent60 : enters Try.prog 60 = true := by kernel_rfl
theorem ent61 : enters Try.prog 61 = true := by kernel_rfl
theorem ent66 : enters Try.prog 66 = true := by kernel_rfl
theorem ent9 : enters Try.prog 9 = true := by kernel_rfl
theorem eok22 : ElemOk Try.prog 22 45 4 40 := ⟨Try.underlying22, ElemInfo.mk45⟩
theorem eok29 : ElemOk Try.prog 29 5 1 1 := ⟨Try.underlying29, ElemInfo.mk5⟩
theorem eok56 : ElemOk Try.prog 56 3 1 8 := ⟨Try.underlying56, ElemInfo.mk3⟩
theorem eok71 : ElemOk Try.prog 71 26 13 136 := ⟨Try.underlying71, ElemInfo.mk26⟩
theorem eok77 : ElemOk Try.prog 77 2 1 8 := ⟨Try.underlying77, ElemInfo.mk2⟩
theorem eqt24 : E0 24 = true := by kernel_rfl
theorem eqt45 : E0 45 = true := by kernel_rfl
theorem eqt80 : E0 80 = true := by kernel_rfl
theorem fa24_0 : fieldIs Try.prog 24 0 0 = true := by kernel_rfl
theorem fa24_1 : fieldIs Try.prog 24 1 1 = true := by kernel_rfl
theorem fa24_2 : fieldIs Try.prog 24 2 2 = true := by kernel_rfl
theorem fa24_3 : fieldIs Try.prog 24 3 3 = true := by kernel_rfl
theorem fa26_0 : fieldIs Try.prog 26 0 0 = true := by kernel_rfl
theorem fa26_1 : fieldIs Try.prog 26 1 1 = true := by kernel_rfl
theorem fa26_2 : fieldIs Try.prog 26 2 2 = true := by kernel_rfl
theorem fa26_3 : fieldIs Try.prog 26 3 3 = true := by kernel_rfl
theorem fa26_4 : fieldIs Try.prog 26 4 4 = true := by kernel_rfl
theorem fa26_5 : fieldIs Try.prog 26 5 5 = true := by kernel_rfl
theorem fa26_6 : fieldIs Try.prog 26 6 6 = true := by kernel_rfl
theorem fa26_7 : fieldIs Try.prog 26 7 7 = true := by kernel_rfl
theorem fa26_8 : fieldIs Try.prog 26 8 8 = true := by kernel_rfl
theorem fa26_9 : fieldIs Try.prog 26 9 9 = true := by kernel_rfl
theorem fa45_0 : fieldIs Try.prog 45 0 0 = true := by kernel_rfl
theorem fa45_1 : fieldIs Try.prog 45 1 1 = true := by kernel_rfl
theorem fa45_2 : fieldIs Try.prog 45 2 2 = true := by kernel_rfl
theorem fa45_3 : fieldIs Try.prog 45 3 3 = true := by kernel_rfl
theorem fa73_0 : fieldIs Try.prog 73 0 0 = true := by kernel_rfl
theorem fa80_0 : fieldIs Try.prog 80 0 0 = true := by kernel_rfl
theorem fa80_1 : fieldIs Try.prog 80 1 1 = true := by kernel_rfl
theorem fa82_0 : fieldIs Try.prog 82 0 0 = true := by kernel_rfl
theorem fa82_1 : fieldIs Try.prog 82 1 1 = true := by kernel_rfl
theorem fa82_2 : fieldIs Try.prog 82 2 3 = true := by kernel_rfl
theorem fit24 (a0 : Int) (a1 : Int) (a2 : ByteArray) (a3 : ByteArray) : fitAgg Try.prog 24 [.int .i64 a0, .int .i64 a1, .string a2, .string a3] = true := by kernel_rfl
theorem fit45 (a0 : Int) (a1 : Int) (a2 : Int) (a3 : ByteArray) : fitAgg Try.prog 45 [.int .i64 a0, .int .i64 a1, .int .i64 a2, .string a3] = true := by kernel_rfl
theorem fit80 (a0 : Int) (a1 : Int) : fitAgg Try.prog 80 [.int .i64 a0, .int .i64 a1] = true := by kernel_rfl
theorem isbool4 : isBoolT Try.prog 4 = true := by kernel_rfl
theorem isrow22 : isRow Try.prog (some 22) = true := by kernel_rfl
theorem isrow29 : isRow Try.prog (some 29) = true := by kernel_rfl
theorem isrow56 : isRow Try.prog (some 56) = true := by kernel_rfl
theorem isrow71 : isRow Try.prog (some 71) = true := by kernel_rfl
theorem isrow9 : isRow Try.prog (some 9) = true := by kernel_rfl
theorem isstr_9 : isStr Try.prog 9 = true := by kernel_rfl
theorem many24 : manyB Try.prog 24 4 = true := by kernel_rfl
theorem many26 : manyB Try.prog 26 13 = true := by kernel_rfl
theorem many45 : manyB Try.prog 45 4 = true := by kernel_rfl
theorem many80 : manyB Try.prog 80 2 = true := by kernel_rfl
theorem one2 : oneB Try.prog 2 = true := by kernel_rfl
theorem one22 : oneB Try.prog 22 = true := by kernel_rfl
theorem one3 : oneB Try.prog 3 = true := by kernel_rfl
theorem one4 : oneB Try.prog 4 = true := by kernel_rfl
theorem one5 : oneB Try.prog 5 = true := by kernel_rfl
theorem one71 : oneB Try.prog 71 = true := by kernel_rfl
theorem one9 : oneB Try.prog 9 = true := by kernel_rfl
theorem pl24 : placesOf Try.prog 24 = some [(0, 1), (1, 1), (2, 1), (3, 1)] := by kernel_rfl
theorem pl26 : placesOf Try.prog 26 = some [(0, 1), (1, 1), (2, 1), (3, 1), (4, 1), (5, 1), (6, 1), (7, 1), (8, 1), (9, 4)] := by kernel_rfl
theorem pl45 : placesOf Try.prog 45 = some [(0, 1), (1, 1), (2, 1), (3, 1)] := by kernel_rfl
theorem pl73 : placesOf Try.prog 73 = some [(0, 1)] := by kernel_rfl
theorem pl80 : placesOf Try.prog 80 = some [(0, 1), (1, 1)] := by kernel_rfl
theorem pl82 : placesOf Try.prog 82 = some [(0, 1), (1, 2), (3, 4)] := by kernel_rfl
theorem size2 : sizeIs Try.prog 2 1 = true := by kernel_rfl
theorem size22 : sizeIs Try.prog 22 1 = true := by kernel_rfl
theorem size24 : sizeIs Try.prog 24 4 = true := by kernel_rfl
theorem size26 : sizeIs Try.prog 26 13 = true := by kernel_rfl
theorem size45 : sizeIs Try.prog 45 4 = true := by kernel_rfl
theorem size71 : sizeIs Try.prog 71 1 = true := by kernel_rfl
theorem size9 : sizeIs Try.prog 9 1 = true := by kernel_rfl
theorem slu8_29 : slU8 Try.prog 29 = true := by kernel_rfl
theorem zero24 : ZeroIs Try.prog 24 [.int .i64 0, .int .i64 0, .string (⟨#[]⟩), .string (⟨#[]⟩)] := ⟨.agg #[.int .i64 0, .int .i64 0, .string (⟨#[]⟩), .string (⟨#[]⟩)], by kernel_rfl, rfl, rfl, rfl⟩
theorem zero26 : ZeroIs Try.prog 26 [.int .i64 0, .int .i64 0, .int .i64 0, .int .i64 0, .int .i64 0, .int .i64 0, .int .i64 0, .bool false, .slice none 0 0, .int .i64 0, .int .i64 0, .string (⟨#[]⟩), .string (⟨#[]⟩)] := ⟨.agg #[.int .i64 0, .int .i64 0, .int .i64 0, .int .i64 0, .int .i64 0, .int .i64 0, .int .i64 0, .bool false, .slice none 0 0, .int .i64 0, .int .i64 0, .string (⟨#[]⟩), .string (⟨#[]⟩)], by kernel_rfl, rfl, rfl, rfl⟩
theorem zero45 : ZeroIs Try.prog 45 [.int .i64 0, .int .i64 0, .int .i64 0, .string (⟨#[]⟩)] := ⟨.agg #[.int .i64 0, .int .i64 0, .int .i64 0, .string (⟨#[]⟩)], by kernel_rfl, rfl, rfl, rfl⟩
theorem zero73 : ZeroIs Try.prog 73 [.slice none 0 0] := ⟨.agg #[.slice none 0 0], by kernel_rfl, rfl, rfl, rfl⟩
theorem zero80 : ZeroIs Try.prog 80 [.int .i64 0, .int .i64 0] := ⟨.agg #[.int .i64 0, .int .i64 0], by kernel_rfl, rfl, rfl, rfl⟩
theorem zero82 : ZeroIs Try.prog 82 [.bool false, .int .i64 0, .int .i64 0, .int .i64 0, .int .i64 0, .int .i64 0, .string (⟨#[]⟩)] := ⟨.agg #[.bool false, .int .i64 0, .int .i64 0, .int .i64 0, .int .i64 0, .int .i64 0, .string (⟨#[]⟩)], by kernel_rfl, rfl, rfl, rfl⟩
theorem law25_begun_ran : okF (runF Try.prog X0 1000 40 9 [] Hp.nil) = true := by kernel_rfl
theorem law25_begun_spec (H : Heap) : ∃ v H', Spec Try.prog 9 [] H v H' ∧ (v = .bool true ∧ H' = H) := ⟨_, _, okF_any mixed law25_begun_ran H, rfl, rfl⟩
theorem law1_Cut_spec (H : Heap) (s : ByteArray) (n : Int) (hn : 0 ≤ n ∧ n ≤ 1099511627776) : ∃ v H', Spec Try.prog 39 [.string s, .int .i64 n] H v H' ∧ ((v = .string (cutB s n)) ∧ ((((cutB s n)).size : Int) ≤ n) ∧ (Ext H H')) := by
  refine spec_go2 E0_ok 13 (f := 39) Try.func39 rfl rfl rfl ?_
  refine aw_seq ?_
  refine aw_reg ?_
  refine st_op (ev_assign rfl) rfl rfl rfl ?_
  try show aw _ _ _ _ _ _
  refine aw_seq ?_
  refine aw_seq ?_
  refine aw_reg ?_
  refine st_op (ev_move rfl) rfl rfl rfl ?_
  refine st_op (ev_lenStr rfl Try.underlying9) rfl rfl rfl ?_
  refine st_op (ev_move rfl) rfl rfl rfl ?_
  refine st_op (ev_int rfl rfl rfl) rfl rfl rfl ?_
  try show aw _ _ _ _ _ _
  by_cases hc1 : (decide (((s).size : Int) > n)) = true
  · refine aw_condT hc1 rfl ?_
    try show aw _ _ _ _ _ _
    have hc1 := of_decide_eq_true hc1
    refine aw_seq ?_
    refine aw_reg ?_
    refine st_op (ev_move rfl) rfl rfl rfl ?_
    refine st_op (ev_move rfl) rfl rfl rfl ?_
    refine st_op (ev_slStr Try.underlying9 rfl rfl rfl (bound_int (by omega) (by omega) rfl) rfl) rfl rfl rfl ?_
    refine st_op (ev_assign rfl) rfl rfl rfl ?_
    try show aw _ _ _ _ _ _
    refine aw_ret ?_
    have hres : (cutB s n) = ((s).extract 0 ((n).toNat)) := by first | rw [cutB, if_pos (by omega)] | rw [cutB, if_neg (by omega)]
    exact ⟨.string ((s).extract 0 ((n).toNat)), rfl, by first | (rw [hres]; done) | rw [← hres], (by exact cutB_size hn.1), (Ext.refl H)⟩
  · rw [Bool.not_eq_true] at hc1; refine aw_condF hc1 rfl ?_
    try show aw _ _ _ _ _ _
    have hc1 := of_decide_eq_false hc1
    refine aw_skip ?_
    try show aw _ _ _ _ _ _
    refine aw_seq ?_
    refine aw_reg ?_
    refine st_op (ev_move rfl) rfl rfl rfl ?_
    refine st_op (ev_assign rfl) rfl rfl rfl ?_
    try show aw _ _ _ _ _ _
    refine aw_ret ?_
    have hres : (cutB s n) = s := by first | rw [cutB, if_pos (by omega)] | rw [cutB, if_neg (by omega)]
    exact ⟨.string s, rfl, by first | (rw [hres]; done) | rw [← hres], (by exact cutB_size hn.1), (Ext.refl H)⟩
theorem law21_Entries_spec (H : Heap) (esA : Option Addr) (es : List Entry) (esc : Nat) (hes : Row H esA esc 4 (es.map Entry.cells)) (ces : es.length ≤ esc) (les : es.length ≤ 140737488355328) (n : Int) (hn : 0 ≤ n ∧ n ≤ 1000) : ∃ v H', Spec Try.prog 21 [.slice esA es.length esc, .int .i64 n] H v H' ∧ (∃ rA0 rc0, (v = .slice rA0 (((es.take n.toNat).map Entry.cut).length) rc0) ∧ (My H H' rA0 rc0 4 (((es.take n.toNat).map Entry.cut).map Entry.cells)) ∧ ((((((es.take n.toNat).map Entry.cut)).length : Nat) : Int) ≤ n) ∧ (Ext H H')) := by
  refine spec_go2 E0_ok 32 (f := 21) Try.func21 rfl rfl rfl ?_
  refine aw_seq ?_
  refine aw_reg ?_
  refine st_op (ev_assign rfl) rfl rfl rfl ?_
  try show aw _ _ _ _ _ _
  refine aw_seq ?_
  refine aw_reg ?_
  refine st_op (ev_assign rfl) rfl rfl rfl ?_
  try show aw _ _ _ _ _ _
  refine aw_seq ?_
  refine aw_seq ?_
  refine aw_reg ?_
  refine st_op (ev_assign rfl) rfl rfl rfl ?_
  try show aw _ _ _ _ _ _
  refine aw_block ?_
  have hm2 : My H H none 0 4 (([] : List Entry).map Entry.cells) := .nil
  refine aw_keep [0, 1, 5, 6] (l' := (.cons 0 (.slice esA es.length esc) (.cons 1 (.int .i64 n) (.cons 5 (.slice none 0 0) (.cons 6 (.int .i64 0) .nil))))) (by repeat (first | exact Up.done | refine Up.then ?_ | refine Up.inBlock ?_)) rfl ?_
  refine aw_iter (α := Nat × Option Addr × Nat × List Entry × Heap) (fun a => es.length - a.1) (fun a => (.cons 0 (.slice esA es.length esc) (.cons 1 (.int .i64 n) (.cons 5 (.slice a.2.1 a.2.2.2.1.length a.2.2.1) (.cons 6 (.int .i64 (a.1 : Int)) .nil))))) (fun a => a.2.2.2.2) (fun a => (a.1 ≤ es.length) ∧ ((a.1 : Int) ≤ n) ∧ (a.2.2.2.1 = (es.take a.1).map Entry.cut) ∧ (My H a.2.2.2.2 a.2.1 a.2.2.1 4 (a.2.2.2.1.map Entry.cells)) ∧ (Ext H a.2.2.2.2)) (0, none, 0, ([] : List Entry), H) ⟨(show 0 ≤ es.length from Nat.zero_le _), (show (0 : Int) ≤ n from (by omega)), (show ([] : List Entry) = (es.take 0).map Entry.cut from rfl), (show My H H none 0 4 (([] : List Entry).map Entry.cells) from hm2), (show Ext H H from (Ext.refl H))⟩ ?_
  rintro ⟨i, A, cp, l, Hl1⟩ ⟨hi, hin, hl, hm3, hxl4⟩ ih5
  replace hi : i ≤ es.length := hi
  replace hin : (i : Int) ≤ n := hin
  replace hl : l = (es.take i).map Entry.cut := hl
  replace hm3 : My H Hl1 A cp 4 (l.map Entry.cells) := hm3
  replace hxl4 : Ext H Hl1 := hxl4
  show aw _ _ _ (RL _ (.cons 0 (.slice esA es.length esc) (.cons 1 (.int .i64 n) (.cons 5 (.slice A l.length cp) (.cons 6 (.int .i64 (i : Int)) .nil))))) Hl1 _
  have Hl1n : H.next ≤ Hl1.next := hxl4.1
  have hll : l.length = i := by rw [hl, List.length_map, List.length_take]; omega
  refine aw_seq ?_
  refine aw_seq ?_
  refine aw_reg ?_
  refine st_op (ev_move rfl) rfl rfl rfl ?_
  refine st_op (ev_move rfl) rfl rfl rfl ?_
  refine st_op (ev_lenSl rfl Try.underlying22) rfl rfl rfl ?_
  refine st_op (ev_int rfl rfl rfl) rfl rfl rfl ?_
  refine st_op (ev_move rfl) rfl rfl rfl ?_
  refine st_bool 12 rfl (fun hb6 => ?_) (fun hb6 => ?_)
  ·
    have hb6 := of_decide_eq_true hb6
    refine st_op (ev_move rfl) rfl rfl rfl ?_
    refine st_op (ev_move rfl) rfl rfl rfl ?_
    refine st_op (ev_int rfl rfl rfl) rfl rfl rfl ?_
    refine st_op (ev_pickT rfl rfl) rfl rfl rfl ?_
    try show aw _ _ _ _ _ _
    by_cases hc7 : (decide ((i : Int) < n)) = true
    · refine aw_condT hc7 rfl ?_
      try show aw _ _ _ _ _ _
      have hc7 := of_decide_eq_true hc7
      refine aw_skip ?_
      try show aw _ _ _ _ _ _
      refine aw_seq ?_
      refine aw_block ?_
      refine aw_seq ?_
      refine aw_reg ?_
      refine st_op (ev_move rfl) rfl rfl rfl ?_
      refine st_op (ev_move rfl) rfl rfl rfl ?_
      have h8 := Row.ext hes hxl4
      have hi9 : 0 ≤ ((i : Int) : Int) := by omega
      have hi10 : ((i : Int) : Int) < ((es.length : Nat) : Int) := by first | omega | (simp only [List.length_append, List.length_cons, List.length_nil, List.length_map, List.length_set, List.length_replicate, Spec.bytesOf_length]; omega) | (simp; omega)
      obtain ⟨x11, hx12⟩ : ∃ e, es[i]? = some e := ⟨_, List.getElem?_eq_getElem (by first | omega | (simp only [List.length_append, List.length_cons, List.length_nil, List.length_map, List.length_set, List.length_replicate, Spec.bytesOf_length]; omega) | (simp; omega))⟩
      refine st_op (ev_at rfl rfl h8 (getMap Entry.cells hx12) (by first | rfl | omega | simp) hi9 hi10 el22) rfl rfl rfl ?_
      refine st_op (ev_atN (cs := [.int .i64 x11.index, .int .i64 x11.term, .int .i64 x11.kind, .string x11.data]) rfl h8 (getMap Entry.cells hx12) many45 rfl rfl (by decide)) rfl rfl rfl ?_
      obtain ⟨b13, H14, he15, b13e, H14n_, hB17, f16⟩ := mem_alloc Hl1 zero45
      refine st_op (he15 _ _ _ _ _ _ _) rfl rfl rfl ?_
      have hx18 : Ext Hl1 H14 := Ext.new (by omega) H14n_ f16
      have H14n : Hl1.next ≤ H14.next := hx18.1
      obtain ⟨H19, he20, H19n_, hB21, f22⟩ := mem_store (v := .agg #[.int .i64 x11.index, .int .i64 x11.term, .int .i64 x11.kind, .string x11.data]) (o := 0) (cs' := [.int .i64 x11.index, .int .i64 x11.term, .int .i64 x11.kind, .string x11.data]) 4 rfl rfl size45 hB17 rfl rfl rfl
      refine st_op0 (he20 _ _ _ _ _ _ _ _ _ rfl rfl) rfl rfl ?_
      have hf23 : Fr (fun q => q = b13) H14 H19 := Fr.write H19n_ f22
      have H19n : H14.next ≤ H19.next := hf23.1
      try show aw _ _ _ _ _ _
      refine aw_seq ?_
      refine aw_reg ?_
      refine st_op (ev_fieldAddr rfl fa45_3 (o' := 3) rfl) rfl rfl rfl ?_
      refine st_op (ev_load rfl (lvar_one one9 hB21 rfl)) rfl rfl rfl ?_
      refine st_call rfl rfl rfl ent39 rfl rfl rfl ?_
      obtain ⟨_, H25, hs24, hs24v, hq27, hx26⟩ := law1_Cut_spec H19 x11.data 60 (by decide)
      rw [hs24v] at hs24; clear hs24v
      refine ⟨_, H25, hs24, ?_⟩
      have H25n : H19.next ≤ H25.next := hx26.1
      refine st_op (ev_fieldAddr rfl fa45_3 (o' := 3) rfl) rfl rfl rfl ?_
      have h28 := Ext.blk hx26 (by omega) hB21
      obtain ⟨H29, he30, H29n_, hB31, f32⟩ := mem_store (v := .string (cutB x11.data (60 : Int))) (o := 3) (cs' := [.int .i64 x11.index, .int .i64 x11.term, .int .i64 x11.kind, .string (cutB x11.data (60 : Int))]) 1 rfl rfl size9 h28 rfl rfl rfl
      refine st_op0 (he30 _ _ _ _ _ _ _ _ _ rfl rfl) rfl rfl ?_
      have hf33 : Fr (fun q => q = b13) H25 H29 := Fr.write H29n_ f32
      have H29n : H25.next ≤ H29.next := hf33.1
      try show aw _ _ _ _ _ _
      refine aw_reg ?_
      refine st_op (ev_move rfl) rfl rfl rfl ?_
      refine st_op (ev_load rfl (lvar_part (l := [.int .i64 x11.index, .int .i64 x11.term, .int .i64 x11.kind, .string (cutB x11.data (60 : Int))]) many45 hB31 rfl rfl (by decide))) rfl rfl rfl ?_
      obtain ⟨b34, H35, he36, b34e, H35n_, hm38, f37⟩ := mem_lit H29 (xs := ([.agg #[.int .i64 x11.index, .int .i64 x11.term, .int .i64 x11.kind, .string (cutB x11.data (60 : Int))]] : List Value)) (m := 1) (rows := [[.int .i64 x11.index, .int .i64 x11.term, .int .i64 x11.kind, .string (cutB x11.data (60 : Int))]]) rfl eok22 (by decide) (by decide) zf45 rfl (allLen rfl) rfl
      replace hm38 : My H29 H35 (some ⟨b34, 0, none⟩) 1 4 ([(⟨x11.index, x11.term, x11.kind, (cutB x11.data (60 : Int))⟩ : Entry)].map Entry.cells) := hm38
      refine st_op (he36 _ _ _ _ _ _ _ _ rfl) rfl rfl rfl ?_
      have hx39 : Ext H29 H35 := Ext.new (by omega) H35n_ f37
      have H35n : H29.next ≤ H35.next := hx39.1
      have hx41 : Ext Hl1 H35 := (Ext.trans (Ext.then (Ext.trans (Ext.then hx18 hf23 (fun q hq e => by omega)) hx26) hf33 (fun q hq e => by omega)) hx39)
      have h40 := My.ext hm3 hx41
      obtain ⟨A42, c43, H44, W45, he46, hm47, hf48⟩ := mem_append (f := Entry.cells) (old := l) (new := [(⟨x11.index, x11.term, x11.kind, (cutB x11.data (60 : Int))⟩ : Entry)]) (m := l.length) (mx := 1) (c := cp) (by first | rfl | simp) (by first | rfl | simp) eok22 (by decide) hm3 h40 (by omega) (((My.row hm38)).srcF (by decide) (by first | rfl | simp)) rfl Entry.cells_len Entry.cells_one (by first | omega | (simp only [List.length_append, List.length_cons, List.length_nil, List.length_map, List.length_set, List.length_replicate, Spec.bytesOf_length]; omega) | (simp; omega)) (by first | omega | (simp only [List.length_append, List.length_cons, List.length_nil, List.length_map, List.length_set, List.length_replicate, Spec.bytesOf_length]; omega) | (simp; omega))
      refine st_op (he46 _ _ _ _ _ _ _ _ _ _ rfl rfl isrow22) rfl rfl rfl ?_
      have H44n : H35.next ≤ H44.next := hf48.1
      refine st_op (ev_assign rfl) rfl rfl rfl ?_
      try show aw _ _ _ _ _ _
      refine aw_reg ?_
      refine st_op (ev_move rfl) rfl rfl rfl ?_
      refine st_op (ev_int64 (c := (i : Int) + 1) rfl rfl rfl (by omega) (by omega)) rfl rfl rfl ?_
      refine st_op (ev_assign rfl) rfl rfl rfl ?_
      try show aw _ _ _ _ _ _
      have hx49 : Ext H H44 := (Ext.then (Ext.trans (Ext.then (Ext.trans (Ext.then (Ext.trans hxl4 hx18) hf23 (fun q hq e => by omega)) hx26) hf33 (fun q hq e => by omega)) hx39) hf48 (fun q hq e => by omega))
      refine aw_keep [0, 1, 5, 6] (l' := (.cons 0 (.slice esA es.length esc) (.cons 1 (.int .i64 n) (.cons 5 (.slice A42 ((l ++ [(⟨x11.index, x11.term, x11.kind, (cutB x11.data (60 : Int))⟩ : Entry)]).length) c43) (.cons 6 (.int .i64 ((i : Int) + 1)) .nil))))) (by repeat (first | exact Up.done | refine Up.then ?_ | refine Up.inBlock ?_)) rfl ?_
      exact ih5 (i + 1, A42, c43, (l ++ [(⟨x11.index, x11.term, x11.kind, (cutB x11.data (60 : Int))⟩ : Entry)]), H44) ⟨(show (i + 1) ≤ es.length from (by omega)), (show ((i + 1) : Int) ≤ n from (by omega)), (show (l ++ [(⟨x11.index, x11.term, x11.kind, (cutB x11.data (60 : Int))⟩ : Entry)]) = (es.take (i + 1)).map Entry.cut from (by rw [List.take_add_one, List.map_append, ← hl, hx12]; rfl)), (show My H H44 A42 c43 4 ((l ++ [(⟨x11.index, x11.term, x11.kind, (cutB x11.data (60 : Int))⟩ : Entry)]).map Entry.cells) from hm47), (show Ext H H44 from hx49)⟩ (by simp only; omega)
    · rw [Bool.not_eq_true] at hc7; refine aw_condF hc7 rfl ?_
      try show aw _ _ _ _ _ _
      have hc7 := of_decide_eq_false hc7
      refine aw_exit ?_
      try show aw _ _ _ _ _ _
      refine aw_seq ?_
      refine aw_reg ?_
      refine st_op (ev_move rfl) rfl rfl rfl ?_
      refine st_op (ev_assign rfl) rfl rfl rfl ?_
      try show aw _ _ _ _ _ _
      refine aw_ret ?_
      have hres : ((es.take n.toNat).map Entry.cut) = l := by rw [hl]; congr 1; rw [List.take_eq_take_iff]; omega
      exact ⟨.slice A l.length cp, rfl, A, cp, by first | (rw [hres]; first | done | rfl | simp; done) | rfl, (by rw [hres]; exact hm3), (by rw [List.length_map, List.length_take]; omega), hxl4⟩
  ·
    have hb6 := of_decide_eq_false hb6
    refine st_skip rfl rfl rfl ?_
    refine st_skip rfl rfl rfl ?_
    refine st_skip rfl rfl rfl ?_
    refine st_op (ev_pickF rfl rfl) rfl rfl rfl ?_
    try show aw _ _ _ _ _ _
    refine aw_cond (t := false) rfl ?_
    try show aw _ _ _ _ _ _
    refine aw_exit ?_
    try show aw _ _ _ _ _ _
    refine aw_seq ?_
    refine aw_reg ?_
    refine st_op (ev_move rfl) rfl rfl rfl ?_
    refine st_op (ev_assign rfl) rfl rfl rfl ?_
    try show aw _ _ _ _ _ _
    refine aw_ret ?_
    have hres : ((es.take n.toNat).map Entry.cut) = l := by rw [hl]; congr 1; rw [List.take_eq_take_iff]; omega
    exact ⟨.slice A l.length cp, rfl, A, cp, by first | (rw [hres]; first | done | rfl | simp; done) | rfl, (by rw [hres]; exact hm3), (by rw [List.length_map, List.length_take]; omega), hxl4⟩
theorem law21_Snap_spec (H : Heap) (s_index : Int) (s_term : Int) (s_conf : ByteArray) (s_data : ByteArray) : ∃ v H', Spec Try.prog 22 [.agg #[.int .i64 s_index, .int .i64 s_term, .string s_conf, .string s_data]] H v H' ∧ ((v = .agg #[.int .i64 s_index, .int .i64 s_term, .string ((cutB s_conf 60, cutB s_data 100).1), .string ((cutB s_conf 60, cutB s_data 100).2)]) ∧ (((((cutB s_conf 60, cutB s_data 100)).1.size : Nat) : Int) ≤ 60) ∧ (((((cutB s_conf 60, cutB s_data 100)).2.size : Nat) : Int) ≤ 100) ∧ (Ext H H')) := by
  refine spec_go1 E0_ok 12 (f := 22) Try.func22 rfl rfl rfl ?_
  refine aw_seq ?_
  refine aw_reg ?_
  obtain ⟨b1, H2, he3, b1e, H2n_, hB5, f4⟩ := mem_box (P := Try.prog) H (v := .agg #[.int .i64 s_index, .int .i64 s_term, .string s_conf, .string s_data]) (cs := [.int .i64 s_index, .int .i64 s_term, .string s_conf, .string s_data]) rfl rfl
  refine st_op (he3 _ _ _ _ _ _ _ _ _ rfl) rfl rfl rfl ?_
  have hx6 : Ext H H2 := Ext.new (by omega) H2n_ f4
  have H2n : H.next ≤ H2.next := hx6.1
  obtain ⟨b7, H8, he9, b7e, H8n_, hB11, f10⟩ := mem_alloc H2 zero24
  refine st_op (he9 _ _ _ _ _ _ _) rfl rfl rfl ?_
  have hx12 : Ext H2 H8 := Ext.new (by omega) H8n_ f10
  have H8n : H2.next ≤ H8.next := hx12.1
  try show aw _ _ _ _ _ _
  refine aw_seq ?_
  refine aw_marks (fun b => b < H8.next) [(false, false), (false, false), (false, true), (false, false), (true, false), (false, false), (false, false), (false, false), (false, false), (false, false)] mixed (by kernel_rfl) (by kernel_rfl) ?_
  refine sm_op (ev_fieldAddr rfl fa24_2 (o' := 2) rfl) rfl rfl rfl ?_
  have h13 := Ext.blk hx12 (by omega) hB5
  refine sm_op (ev_load rfl (lvar_one one9 h13 rfl)) rfl rfl rfl ?_
  refine sm_call rfl rfl rfl ent39 rfl rfl rfl ?_
  obtain ⟨_, H15, hs14, hs14v, hq17, hx16⟩ := law1_Cut_spec H8 s_conf 60 (by decide)
  rw [hs14v] at hs14; clear hs14v
  refine ⟨_, H15, hs14, (fun _ b hb => hx16.2 b (by omega)), ?_⟩
  have H15n : H8.next ≤ H15.next := hx16.1
  refine sm_op (ev_fieldAddr rfl fa24_3 (o' := 3) rfl) rfl rfl rfl ?_
  have h18 := Ext.blk hx16 (by omega) h13
  refine sm_read (ev_load rfl (lvar_one one9 h18 rfl)) rfl rfl rfl (fun b hb => by cases hb; dsimp only; omega) ?_
  refine sm_call rfl rfl rfl ent39 rfl rfl rfl ?_
  obtain ⟨_, H20, hs19, hs19v, hq22, hx21⟩ := law1_Cut_spec H15 s_data 100 (by decide)
  rw [hs19v] at hs19; clear hs19v
  refine ⟨_, H20, hs19, (fun _ b hb => hx21.2 b (by omega)), ?_⟩
  have H20n : H15.next ≤ H20.next := hx21.1
  refine sm_op (ev_fieldAddr rfl fa24_2 (o' := 2) rfl) rfl rfl rfl ?_
  have h23 := Ext.blk hx21 (by omega) h18
  obtain ⟨H24, he25, H24n_, hB26, f27⟩ := mem_store (v := .string (cutB s_conf (60 : Int))) (o := 2) (cs' := [.int .i64 s_index, .int .i64 s_term, .string (cutB s_conf (60 : Int)), .string s_data]) 1 rfl rfl size9 h23 rfl rfl rfl
  refine sm_op0 (he25 _ _ _ _ _ _ _ _ _ rfl rfl) rfl rfl ?_
  have hf28 : Fr (fun q => q = b1) H20 H24 := Fr.write H24n_ f27
  have H24n : H20.next ≤ H24.next := hf28.1
  refine sm_op (ev_fieldAddr rfl fa24_3 (o' := 3) rfl) rfl rfl rfl ?_
  obtain ⟨H29, he30, H29n_, hB31, f32⟩ := mem_store (v := .string (cutB s_data (100 : Int))) (o := 3) (cs' := [.int .i64 s_index, .int .i64 s_term, .string (cutB s_conf (60 : Int)), .string (cutB s_data (100 : Int))]) 1 rfl rfl size9 hB26 rfl rfl rfl
  refine sm_op0 (he30 _ _ _ _ _ _ _ _ _ rfl rfl) rfl rfl ?_
  have hf33 : Fr (fun q => q = b1) H24 H29 := Fr.write H29n_ f32
  have H29n : H24.next ≤ H29.next := hf33.1
  try show aw _ _ _ _ _ _
  refine aw_seq ?_
  refine aw_reg ?_
  refine st_op (ev_load rfl (lvar_part (l := [.int .i64 s_index, .int .i64 s_term, .string (cutB s_conf (60 : Int)), .string (cutB s_data (100 : Int))]) many24 hB31 rfl rfl (by decide))) rfl rfl rfl ?_
  have hx35 : Ext H8 H20 := (Ext.trans hx16 hx21)
  have h34 := Ext.blk hx35 (by omega) hB11
  have h36 := Fr.blk hf28 (by omega) (fun e => (by omega)) h34
  have h37 := Fr.blk hf33 (by omega) (fun e => (by omega)) h36
  obtain ⟨H38, he39, H38n_, hB40, f41⟩ := mem_store (v := .agg #[.int .i64 s_index, .int .i64 s_term, .string (cutB s_conf (60 : Int)), .string (cutB s_data (100 : Int))]) (o := 0) (cs' := [.int .i64 s_index, .int .i64 s_term, .string (cutB s_conf (60 : Int)), .string (cutB s_data (100 : Int))]) 4 rfl rfl size24 h37 rfl rfl rfl
  refine st_op0 (he39 _ _ _ _ _ _ _ _ _ rfl rfl) rfl rfl ?_
  have hf42 : Fr (fun q => q = b7) H29 H38 := Fr.write H38n_ f41
  have H38n : H29.next ≤ H38.next := hf42.1
  try show aw _ _ _ _ _ _
  refine aw_ret ?_
  have hx43 : Ext H H38 := (Ext.then (Ext.then (Ext.then (Ext.trans (Ext.trans (Ext.trans hx6 hx12) hx16) hx21) hf28 (fun q hq e => by omega)) hf33 (fun q hq e => by omega)) hf42 (fun q hq e => by omega))
  have hres : (cutB s_conf 60, cutB s_data 100) = ((cutB s_conf (60 : Int)), (cutB s_data (100 : Int))) := by rfl
  exact ⟨.agg #[.int .i64 s_index, .int .i64 s_term, .string (cutB s_conf (60 : Int)), .string (cutB s_data (100 : Int))], (resA_of (resL_cell rfl (lvar_part (l := [.int .i64 s_index, .int .i64 s_term, .string (cutB s_conf (60 : Int)), .string (cutB s_data (100 : Int))]) many24 hB40 rfl rfl (by decide)) resL_nil) rfl), by first | (rw [hres]; done) | rw [← hres], (by exact cutB_size (by decide)), (by exact cutB_size (by decide)), hx43⟩
theorem law24_Cut_spec (H : Heap) (kind : Int) (from_ : Int) (to_ : Int) (term : Int) (index : Int) (logterm : Int) (commit : Int) (yes : Bool) (esA : Option Addr) (es : List Entry) (esc : Nat) (hes : Row H esA esc 4 (es.map Entry.cells)) (ces : es.length ≤ esc) (les : es.length ≤ 140737488355328) (s_index : Int) (s_term : Int) (s_conf : ByteArray) (s_data : ByteArray) : ∃ v H', Spec Try.prog 10 [.agg #[.int .i64 kind, .int .i64 from_, .int .i64 to_, .int .i64 term, .int .i64 index, .int .i64 logterm, .int .i64 commit, .bool yes, .slice esA es.length esc, .int .i64 s_index, .int .i64 s_term, .string s_conf, .string s_data]] H v H' ∧ (∃ rA8 rc8, (v = .agg #[.int .i64 kind, .int .i64 from_, .int .i64 to_, .int .i64 term, .int .i64 index, .int .i64 logterm, .int .i64 commit, .bool yes, .slice rA8 (((((es.take 10).map Entry.cut), cutB s_conf 60, cutB s_data 100).1).length) rc8, .int .i64 s_index, .int .i64 s_term, .string ((((es.take 10).map Entry.cut), cutB s_conf 60, cutB s_data 100).2.1), .string ((((es.take 10).map Entry.cut), cutB s_conf 60, cutB s_data 100).2.2)]) ∧ (My H H' rA8 rc8 4 (((((es.take 10).map Entry.cut), cutB s_conf 60, cutB s_data 100).1).map Entry.cells)) ∧ (((((((es.take 10).map Entry.cut), cutB s_conf 60, cutB s_data 100)).1.length : Nat) : Int) ≤ 10) ∧ (((((((es.take 10).map Entry.cut), cutB s_conf 60, cutB s_data 100)).2.1.size : Nat) : Int) ≤ 60) ∧ (((((((es.take 10).map Entry.cut), cutB s_conf 60, cutB s_data 100)).2.2.size : Nat) : Int) ≤ 100) ∧ (Ext H H')) := by
  refine spec_go1 E0_ok 12 (f := 10) Try.func10 rfl rfl rfl ?_
  refine aw_seq ?_
  refine aw_reg ?_
  obtain ⟨b1, H2, he3, b1e, H2n_, hB5, f4⟩ := mem_box (P := Try.prog) H (v := .agg #[.int .i64 kind, .int .i64 from_, .int .i64 to_, .int .i64 term, .int .i64 index, .int .i64 logterm, .int .i64 commit, .bool yes, .slice esA es.length esc, .int .i64 s_index, .int .i64 s_term, .string s_conf, .string s_data]) (cs := [.int .i64 kind, .int .i64 from_, .int .i64 to_, .int .i64 term, .int .i64 index, .int .i64 logterm, .int .i64 commit, .bool yes, .slice esA es.length esc, .int .i64 s_index, .int .i64 s_term, .string s_conf, .string s_data]) rfl rfl
  refine st_op (he3 _ _ _ _ _ _ _ _ _ rfl) rfl rfl rfl ?_
  have hx6 : Ext H H2 := Ext.new (by omega) H2n_ f4
  have H2n : H.next ≤ H2.next := hx6.1
  obtain ⟨b7, H8, he9, b7e, H8n_, hB11, f10⟩ := mem_alloc H2 zero26
  refine st_op (he9 _ _ _ _ _ _ _) rfl rfl rfl ?_
  have hx12 : Ext H2 H8 := Ext.new (by omega) H8n_ f10
  have H8n : H2.next ≤ H8.next := hx12.1
  try show aw _ _ _ _ _ _
  refine aw_seq ?_
  refine aw_reg ?_
  refine st_op (ev_fieldAddr rfl fa26_8 (o' := 8) rfl) rfl rfl rfl ?_
  have h13 := Ext.blk hx12 (by omega) hB5
  refine st_op (ev_load rfl (lvar_one one22 h13 rfl)) rfl rfl rfl ?_
  refine st_call rfl rfl rfl ent21 rfl rfl rfl ?_
  have hx15 : Ext H H8 := (Ext.trans hx6 hx12)
  have h14 := Row.ext hes hx15
  obtain ⟨_, H17, hs16, A19, c20, hs16v, hm21, hq22, hx18⟩ := law21_Entries_spec H8 esA es esc h14 ces (by first | omega | (simp only [List.length_append, List.length_cons, List.length_nil, List.length_map, List.length_set, List.length_replicate, Spec.bytesOf_length]; omega) | (simp; omega)) 10 (by decide)
  rw [hs16v] at hs16; clear hs16v
  refine ⟨_, H17, hs16, ?_⟩
  have H17n : H8.next ≤ H17.next := hx18.1
  refine st_op (ev_fieldAddr rfl fa26_8 (o' := 8) rfl) rfl rfl rfl ?_
  have h23 := Ext.blk hx18 (by omega) h13
  obtain ⟨H24, he25, H24n_, hB26, f27⟩ := mem_store (v := .slice A19 (((es.take (10 : Int).toNat).map Entry.cut).length) c20) (o := 8) (cs' := [.int .i64 kind, .int .i64 from_, .int .i64 to_, .int .i64 term, .int .i64 index, .int .i64 logterm, .int .i64 commit, .bool yes, .slice A19 (((es.take (10 : Int).toNat).map Entry.cut).length) c20, .int .i64 s_index, .int .i64 s_term, .string s_conf, .string s_data]) 1 rfl rfl size22 h23 rfl rfl rfl
  refine st_op0 (he25 _ _ _ _ _ _ _ _ _ rfl rfl) rfl rfl ?_
  have hf28 : Fr (fun q => q = b1) H17 H24 := Fr.write H24n_ f27
  have H24n : H17.next ≤ H24.next := hf28.1
  try show aw _ _ _ _ _ _
  refine aw_seq ?_
  refine aw_reg ?_
  refine st_op (ev_fieldAddr rfl fa26_9 (o' := 9) rfl) rfl rfl rfl ?_
  refine st_op (ev_load rfl (lvar_part (l := [.int .i64 s_index, .int .i64 s_term, .string s_conf, .string s_data]) many24 hB26 rfl rfl (by decide))) rfl rfl rfl ?_
  refine st_call rfl rfl rfl ent22 rfl rfl rfl ?_
  obtain ⟨_, H30, hs29, hs29v, hq32, hq33, hx31⟩ := law21_Snap_spec H24 s_index s_term s_conf s_data
  rw [hs29v] at hs29; clear hs29v
  refine ⟨_, H30, hs29, ?_⟩
  have H30n : H24.next ≤ H30.next := hx31.1
  refine st_op (ev_fieldAddr rfl fa26_9 (o' := 9) rfl) rfl rfl rfl ?_
  have h34 := Ext.blk hx31 (by omega) hB26
  obtain ⟨H35, he36, H35n_, hB37, f38⟩ := mem_store (v := .agg #[.int .i64 s_index, .int .i64 s_term, .string ((cutB s_conf 60, cutB s_data 100).1), .string ((cutB s_conf 60, cutB s_data 100).2)]) (o := 9) (cs' := [.int .i64 kind, .int .i64 from_, .int .i64 to_, .int .i64 term, .int .i64 index, .int .i64 logterm, .int .i64 commit, .bool yes, .slice A19 (((es.take (10 : Int).toNat).map Entry.cut).length) c20, .int .i64 s_index, .int .i64 s_term, .string ((cutB s_conf 60, cutB s_data 100).1), .string ((cutB s_conf 60, cutB s_data 100).2)]) 4 rfl rfl size24 h34 rfl rfl rfl
  refine st_op0 (he36 _ _ _ _ _ _ _ _ _ rfl rfl) rfl rfl ?_
  have hf39 : Fr (fun q => q = b1) H30 H35 := Fr.write H35n_ f38
  have H35n : H30.next ≤ H35.next := hf39.1
  try show aw _ _ _ _ _ _
  refine aw_seq ?_
  refine aw_reg ?_
  refine st_op (ev_load rfl (lvar_part (l := [.int .i64 kind, .int .i64 from_, .int .i64 to_, .int .i64 term, .int .i64 index, .int .i64 logterm, .int .i64 commit, .bool yes, .slice A19 (((es.take (10 : Int).toNat).map Entry.cut).length) c20, .int .i64 s_index, .int .i64 s_term, .string ((cutB s_conf 60, cutB s_data 100).1), .string ((cutB s_conf 60, cutB s_data 100).2)]) many26 hB37 rfl rfl (by decide))) rfl rfl rfl ?_
  have h40 := Ext.blk hx18 (by omega) hB11
  have h41 := Fr.blk hf28 (by omega) (fun e => (by omega)) h40
  have h42 := Ext.blk hx31 (by omega) h41
  have h43 := Fr.blk hf39 (by omega) (fun e => (by omega)) h42
  obtain ⟨H44, he45, H44n_, hB46, f47⟩ := mem_store (v := .agg #[.int .i64 kind, .int .i64 from_, .int .i64 to_, .int .i64 term, .int .i64 index, .int .i64 logterm, .int .i64 commit, .bool yes, .slice A19 (((es.take (10 : Int).toNat).map Entry.cut).length) c20, .int .i64 s_index, .int .i64 s_term, .string ((cutB s_conf 60, cutB s_data 100).1), .string ((cutB s_conf 60, cutB s_data 100).2)]) (o := 0) (cs' := [.int .i64 kind, .int .i64 from_, .int .i64 to_, .int .i64 term, .int .i64 index, .int .i64 logterm, .int .i64 commit, .bool yes, .slice A19 (((es.take (10 : Int).toNat).map Entry.cut).length) c20, .int .i64 s_index, .int .i64 s_term, .string ((cutB s_conf 60, cutB s_data 100).1), .string ((cutB s_conf 60, cutB s_data 100).2)]) 13 rfl rfl size26 h43 rfl rfl rfl
  refine st_op0 (he45 _ _ _ _ _ _ _ _ _ rfl rfl) rfl rfl ?_
  have hf48 : Fr (fun q => q = b7) H35 H44 := Fr.write H44n_ f47
  have H44n : H35.next ≤ H44.next := hf48.1
  try show aw _ _ _ _ _ _
  refine aw_ret ?_
  have h49 := My.frS hm21 hf28 (fun q hq e => ⟨_, e ▸ h23, show (0 : Nat) ≠ 4 by decide⟩)
  have h50 := My.ext h49 hx31
  have h51 := My.frS h50 hf39 (fun q hq e => ⟨_, e ▸ h34, show (0 : Nat) ≠ 4 by decide⟩)
  have h52 := My.frS h51 hf48 (fun q hq e => ⟨_, e ▸ h43, show (0 : Nat) ≠ 4 by decide⟩)
  have hx53 : Ext H H44 := (Ext.then (Ext.then (Ext.trans (Ext.then (Ext.trans hx15 hx18) hf28 (fun q hq e => by omega)) hx31) hf39 (fun q hq e => by omega)) hf48 (fun q hq e => by omega))
  have hres : (((es.take 10).map Entry.cut), cutB s_conf 60, cutB s_data 100) = (((es.take (10 : Int).toNat).map Entry.cut), ((cutB s_conf 60, cutB s_data 100).1), ((cutB s_conf 60, cutB s_data 100).2)) := by rfl
  exact ⟨.agg #[.int .i64 kind, .int .i64 from_, .int .i64 to_, .int .i64 term, .int .i64 index, .int .i64 logterm, .int .i64 commit, .bool yes, .slice A19 (((es.take (10 : Int).toNat).map Entry.cut).length) c20, .int .i64 s_index, .int .i64 s_term, .string ((cutB s_conf 60, cutB s_data 100).1), .string ((cutB s_conf 60, cutB s_data 100).2)], (resA_of (resL_cell rfl (lvar_part (l := [.int .i64 kind, .int .i64 from_, .int .i64 to_, .int .i64 term, .int .i64 index, .int .i64 logterm, .int .i64 commit, .bool yes, .slice A19 (((es.take (10 : Int).toNat).map Entry.cut).length) c20, .int .i64 s_index, .int .i64 s_term, .string ((cutB s_conf 60, cutB s_data 100).1), .string ((cutB s_conf 60, cutB s_data 100).2)]) many26 hB46 rfl rfl (by decide)) resL_nil) rfl), A19, c20, by first | (rw [hres]; first | done | rfl | simp; done) | rfl, (by rw [hres]; exact (My.older h52 (by omega))), (by rw [List.length_map, List.length_take]; omega), (by exact cutB_size (by decide)), (by exact cutB_size (by decide)), hx53⟩
theorem ref21_id_spec (H : Heap) (n : Int) : ∃ v H', Spec Try.prog 27 [.int .i64 n] H v H' ∧ ((v = .bool (decide (1 ≤ n ∧ n ≤ 7))) ∧ (Ext H H')) := by
  refine spec_go1 E0_ok 9 (f := 27) Try.func27 rfl rfl rfl ?_
  refine aw_seq ?_
  refine aw_reg ?_
  refine st_op (ev_assign rfl) rfl rfl rfl ?_
  try show aw _ _ _ _ _ _
  refine aw_seq ?_
  refine aw_reg ?_
  refine st_op (ev_move rfl) rfl rfl rfl ?_
  refine st_op (ev_int rfl rfl rfl) rfl rfl rfl ?_
  refine st_op (ev_move rfl) rfl rfl rfl ?_
  refine st_bool 5 rfl (fun hb1 => ?_) (fun hb1 => ?_)
  ·
    have hb1 := of_decide_eq_true hb1
    refine st_op (ev_move rfl) rfl rfl rfl ?_
    refine st_op (ev_int rfl rfl rfl) rfl rfl rfl ?_
    refine st_op (ev_pickT rfl rfl) rfl rfl rfl ?_
    refine st_op (ev_assign rfl) rfl rfl rfl ?_
    try show aw _ _ _ _ _ _
    refine aw_ret ?_
    have hres : (decide (1 ≤ n ∧ n ≤ 7)) = (decide (n ≤ 7)) := by rw [Bool.eq_iff_iff]; simp only [decide_eq_true_eq, Bool.false_eq_true, iff_false]; omega
    exact ⟨.bool (decide (n ≤ 7)), rfl, by first | (rw [hres]; done) | rw [← hres], (Ext.refl H)⟩
  ·
    have hb1 := of_decide_eq_false hb1
    refine st_skip rfl rfl rfl ?_
    refine st_skip rfl rfl rfl ?_
    refine st_op (ev_pickF rfl rfl) rfl rfl rfl ?_
    refine st_op (ev_assign rfl) rfl rfl rfl ?_
    try show aw _ _ _ _ _ _
    refine aw_ret ?_
    have hres : (decide (1 ≤ n ∧ n ≤ 7)) = false := by rw [Bool.eq_iff_iff]; simp only [decide_eq_true_eq, Bool.false_eq_true, iff_false]; omega
    exact ⟨.bool false, rfl, by first | (rw [hres]; done) | rw [← hres], (Ext.refl H)⟩
theorem ref21_num_spec (H : Heap) (n : Int) : ∃ v H', Spec Try.prog 28 [.int .i64 n] H v H' ∧ ((v = .bool (decide (0 ≤ n ∧ n ≤ 1099511627776))) ∧ (Ext H H')) := by
  refine spec_go1 E0_ok 9 (f := 28) Try.func28 rfl rfl rfl ?_
  refine aw_seq ?_
  refine aw_reg ?_
  refine st_op (ev_assign rfl) rfl rfl rfl ?_
  try show aw _ _ _ _ _ _
  refine aw_seq ?_
  refine aw_reg ?_
  refine st_op (ev_move rfl) rfl rfl rfl ?_
  refine st_op (ev_int rfl rfl rfl) rfl rfl rfl ?_
  refine st_op (ev_move rfl) rfl rfl rfl ?_
  refine st_bool 5 rfl (fun hb1 => ?_) (fun hb1 => ?_)
  ·
    have hb1 := of_decide_eq_true hb1
    refine st_op (ev_move rfl) rfl rfl rfl ?_
    refine st_op (ev_int rfl rfl rfl) rfl rfl rfl ?_
    refine st_op (ev_pickT rfl rfl) rfl rfl rfl ?_
    refine st_op (ev_assign rfl) rfl rfl rfl ?_
    try show aw _ _ _ _ _ _
    refine aw_ret ?_
    have hres : (decide (0 ≤ n ∧ n ≤ 1099511627776)) = (decide (n ≤ 1099511627776)) := by rw [Bool.eq_iff_iff]; simp only [decide_eq_true_eq, Bool.false_eq_true, iff_false]; omega
    exact ⟨.bool (decide (n ≤ 1099511627776)), rfl, by first | (rw [hres]; done) | rw [← hres], (Ext.refl H)⟩
  ·
    have hb1 := of_decide_eq_false hb1
    refine st_skip rfl rfl rfl ?_
    refine st_skip rfl rfl rfl ?_
    refine st_op (ev_pickF rfl rfl) rfl rfl rfl ?_
    refine st_op (ev_assign rfl) rfl rfl rfl ?_
    try show aw _ _ _ _ _ _
    refine aw_ret ?_
    have hres : (decide (0 ≤ n ∧ n ≤ 1099511627776)) = false := by rw [Bool.eq_iff_iff]; simp only [decide_eq_true_eq, Bool.false_eq_true, iff_false]; omega
    exact ⟨.bool false, rfl, by first | (rw [hres]; done) | rw [← hres], (Ext.refl H)⟩
theorem ref17_MayEntry_spec (H : Heap) (e_index : Int) (e_term : Int) (e_kind : Int) (e_data : ByteArray) : ∃ v H', Spec Try.prog 29 [.agg #[.int .i64 e_index, .int .i64 e_term, .int .i64 e_kind, .string e_data]] H v H' ∧ ((v = .bool (Spec.mayF false 0 0 e_index e_term e_kind e_data)) ∧ (Ext H H')) := by
  refine spec_go1 E0_ok 37 (f := 29) Try.func29 rfl rfl rfl ?_
  refine aw_seq ?_
  refine aw_reg ?_
  obtain ⟨b1, H2, he3, b1e, H2n_, hB5, f4⟩ := mem_box (P := Try.prog) H (v := .agg #[.int .i64 e_index, .int .i64 e_term, .int .i64 e_kind, .string e_data]) (cs := [.int .i64 e_index, .int .i64 e_term, .int .i64 e_kind, .string e_data]) rfl rfl
  refine st_op (he3 _ _ _ _ _ _ _ _ _ rfl) rfl rfl rfl ?_
  have hx6 : Ext H H2 := Ext.new (by omega) H2n_ f4
  have H2n : H.next ≤ H2.next := hx6.1
  refine st_op (ev_assign rfl) rfl rfl rfl ?_
  try show aw _ _ _ _ _ _
  refine aw_seq ?_
  refine aw_reg ?_
  refine st_op (ev_fieldAddr rfl fa45_0 (o' := 0) rfl) rfl rfl rfl ?_
  refine st_op (ev_load rfl (lvar_one one2 hB5 rfl)) rfl rfl rfl ?_
  refine st_op (ev_int rfl rfl rfl) rfl rfl rfl ?_
  refine st_op (ev_move rfl) rfl rfl rfl ?_
  refine st_bool 6 rfl (fun hb7 => ?_) (fun hb7 => ?_)
  ·
    have hb7 := of_decide_eq_true hb7
    refine st_op (ev_fieldAddr rfl fa45_0 (o' := 0) rfl) rfl rfl rfl ?_
    refine st_op (ev_load rfl (lvar_one one2 hB5 rfl)) rfl rfl rfl ?_
    refine st_op (ev_int rfl rfl rfl) rfl rfl rfl ?_
    refine st_op (ev_pickT rfl rfl) rfl rfl rfl ?_
    refine st_op (ev_move rfl) rfl rfl rfl ?_
    refine st_bool 11 rfl (fun hb8 => ?_) (fun hb8 => ?_)
    ·
      have hb8 := of_decide_eq_true hb8
      refine st_op (ev_fieldAddr rfl fa45_1 (o' := 1) rfl) rfl rfl rfl ?_
      refine st_op (ev_load rfl (lvar_one one2 hB5 rfl)) rfl rfl rfl ?_
      refine st_op (ev_int rfl rfl rfl) rfl rfl rfl ?_
      refine st_op (ev_pickT rfl rfl) rfl rfl rfl ?_
      refine st_op (ev_move rfl) rfl rfl rfl ?_
      refine st_bool 16 rfl (fun hb9 => ?_) (fun hb9 => ?_)
      ·
        have hb9 := of_decide_eq_true hb9
        refine st_op (ev_fieldAddr rfl fa45_1 (o' := 1) rfl) rfl rfl rfl ?_
        refine st_op (ev_load rfl (lvar_one one2 hB5 rfl)) rfl rfl rfl ?_
        refine st_op (ev_int rfl rfl rfl) rfl rfl rfl ?_
        refine st_op (ev_pickT rfl rfl) rfl rfl rfl ?_
        refine st_op (ev_move rfl) rfl rfl rfl ?_
        refine st_bool 21 rfl (fun hb10 => ?_) (fun hb10 => ?_)
        ·
          have hb10 := of_decide_eq_true hb10
          refine st_op (ev_fieldAddr rfl fa45_2 (o' := 2) rfl) rfl rfl rfl ?_
          refine st_op (ev_load rfl (lvar_one one3 hB5 rfl)) rfl rfl rfl ?_
          refine st_op (ev_int rfl rfl rfl) rfl rfl rfl ?_
          refine st_op (ev_pickT rfl rfl) rfl rfl rfl ?_
          refine st_op (ev_move rfl) rfl rfl rfl ?_
          refine st_bool 26 rfl (fun hb11 => ?_) (fun hb11 => ?_)
          ·
            have hb11 := of_decide_eq_true hb11
            refine st_op (ev_fieldAddr rfl fa45_2 (o' := 2) rfl) rfl rfl rfl ?_
            refine st_op (ev_load rfl (lvar_one one3 hB5 rfl)) rfl rfl rfl ?_
            refine st_op (ev_int rfl rfl rfl) rfl rfl rfl ?_
            refine st_op (ev_pickT rfl rfl) rfl rfl rfl ?_
            refine st_op (ev_move rfl) rfl rfl rfl ?_
            refine st_bool 31 rfl (fun hb12 => ?_) (fun hb12 => ?_)
            ·
              have hb12 := of_decide_eq_true hb12
              refine st_op (ev_fieldAddr rfl fa45_3 (o' := 3) rfl) rfl rfl rfl ?_
              refine st_op (ev_load rfl (lvar_one one9 hB5 rfl)) rfl rfl rfl ?_
              refine st_op (ev_lenStr rfl Try.underlying9) rfl rfl rfl ?_
              refine st_op (ev_int rfl rfl rfl) rfl rfl rfl ?_
              refine st_op (ev_pickT rfl rfl) rfl rfl rfl ?_
              refine st_op (ev_assign rfl) rfl rfl rfl ?_
              try show aw _ _ _ _ _ _
              refine aw_ret ?_
              have hres : (Spec.mayF false 0 0 e_index e_term e_kind e_data) = (decide (((e_data).size : Int) ≤ 2500)) := by rw [Spec.mayE_eq, Bool.eq_iff_iff]; simp only [decide_eq_true_eq, Bool.false_eq_true, iff_false]; omega
              exact ⟨.bool (decide (((e_data).size : Int) ≤ 2500)), rfl, by first | (rw [hres]; done) | rw [← hres], hx6⟩
            ·
              have hb12 := of_decide_eq_false hb12
              refine st_skip rfl rfl rfl ?_
              refine st_skip rfl rfl rfl ?_
              refine st_skip rfl rfl rfl ?_
              refine st_skip rfl rfl rfl ?_
              refine st_op (ev_pickF rfl rfl) rfl rfl rfl ?_
              refine st_op (ev_assign rfl) rfl rfl rfl ?_
              try show aw _ _ _ _ _ _
              refine aw_ret ?_
              have hres : (Spec.mayF false 0 0 e_index e_term e_kind e_data) = false := by rw [Spec.mayE_eq, Bool.eq_iff_iff]; simp only [decide_eq_true_eq, Bool.false_eq_true, iff_false]; omega
              exact ⟨.bool false, rfl, by first | (rw [hres]; done) | rw [← hres], hx6⟩
          ·
            have hb11 := of_decide_eq_false hb11
            refine st_skip rfl rfl rfl ?_
            refine st_skip rfl rfl rfl ?_
            refine st_skip rfl rfl rfl ?_
            refine st_op (ev_pickF rfl rfl) rfl rfl rfl ?_
            refine st_op (ev_move rfl) rfl rfl rfl ?_
            refine st_skip rfl rfl rfl ?_
            refine st_skip rfl rfl rfl ?_
            refine st_skip rfl rfl rfl ?_
            refine st_skip rfl rfl rfl ?_
            refine st_op (ev_pickF rfl rfl) rfl rfl rfl ?_
            refine st_op (ev_assign rfl) rfl rfl rfl ?_
            try show aw _ _ _ _ _ _
            refine aw_ret ?_
            have hres : (Spec.mayF false 0 0 e_index e_term e_kind e_data) = false := by rw [Spec.mayE_eq, Bool.eq_iff_iff]; simp only [decide_eq_true_eq, Bool.false_eq_true, iff_false]; omega
            exact ⟨.bool false, rfl, by first | (rw [hres]; done) | rw [← hres], hx6⟩
        ·
          have hb10 := of_decide_eq_false hb10
          refine st_skip rfl rfl rfl ?_
          refine st_skip rfl rfl rfl ?_
          refine st_skip rfl rfl rfl ?_
          refine st_op (ev_pickF rfl rfl) rfl rfl rfl ?_
          refine st_op (ev_move rfl) rfl rfl rfl ?_
          refine st_skip rfl rfl rfl ?_
          refine st_skip rfl rfl rfl ?_
          refine st_skip rfl rfl rfl ?_
          refine st_op (ev_pickF rfl rfl) rfl rfl rfl ?_
          refine st_op (ev_move rfl) rfl rfl rfl ?_
          refine st_skip rfl rfl rfl ?_
          refine st_skip rfl rfl rfl ?_
          refine st_skip rfl rfl rfl ?_
          refine st_skip rfl rfl rfl ?_
          refine st_op (ev_pickF rfl rfl) rfl rfl rfl ?_
          refine st_op (ev_assign rfl) rfl rfl rfl ?_
          try show aw _ _ _ _ _ _
          refine aw_ret ?_
          have hres : (Spec.mayF false 0 0 e_index e_term e_kind e_data) = false := by rw [Spec.mayE_eq, Bool.eq_iff_iff]; simp only [decide_eq_true_eq, Bool.false_eq_true, iff_false]; omega
          exact ⟨.bool false, rfl, by first | (rw [hres]; done) | rw [← hres], hx6⟩
      ·
        have hb9 := of_decide_eq_false hb9
        refine st_skip rfl rfl rfl ?_
        refine st_skip rfl rfl rfl ?_
        refine st_skip rfl rfl rfl ?_
        refine st_op (ev_pickF rfl rfl) rfl rfl rfl ?_
        refine st_op (ev_move rfl) rfl rfl rfl ?_
        refine st_skip rfl rfl rfl ?_
        refine st_skip rfl rfl rfl ?_
        refine st_skip rfl rfl rfl ?_
        refine st_op (ev_pickF rfl rfl) rfl rfl rfl ?_
        refine st_op (ev_move rfl) rfl rfl rfl ?_
        refine st_skip rfl rfl rfl ?_
        refine st_skip rfl rfl rfl ?_
        refine st_skip rfl rfl rfl ?_
        refine st_op (ev_pickF rfl rfl) rfl rfl rfl ?_
        refine st_op (ev_move rfl) rfl rfl rfl ?_
        refine st_skip rfl rfl rfl ?_
        refine st_skip rfl rfl rfl ?_
        refine st_skip rfl rfl rfl ?_
        refine st_skip rfl rfl rfl ?_
        refine st_op (ev_pickF rfl rfl) rfl rfl rfl ?_
        refine st_op (ev_assign rfl) rfl rfl rfl ?_
        try show aw _ _ _ _ _ _
        refine aw_ret ?_
        have hres : (Spec.mayF false 0 0 e_index e_term e_kind e_data) = false := by rw [Spec.mayE_eq, Bool.eq_iff_iff]; simp only [decide_eq_true_eq, Bool.false_eq_true, iff_false]; omega
        exact ⟨.bool false, rfl, by first | (rw [hres]; done) | rw [← hres], hx6⟩
    ·
      have hb8 := of_decide_eq_false hb8
      refine st_skip rfl rfl rfl ?_
      refine st_skip rfl rfl rfl ?_
      refine st_skip rfl rfl rfl ?_
      refine st_op (ev_pickF rfl rfl) rfl rfl rfl ?_
      refine st_op (ev_move rfl) rfl rfl rfl ?_
      refine st_skip rfl rfl rfl ?_
      refine st_skip rfl rfl rfl ?_
      refine st_skip rfl rfl rfl ?_
      refine st_op (ev_pickF rfl rfl) rfl rfl rfl ?_
      refine st_op (ev_move rfl) rfl rfl rfl ?_
      refine st_skip rfl rfl rfl ?_
      refine st_skip rfl rfl rfl ?_
      refine st_skip rfl rfl rfl ?_
      refine st_op (ev_pickF rfl rfl) rfl rfl rfl ?_
      refine st_op (ev_move rfl) rfl rfl rfl ?_
      refine st_skip rfl rfl rfl ?_
      refine st_skip rfl rfl rfl ?_
      refine st_skip rfl rfl rfl ?_
      refine st_op (ev_pickF rfl rfl) rfl rfl rfl ?_
      refine st_op (ev_move rfl) rfl rfl rfl ?_
      refine st_skip rfl rfl rfl ?_
      refine st_skip rfl rfl rfl ?_
      refine st_skip rfl rfl rfl ?_
      refine st_skip rfl rfl rfl ?_
      refine st_op (ev_pickF rfl rfl) rfl rfl rfl ?_
      refine st_op (ev_assign rfl) rfl rfl rfl ?_
      try show aw _ _ _ _ _ _
      refine aw_ret ?_
      have hres : (Spec.mayF false 0 0 e_index e_term e_kind e_data) = false := by rw [Spec.mayE_eq, Bool.eq_iff_iff]; simp only [decide_eq_true_eq, Bool.false_eq_true, iff_false]; omega
      exact ⟨.bool false, rfl, by first | (rw [hres]; done) | rw [← hres], hx6⟩
  ·
    have hb7 := of_decide_eq_false hb7
    refine st_skip rfl rfl rfl ?_
    refine st_skip rfl rfl rfl ?_
    refine st_skip rfl rfl rfl ?_
    refine st_op (ev_pickF rfl rfl) rfl rfl rfl ?_
    refine st_op (ev_move rfl) rfl rfl rfl ?_
    refine st_skip rfl rfl rfl ?_
    refine st_skip rfl rfl rfl ?_
    refine st_skip rfl rfl rfl ?_
    refine st_op (ev_pickF rfl rfl) rfl rfl rfl ?_
    refine st_op (ev_move rfl) rfl rfl rfl ?_
    refine st_skip rfl rfl rfl ?_
    refine st_skip rfl rfl rfl ?_
    refine st_skip rfl rfl rfl ?_
    refine st_op (ev_pickF rfl rfl) rfl rfl rfl ?_
    refine st_op (ev_move rfl) rfl rfl rfl ?_
    refine st_skip rfl rfl rfl ?_
    refine st_skip rfl rfl rfl ?_
    refine st_skip rfl rfl rfl ?_
    refine st_op (ev_pickF rfl rfl) rfl rfl rfl ?_
    refine st_op (ev_move rfl) rfl rfl rfl ?_
    refine st_skip rfl rfl rfl ?_
    refine st_skip rfl rfl rfl ?_
    refine st_skip rfl rfl rfl ?_
    refine st_op (ev_pickF rfl rfl) rfl rfl rfl ?_
    refine st_op (ev_move rfl) rfl rfl rfl ?_
    refine st_skip rfl rfl rfl ?_
    refine st_skip rfl rfl rfl ?_
    refine st_skip rfl rfl rfl ?_
    refine st_skip rfl rfl rfl ?_
    refine st_op (ev_pickF rfl rfl) rfl rfl rfl ?_
    refine st_op (ev_assign rfl) rfl rfl rfl ?_
    try show aw _ _ _ _ _ _
    refine aw_ret ?_
    have hres : (Spec.mayF false 0 0 e_index e_term e_kind e_data) = false := by rw [Spec.mayE_eq, Bool.eq_iff_iff]; simp only [decide_eq_true_eq, Bool.false_eq_true, iff_false]; omega
    exact ⟨.bool false, rfl, by first | (rw [hres]; done) | rw [← hres], hx6⟩
theorem ref17_EqSnap_spec (H : Heap) (a_index : Int) (a_term : Int) (a_conf : ByteArray) (a_data : ByteArray) (b_index : Int) (b_term : Int) (b_conf : ByteArray) (b_data : ByteArray) : ∃ v H', Spec Try.prog 30 [.agg #[.int .i64 a_index, .int .i64 a_term, .string a_conf, .string a_data], .agg #[.int .i64 b_index, .int .i64 b_term, .string b_conf, .string b_data]] H v H' ∧ ((v = .bool (Spec.eqSn a_index a_term a_conf a_data b_index b_term b_conf b_data)) ∧ (Ext H H')) := by
  refine spec_go2 E0_ok 31 (f := 30) Try.func30 rfl rfl rfl ?_
  refine aw_seq ?_
  refine aw_reg ?_
  obtain ⟨b1, H2, he3, b1e, H2n_, hB5, f4⟩ := mem_box (P := Try.prog) H (v := .agg #[.int .i64 a_index, .int .i64 a_term, .string a_conf, .string a_data]) (cs := [.int .i64 a_index, .int .i64 a_term, .string a_conf, .string a_data]) rfl rfl
  refine st_op (he3 _ _ _ _ _ _ _ _ _ rfl) rfl rfl rfl ?_
  have hx6 : Ext H H2 := Ext.new (by omega) H2n_ f4
  have H2n : H.next ≤ H2.next := hx6.1
  obtain ⟨b7, H8, he9, b7e, H8n_, hB11, f10⟩ := mem_box (P := Try.prog) H2 (v := .agg #[.int .i64 b_index, .int .i64 b_term, .string b_conf, .string b_data]) (cs := [.int .i64 b_index, .int .i64 b_term, .string b_conf, .string b_data]) rfl rfl
  refine st_op (he9 _ _ _ _ _ _ _ _ _ rfl) rfl rfl rfl ?_
  have hx12 : Ext H2 H8 := Ext.new (by omega) H8n_ f10
  have H8n : H2.next ≤ H8.next := hx12.1
  refine st_op (ev_assign rfl) rfl rfl rfl ?_
  try show aw _ _ _ _ _ _
  refine aw_seq ?_
  refine aw_reg ?_
  refine st_op (ev_fieldAddr rfl fa24_0 (o' := 0) rfl) rfl rfl rfl ?_
  have h13 := Ext.blk hx12 (by omega) hB5
  refine st_op (ev_load rfl (lvar_one one2 h13 rfl)) rfl rfl rfl ?_
  refine st_op (ev_fieldAddr rfl fa24_0 (o' := 0) rfl) rfl rfl rfl ?_
  refine st_op (ev_load rfl (lvar_one one2 hB11 rfl)) rfl rfl rfl ?_
  refine st_op (ev_int rfl rfl rfl) rfl rfl rfl ?_
  refine st_op (ev_move rfl) rfl rfl rfl ?_
  refine st_bool 10 rfl (fun hb14 => ?_) (fun hb14 => ?_)
  ·
    have hb14 := eq_of_beq hb14
    refine st_op (ev_fieldAddr rfl fa24_1 (o' := 1) rfl) rfl rfl rfl ?_
    refine st_op (ev_load rfl (lvar_one one2 h13 rfl)) rfl rfl rfl ?_
    refine st_op (ev_fieldAddr rfl fa24_1 (o' := 1) rfl) rfl rfl rfl ?_
    refine st_op (ev_load rfl (lvar_one one2 hB11 rfl)) rfl rfl rfl ?_
    refine st_op (ev_int rfl rfl rfl) rfl rfl rfl ?_
    refine st_op (ev_pickT rfl rfl) rfl rfl rfl ?_
    refine st_op (ev_move rfl) rfl rfl rfl ?_
    refine st_bool 17 rfl (fun hb15 => ?_) (fun hb15 => ?_)
    ·
      have hb15 := eq_of_beq hb15
      refine st_op (ev_fieldAddr rfl fa24_2 (o' := 2) rfl) rfl rfl rfl ?_
      refine st_op (ev_load rfl (lvar_one one9 h13 rfl)) rfl rfl rfl ?_
      refine st_op (ev_fieldAddr rfl fa24_2 (o' := 2) rfl) rfl rfl rfl ?_
      refine st_op (ev_load rfl (lvar_one one9 hB11 rfl)) rfl rfl rfl ?_
      refine st_op (ev_str rfl rfl rfl) rfl rfl rfl ?_
      refine st_op (ev_pickT rfl rfl) rfl rfl rfl ?_
      refine st_op (ev_move rfl) rfl rfl rfl ?_
      refine st_bool 24 rfl (fun hb16 => ?_) (fun hb16 => ?_)
      ·
        have hb16 := eq_of_beq hb16
        refine st_op (ev_fieldAddr rfl fa24_3 (o' := 3) rfl) rfl rfl rfl ?_
        refine st_op (ev_load rfl (lvar_one one9 h13 rfl)) rfl rfl rfl ?_
        refine st_op (ev_fieldAddr rfl fa24_3 (o' := 3) rfl) rfl rfl rfl ?_
        refine st_op (ev_load rfl (lvar_one one9 hB11 rfl)) rfl rfl rfl ?_
        refine st_op (ev_str rfl rfl rfl) rfl rfl rfl ?_
        refine st_op (ev_pickT rfl rfl) rfl rfl rfl ?_
        refine st_op (ev_assign rfl) rfl rfl rfl ?_
        try show aw _ _ _ _ _ _
        refine aw_ret ?_
        have hx17 : Ext H H8 := (Ext.trans hx6 hx12)
        have hres : (Spec.eqSn a_index a_term a_conf a_data b_index b_term b_conf b_data) = ((a_data).toList == (b_data).toList) := by simp only [Spec.eqSn]; simp_all
        exact ⟨.bool ((a_data).toList == (b_data).toList), rfl, by first | (rw [hres]; done) | rw [← hres], hx17⟩
      ·
        have hb16 := ne_of_beq_false hb16
        refine st_skip rfl rfl rfl ?_
        refine st_skip rfl rfl rfl ?_
        refine st_skip rfl rfl rfl ?_
        refine st_skip rfl rfl rfl ?_
        refine st_skip rfl rfl rfl ?_
        refine st_op (ev_pickF rfl rfl) rfl rfl rfl ?_
        refine st_op (ev_assign rfl) rfl rfl rfl ?_
        try show aw _ _ _ _ _ _
        refine aw_ret ?_
        have hx18 : Ext H H8 := (Ext.trans hx6 hx12)
        have hres : (Spec.eqSn a_index a_term a_conf a_data b_index b_term b_conf b_data) = false := by simp only [Spec.eqSn]; simp_all
        exact ⟨.bool false, rfl, by first | (rw [hres]; done) | rw [← hres], hx18⟩
    ·
      have hb15 := ne_of_beq_false hb15
      refine st_skip rfl rfl rfl ?_
      refine st_skip rfl rfl rfl ?_
      refine st_skip rfl rfl rfl ?_
      refine st_skip rfl rfl rfl ?_
      refine st_skip rfl rfl rfl ?_
      refine st_op (ev_pickF rfl rfl) rfl rfl rfl ?_
      refine st_op (ev_move rfl) rfl rfl rfl ?_
      refine st_skip rfl rfl rfl ?_
      refine st_skip rfl rfl rfl ?_
      refine st_skip rfl rfl rfl ?_
      refine st_skip rfl rfl rfl ?_
      refine st_skip rfl rfl rfl ?_
      refine st_op (ev_pickF rfl rfl) rfl rfl rfl ?_
      refine st_op (ev_assign rfl) rfl rfl rfl ?_
      try show aw _ _ _ _ _ _
      refine aw_ret ?_
      have hx19 : Ext H H8 := (Ext.trans hx6 hx12)
      have hres : (Spec.eqSn a_index a_term a_conf a_data b_index b_term b_conf b_data) = false := by simp only [Spec.eqSn]; simp_all
      exact ⟨.bool false, rfl, by first | (rw [hres]; done) | rw [← hres], hx19⟩
  ·
    have hb14 := ne_of_beq_false hb14
    refine st_skip rfl rfl rfl ?_
    refine st_skip rfl rfl rfl ?_
    refine st_skip rfl rfl rfl ?_
    refine st_skip rfl rfl rfl ?_
    refine st_skip rfl rfl rfl ?_
    refine st_op (ev_pickF rfl rfl) rfl rfl rfl ?_
    refine st_op (ev_move rfl) rfl rfl rfl ?_
    refine st_skip rfl rfl rfl ?_
    refine st_skip rfl rfl rfl ?_
    refine st_skip rfl rfl rfl ?_
    refine st_skip rfl rfl rfl ?_
    refine st_skip rfl rfl rfl ?_
    refine st_op (ev_pickF rfl rfl) rfl rfl rfl ?_
    refine st_op (ev_move rfl) rfl rfl rfl ?_
    refine st_skip rfl rfl rfl ?_
    refine st_skip rfl rfl rfl ?_
    refine st_skip rfl rfl rfl ?_
    refine st_skip rfl rfl rfl ?_
    refine st_skip rfl rfl rfl ?_
    refine st_op (ev_pickF rfl rfl) rfl rfl rfl ?_
    refine st_op (ev_assign rfl) rfl rfl rfl ?_
    try show aw _ _ _ _ _ _
    refine aw_ret ?_
    have hx20 : Ext H H8 := (Ext.trans hx6 hx12)
    have hres : (Spec.eqSn a_index a_term a_conf a_data b_index b_term b_conf b_data) = false := by simp only [Spec.eqSn]; simp_all
    exact ⟨.bool false, rfl, by first | (rw [hres]; done) | rw [← hres], hx20⟩
theorem ref21_MayConf_spec (H : Heap) (lA : Option Addr) (l : List Int) (lc : Nat) (hl : Row H lA lc 1 (l.map i64c)) (cl : l.length ≤ lc) (ll : l.length ≤ 274877906944) : ∃ v H', Spec Try.prog 49 [.slice lA l.length lc] H v H' ∧ ((v = .bool (Spec.mayC l)) ∧ (Ext H H')) := by
  refine spec_go1 E0_ok 41 (f := 49) Try.func49 rfl rfl rfl ?_
  refine aw_seq ?_
  refine aw_reg ?_
  refine st_op (ev_assign rfl) rfl rfl rfl ?_
  try show aw _ _ _ _ _ _
  refine aw_seq ?_
  refine aw_seq ?_
  refine aw_reg ?_
  refine st_op (ev_assign rfl) rfl rfl rfl ?_
  try show aw _ _ _ _ _ _
  refine aw_block ?_
  refine aw_keep [0, 3] (l' := (.cons 0 (.slice lA l.length lc) (.cons 3 (.int .i64 0) .nil))) (by repeat (first | exact Up.done | refine Up.then ?_ | refine Up.inBlock ?_)) rfl ?_
  refine aw_iter (α := Nat × Int × Heap) (fun a => l.length - a.1) (fun a => (.cons 0 (.slice lA l.length lc) (.cons 3 (.int .i64 (a.1 : Int)) .nil))) (fun a => a.2.2) (fun a => (a.1 ≤ l.length) ∧ (Spec.upF 0 l = Spec.upF a.2.1 (l.drop a.1)) ∧ ((a.1 = 0 → a.2.1 = 0) ∧ (0 < a.1 → l[a.1 - 1]? = some a.2.1)) ∧ (Ext H a.2.2)) (0, (0 : Int), H) ⟨(show 0 ≤ l.length from Nat.zero_le _), (show Spec.upF 0 l = Spec.upF (0 : Int) (l.drop 0) from rfl), (show (0 = 0 → (0 : Int) = 0) ∧ (0 < 0 → l[0 - 1]? = some (0 : Int)) from ⟨fun _ => rfl, fun h => absurd h (by decide)⟩), (show Ext H H from (Ext.refl H))⟩ ?_
  rintro ⟨i, pv, Hl1⟩ ⟨hi, hv, hpv, hxl2⟩ ih3
  replace hi : i ≤ l.length := hi
  replace hv : Spec.upF 0 l = Spec.upF pv (l.drop i) := hv
  replace hpv : (i = 0 → pv = 0) ∧ (0 < i → l[i - 1]? = some pv) := hpv
  replace hxl2 : Ext H Hl1 := hxl2
  show aw _ _ _ (RL _ (.cons 0 (.slice lA l.length lc) (.cons 3 (.int .i64 (i : Int)) .nil))) Hl1 _
  have Hl1n : H.next ≤ Hl1.next := hxl2.1
  refine aw_seq ?_
  refine aw_seq ?_
  refine aw_reg ?_
  refine st_op (ev_move rfl) rfl rfl rfl ?_
  refine st_op (ev_move rfl) rfl rfl rfl ?_
  refine st_op (ev_lenSl rfl Try.underlying56) rfl rfl rfl ?_
  refine st_op (ev_int rfl rfl rfl) rfl rfl rfl ?_
  try show aw _ _ _ _ _ _
  by_cases hc4 : (decide ((i : Int) < (l.length : Int))) = true
  · refine aw_condT hc4 rfl ?_
    try show aw _ _ _ _ _ _
    have hc4 := of_decide_eq_true hc4
    refine aw_skip ?_
    try show aw _ _ _ _ _ _
    refine aw_seq ?_
    refine aw_block ?_
    refine aw_seq ?_
    refine aw_marks (fun b => b < Hl1.next) [(false, false), (false, false), (false, false), (false, false), (false, false), (false, false), (false, false), (false, false), (false, false), (false, false), (false, false), (false, false), (false, false), (false, false), (false, false), (false, false), (false, false), (false, false), (false, false), (false, false), (false, false), (false, false), (false, false), (false, false), (false, false), (false, false), (false, false), (false, false)] mixed (by kernel_rfl) (by kernel_rfl) ?_
    refine sm_op (ev_move rfl) rfl rfl rfl ?_
    refine sm_op (ev_move rfl) rfl rfl rfl ?_
    have h5 := Row.ext hl hxl2
    have hi6 : 0 ≤ ((i : Int) : Int) := by omega
    have hi7 : ((i : Int) : Int) < ((l.length : Nat) : Int) := by first | omega | (simp only [List.length_append, List.length_cons, List.length_nil, List.length_map, List.length_set, List.length_replicate, Spec.bytesOf_length]; omega) | (simp; omega)
    obtain ⟨x8, hx9⟩ : ∃ e, l[i]? = some e := ⟨_, List.getElem?_eq_getElem (by first | omega | (simp only [List.length_append, List.length_cons, List.length_nil, List.length_map, List.length_set, List.length_replicate, Spec.bytesOf_length]; omega) | (simp; omega))⟩
    refine sm_op (ev_at rfl rfl h5 (getMap i64c hx9) (by first | rfl | omega | simp) hi6 hi7 el56) rfl rfl rfl ?_
    refine sm_op (ev_atL rfl h5 (getMap i64c hx9) one3 rfl) rfl rfl rfl ?_
    refine sm_op (ev_int rfl rfl rfl) rfl rfl rfl ?_
    refine sm_op (ev_move rfl) rfl rfl rfl ?_
    refine sm_bool 15 rfl (fun hb10 => ?_) (fun hb10 => ?_)
    ·
      have hb10 := of_decide_eq_true hb10
      refine sm_skip rfl rfl rfl ?_
      refine sm_skip rfl rfl rfl ?_
      refine sm_skip rfl rfl rfl ?_
      refine sm_skip rfl rfl rfl ?_
      refine sm_skip rfl rfl rfl ?_
      refine sm_op (ev_pickT rfl rfl) rfl rfl rfl ?_
      refine sm_op (ev_move rfl) rfl rfl rfl ?_
      refine sm_skip rfl rfl rfl ?_
      refine sm_skip rfl rfl rfl ?_
      refine sm_skip rfl rfl rfl ?_
      refine sm_skip rfl rfl rfl ?_
      refine sm_skip rfl rfl rfl ?_
      refine sm_skip rfl rfl rfl ?_
      refine sm_skip rfl rfl rfl ?_
      refine sm_skip rfl rfl rfl ?_
      refine sm_skip rfl rfl rfl ?_
      refine sm_skip rfl rfl rfl ?_
      refine sm_skip rfl rfl rfl ?_
      refine sm_skip rfl rfl rfl ?_
      refine sm_skip rfl rfl rfl ?_
      refine sm_skip rfl rfl rfl ?_
      refine sm_op (ev_pickT rfl rfl) rfl rfl rfl ?_
      try show aw _ _ _ _ _ _
      refine aw_cond (t := true) rfl ?_
      try show aw _ _ _ _ _ _
      refine aw_seq ?_
      refine aw_reg ?_
      refine st_op (ev_assign rfl) rfl rfl rfl ?_
      try show aw _ _ _ _ _ _
      refine aw_ret ?_
      have hres : (Spec.mayC l) = false := by unfold Spec.mayC; rw [hv, drop_at hx9, Spec.upF, if_pos (by omega)]; rfl
      exact ⟨.bool false, rfl, by first | (rw [hres]; done) | rw [← hres], hxl2⟩
    ·
      have hb10 := of_decide_eq_false hb10
      refine sm_op (ev_move rfl) rfl rfl rfl ?_
      refine sm_op (ev_move rfl) rfl rfl rfl ?_
      have hi11 : 0 ≤ ((i : Int) : Int) := by omega
      have hi12 : ((i : Int) : Int) < ((l.length : Nat) : Int) := by first | omega | (simp only [List.length_append, List.length_cons, List.length_nil, List.length_map, List.length_set, List.length_replicate, Spec.bytesOf_length]; omega) | (simp; omega)
      refine sm_op (ev_at rfl rfl h5 (getMap i64c hx9) (by first | rfl | omega | simp) hi11 hi12 el56) rfl rfl rfl ?_
      refine sm_op (ev_atL rfl h5 (getMap i64c hx9) one3 rfl) rfl rfl rfl ?_
      refine sm_op (ev_int rfl rfl rfl) rfl rfl rfl ?_
      refine sm_op (ev_pickF rfl rfl) rfl rfl rfl ?_
      refine sm_op (ev_move rfl) rfl rfl rfl ?_
      refine sm_bool 22 rfl (fun hb13 => ?_) (fun hb13 => ?_)
      ·
        have hb13 := of_decide_eq_true hb13
        refine sm_skip rfl rfl rfl ?_
        refine sm_skip rfl rfl rfl ?_
        refine sm_skip rfl rfl rfl ?_
        refine sm_skip rfl rfl rfl ?_
        refine sm_skip rfl rfl rfl ?_
        refine sm_skip rfl rfl rfl ?_
        refine sm_skip rfl rfl rfl ?_
        refine sm_skip rfl rfl rfl ?_
        refine sm_skip rfl rfl rfl ?_
        refine sm_skip rfl rfl rfl ?_
        refine sm_skip rfl rfl rfl ?_
        refine sm_skip rfl rfl rfl ?_
        refine sm_skip rfl rfl rfl ?_
        refine sm_skip rfl rfl rfl ?_
        refine sm_op (ev_pickT rfl rfl) rfl rfl rfl ?_
        try show aw _ _ _ _ _ _
        refine aw_cond (t := true) rfl ?_
        try show aw _ _ _ _ _ _
        refine aw_seq ?_
        refine aw_reg ?_
        refine st_op (ev_assign rfl) rfl rfl rfl ?_
        try show aw _ _ _ _ _ _
        refine aw_ret ?_
        have hres : (Spec.mayC l) = false := by unfold Spec.mayC; rw [hv, drop_at hx9, Spec.upF, if_pos (by omega)]; rfl
        exact ⟨.bool false, rfl, by first | (rw [hres]; done) | rw [← hres], hxl2⟩
      ·
        have hb13 := of_decide_eq_false hb13
        refine sm_op (ev_move rfl) rfl rfl rfl ?_
        refine sm_op (ev_int rfl rfl rfl) rfl rfl rfl ?_
        refine sm_op (ev_move rfl) rfl rfl rfl ?_
        refine sm_bool 25 rfl (fun hb14 => ?_) (fun hb14 => ?_)
        ·
          have hb14 := of_decide_eq_true hb14
          refine sm_op (ev_move rfl) rfl rfl rfl ?_
          refine sm_op (ev_move rfl) rfl rfl rfl ?_
          have hi15 : 0 ≤ ((i : Int) : Int) := by omega
          have hi16 : ((i : Int) : Int) < ((l.length : Nat) : Int) := by first | omega | (simp only [List.length_append, List.length_cons, List.length_nil, List.length_map, List.length_set, List.length_replicate, Spec.bytesOf_length]; omega) | (simp; omega)
          refine sm_op (ev_at rfl rfl h5 (getMap i64c hx9) (by first | rfl | omega | simp) hi15 hi16 el56) rfl rfl rfl ?_
          refine sm_op (ev_atL rfl h5 (getMap i64c hx9) one3 rfl) rfl rfl rfl ?_
          refine sm_op (ev_move rfl) rfl rfl rfl ?_
          refine sm_op (ev_move rfl) rfl rfl rfl ?_
          refine sm_op (ev_int64 (c := (i : Int) - 1) rfl rfl rfl (by omega) (by omega)) rfl rfl rfl ?_
          have hi17 : 0 ≤ ((i : Int) - 1 : Int) := by omega
          have hi18 : ((i : Int) - 1 : Int) < ((l.length : Nat) : Int) := by first | omega | (simp only [List.length_append, List.length_cons, List.length_nil, List.length_map, List.length_set, List.length_replicate, Spec.bytesOf_length]; omega) | (simp; omega)
          obtain ⟨x19, hx20⟩ : ∃ e, l[(((i : Int) - 1)).toNat]? = some e := ⟨_, List.getElem?_eq_getElem (by first | omega | (simp only [List.length_append, List.length_cons, List.length_nil, List.length_map, List.length_set, List.length_replicate, Spec.bytesOf_length]; omega) | (simp; omega))⟩
          have x19p : x19 = pv := by have q := hpv.2 (by omega); rw [show (((((i : Int) - 1)).toNat) : Nat) = i - 1 by omega] at hx20; rw [hx20] at q; cases q; rfl
          refine sm_op (ev_at rfl rfl h5 (getMap i64c hx20) (by first | rfl | omega | simp) hi17 hi18 el56) rfl rfl rfl ?_
          refine sm_op (ev_atL rfl h5 (getMap i64c hx20) one3 rfl) rfl rfl rfl ?_
          refine sm_op (ev_int rfl rfl rfl) rfl rfl rfl ?_
          refine sm_op (ev_pickT rfl rfl) rfl rfl rfl ?_
          refine sm_op (ev_pickF rfl rfl) rfl rfl rfl ?_
          try show aw _ _ _ _ _ _
          by_cases hc21 : (decide (x8 ≤ x19)) = true
          · refine aw_condT hc21 rfl ?_
            try show aw _ _ _ _ _ _
            have hc21 := of_decide_eq_true hc21
            refine aw_seq ?_
            refine aw_reg ?_
            refine st_op (ev_assign rfl) rfl rfl rfl ?_
            try show aw _ _ _ _ _ _
            refine aw_ret ?_
            have hres : (Spec.mayC l) = false := by unfold Spec.mayC; rw [hv, drop_at hx9, Spec.upF, if_pos (by omega)]; rfl
            exact ⟨.bool false, rfl, by first | (rw [hres]; done) | rw [← hres], hxl2⟩
          · rw [Bool.not_eq_true] at hc21; refine aw_condF hc21 rfl ?_
            try show aw _ _ _ _ _ _
            have hc21 := of_decide_eq_false hc21
            refine aw_skip ?_
            try show aw _ _ _ _ _ _
            refine aw_reg ?_
            refine st_op (ev_move rfl) rfl rfl rfl ?_
            refine st_op (ev_int64 (c := (i : Int) + 1) rfl rfl rfl (by omega) (by omega)) rfl rfl rfl ?_
            refine st_op (ev_assign rfl) rfl rfl rfl ?_
            try show aw _ _ _ _ _ _
            refine aw_keep [0, 3] (l' := (.cons 0 (.slice lA l.length lc) (.cons 3 (.int .i64 ((i : Int) + 1)) .nil))) (by repeat (first | exact Up.done | refine Up.then ?_ | refine Up.inBlock ?_)) rfl ?_
            exact ih3 (i + 1, x8, Hl1) ⟨(show (i + 1) ≤ l.length from (by omega)), (show Spec.upF 0 l = Spec.upF x8 (l.drop (i + 1)) from (by rw [hv, drop_at hx9, Spec.upF, if_neg (by omega)])), (show ((i + 1) = 0 → x8 = 0) ∧ (0 < (i + 1) → l[(i + 1) - 1]? = some x8) from ⟨fun h => absurd h (by omega), fun _ => by rw [Nat.add_sub_cancel]; exact hx9⟩), (show Ext H Hl1 from hxl2)⟩ (by simp only; omega)
        ·
          have hb14 := of_decide_eq_false hb14
          refine sm_skip rfl rfl rfl ?_
          refine sm_skip rfl rfl rfl ?_
          refine sm_skip rfl rfl rfl ?_
          refine sm_skip rfl rfl rfl ?_
          refine sm_skip rfl rfl rfl ?_
          refine sm_skip rfl rfl rfl ?_
          refine sm_skip rfl rfl rfl ?_
          refine sm_skip rfl rfl rfl ?_
          refine sm_skip rfl rfl rfl ?_
          refine sm_skip rfl rfl rfl ?_
          refine sm_op (ev_pickF rfl rfl) rfl rfl rfl ?_
          refine sm_op (ev_pickF rfl rfl) rfl rfl rfl ?_
          try show aw _ _ _ _ _ _
          refine aw_cond (t := false) rfl ?_
          try show aw _ _ _ _ _ _
          refine aw_skip ?_
          try show aw _ _ _ _ _ _
          refine aw_reg ?_
          refine st_op (ev_move rfl) rfl rfl rfl ?_
          refine st_op (ev_int64 (c := (i : Int) + 1) rfl rfl rfl (by omega) (by omega)) rfl rfl rfl ?_
          refine st_op (ev_assign rfl) rfl rfl rfl ?_
          try show aw _ _ _ _ _ _
          refine aw_keep [0, 3] (l' := (.cons 0 (.slice lA l.length lc) (.cons 3 (.int .i64 ((i : Int) + 1)) .nil))) (by repeat (first | exact Up.done | refine Up.then ?_ | refine Up.inBlock ?_)) rfl ?_
          exact ih3 (i + 1, x8, Hl1) ⟨(show (i + 1) ≤ l.length from (by omega)), (show Spec.upF 0 l = Spec.upF x8 (l.drop (i + 1)) from (by rw [hv, drop_at hx9, Spec.upF, if_neg (by have := hpv.1 (by omega); omega)])), (show ((i + 1) = 0 → x8 = 0) ∧ (0 < (i + 1) → l[(i + 1) - 1]? = some x8) from ⟨fun h => absurd h (by omega), fun _ => by rw [Nat.add_sub_cancel]; exact hx9⟩), (show Ext H Hl1 from hxl2)⟩ (by simp only; omega)
  · rw [Bool.not_eq_true] at hc4; refine aw_condF hc4 rfl ?_
    try show aw _ _ _ _ _ _
    have hc4 := of_decide_eq_false hc4
    refine aw_exit ?_
    try show aw _ _ _ _ _ _
    refine aw_seq ?_
    refine aw_reg ?_
    refine st_op (ev_move rfl) rfl rfl rfl ?_
    refine st_op (ev_lenSl rfl Try.underlying56) rfl rfl rfl ?_
    refine st_op (ev_int rfl rfl rfl) rfl rfl rfl ?_
    refine st_op (ev_assign rfl) rfl rfl rfl ?_
    try show aw _ _ _ _ _ _
    refine aw_ret ?_
    have hres : (Spec.mayC l) = (decide ((l.length : Int) > 0)) := by unfold Spec.mayC; rw [hv, List.drop_eq_nil_of_le (by omega)]; simp [Spec.upF]
    exact ⟨.bool (decide ((l.length : Int) > 0)), rfl, by first | (rw [hres]; done) | rw [← hres], hxl2⟩
theorem ref21_DecodeConf_spec (H : Heap) (s : ByteArray) (hs : s.size ≤ 1073741824) : ∃ v H', Spec Try.prog 31 [.string s] H v H' ∧ (∃ rA0 rc0, (v = .tuple #[.slice rA0 (((Spec.decC s).1).length) rc0, .bool ((Spec.decC s).2)]) ∧ (My H H' rA0 rc0 1 (((Spec.decC s).1).map i64c)) ∧ (Ext H H')) := by
  refine spec_go1 E0_ok 24 (f := 31) Try.func31 rfl rfl rfl ?_
  refine aw_seq ?_
  refine aw_reg ?_
  refine st_op (ev_assign rfl) rfl rfl rfl ?_
  refine st_op (ev_assign rfl) rfl rfl rfl ?_
  try show aw _ _ _ _ _ _
  refine aw_seq ?_
  refine aw_reg ?_
  refine st_op (ev_assign rfl) rfl rfl rfl ?_
  try show aw _ _ _ _ _ _
  refine aw_seq ?_
  refine aw_seq ?_
  refine aw_reg ?_
  refine st_op (ev_assign rfl) rfl rfl rfl ?_
  try show aw _ _ _ _ _ _
  refine aw_block ?_
  have hm2 : My H H none 0 1 (([] : List Int).map i64c) := .nil
  refine aw_keep [0, 4, 5] (l' := (.cons 0 (.string s) (.cons 4 (.slice none 0 0) (.cons 5 (.int .i64 0) .nil)))) (by repeat (first | exact Up.done | refine Up.then ?_ | refine Up.inBlock ?_)) rfl ?_
  refine aw_iter (α := Nat × Option Addr × Nat × List Int × Heap) (fun a => s.size - a.1) (fun a => (.cons 0 (.string s) (.cons 4 (.slice a.2.1 a.2.2.2.1.length a.2.2.1) (.cons 5 (.int .i64 (a.1 : Int)) .nil)))) (fun a => a.2.2.2.2) (fun a => (a.1 ≤ s.size) ∧ (a.2.2.2.1 = (Spec.digits s).take a.1) ∧ (My H a.2.2.2.2 a.2.1 a.2.2.1 1 (a.2.2.2.1.map i64c)) ∧ (Ext H a.2.2.2.2)) (0, none, 0, ([] : List Int), H) ⟨(show 0 ≤ s.size from Nat.zero_le _), (show ([] : List Int) = (Spec.digits s).take 0 from rfl), (show My H H none 0 1 (([] : List Int).map i64c) from hm2), (show Ext H H from (Ext.refl H))⟩ ?_
  rintro ⟨i, A, cp, l, Hl1⟩ ⟨hi, hl, hm3, hxl4⟩ ih5
  replace hi : i ≤ s.size := hi
  replace hl : l = (Spec.digits s).take i := hl
  replace hm3 : My H Hl1 A cp 1 (l.map i64c) := hm3
  replace hxl4 : Ext H Hl1 := hxl4
  show aw _ _ _ (RL _ (.cons 0 (.string s) (.cons 4 (.slice A l.length cp) (.cons 5 (.int .i64 (i : Int)) .nil)))) Hl1 _
  have Hl1n : H.next ≤ Hl1.next := hxl4.1
  have hll : l.length = i := by rw [hl, List.length_take, Spec.digits_len]; omega
  refine aw_seq ?_
  refine aw_seq ?_
  refine aw_reg ?_
  refine st_op (ev_move rfl) rfl rfl rfl ?_
  refine st_op (ev_move rfl) rfl rfl rfl ?_
  refine st_op (ev_lenStr rfl Try.underlying9) rfl rfl rfl ?_
  refine st_op (ev_int rfl rfl rfl) rfl rfl rfl ?_
  try show aw _ _ _ _ _ _
  by_cases hc6 : (decide ((i : Int) < ((s).size : Int))) = true
  · refine aw_condT hc6 rfl ?_
    try show aw _ _ _ _ _ _
    have hc6 := of_decide_eq_true hc6
    refine aw_skip ?_
    try show aw _ _ _ _ _ _
    refine aw_seq ?_
    refine aw_block ?_
    refine aw_reg ?_
    refine st_op (ev_move rfl) rfl rfl rfl ?_
    refine st_op (ev_move rfl) rfl rfl rfl ?_
    refine st_op (ev_move rfl) rfl rfl rfl ?_
    obtain ⟨y7, hy8⟩ : ∃ y, (s).data.toList[i]? = some y := ⟨_, List.getElem?_eq_getElem (by simp; omega)⟩
    have y7t := y7.toNat_lt
    refine st_op (ev_ixStr Try.underlying9 rfl rfl (ba_get hy8)) rfl rfl rfl ?_
    refine st_op (ev_convI Try.underlying5 Try.underlying3 rfl (wrI64 (by omega) (by omega))) rfl rfl rfl ?_
    refine st_op (ev_int64 (c := (y7.toNat : Int) - 48) rfl rfl rfl (by omega) (by omega)) rfl rfl rfl ?_
    obtain ⟨b9, H10, he11, b9e, H10n_, hm13, f12⟩ := mem_lit Hl1 (xs := ([.int .i64 ((y7.toNat : Int) - 48)] : List Value)) (m := 1) (rows := [[.int .i64 ((y7.toNat : Int) - 48)]]) rfl eok56 (by decide) (by decide) zf3 rfl (allLen rfl) rfl
    replace hm13 : My Hl1 H10 (some ⟨b9, 0, none⟩) 1 1 ([(y7.toNat : Int) - 48].map i64c) := hm13
    refine st_op (he11 _ _ _ _ _ _ _ _ rfl) rfl rfl rfl ?_
    have hx14 : Ext Hl1 H10 := Ext.new (by omega) H10n_ f12
    have H10n : Hl1.next ≤ H10.next := hx14.1
    have h15 := My.ext hm3 hx14
    obtain ⟨A16, c17, H18, W19, he20, hm21, hf22⟩ := mem_append (f := i64c) (old := l) (new := [(y7.toNat : Int) - 48]) (m := l.length) (mx := 1) (c := cp) (by first | rfl | simp) (by first | rfl | simp) eok56 (by decide) hm3 h15 (by omega) (((My.row hm13)).srcF (by decide) (by first | rfl | simp)) rfl i64c_len i64c_one (by first | omega | (simp only [List.length_append, List.length_cons, List.length_nil, List.length_map, List.length_set, List.length_replicate, Spec.bytesOf_length]; omega) | (simp; omega)) (by first | omega | (simp only [List.length_append, List.length_cons, List.length_nil, List.length_map, List.length_set, List.length_replicate, Spec.bytesOf_length]; omega) | (simp; omega))
    refine st_op (he20 _ _ _ _ _ _ _ _ _ _ rfl rfl isrow56) rfl rfl rfl ?_
    have H18n : H10.next ≤ H18.next := hf22.1
    refine st_op (ev_assign rfl) rfl rfl rfl ?_
    try show aw _ _ _ _ _ _
    refine aw_reg ?_
    refine st_op (ev_move rfl) rfl rfl rfl ?_
    refine st_op (ev_int64 (c := (i : Int) + 1) rfl rfl rfl (by omega) (by omega)) rfl rfl rfl ?_
    refine st_op (ev_assign rfl) rfl rfl rfl ?_
    try show aw _ _ _ _ _ _
    have hx23 : Ext H H18 := (Ext.then (Ext.trans hxl4 hx14) hf22 (fun q hq e => by omega))
    refine aw_keep [0, 4, 5] (l' := (.cons 0 (.string s) (.cons 4 (.slice A16 ((l ++ [(y7.toNat : Int) - 48]).length) c17) (.cons 5 (.int .i64 ((i : Int) + 1)) .nil)))) (by repeat (first | exact Up.done | refine Up.then ?_ | refine Up.inBlock ?_)) rfl ?_
    exact ih5 (i + 1, A16, c17, (l ++ [(y7.toNat : Int) - 48]), H18) ⟨(show (i + 1) ≤ s.size from (by omega)), (show (l ++ [(y7.toNat : Int) - 48]) = (Spec.digits s).take (i + 1) from (by rw [List.take_add_one, ← hl, Spec.digits_at hy8]; rfl)), (show My H H18 A16 c17 1 ((l ++ [(y7.toNat : Int) - 48]).map i64c) from hm21), (show Ext H H18 from hx23)⟩ (by simp only; omega)
  · rw [Bool.not_eq_true] at hc6; refine aw_condF hc6 rfl ?_
    try show aw _ _ _ _ _ _
    have hc6 := of_decide_eq_false hc6
    refine aw_exit ?_
    try show aw _ _ _ _ _ _
    refine aw_seq ?_
    refine aw_seq ?_
    refine aw_reg ?_
    refine st_op (ev_move rfl) rfl rfl rfl ?_
    refine st_call rfl rfl rfl ent49 rfl rfl rfl ?_
    obtain ⟨_, H25, hs24, hs24v, hx26⟩ := ref21_MayConf_spec Hl1 A l cp (My.row hm3) (My.capF hm3 (by first | omega | (simp only [List.length_append, List.length_cons, List.length_nil, List.length_map, List.length_set, List.length_replicate, Spec.bytesOf_length]; omega) | (simp; omega))) (by first | omega | (simp only [List.length_append, List.length_cons, List.length_nil, List.length_map, List.length_set, List.length_replicate, Spec.bytesOf_length]; omega) | (simp; omega))
    rw [hs24v] at hs24; clear hs24v
    refine ⟨_, H25, hs24, ?_⟩
    have H25n : Hl1.next ≤ H25.next := hx26.1
    refine st_op (ev_not rfl) rfl rfl rfl ?_
    try show aw _ _ _ _ _ _
    by_cases hc27 : (!(Spec.mayC l)) = true
    · refine aw_condT hc27 rfl ?_
      try show aw _ _ _ _ _ _
      replace hc27 : (Spec.mayC l) = false := by rw [Bool.not_eq_true'] at hc27; exact hc27
      refine aw_seq ?_
      refine aw_reg ?_
      refine st_op (ev_assign rfl) rfl rfl rfl ?_
      refine st_op (ev_assign rfl) rfl rfl rfl ?_
      try show aw _ _ _ _ _ _
      refine aw_ret ?_
      have hm28 : My H25 H25 none 0 1 (([] : List Int).map i64c) := .nil
      have hx29 : Ext H H25 := (Ext.trans hxl4 hx26)
      have hres : (Spec.decC s) = (([] : List Int), false) := by (have hd : l = Spec.digits s := by rw [hl, List.take_of_length_le (by rw [Spec.digits_len]; omega)]); unfold Spec.decC; rw [← hd]; first | (rw [if_pos (by assumption)]; done) | (rw [if_neg (fun h => Bool.noConfusion (h.symm.trans (show _ = false by assumption)))]; done)
      exact ⟨.tuple #[.slice none 0 0, .bool false], rfl, none, 0, by first | (rw [hres]; first | done | rfl | simp; done) | rfl, (by rw [hres]; exact (My.older hm28 (by omega))), hx29⟩
    · rw [Bool.not_eq_true] at hc27; refine aw_condF hc27 rfl ?_
      try show aw _ _ _ _ _ _
      replace hc27 : (Spec.mayC l) = true := by rw [Bool.not_eq_false'] at hc27; exact hc27
      refine aw_skip ?_
      try show aw _ _ _ _ _ _
      refine aw_seq ?_
      refine aw_reg ?_
      refine st_op (ev_move rfl) rfl rfl rfl ?_
      refine st_op (ev_assign rfl) rfl rfl rfl ?_
      refine st_op (ev_assign rfl) rfl rfl rfl ?_
      try show aw _ _ _ _ _ _
      refine aw_ret ?_
      have h30 := My.ext hm3 hx26
      have hx31 : Ext H H25 := (Ext.trans hxl4 hx26)
      have hres : (Spec.decC s) = (l, true) := by (have hd : l = Spec.digits s := by rw [hl, List.take_of_length_le (by rw [Spec.digits_len]; omega)]); unfold Spec.decC; rw [← hd]; first | (rw [if_pos (by assumption)]; done) | (rw [if_neg (fun h => Bool.noConfusion (h.symm.trans (show _ = false by assumption)))]; done)
      exact ⟨.tuple #[.slice A l.length cp, .bool true], rfl, A, cp, by first | (rw [hres]; first | done | rfl | simp; done) | rfl, (by rw [hres]; exact h30), hx31⟩
theorem ref17_MaySnap_spec (H : Heap) (s_index : Int) (s_term : Int) (s_conf : ByteArray) (s_data : ByteArray) : ∃ v H', Spec Try.prog 32 [.agg #[.int .i64 s_index, .int .i64 s_term, .string s_conf, .string s_data]] H v H' ∧ ((v = .bool (Spec.mayS s_index s_term s_conf s_data)) ∧ (Ext H H')) := by
  refine spec_go1 E0_ok 33 (f := 32) Try.func32 rfl rfl rfl ?_
  refine aw_seq ?_
  refine aw_reg ?_
  obtain ⟨b1, H2, he3, b1e, H2n_, hB5, f4⟩ := mem_box (P := Try.prog) H (v := .agg #[.int .i64 s_index, .int .i64 s_term, .string s_conf, .string s_data]) (cs := [.int .i64 s_index, .int .i64 s_term, .string s_conf, .string s_data]) rfl rfl
  refine st_op (he3 _ _ _ _ _ _ _ _ _ rfl) rfl rfl rfl ?_
  have hx6 : Ext H H2 := Ext.new (by omega) H2n_ f4
  have H2n : H.next ≤ H2.next := hx6.1
  refine st_op (ev_assign rfl) rfl rfl rfl ?_
  try show aw _ _ _ _ _ _
  refine aw_seq ?_
  refine aw_reg ?_
  refine st_op (ev_fieldAddr rfl fa24_0 (o' := 0) rfl) rfl rfl rfl ?_
  refine st_op (ev_load rfl (lvar_one one2 hB5 rfl)) rfl rfl rfl ?_
  refine st_op (ev_int rfl rfl rfl) rfl rfl rfl ?_
  refine st_op (ev_move rfl) rfl rfl rfl ?_
  refine st_bool 6 rfl (fun hb7 => ?_) (fun hb7 => ?_)
  ·
    have hb7 := of_decide_eq_true hb7
    refine st_op (ev_fieldAddr rfl fa24_0 (o' := 0) rfl) rfl rfl rfl ?_
    refine st_op (ev_load rfl (lvar_one one2 hB5 rfl)) rfl rfl rfl ?_
    refine st_op (ev_int rfl rfl rfl) rfl rfl rfl ?_
    refine st_op (ev_pickT rfl rfl) rfl rfl rfl ?_
    refine st_op (ev_move rfl) rfl rfl rfl ?_
    refine st_bool 11 rfl (fun hb8 => ?_) (fun hb8 => ?_)
    ·
      have hb8 := of_decide_eq_true hb8
      refine st_op (ev_fieldAddr rfl fa24_1 (o' := 1) rfl) rfl rfl rfl ?_
      refine st_op (ev_load rfl (lvar_one one2 hB5 rfl)) rfl rfl rfl ?_
      refine st_op (ev_int rfl rfl rfl) rfl rfl rfl ?_
      refine st_op (ev_pickT rfl rfl) rfl rfl rfl ?_
      refine st_op (ev_move rfl) rfl rfl rfl ?_
      refine st_bool 16 rfl (fun hb9 => ?_) (fun hb9 => ?_)
      ·
        have hb9 := of_decide_eq_true hb9
        refine st_op (ev_fieldAddr rfl fa24_1 (o' := 1) rfl) rfl rfl rfl ?_
        refine st_op (ev_load rfl (lvar_one one2 hB5 rfl)) rfl rfl rfl ?_
        refine st_op (ev_int rfl rfl rfl) rfl rfl rfl ?_
        refine st_op (ev_pickT rfl rfl) rfl rfl rfl ?_
        refine st_op (ev_move rfl) rfl rfl rfl ?_
        refine st_bool 21 rfl (fun hb10 => ?_) (fun hb10 => ?_)
        ·
          have hb10 := of_decide_eq_true hb10
          refine st_op (ev_fieldAddr rfl fa24_2 (o' := 2) rfl) rfl rfl rfl ?_
          refine st_op (ev_load rfl (lvar_one one9 hB5 rfl)) rfl rfl rfl ?_
          refine st_op (ev_lenStr rfl Try.underlying9) rfl rfl rfl ?_
          refine st_op (ev_int rfl rfl rfl) rfl rfl rfl ?_
          refine st_op (ev_pickT rfl rfl) rfl rfl rfl ?_
          refine st_op (ev_move rfl) rfl rfl rfl ?_
          refine st_bool 27 rfl (fun hb11 => ?_) (fun hb11 => ?_)
          ·
            have hb11 := of_decide_eq_true hb11
            refine st_op (ev_fieldAddr rfl fa24_3 (o' := 3) rfl) rfl rfl rfl ?_
            refine st_op (ev_load rfl (lvar_one one9 hB5 rfl)) rfl rfl rfl ?_
            refine st_op (ev_lenStr rfl Try.underlying9) rfl rfl rfl ?_
            refine st_op (ev_int rfl rfl rfl) rfl rfl rfl ?_
            refine st_op (ev_pickT rfl rfl) rfl rfl rfl ?_
            refine st_op (ev_assign rfl) rfl rfl rfl ?_
            try show aw _ _ _ _ _ _
            refine aw_ret ?_
            have hres : (Spec.mayS s_index s_term s_conf s_data) = (decide (((s_data).size : Int) ≤ 200000)) := by rw [Spec.mayS_eq, Bool.eq_iff_iff]; simp only [decide_eq_true_eq, Bool.false_eq_true, iff_false]; omega
            exact ⟨.bool (decide (((s_data).size : Int) ≤ 200000)), rfl, by first | (rw [hres]; done) | rw [← hres], hx6⟩
          ·
            have hb11 := of_decide_eq_false hb11
            refine st_skip rfl rfl rfl ?_
            refine st_skip rfl rfl rfl ?_
            refine st_skip rfl rfl rfl ?_
            refine st_skip rfl rfl rfl ?_
            refine st_op (ev_pickF rfl rfl) rfl rfl rfl ?_
            refine st_op (ev_assign rfl) rfl rfl rfl ?_
            try show aw _ _ _ _ _ _
            refine aw_ret ?_
            have hres : (Spec.mayS s_index s_term s_conf s_data) = false := by rw [Spec.mayS_eq, Bool.eq_iff_iff]; simp only [decide_eq_true_eq, Bool.false_eq_true, iff_false]; omega
            exact ⟨.bool false, rfl, by first | (rw [hres]; done) | rw [← hres], hx6⟩
        ·
          have hb10 := of_decide_eq_false hb10
          refine st_skip rfl rfl rfl ?_
          refine st_skip rfl rfl rfl ?_
          refine st_skip rfl rfl rfl ?_
          refine st_skip rfl rfl rfl ?_
          refine st_op (ev_pickF rfl rfl) rfl rfl rfl ?_
          refine st_op (ev_move rfl) rfl rfl rfl ?_
          refine st_skip rfl rfl rfl ?_
          refine st_skip rfl rfl rfl ?_
          refine st_skip rfl rfl rfl ?_
          refine st_skip rfl rfl rfl ?_
          refine st_op (ev_pickF rfl rfl) rfl rfl rfl ?_
          refine st_op (ev_assign rfl) rfl rfl rfl ?_
          try show aw _ _ _ _ _ _
          refine aw_ret ?_
          have hres : (Spec.mayS s_index s_term s_conf s_data) = false := by rw [Spec.mayS_eq, Bool.eq_iff_iff]; simp only [decide_eq_true_eq, Bool.false_eq_true, iff_false]; omega
          exact ⟨.bool false, rfl, by first | (rw [hres]; done) | rw [← hres], hx6⟩
      ·
        have hb9 := of_decide_eq_false hb9
        refine st_skip rfl rfl rfl ?_
        refine st_skip rfl rfl rfl ?_
        refine st_skip rfl rfl rfl ?_
        refine st_op (ev_pickF rfl rfl) rfl rfl rfl ?_
        refine st_op (ev_move rfl) rfl rfl rfl ?_
        refine st_skip rfl rfl rfl ?_
        refine st_skip rfl rfl rfl ?_
        refine st_skip rfl rfl rfl ?_
        refine st_skip rfl rfl rfl ?_
        refine st_op (ev_pickF rfl rfl) rfl rfl rfl ?_
        refine st_op (ev_move rfl) rfl rfl rfl ?_
        refine st_skip rfl rfl rfl ?_
        refine st_skip rfl rfl rfl ?_
        refine st_skip rfl rfl rfl ?_
        refine st_skip rfl rfl rfl ?_
        refine st_op (ev_pickF rfl rfl) rfl rfl rfl ?_
        refine st_op (ev_assign rfl) rfl rfl rfl ?_
        try show aw _ _ _ _ _ _
        refine aw_ret ?_
        have hres : (Spec.mayS s_index s_term s_conf s_data) = false := by rw [Spec.mayS_eq, Bool.eq_iff_iff]; simp only [decide_eq_true_eq, Bool.false_eq_true, iff_false]; omega
        exact ⟨.bool false, rfl, by first | (rw [hres]; done) | rw [← hres], hx6⟩
    ·
      have hb8 := of_decide_eq_false hb8
      refine st_skip rfl rfl rfl ?_
      refine st_skip rfl rfl rfl ?_
      refine st_skip rfl rfl rfl ?_
      refine st_op (ev_pickF rfl rfl) rfl rfl rfl ?_
      refine st_op (ev_move rfl) rfl rfl rfl ?_
      refine st_skip rfl rfl rfl ?_
      refine st_skip rfl rfl rfl ?_
      refine st_skip rfl rfl rfl ?_
      refine st_op (ev_pickF rfl rfl) rfl rfl rfl ?_
      refine st_op (ev_move rfl) rfl rfl rfl ?_
      refine st_skip rfl rfl rfl ?_
      refine st_skip rfl rfl rfl ?_
      refine st_skip rfl rfl rfl ?_
      refine st_skip rfl rfl rfl ?_
      refine st_op (ev_pickF rfl rfl) rfl rfl rfl ?_
      refine st_op (ev_move rfl) rfl rfl rfl ?_
      refine st_skip rfl rfl rfl ?_
      refine st_skip rfl rfl rfl ?_
      refine st_skip rfl rfl rfl ?_
      refine st_skip rfl rfl rfl ?_
      refine st_op (ev_pickF rfl rfl) rfl rfl rfl ?_
      refine st_op (ev_assign rfl) rfl rfl rfl ?_
      try show aw _ _ _ _ _ _
      refine aw_ret ?_
      have hres : (Spec.mayS s_index s_term s_conf s_data) = false := by rw [Spec.mayS_eq, Bool.eq_iff_iff]; simp only [decide_eq_true_eq, Bool.false_eq_true, iff_false]; omega
      exact ⟨.bool false, rfl, by first | (rw [hres]; done) | rw [← hres], hx6⟩
  ·
    have hb7 := of_decide_eq_false hb7
    refine st_skip rfl rfl rfl ?_
    refine st_skip rfl rfl rfl ?_
    refine st_skip rfl rfl rfl ?_
    refine st_op (ev_pickF rfl rfl) rfl rfl rfl ?_
    refine st_op (ev_move rfl) rfl rfl rfl ?_
    refine st_skip rfl rfl rfl ?_
    refine st_skip rfl rfl rfl ?_
    refine st_skip rfl rfl rfl ?_
    refine st_op (ev_pickF rfl rfl) rfl rfl rfl ?_
    refine st_op (ev_move rfl) rfl rfl rfl ?_
    refine st_skip rfl rfl rfl ?_
    refine st_skip rfl rfl rfl ?_
    refine st_skip rfl rfl rfl ?_
    refine st_op (ev_pickF rfl rfl) rfl rfl rfl ?_
    refine st_op (ev_move rfl) rfl rfl rfl ?_
    refine st_skip rfl rfl rfl ?_
    refine st_skip rfl rfl rfl ?_
    refine st_skip rfl rfl rfl ?_
    refine st_skip rfl rfl rfl ?_
    refine st_op (ev_pickF rfl rfl) rfl rfl rfl ?_
    refine st_op (ev_move rfl) rfl rfl rfl ?_
    refine st_skip rfl rfl rfl ?_
    refine st_skip rfl rfl rfl ?_
    refine st_skip rfl rfl rfl ?_
    refine st_skip rfl rfl rfl ?_
    refine st_op (ev_pickF rfl rfl) rfl rfl rfl ?_
    refine st_op (ev_assign rfl) rfl rfl rfl ?_
    try show aw _ _ _ _ _ _
    refine aw_ret ?_
    have hres : (Spec.mayS s_index s_term s_conf s_data) = false := by rw [Spec.mayS_eq, Bool.eq_iff_iff]; simp only [decide_eq_true_eq, Bool.false_eq_true, iff_false]; omega
    exact ⟨.bool false, rfl, by first | (rw [hres]; done) | rw [← hres], hx6⟩
theorem ref21_May_spec (H : Heap) (kind : Int) (from_ : Int) (to_ : Int) (term : Int) (index : Int) (logterm : Int) (commit : Int) (yes : Bool) (esA : Option Addr) (es : List Entry) (esc : Nat) (hes : Row H esA esc 4 (es.map Entry.cells)) (ces : es.length ≤ esc) (les : es.length ≤ 1048576) (s_index : Int) (s_term : Int) (s_conf : ByteArray) (hs_conf : s_conf.size ≤ 1073741824) (s_data : ByteArray) (hs_data : s_data.size ≤ 1073741824) : ∃ v H', Spec Try.prog 12 [.agg #[.int .i64 kind, .int .i64 from_, .int .i64 to_, .int .i64 term, .int .i64 index, .int .i64 logterm, .int .i64 commit, .bool yes, .slice esA es.length esc, .int .i64 s_index, .int .i64 s_term, .string s_conf, .string s_data]] H v H' ∧ ((v = .bool (Spec.mayMsg kind from_ to_ term index logterm commit yes es s_index s_term s_conf s_data)) ∧ (Ext H H')) := by
  refine spec_go1 E0_ok 147 (f := 12) Try.func12 rfl rfl rfl ?_
  refine aw_seq ?_
  refine aw_reg ?_
  obtain ⟨b1, H2, he3, b1e, H2n_, hB5, f4⟩ := mem_box (P := Try.prog) H (v := .agg #[.int .i64 kind, .int .i64 from_, .int .i64 to_, .int .i64 term, .int .i64 index, .int .i64 logterm, .int .i64 commit, .bool yes, .slice esA es.length esc, .int .i64 s_index, .int .i64 s_term, .string s_conf, .string s_data]) (cs := [.int .i64 kind, .int .i64 from_, .int .i64 to_, .int .i64 term, .int .i64 index, .int .i64 logterm, .int .i64 commit, .bool yes, .slice esA es.length esc, .int .i64 s_index, .int .i64 s_term, .string s_conf, .string s_data]) rfl rfl
  refine st_op (he3 _ _ _ _ _ _ _ _ _ rfl) rfl rfl rfl ?_
  have hx6 : Ext H H2 := Ext.new (by omega) H2n_ f4
  have H2n : H.next ≤ H2.next := hx6.1
  refine st_op (ev_assign rfl) rfl rfl rfl ?_
  try show aw _ _ _ _ _ _
  refine aw_seq ?_
  refine aw_seq ?_
  refine aw_reg ?_
  refine st_op (ev_fieldAddr rfl fa26_0 (o' := 0) rfl) rfl rfl rfl ?_
  refine st_op (ev_load rfl (lvar_one one3 hB5 rfl)) rfl rfl rfl ?_
  refine st_op (ev_int rfl rfl rfl) rfl rfl rfl ?_
  refine st_op (ev_move rfl) rfl rfl rfl ?_
  refine st_bool 11 rfl (fun hb7 => ?_) (fun hb7 => ?_)
  ·
    have hb7 := of_decide_eq_true hb7
    refine st_skip rfl rfl rfl ?_
    refine st_skip rfl rfl rfl ?_
    refine st_skip rfl rfl rfl ?_
    refine st_op (ev_pickT rfl rfl) rfl rfl rfl ?_
    refine st_op (ev_move rfl) rfl rfl rfl ?_
    refine st_skip rfl rfl rfl ?_
    refine st_skip rfl rfl rfl ?_
    refine st_skip rfl rfl rfl ?_
    refine st_skip rfl rfl rfl ?_
    refine st_op (ev_pickT rfl rfl) rfl rfl rfl ?_
    refine st_op (ev_move rfl) rfl rfl rfl ?_
    refine st_skip rfl rfl rfl ?_
    refine st_skip rfl rfl rfl ?_
    refine st_skip rfl rfl rfl ?_
    refine st_skip rfl rfl rfl ?_
    refine st_op (ev_pickT rfl rfl) rfl rfl rfl ?_
    refine st_op (ev_move rfl) rfl rfl rfl ?_
    refine st_skip rfl rfl rfl ?_
    refine st_skip rfl rfl rfl ?_
    refine st_skip rfl rfl rfl ?_
    refine st_op (ev_pickT rfl rfl) rfl rfl rfl ?_
    refine st_op (ev_move rfl) rfl rfl rfl ?_
    refine st_skip rfl rfl rfl ?_
    refine st_skip rfl rfl rfl ?_
    refine st_skip rfl rfl rfl ?_
    refine st_op (ev_pickT rfl rfl) rfl rfl rfl ?_
    refine st_op (ev_move rfl) rfl rfl rfl ?_
    refine st_skip rfl rfl rfl ?_
    refine st_skip rfl rfl rfl ?_
    refine st_skip rfl rfl rfl ?_
    refine st_skip rfl rfl rfl ?_
    refine st_op (ev_pickT rfl rfl) rfl rfl rfl ?_
    refine st_op (ev_move rfl) rfl rfl rfl ?_
    refine st_skip rfl rfl rfl ?_
    refine st_skip rfl rfl rfl ?_
    refine st_skip rfl rfl rfl ?_
    refine st_skip rfl rfl rfl ?_
    refine st_op (ev_pickT rfl rfl) rfl rfl rfl ?_
    refine st_op (ev_move rfl) rfl rfl rfl ?_
    refine st_skip rfl rfl rfl ?_
    refine st_skip rfl rfl rfl ?_
    refine st_skip rfl rfl rfl ?_
    refine st_skip rfl rfl rfl ?_
    refine st_op (ev_pickT rfl rfl) rfl rfl rfl ?_
    refine st_op (ev_move rfl) rfl rfl rfl ?_
    refine st_skip rfl rfl rfl ?_
    refine st_skip rfl rfl rfl ?_
    refine st_skip rfl rfl rfl ?_
    refine st_skip rfl rfl rfl ?_
    refine st_op (ev_pickT rfl rfl) rfl rfl rfl ?_
    try show aw _ _ _ _ _ _
    refine aw_cond (t := true) rfl ?_
    try show aw _ _ _ _ _ _
    refine aw_seq ?_
    refine aw_reg ?_
    refine st_op (ev_assign rfl) rfl rfl rfl ?_
    try show aw _ _ _ _ _ _
    refine aw_ret ?_
    have hres : (Spec.mayMsg kind from_ to_ term index logterm commit yes es s_index s_term s_conf s_data) = false := by first | exact Spec.mayMsg_f1 (by omega) | exact Spec.mayMsg_f5 (by omega) | exact Spec.mayMsg_f4 (by omega) (by omega) | exact Spec.mayMsg_f3 (by assumption) (by omega) (by omega)
    exact ⟨.bool false, rfl, by first | (rw [hres]; done) | rw [← hres], hx6⟩
  ·
    have hb7 := of_decide_eq_false hb7
    refine st_op (ev_fieldAddr rfl fa26_0 (o' := 0) rfl) rfl rfl rfl ?_
    refine st_op (ev_load rfl (lvar_one one3 hB5 rfl)) rfl rfl rfl ?_
    refine st_op (ev_int rfl rfl rfl) rfl rfl rfl ?_
    refine st_op (ev_pickF rfl rfl) rfl rfl rfl ?_
    refine st_op (ev_move rfl) rfl rfl rfl ?_
    refine st_bool 16 rfl (fun hb8 => ?_) (fun hb8 => ?_)
    ·
      have hb8 := of_decide_eq_true hb8
      refine st_skip rfl rfl rfl ?_
      refine st_skip rfl rfl rfl ?_
      refine st_skip rfl rfl rfl ?_
      refine st_skip rfl rfl rfl ?_
      refine st_op (ev_pickT rfl rfl) rfl rfl rfl ?_
      refine st_op (ev_move rfl) rfl rfl rfl ?_
      refine st_skip rfl rfl rfl ?_
      refine st_skip rfl rfl rfl ?_
      refine st_skip rfl rfl rfl ?_
      refine st_skip rfl rfl rfl ?_
      refine st_op (ev_pickT rfl rfl) rfl rfl rfl ?_
      refine st_op (ev_move rfl) rfl rfl rfl ?_
      refine st_skip rfl rfl rfl ?_
      refine st_skip rfl rfl rfl ?_
      refine st_skip rfl rfl rfl ?_
      refine st_op (ev_pickT rfl rfl) rfl rfl rfl ?_
      refine st_op (ev_move rfl) rfl rfl rfl ?_
      refine st_skip rfl rfl rfl ?_
      refine st_skip rfl rfl rfl ?_
      refine st_skip rfl rfl rfl ?_
      refine st_op (ev_pickT rfl rfl) rfl rfl rfl ?_
      refine st_op (ev_move rfl) rfl rfl rfl ?_
      refine st_skip rfl rfl rfl ?_
      refine st_skip rfl rfl rfl ?_
      refine st_skip rfl rfl rfl ?_
      refine st_skip rfl rfl rfl ?_
      refine st_op (ev_pickT rfl rfl) rfl rfl rfl ?_
      refine st_op (ev_move rfl) rfl rfl rfl ?_
      refine st_skip rfl rfl rfl ?_
      refine st_skip rfl rfl rfl ?_
      refine st_skip rfl rfl rfl ?_
      refine st_skip rfl rfl rfl ?_
      refine st_op (ev_pickT rfl rfl) rfl rfl rfl ?_
      refine st_op (ev_move rfl) rfl rfl rfl ?_
      refine st_skip rfl rfl rfl ?_
      refine st_skip rfl rfl rfl ?_
      refine st_skip rfl rfl rfl ?_
      refine st_skip rfl rfl rfl ?_
      refine st_op (ev_pickT rfl rfl) rfl rfl rfl ?_
      refine st_op (ev_move rfl) rfl rfl rfl ?_
      refine st_skip rfl rfl rfl ?_
      refine st_skip rfl rfl rfl ?_
      refine st_skip rfl rfl rfl ?_
      refine st_skip rfl rfl rfl ?_
      refine st_op (ev_pickT rfl rfl) rfl rfl rfl ?_
      try show aw _ _ _ _ _ _
      refine aw_cond (t := true) rfl ?_
      try show aw _ _ _ _ _ _
      refine aw_seq ?_
      refine aw_reg ?_
      refine st_op (ev_assign rfl) rfl rfl rfl ?_
      try show aw _ _ _ _ _ _
      refine aw_ret ?_
      have hres : (Spec.mayMsg kind from_ to_ term index logterm commit yes es s_index s_term s_conf s_data) = false := by first | exact Spec.mayMsg_f1 (by omega) | exact Spec.mayMsg_f5 (by omega) | exact Spec.mayMsg_f4 (by omega) (by omega) | exact Spec.mayMsg_f3 (by assumption) (by omega) (by omega)
      exact ⟨.bool false, rfl, by first | (rw [hres]; done) | rw [← hres], hx6⟩
    ·
      have hb8 := of_decide_eq_false hb8
      refine st_op (ev_fieldAddr rfl fa26_1 (o' := 1) rfl) rfl rfl rfl ?_
      refine st_op (ev_load rfl (lvar_one one3 hB5 rfl)) rfl rfl rfl ?_
      refine st_call rfl rfl rfl ent27 rfl rfl rfl ?_
      obtain ⟨_, H10, hs9, hs9v, hx11⟩ := ref21_id_spec H2 from_
      rw [hs9v] at hs9; clear hs9v
      refine ⟨_, H10, hs9, ?_⟩
      have H10n : H2.next ≤ H10.next := hx11.1
      refine st_op (ev_not rfl) rfl rfl rfl ?_
      refine st_op (ev_pickF rfl rfl) rfl rfl rfl ?_
      refine st_op (ev_move rfl) rfl rfl rfl ?_
      refine st_bool 22 rfl (fun hb12 => ?_) (fun hb12 => ?_)
      ·
        replace hb12 : (decide (1 ≤ from_ ∧ from_ ≤ 7)) = false := by rw [Bool.not_eq_true'] at hb12; exact hb12
        have hb12 := of_decide_eq_false hb12
        refine st_skip rfl rfl rfl ?_
        refine st_skip rfl rfl rfl ?_
        refine st_skip rfl rfl rfl ?_
        refine st_skip rfl rfl rfl ?_
        refine st_op (ev_pickT rfl rfl) rfl rfl rfl ?_
        refine st_op (ev_move rfl) rfl rfl rfl ?_
        refine st_skip rfl rfl rfl ?_
        refine st_skip rfl rfl rfl ?_
        refine st_skip rfl rfl rfl ?_
        refine st_op (ev_pickT rfl rfl) rfl rfl rfl ?_
        refine st_op (ev_move rfl) rfl rfl rfl ?_
        refine st_skip rfl rfl rfl ?_
        refine st_skip rfl rfl rfl ?_
        refine st_skip rfl rfl rfl ?_
        refine st_op (ev_pickT rfl rfl) rfl rfl rfl ?_
        refine st_op (ev_move rfl) rfl rfl rfl ?_
        refine st_skip rfl rfl rfl ?_
        refine st_skip rfl rfl rfl ?_
        refine st_skip rfl rfl rfl ?_
        refine st_skip rfl rfl rfl ?_
        refine st_op (ev_pickT rfl rfl) rfl rfl rfl ?_
        refine st_op (ev_move rfl) rfl rfl rfl ?_
        refine st_skip rfl rfl rfl ?_
        refine st_skip rfl rfl rfl ?_
        refine st_skip rfl rfl rfl ?_
        refine st_skip rfl rfl rfl ?_
        refine st_op (ev_pickT rfl rfl) rfl rfl rfl ?_
        refine st_op (ev_move rfl) rfl rfl rfl ?_
        refine st_skip rfl rfl rfl ?_
        refine st_skip rfl rfl rfl ?_
        refine st_skip rfl rfl rfl ?_
        refine st_skip rfl rfl rfl ?_
        refine st_op (ev_pickT rfl rfl) rfl rfl rfl ?_
        refine st_op (ev_move rfl) rfl rfl rfl ?_
        refine st_skip rfl rfl rfl ?_
        refine st_skip rfl rfl rfl ?_
        refine st_skip rfl rfl rfl ?_
        refine st_skip rfl rfl rfl ?_
        refine st_op (ev_pickT rfl rfl) rfl rfl rfl ?_
        try show aw _ _ _ _ _ _
        refine aw_cond (t := true) rfl ?_
        try show aw _ _ _ _ _ _
        refine aw_seq ?_
        refine aw_reg ?_
        refine st_op (ev_assign rfl) rfl rfl rfl ?_
        try show aw _ _ _ _ _ _
        refine aw_ret ?_
        have hx13 : Ext H H10 := (Ext.trans hx6 hx11)
        have hres : (Spec.mayMsg kind from_ to_ term index logterm commit yes es s_index s_term s_conf s_data) = false := by first | exact Spec.mayMsg_f1 (by omega) | exact Spec.mayMsg_f5 (by omega) | exact Spec.mayMsg_f4 (by omega) (by omega) | exact Spec.mayMsg_f3 (by assumption) (by omega) (by omega)
        exact ⟨.bool false, rfl, by first | (rw [hres]; done) | rw [← hres], hx13⟩
      ·
        replace hb12 : (decide (1 ≤ from_ ∧ from_ ≤ 7)) = true := by rw [Bool.not_eq_false'] at hb12; exact hb12
        have hb12 := of_decide_eq_true hb12
        refine st_op (ev_fieldAddr rfl fa26_2 (o' := 2) rfl) rfl rfl rfl ?_
        have h14 := Ext.blk hx11 (by omega) hB5
        refine st_op (ev_load rfl (lvar_one one3 h14 rfl)) rfl rfl rfl ?_
        refine st_call rfl rfl rfl ent27 rfl rfl rfl ?_
        obtain ⟨_, H16, hs15, hs15v, hx17⟩ := ref21_id_spec H10 to_
        rw [hs15v] at hs15; clear hs15v
        refine ⟨_, H16, hs15, ?_⟩
        have H16n : H10.next ≤ H16.next := hx17.1
        refine st_op (ev_not rfl) rfl rfl rfl ?_
        refine st_op (ev_pickF rfl rfl) rfl rfl rfl ?_
        refine st_op (ev_move rfl) rfl rfl rfl ?_
        refine st_bool 28 rfl (fun hb18 => ?_) (fun hb18 => ?_)
        ·
          replace hb18 : (decide (1 ≤ to_ ∧ to_ ≤ 7)) = false := by rw [Bool.not_eq_true'] at hb18; exact hb18
          have hb18 := of_decide_eq_false hb18
          refine st_skip rfl rfl rfl ?_
          refine st_skip rfl rfl rfl ?_
          refine st_skip rfl rfl rfl ?_
          refine st_op (ev_pickT rfl rfl) rfl rfl rfl ?_
          refine st_op (ev_move rfl) rfl rfl rfl ?_
          refine st_skip rfl rfl rfl ?_
          refine st_skip rfl rfl rfl ?_
          refine st_skip rfl rfl rfl ?_
          refine st_op (ev_pickT rfl rfl) rfl rfl rfl ?_
          refine st_op (ev_move rfl) rfl rfl rfl ?_
          refine st_skip rfl rfl rfl ?_
          refine st_skip rfl rfl rfl ?_
          refine st_skip rfl rfl rfl ?_
          refine st_skip rfl rfl rfl ?_
          refine st_op (ev_pickT rfl rfl) rfl rfl rfl ?_
          refine st_op (ev_move rfl) rfl rfl rfl ?_
          refine st_skip rfl rfl rfl ?_
          refine st_skip rfl rfl rfl ?_
          refine st_skip rfl rfl rfl ?_
          refine st_skip rfl rfl rfl ?_
          refine st_op (ev_pickT rfl rfl) rfl rfl rfl ?_
          refine st_op (ev_move rfl) rfl rfl rfl ?_
          refine st_skip rfl rfl rfl ?_
          refine st_skip rfl rfl rfl ?_
          refine st_skip rfl rfl rfl ?_
          refine st_skip rfl rfl rfl ?_
          refine st_op (ev_pickT rfl rfl) rfl rfl rfl ?_
          refine st_op (ev_move rfl) rfl rfl rfl ?_
          refine st_skip rfl rfl rfl ?_
          refine st_skip rfl rfl rfl ?_
          refine st_skip rfl rfl rfl ?_
          refine st_skip rfl rfl rfl ?_
          refine st_op (ev_pickT rfl rfl) rfl rfl rfl ?_
          try show aw _ _ _ _ _ _
          refine aw_cond (t := true) rfl ?_
          try show aw _ _ _ _ _ _
          refine aw_seq ?_
          refine aw_reg ?_
          refine st_op (ev_assign rfl) rfl rfl rfl ?_
          try show aw _ _ _ _ _ _
          refine aw_ret ?_
          have hx19 : Ext H H16 := (Ext.trans (Ext.trans hx6 hx11) hx17)
          have hres : (Spec.mayMsg kind from_ to_ term index logterm commit yes es s_index s_term s_conf s_data) = false := by first | exact Spec.mayMsg_f1 (by omega) | exact Spec.mayMsg_f5 (by omega) | exact Spec.mayMsg_f4 (by omega) (by omega) | exact Spec.mayMsg_f3 (by assumption) (by omega) (by omega)
          exact ⟨.bool false, rfl, by first | (rw [hres]; done) | rw [← hres], hx19⟩
        ·
          replace hb18 : (decide (1 ≤ to_ ∧ to_ ≤ 7)) = true := by rw [Bool.not_eq_false'] at hb18; exact hb18
          have hb18 := of_decide_eq_true hb18
          refine st_op (ev_fieldAddr rfl fa26_3 (o' := 3) rfl) rfl rfl rfl ?_
          have h20 := Ext.blk hx17 (by omega) h14
          refine st_op (ev_load rfl (lvar_one one2 h20 rfl)) rfl rfl rfl ?_
          refine st_op (ev_int rfl rfl rfl) rfl rfl rfl ?_
          refine st_op (ev_pickF rfl rfl) rfl rfl rfl ?_
          refine st_op (ev_move rfl) rfl rfl rfl ?_
          refine st_bool 33 rfl (fun hb21 => ?_) (fun hb21 => ?_)
          ·
            have hb21 := of_decide_eq_true hb21
            refine st_skip rfl rfl rfl ?_
            refine st_skip rfl rfl rfl ?_
            refine st_skip rfl rfl rfl ?_
            refine st_op (ev_pickT rfl rfl) rfl rfl rfl ?_
            refine st_op (ev_move rfl) rfl rfl rfl ?_
            refine st_skip rfl rfl rfl ?_
            refine st_skip rfl rfl rfl ?_
            refine st_skip rfl rfl rfl ?_
            refine st_skip rfl rfl rfl ?_
            refine st_op (ev_pickT rfl rfl) rfl rfl rfl ?_
            refine st_op (ev_move rfl) rfl rfl rfl ?_
            refine st_skip rfl rfl rfl ?_
            refine st_skip rfl rfl rfl ?_
            refine st_skip rfl rfl rfl ?_
            refine st_skip rfl rfl rfl ?_
            refine st_op (ev_pickT rfl rfl) rfl rfl rfl ?_
            refine st_op (ev_move rfl) rfl rfl rfl ?_
            refine st_skip rfl rfl rfl ?_
            refine st_skip rfl rfl rfl ?_
            refine st_skip rfl rfl rfl ?_
            refine st_skip rfl rfl rfl ?_
            refine st_op (ev_pickT rfl rfl) rfl rfl rfl ?_
            refine st_op (ev_move rfl) rfl rfl rfl ?_
            refine st_skip rfl rfl rfl ?_
            refine st_skip rfl rfl rfl ?_
            refine st_skip rfl rfl rfl ?_
            refine st_skip rfl rfl rfl ?_
            refine st_op (ev_pickT rfl rfl) rfl rfl rfl ?_
            try show aw _ _ _ _ _ _
            refine aw_cond (t := true) rfl ?_
            try show aw _ _ _ _ _ _
            refine aw_seq ?_
            refine aw_reg ?_
            refine st_op (ev_assign rfl) rfl rfl rfl ?_
            try show aw _ _ _ _ _ _
            refine aw_ret ?_
            have hx22 : Ext H H16 := (Ext.trans (Ext.trans hx6 hx11) hx17)
            have hres : (Spec.mayMsg kind from_ to_ term index logterm commit yes es s_index s_term s_conf s_data) = false := by first | exact Spec.mayMsg_f1 (by omega) | exact Spec.mayMsg_f5 (by omega) | exact Spec.mayMsg_f4 (by omega) (by omega) | exact Spec.mayMsg_f3 (by assumption) (by omega) (by omega)
            exact ⟨.bool false, rfl, by first | (rw [hres]; done) | rw [← hres], hx22⟩
          ·
            have hb21 := of_decide_eq_false hb21
            refine st_op (ev_fieldAddr rfl fa26_3 (o' := 3) rfl) rfl rfl rfl ?_
            refine st_op (ev_load rfl (lvar_one one2 h20 rfl)) rfl rfl rfl ?_
            refine st_op (ev_int rfl rfl rfl) rfl rfl rfl ?_
            refine st_op (ev_pickF rfl rfl) rfl rfl rfl ?_
            refine st_op (ev_move rfl) rfl rfl rfl ?_
            refine st_bool 38 rfl (fun hb23 => ?_) (fun hb23 => ?_)
            ·
              have hb23 := of_decide_eq_true hb23
              refine st_skip rfl rfl rfl ?_
              refine st_skip rfl rfl rfl ?_
              refine st_skip rfl rfl rfl ?_
              refine st_skip rfl rfl rfl ?_
              refine st_op (ev_pickT rfl rfl) rfl rfl rfl ?_
              refine st_op (ev_move rfl) rfl rfl rfl ?_
              refine st_skip rfl rfl rfl ?_
              refine st_skip rfl rfl rfl ?_
              refine st_skip rfl rfl rfl ?_
              refine st_skip rfl rfl rfl ?_
              refine st_op (ev_pickT rfl rfl) rfl rfl rfl ?_
              refine st_op (ev_move rfl) rfl rfl rfl ?_
              refine st_skip rfl rfl rfl ?_
              refine st_skip rfl rfl rfl ?_
              refine st_skip rfl rfl rfl ?_
              refine st_skip rfl rfl rfl ?_
              refine st_op (ev_pickT rfl rfl) rfl rfl rfl ?_
              refine st_op (ev_move rfl) rfl rfl rfl ?_
              refine st_skip rfl rfl rfl ?_
              refine st_skip rfl rfl rfl ?_
              refine st_skip rfl rfl rfl ?_
              refine st_skip rfl rfl rfl ?_
              refine st_op (ev_pickT rfl rfl) rfl rfl rfl ?_
              try show aw _ _ _ _ _ _
              refine aw_cond (t := true) rfl ?_
              try show aw _ _ _ _ _ _
              refine aw_seq ?_
              refine aw_reg ?_
              refine st_op (ev_assign rfl) rfl rfl rfl ?_
              try show aw _ _ _ _ _ _
              refine aw_ret ?_
              have hx24 : Ext H H16 := (Ext.trans (Ext.trans hx6 hx11) hx17)
              have hres : (Spec.mayMsg kind from_ to_ term index logterm commit yes es s_index s_term s_conf s_data) = false := by first | exact Spec.mayMsg_f1 (by omega) | exact Spec.mayMsg_f5 (by omega) | exact Spec.mayMsg_f4 (by omega) (by omega) | exact Spec.mayMsg_f3 (by assumption) (by omega) (by omega)
              exact ⟨.bool false, rfl, by first | (rw [hres]; done) | rw [← hres], hx24⟩
            ·
              have hb23 := of_decide_eq_false hb23
              refine st_op (ev_fieldAddr rfl fa26_4 (o' := 4) rfl) rfl rfl rfl ?_
              refine st_op (ev_load rfl (lvar_one one2 h20 rfl)) rfl rfl rfl ?_
              refine st_call rfl rfl rfl ent28 rfl rfl rfl ?_
              obtain ⟨_, H26, hs25, hs25v, hx27⟩ := ref21_num_spec H16 index
              rw [hs25v] at hs25; clear hs25v
              refine ⟨_, H26, hs25, ?_⟩
              have H26n : H16.next ≤ H26.next := hx27.1
              refine st_op (ev_not rfl) rfl rfl rfl ?_
              refine st_op (ev_pickF rfl rfl) rfl rfl rfl ?_
              refine st_op (ev_move rfl) rfl rfl rfl ?_
              refine st_bool 44 rfl (fun hb28 => ?_) (fun hb28 => ?_)
              ·
                replace hb28 : (decide (0 ≤ index ∧ index ≤ 1099511627776)) = false := by rw [Bool.not_eq_true'] at hb28; exact hb28
                have hb28 := of_decide_eq_false hb28
                refine st_skip rfl rfl rfl ?_
                refine st_skip rfl rfl rfl ?_
                refine st_skip rfl rfl rfl ?_
                refine st_skip rfl rfl rfl ?_
                refine st_op (ev_pickT rfl rfl) rfl rfl rfl ?_
                refine st_op (ev_move rfl) rfl rfl rfl ?_
                refine st_skip rfl rfl rfl ?_
                refine st_skip rfl rfl rfl ?_
                refine st_skip rfl rfl rfl ?_
                refine st_skip rfl rfl rfl ?_
                refine st_op (ev_pickT rfl rfl) rfl rfl rfl ?_
                refine st_op (ev_move rfl) rfl rfl rfl ?_
                refine st_skip rfl rfl rfl ?_
                refine st_skip rfl rfl rfl ?_
                refine st_skip rfl rfl rfl ?_
                refine st_skip rfl rfl rfl ?_
                refine st_op (ev_pickT rfl rfl) rfl rfl rfl ?_
                try show aw _ _ _ _ _ _
                refine aw_cond (t := true) rfl ?_
                try show aw _ _ _ _ _ _
                refine aw_seq ?_
                refine aw_reg ?_
                refine st_op (ev_assign rfl) rfl rfl rfl ?_
                try show aw _ _ _ _ _ _
                refine aw_ret ?_
                have hx29 : Ext H H26 := (Ext.trans (Ext.trans (Ext.trans hx6 hx11) hx17) hx27)
                have hres : (Spec.mayMsg kind from_ to_ term index logterm commit yes es s_index s_term s_conf s_data) = false := by first | exact Spec.mayMsg_f1 (by omega) | exact Spec.mayMsg_f5 (by omega) | exact Spec.mayMsg_f4 (by omega) (by omega) | exact Spec.mayMsg_f3 (by assumption) (by omega) (by omega)
                exact ⟨.bool false, rfl, by first | (rw [hres]; done) | rw [← hres], hx29⟩
              ·
                replace hb28 : (decide (0 ≤ index ∧ index ≤ 1099511627776)) = true := by rw [Bool.not_eq_false'] at hb28; exact hb28
                have hb28 := of_decide_eq_true hb28
                refine st_op (ev_fieldAddr rfl fa26_5 (o' := 5) rfl) rfl rfl rfl ?_
                have h30 := Ext.blk hx27 (by omega) h20
                refine st_op (ev_load rfl (lvar_one one2 h30 rfl)) rfl rfl rfl ?_
                refine st_call rfl rfl rfl ent28 rfl rfl rfl ?_
                obtain ⟨_, H32, hs31, hs31v, hx33⟩ := ref21_num_spec H26 logterm
                rw [hs31v] at hs31; clear hs31v
                refine ⟨_, H32, hs31, ?_⟩
                have H32n : H26.next ≤ H32.next := hx33.1
                refine st_op (ev_not rfl) rfl rfl rfl ?_
                refine st_op (ev_pickF rfl rfl) rfl rfl rfl ?_
                refine st_op (ev_move rfl) rfl rfl rfl ?_
                refine st_bool 50 rfl (fun hb34 => ?_) (fun hb34 => ?_)
                ·
                  replace hb34 : (decide (0 ≤ logterm ∧ logterm ≤ 1099511627776)) = false := by rw [Bool.not_eq_true'] at hb34; exact hb34
                  have hb34 := of_decide_eq_false hb34
                  refine st_skip rfl rfl rfl ?_
                  refine st_skip rfl rfl rfl ?_
                  refine st_skip rfl rfl rfl ?_
                  refine st_skip rfl rfl rfl ?_
                  refine st_op (ev_pickT rfl rfl) rfl rfl rfl ?_
                  refine st_op (ev_move rfl) rfl rfl rfl ?_
                  refine st_skip rfl rfl rfl ?_
                  refine st_skip rfl rfl rfl ?_
                  refine st_skip rfl rfl rfl ?_
                  refine st_skip rfl rfl rfl ?_
                  refine st_op (ev_pickT rfl rfl) rfl rfl rfl ?_
                  try show aw _ _ _ _ _ _
                  refine aw_cond (t := true) rfl ?_
                  try show aw _ _ _ _ _ _
                  refine aw_seq ?_
                  refine aw_reg ?_
                  refine st_op (ev_assign rfl) rfl rfl rfl ?_
                  try show aw _ _ _ _ _ _
                  refine aw_ret ?_
                  have hx35 : Ext H H32 := (Ext.trans (Ext.trans (Ext.trans (Ext.trans hx6 hx11) hx17) hx27) hx33)
                  have hres : (Spec.mayMsg kind from_ to_ term index logterm commit yes es s_index s_term s_conf s_data) = false := by first | exact Spec.mayMsg_f1 (by omega) | exact Spec.mayMsg_f5 (by omega) | exact Spec.mayMsg_f4 (by omega) (by omega) | exact Spec.mayMsg_f3 (by assumption) (by omega) (by omega)
                  exact ⟨.bool false, rfl, by first | (rw [hres]; done) | rw [← hres], hx35⟩
                ·
                  replace hb34 : (decide (0 ≤ logterm ∧ logterm ≤ 1099511627776)) = true := by rw [Bool.not_eq_false'] at hb34; exact hb34
                  have hb34 := of_decide_eq_true hb34
                  refine st_op (ev_fieldAddr rfl fa26_6 (o' := 6) rfl) rfl rfl rfl ?_
                  have h36 := Ext.blk hx33 (by omega) h30
                  refine st_op (ev_load rfl (lvar_one one2 h36 rfl)) rfl rfl rfl ?_
                  refine st_call rfl rfl rfl ent28 rfl rfl rfl ?_
                  obtain ⟨_, H38, hs37, hs37v, hx39⟩ := ref21_num_spec H32 commit
                  rw [hs37v] at hs37; clear hs37v
                  refine ⟨_, H38, hs37, ?_⟩
                  have H38n : H32.next ≤ H38.next := hx39.1
                  refine st_op (ev_not rfl) rfl rfl rfl ?_
                  refine st_op (ev_pickF rfl rfl) rfl rfl rfl ?_
                  refine st_op (ev_move rfl) rfl rfl rfl ?_
                  refine st_bool 56 rfl (fun hb40 => ?_) (fun hb40 => ?_)
                  ·
                    replace hb40 : (decide (0 ≤ commit ∧ commit ≤ 1099511627776)) = false := by rw [Bool.not_eq_true'] at hb40; exact hb40
                    have hb40 := of_decide_eq_false hb40
                    refine st_skip rfl rfl rfl ?_
                    refine st_skip rfl rfl rfl ?_
                    refine st_skip rfl rfl rfl ?_
                    refine st_skip rfl rfl rfl ?_
                    refine st_op (ev_pickT rfl rfl) rfl rfl rfl ?_
                    try show aw _ _ _ _ _ _
                    refine aw_cond (t := true) rfl ?_
                    try show aw _ _ _ _ _ _
                    refine aw_seq ?_
                    refine aw_reg ?_
                    refine st_op (ev_assign rfl) rfl rfl rfl ?_
                    try show aw _ _ _ _ _ _
                    refine aw_ret ?_
                    have hx41 : Ext H H38 := (Ext.trans (Ext.trans (Ext.trans (Ext.trans (Ext.trans hx6 hx11) hx17) hx27) hx33) hx39)
                    have hres : (Spec.mayMsg kind from_ to_ term index logterm commit yes es s_index s_term s_conf s_data) = false := by first | exact Spec.mayMsg_f1 (by omega) | exact Spec.mayMsg_f5 (by omega) | exact Spec.mayMsg_f4 (by omega) (by omega) | exact Spec.mayMsg_f3 (by assumption) (by omega) (by omega)
                    exact ⟨.bool false, rfl, by first | (rw [hres]; done) | rw [← hres], hx41⟩
                  ·
                    replace hb40 : (decide (0 ≤ commit ∧ commit ≤ 1099511627776)) = true := by rw [Bool.not_eq_false'] at hb40; exact hb40
                    have hb40 := of_decide_eq_true hb40
                    refine st_op (ev_fieldAddr rfl fa26_8 (o' := 8) rfl) rfl rfl rfl ?_
                    have h42 := Ext.blk hx39 (by omega) h36
                    refine st_op (ev_load rfl (lvar_one one22 h42 rfl)) rfl rfl rfl ?_
                    refine st_op (ev_lenSl rfl Try.underlying22) rfl rfl rfl ?_
                    refine st_op (ev_int rfl rfl rfl) rfl rfl rfl ?_
                    refine st_op (ev_pickF rfl rfl) rfl rfl rfl ?_
                    try show aw _ _ _ _ _ _
                    by_cases hc43 : (decide ((es.length : Int) > 8)) = true
                    · refine aw_condT hc43 rfl ?_
                      try show aw _ _ _ _ _ _
                      have hc43 := of_decide_eq_true hc43
                      refine aw_seq ?_
                      refine aw_reg ?_
                      refine st_op (ev_assign rfl) rfl rfl rfl ?_
                      try show aw _ _ _ _ _ _
                      refine aw_ret ?_
                      have hx44 : Ext H H38 := (Ext.trans (Ext.trans (Ext.trans (Ext.trans (Ext.trans hx6 hx11) hx17) hx27) hx33) hx39)
                      have hres : (Spec.mayMsg kind from_ to_ term index logterm commit yes es s_index s_term s_conf s_data) = false := by first | exact Spec.mayMsg_f1 (by omega) | exact Spec.mayMsg_f5 (by omega) | exact Spec.mayMsg_f4 (by omega) (by omega) | exact Spec.mayMsg_f3 (by assumption) (by omega) (by omega)
                      exact ⟨.bool false, rfl, by first | (rw [hres]; done) | rw [← hres], hx44⟩
                    · rw [Bool.not_eq_true] at hc43; refine aw_condF hc43 rfl ?_
                      try show aw _ _ _ _ _ _
                      have hc43 := of_decide_eq_false hc43
                      refine aw_skip ?_
                      try show aw _ _ _ _ _ _
                      refine aw_seq ?_
                      refine aw_seq ?_
                      refine aw_reg ?_
                      refine st_op (ev_fieldAddr rfl fa26_8 (o' := 8) rfl) rfl rfl rfl ?_
                      refine st_op (ev_load rfl (lvar_one one22 h42 rfl)) rfl rfl rfl ?_
                      refine st_op (ev_lenSl rfl Try.underlying22) rfl rfl rfl ?_
                      refine st_op (ev_int rfl rfl rfl) rfl rfl rfl ?_
                      refine st_op (ev_move rfl) rfl rfl rfl ?_
                      refine st_bool 66 rfl (fun hb45 => ?_) (fun hb45 => ?_)
                      ·
                        have hb45 := of_decide_eq_true hb45
                        refine st_op (ev_fieldAddr rfl fa26_0 (o' := 0) rfl) rfl rfl rfl ?_
                        refine st_op (ev_load rfl (lvar_one one3 h42 rfl)) rfl rfl rfl ?_
                        refine st_op (ev_int rfl rfl rfl) rfl rfl rfl ?_
                        refine st_op (ev_pickT rfl rfl) rfl rfl rfl ?_
                        refine st_op (ev_move rfl) rfl rfl rfl ?_
                        refine st_bool 71 rfl (fun hb46 => ?_) (fun hb46 => ?_)
                        ·
                          have hb46 : ¬ (kind = 3) := by simpa using hb46
                          refine st_skip rfl rfl rfl ?_
                          refine st_skip rfl rfl rfl ?_
                          refine st_skip rfl rfl rfl ?_
                          refine st_skip rfl rfl rfl ?_
                          refine st_skip rfl rfl rfl ?_
                          refine st_skip rfl rfl rfl ?_
                          refine st_skip rfl rfl rfl ?_
                          refine st_skip rfl rfl rfl ?_
                          refine st_skip rfl rfl rfl ?_
                          refine st_skip rfl rfl rfl ?_
                          refine st_skip rfl rfl rfl ?_
                          refine st_skip rfl rfl rfl ?_
                          refine st_op (ev_pickT rfl rfl) rfl rfl rfl ?_
                          try show aw _ _ _ _ _ _
                          refine aw_cond (t := true) rfl ?_
                          try show aw _ _ _ _ _ _
                          refine aw_seq ?_
                          refine aw_reg ?_
                          refine st_op (ev_assign rfl) rfl rfl rfl ?_
                          try show aw _ _ _ _ _ _
                          refine aw_ret ?_
                          have hx47 : Ext H H38 := (Ext.trans (Ext.trans (Ext.trans (Ext.trans (Ext.trans hx6 hx11) hx17) hx27) hx33) hx39)
                          have hres : (Spec.mayMsg kind from_ to_ term index logterm commit yes es s_index s_term s_conf s_data) = false := by first | exact Spec.mayMsg_f1 (by omega) | exact Spec.mayMsg_f5 (by omega) | exact Spec.mayMsg_f4 (by omega) (by omega) | exact Spec.mayMsg_f3 (by assumption) (by omega) (by omega)
                          exact ⟨.bool false, rfl, by first | (rw [hres]; done) | rw [← hres], hx47⟩
                        ·
                          have hb46 : (kind = 3) := by simpa using hb46
                          refine st_op (ev_fieldAddr rfl fa26_7 (o' := 7) rfl) rfl rfl rfl ?_
                          refine st_op (ev_load rfl (lvar_one one4 h42 rfl)) rfl rfl rfl ?_
                          refine st_op (ev_move rfl) rfl rfl rfl ?_
                          refine st_bool 74 rfl (fun hb48 => ?_) (fun hb48 => ?_)
                          ·
                            refine st_op (ev_fieldAddr rfl fa26_0 (o' := 0) rfl) rfl rfl rfl ?_
                            refine st_op (ev_load rfl (lvar_one one3 h42 rfl)) rfl rfl rfl ?_
                            refine st_op (ev_int rfl rfl rfl) rfl rfl rfl ?_
                            refine st_op (ev_pickT rfl rfl) rfl rfl rfl ?_
                            refine st_op (ev_move rfl) rfl rfl rfl ?_
                            refine st_bool 79 rfl (fun hb49 => ?_) (fun hb49 => ?_)
                            ·
                              have hb49 : ¬ (kind = 2) := by simpa using hb49
                              refine st_op (ev_fieldAddr rfl fa26_0 (o' := 0) rfl) rfl rfl rfl ?_
                              refine st_op (ev_load rfl (lvar_one one3 h42 rfl)) rfl rfl rfl ?_
                              refine st_op (ev_int rfl rfl rfl) rfl rfl rfl ?_
                              refine st_op (ev_pickT rfl rfl) rfl rfl rfl ?_
                              refine st_op (ev_pickF rfl rfl) rfl rfl rfl ?_
                              try show aw _ _ _ _ _ _
                              by_cases hc50 : (kind != 4) = true
                              · refine aw_condT hc50 rfl ?_
                                try show aw _ _ _ _ _ _
                                have hc50 : ¬ (kind = 4) := by simpa using hc50
                                refine aw_seq ?_
                                refine aw_reg ?_
                                refine st_op (ev_assign rfl) rfl rfl rfl ?_
                                try show aw _ _ _ _ _ _
                                refine aw_ret ?_
                                have hx51 : Ext H H38 := (Ext.trans (Ext.trans (Ext.trans (Ext.trans (Ext.trans hx6 hx11) hx17) hx27) hx33) hx39)
                                have hres : (Spec.mayMsg kind from_ to_ term index logterm commit yes es s_index s_term s_conf s_data) = false := by first | exact Spec.mayMsg_f1 (by omega) | exact Spec.mayMsg_f5 (by omega) | exact Spec.mayMsg_f4 (by omega) (by omega) | exact Spec.mayMsg_f3 (by assumption) (by omega) (by omega)
                                exact ⟨.bool false, rfl, by first | (rw [hres]; done) | rw [← hres], hx51⟩
                              · rw [Bool.not_eq_true] at hc50; refine aw_condF hc50 rfl ?_
                                try show aw _ _ _ _ _ _
                                have hc50 : (kind = 4) := by simpa using hc50
                                exfalso; omega
                            ·
                              have hb49 : (kind = 2) := by simpa using hb49
                              exfalso; omega
                          ·
                            refine st_skip rfl rfl rfl ?_
                            refine st_skip rfl rfl rfl ?_
                            refine st_skip rfl rfl rfl ?_
                            refine st_op (ev_pickF rfl rfl) rfl rfl rfl ?_
                            refine st_op (ev_move rfl) rfl rfl rfl ?_
                            refine st_skip rfl rfl rfl ?_
                            refine st_skip rfl rfl rfl ?_
                            refine st_skip rfl rfl rfl ?_
                            refine st_op (ev_pickF rfl rfl) rfl rfl rfl ?_
                            refine st_op (ev_pickF rfl rfl) rfl rfl rfl ?_
                            try show aw _ _ _ _ _ _
                            refine aw_cond (t := false) rfl ?_
                            try show aw _ _ _ _ _ _
                            refine aw_skip ?_
                            try show aw _ _ _ _ _ _
                            refine aw_seq ?_
                            refine aw_reg ?_
                            refine st_op (ev_fieldAddr rfl fa26_5 (o' := 5) rfl) rfl rfl rfl ?_
                            refine st_op (ev_load rfl (lvar_one one2 h42 rfl)) rfl rfl rfl ?_
                            refine st_op (ev_assign rfl) rfl rfl rfl ?_
                            try show aw _ _ _ _ _ _
                            refine aw_seq ?_
                            refine aw_seq ?_
                            refine aw_reg ?_
                            refine st_op (ev_assign rfl) rfl rfl rfl ?_
                            try show aw _ _ _ _ _ _
                            refine aw_block ?_
                            refine aw_keep [1, 3, 4] (l' := (.cons 1 (.pointer (some ⟨b1, 0, none⟩)) (.cons 3 (.int .i64 logterm) (.cons 4 (.int .i64 0) .nil)))) (by repeat (first | exact Up.done | refine Up.then ?_ | refine Up.inBlock ?_)) rfl ?_
                            refine aw_iter (α := Nat × Int × Heap) (fun a => es.length - a.1) (fun a => (.cons 1 (.pointer (some ⟨b1, 0, none⟩)) (.cons 3 (.int .i64 a.2.1) (.cons 4 (.int .i64 (a.1 : Int)) .nil)))) (fun a => a.2.2) (fun a => (a.1 ≤ es.length) ∧ (Spec.entR term index logterm es = Spec.entR term (index + (a.1 : Int)) a.2.1 (es.drop a.1)) ∧ (Ext H38 a.2.2)) (0, logterm, H38) ⟨(show 0 ≤ es.length from Nat.zero_le _), (show Spec.entR term index logterm es = Spec.entR term (index + (0 : Int)) logterm (es.drop 0) from (by simp)), (show Ext H38 H38 from (Ext.refl H38))⟩ ?_
                            rintro ⟨i, tm, Hl52⟩ ⟨hi, hv, hxl53⟩ ih54
                            replace hi : i ≤ es.length := hi
                            replace hv : Spec.entR term index logterm es = Spec.entR term (index + (i : Int)) tm (es.drop i) := hv
                            replace hxl53 : Ext H38 Hl52 := hxl53
                            show aw _ _ _ (RL _ (.cons 1 (.pointer (some ⟨b1, 0, none⟩)) (.cons 3 (.int .i64 tm) (.cons 4 (.int .i64 (i : Int)) .nil)))) Hl52 _
                            have Hl52n : H38.next ≤ Hl52.next := hxl53.1
                            refine aw_seq ?_
                            refine aw_seq ?_
                            refine aw_reg ?_
                            refine st_op (ev_move rfl) rfl rfl rfl ?_
                            refine st_op (ev_fieldAddr rfl fa26_8 (o' := 8) rfl) rfl rfl rfl ?_
                            have h55 := Ext.blk hxl53 (by omega) h42
                            refine st_op (ev_load rfl (lvar_one one22 h55 rfl)) rfl rfl rfl ?_
                            refine st_op (ev_lenSl rfl Try.underlying22) rfl rfl rfl ?_
                            refine st_op (ev_int rfl rfl rfl) rfl rfl rfl ?_
                            try show aw _ _ _ _ _ _
                            by_cases hc56 : (decide ((i : Int) < (es.length : Int))) = true
                            · refine aw_condT hc56 rfl ?_
                              try show aw _ _ _ _ _ _
                              have hc56 := of_decide_eq_true hc56
                              refine aw_skip ?_
                              try show aw _ _ _ _ _ _
                              refine aw_seq ?_
                              refine aw_block ?_
                              refine aw_seq ?_
                              refine aw_reg ?_
                              refine st_op (ev_fieldAddr rfl fa26_8 (o' := 8) rfl) rfl rfl rfl ?_
                              refine st_op (ev_load rfl (lvar_one one22 h55 rfl)) rfl rfl rfl ?_
                              refine st_op (ev_move rfl) rfl rfl rfl ?_
                              have hx58 : Ext H Hl52 := (Ext.trans (Ext.trans (Ext.trans (Ext.trans (Ext.trans (Ext.trans hx6 hx11) hx17) hx27) hx33) hx39) hxl53)
                              have h57 := Row.ext hes hx58
                              have hi59 : 0 ≤ ((i : Int) : Int) := by omega
                              have hi60 : ((i : Int) : Int) < ((es.length : Nat) : Int) := by first | omega | (simp only [List.length_append, List.length_cons, List.length_nil, List.length_map, List.length_set, List.length_replicate, Spec.bytesOf_length]; omega) | (simp; omega)
                              obtain ⟨x61, hx62⟩ : ∃ e, es[i]? = some e := ⟨_, List.getElem?_eq_getElem (by first | omega | (simp only [List.length_append, List.length_cons, List.length_nil, List.length_map, List.length_set, List.length_replicate, Spec.bytesOf_length]; omega) | (simp; omega))⟩
                              refine st_op (ev_at rfl rfl h57 (getMap Entry.cells hx62) (by first | rfl | omega | simp) hi59 hi60 el22) rfl rfl rfl ?_
                              refine st_op (ev_atN (cs := [.int .i64 x61.index, .int .i64 x61.term, .int .i64 x61.kind, .string x61.data]) rfl h57 (getMap Entry.cells hx62) many45 rfl rfl (by decide)) rfl rfl rfl ?_
                              obtain ⟨b63, H64, he65, b63e, H64n_, hB67, f66⟩ := mem_alloc Hl52 zero45
                              refine st_op (he65 _ _ _ _ _ _ _) rfl rfl rfl ?_
                              have hx68 : Ext Hl52 H64 := Ext.new (by omega) H64n_ f66
                              have H64n : Hl52.next ≤ H64.next := hx68.1
                              obtain ⟨H69, he70, H69n_, hB71, f72⟩ := mem_store (v := .agg #[.int .i64 x61.index, .int .i64 x61.term, .int .i64 x61.kind, .string x61.data]) (o := 0) (cs' := [.int .i64 x61.index, .int .i64 x61.term, .int .i64 x61.kind, .string x61.data]) 4 rfl rfl size45 hB67 rfl rfl rfl
                              refine st_op0 (he70 _ _ _ _ _ _ _ _ _ rfl rfl) rfl rfl ?_
                              have hf73 : Fr (fun q => q = b63) H64 H69 := Fr.write H69n_ f72
                              have H69n : H64.next ≤ H69.next := hf73.1
                              try show aw _ _ _ _ _ _
                              refine aw_seq ?_
                              refine aw_seq ?_
                              refine aw_reg ?_
                              refine st_op (ev_fieldAddr rfl fa45_0 (o' := 0) rfl) rfl rfl rfl ?_
                              refine st_op (ev_load rfl (lvar_one one2 hB71 rfl)) rfl rfl rfl ?_
                              refine st_op (ev_fieldAddr rfl fa26_4 (o' := 4) rfl) rfl rfl rfl ?_
                              have hx75 : Ext Hl52 H69 := (Ext.then hx68 hf73 (fun q hq e => by omega))
                              have h74 := Ext.blk hx75 (by omega) h55
                              refine st_op (ev_load rfl (lvar_one one2 h74 rfl)) rfl rfl rfl ?_
                              refine st_op (ev_int64 (c := index + 1) rfl rfl rfl (by omega) (by omega)) rfl rfl rfl ?_
                              refine st_op (ev_move rfl) rfl rfl rfl ?_
                              refine st_op (ev_int64 (c := (index + 1) + (i : Int)) rfl rfl rfl (by omega) (by omega)) rfl rfl rfl ?_
                              refine st_op (ev_int rfl rfl rfl) rfl rfl rfl ?_
                              refine st_op (ev_move rfl) rfl rfl rfl ?_
                              refine st_bool 107 rfl (fun hb76 => ?_) (fun hb76 => ?_)
                              ·
                                have hb76 : ¬ (x61.index = (index + 1) + (i : Int)) := by simpa using hb76
                                refine st_skip rfl rfl rfl ?_
                                refine st_skip rfl rfl rfl ?_
                                refine st_skip rfl rfl rfl ?_
                                refine st_skip rfl rfl rfl ?_
                                refine st_op (ev_pickT rfl rfl) rfl rfl rfl ?_
                                refine st_op (ev_move rfl) rfl rfl rfl ?_
                                refine st_skip rfl rfl rfl ?_
                                refine st_skip rfl rfl rfl ?_
                                refine st_skip rfl rfl rfl ?_
                                refine st_skip rfl rfl rfl ?_
                                refine st_skip rfl rfl rfl ?_
                                refine st_op (ev_pickT rfl rfl) rfl rfl rfl ?_
                                refine st_op (ev_move rfl) rfl rfl rfl ?_
                                refine st_skip rfl rfl rfl ?_
                                refine st_skip rfl rfl rfl ?_
                                refine st_skip rfl rfl rfl ?_
                                refine st_op (ev_pickT rfl rfl) rfl rfl rfl ?_
                                try show aw _ _ _ _ _ _
                                refine aw_cond (t := true) rfl ?_
                                try show aw _ _ _ _ _ _
                                refine aw_seq ?_
                                refine aw_reg ?_
                                refine st_op (ev_assign rfl) rfl rfl rfl ?_
                                try show aw _ _ _ _ _ _
                                refine aw_ret ?_
                                have hx77 : Ext H H69 := (Ext.then (Ext.trans hx58 hx68) hf73 (fun q hq e => by omega))
                                have hres : (Spec.mayMsg kind from_ to_ term index logterm commit yes es s_index s_term s_conf s_data) = false := by exact Spec.mayMsg_f6 (by rw [hv, drop_at hx62, Spec.entR, if_pos (by first | exact .inl (by omega) | exact .inr (.inl (by omega)) | exact .inr (.inr (.inl (by omega))) | exact .inr (.inr (.inr (by assumption))))])
                                exact ⟨.bool false, rfl, by first | (rw [hres]; done) | rw [← hres], hx77⟩
                              ·
                                have hb76 : (x61.index = (index + 1) + (i : Int)) := by simpa using hb76
                                refine st_op (ev_fieldAddr rfl fa45_1 (o' := 1) rfl) rfl rfl rfl ?_
                                refine st_op (ev_load rfl (lvar_one one2 hB71 rfl)) rfl rfl rfl ?_
                                refine st_op (ev_move rfl) rfl rfl rfl ?_
                                refine st_op (ev_int rfl rfl rfl) rfl rfl rfl ?_
                                refine st_op (ev_pickF rfl rfl) rfl rfl rfl ?_
                                refine st_op (ev_move rfl) rfl rfl rfl ?_
                                refine st_bool 113 rfl (fun hb78 => ?_) (fun hb78 => ?_)
                                ·
                                  have hb78 := of_decide_eq_true hb78
                                  refine st_skip rfl rfl rfl ?_
                                  refine st_skip rfl rfl rfl ?_
                                  refine st_skip rfl rfl rfl ?_
                                  refine st_skip rfl rfl rfl ?_
                                  refine st_skip rfl rfl rfl ?_
                                  refine st_op (ev_pickT rfl rfl) rfl rfl rfl ?_
                                  refine st_op (ev_move rfl) rfl rfl rfl ?_
                                  refine st_skip rfl rfl rfl ?_
                                  refine st_skip rfl rfl rfl ?_
                                  refine st_skip rfl rfl rfl ?_
                                  refine st_op (ev_pickT rfl rfl) rfl rfl rfl ?_
                                  try show aw _ _ _ _ _ _
                                  refine aw_cond (t := true) rfl ?_
                                  try show aw _ _ _ _ _ _
                                  refine aw_seq ?_
                                  refine aw_reg ?_
                                  refine st_op (ev_assign rfl) rfl rfl rfl ?_
                                  try show aw _ _ _ _ _ _
                                  refine aw_ret ?_
                                  have hx79 : Ext H H69 := (Ext.then (Ext.trans hx58 hx68) hf73 (fun q hq e => by omega))
                                  have hres : (Spec.mayMsg kind from_ to_ term index logterm commit yes es s_index s_term s_conf s_data) = false := by exact Spec.mayMsg_f6 (by rw [hv, drop_at hx62, Spec.entR, if_pos (by first | exact .inl (by omega) | exact .inr (.inl (by omega)) | exact .inr (.inr (.inl (by omega))) | exact .inr (.inr (.inr (by assumption))))])
                                  exact ⟨.bool false, rfl, by first | (rw [hres]; done) | rw [← hres], hx79⟩
                                ·
                                  have hb78 := of_decide_eq_false hb78
                                  refine st_op (ev_fieldAddr rfl fa45_1 (o' := 1) rfl) rfl rfl rfl ?_
                                  refine st_op (ev_load rfl (lvar_one one2 hB71 rfl)) rfl rfl rfl ?_
                                  refine st_op (ev_fieldAddr rfl fa26_3 (o' := 3) rfl) rfl rfl rfl ?_
                                  refine st_op (ev_load rfl (lvar_one one2 h74 rfl)) rfl rfl rfl ?_
                                  refine st_op (ev_int rfl rfl rfl) rfl rfl rfl ?_
                                  refine st_op (ev_pickF rfl rfl) rfl rfl rfl ?_
                                  refine st_op (ev_move rfl) rfl rfl rfl ?_
                                  refine st_bool 120 rfl (fun hb80 => ?_) (fun hb80 => ?_)
                                  ·
                                    have hb80 := of_decide_eq_true hb80
                                    refine st_skip rfl rfl rfl ?_
                                    refine st_skip rfl rfl rfl ?_
                                    refine st_skip rfl rfl rfl ?_
                                    refine st_op (ev_pickT rfl rfl) rfl rfl rfl ?_
                                    try show aw _ _ _ _ _ _
                                    refine aw_cond (t := true) rfl ?_
                                    try show aw _ _ _ _ _ _
                                    refine aw_seq ?_
                                    refine aw_reg ?_
                                    refine st_op (ev_assign rfl) rfl rfl rfl ?_
                                    try show aw _ _ _ _ _ _
                                    refine aw_ret ?_
                                    have hx81 : Ext H H69 := (Ext.then (Ext.trans hx58 hx68) hf73 (fun q hq e => by omega))
                                    have hres : (Spec.mayMsg kind from_ to_ term index logterm commit yes es s_index s_term s_conf s_data) = false := by exact Spec.mayMsg_f6 (by rw [hv, drop_at hx62, Spec.entR, if_pos (by first | exact .inl (by omega) | exact .inr (.inl (by omega)) | exact .inr (.inr (.inl (by omega))) | exact .inr (.inr (.inr (by assumption))))])
                                    exact ⟨.bool false, rfl, by first | (rw [hres]; done) | rw [← hres], hx81⟩
                                  ·
                                    have hb80 := of_decide_eq_false hb80
                                    refine st_op (ev_load rfl (lvar_part (l := [.int .i64 x61.index, .int .i64 x61.term, .int .i64 x61.kind, .string x61.data]) many45 hB71 rfl rfl (by decide))) rfl rfl rfl ?_
                                    refine st_call rfl rfl rfl ent29 rfl rfl rfl ?_
                                    obtain ⟨_, H83, hs82, hs82v, hx84⟩ := ref17_MayEntry_spec H69 x61.index x61.term x61.kind x61.data
                                    rw [hs82v] at hs82; clear hs82v
                                    refine ⟨_, H83, hs82, ?_⟩
                                    have H83n : H69.next ≤ H83.next := hx84.1
                                    refine st_op (ev_not rfl) rfl rfl rfl ?_
                                    refine st_op (ev_pickF rfl rfl) rfl rfl rfl ?_
                                    try show aw _ _ _ _ _ _
                                    by_cases hc85 : (!(Spec.mayF false 0 0 x61.index x61.term x61.kind x61.data)) = true
                                    · refine aw_condT hc85 rfl ?_
                                      try show aw _ _ _ _ _ _
                                      replace hc85 : (Spec.mayF false 0 0 x61.index x61.term x61.kind x61.data) = false := by rw [Bool.not_eq_true'] at hc85; exact hc85
                                      refine aw_seq ?_
                                      refine aw_reg ?_
                                      refine st_op (ev_assign rfl) rfl rfl rfl ?_
                                      try show aw _ _ _ _ _ _
                                      refine aw_ret ?_
                                      have hx86 : Ext H H83 := (Ext.trans (Ext.then (Ext.trans hx58 hx68) hf73 (fun q hq e => by omega)) hx84)
                                      have hres : (Spec.mayMsg kind from_ to_ term index logterm commit yes es s_index s_term s_conf s_data) = false := by exact Spec.mayMsg_f6 (by rw [hv, drop_at hx62, Spec.entR, if_pos (by first | exact .inl (by omega) | exact .inr (.inl (by omega)) | exact .inr (.inr (.inl (by omega))) | exact .inr (.inr (.inr (by assumption))))])
                                      exact ⟨.bool false, rfl, by first | (rw [hres]; done) | rw [← hres], hx86⟩
                                    · rw [Bool.not_eq_true] at hc85; refine aw_condF hc85 rfl ?_
                                      try show aw _ _ _ _ _ _
                                      replace hc85 : (Spec.mayF false 0 0 x61.index x61.term x61.kind x61.data) = true := by rw [Bool.not_eq_false'] at hc85; exact hc85
                                      have hc85m := Spec.may_says hc85
                                      refine aw_skip ?_
                                      try show aw _ _ _ _ _ _
                                      refine aw_reg ?_
                                      refine st_op (ev_fieldAddr rfl fa45_1 (o' := 1) rfl) rfl rfl rfl ?_
                                      have h87 := Ext.blk hx84 (by omega) hB71
                                      refine st_op (ev_load rfl (lvar_one one2 h87 rfl)) rfl rfl rfl ?_
                                      refine st_op (ev_assign rfl) rfl rfl rfl ?_
                                      try show aw _ _ _ _ _ _
                                      refine aw_reg ?_
                                      refine st_op (ev_move rfl) rfl rfl rfl ?_
                                      refine st_op (ev_int64 (c := (i : Int) + 1) rfl rfl rfl (by omega) (by omega)) rfl rfl rfl ?_
                                      refine st_op (ev_assign rfl) rfl rfl rfl ?_
                                      try show aw _ _ _ _ _ _
                                      have hx88 : Ext H38 H83 := (Ext.trans (Ext.then (Ext.trans hxl53 hx68) hf73 (fun q hq e => by omega)) hx84)
                                      refine aw_keep [1, 3, 4] (l' := (.cons 1 (.pointer (some ⟨b1, 0, none⟩)) (.cons 3 (.int .i64 x61.term) (.cons 4 (.int .i64 ((i : Int) + 1)) .nil)))) (by repeat (first | exact Up.done | refine Up.then ?_ | refine Up.inBlock ?_)) rfl ?_
                                      exact ih54 (i + 1, x61.term, H83) ⟨(show (i + 1) ≤ es.length from (by omega)), (show Spec.entR term index logterm es = Spec.entR term (index + ((i + 1) : Int)) x61.term (es.drop (i + 1)) from (by rw [hv]; exact Spec.entR_step hx62 (by omega) (by omega) (by omega) (by assumption))), (show Ext H38 H83 from hx88)⟩ (by simp only; omega)
                            · rw [Bool.not_eq_true] at hc56; refine aw_condF hc56 rfl ?_
                              try show aw _ _ _ _ _ _
                              have hc56 := of_decide_eq_false hc56
                              refine aw_exit ?_
                              try show aw _ _ _ _ _ _
                              refine aw_seq ?_
                              refine aw_seq ?_
                              refine aw_reg ?_
                              refine st_op (ev_fieldAddr rfl fa26_0 (o' := 0) rfl) rfl rfl rfl ?_
                              refine st_op (ev_load rfl (lvar_one one3 h55 rfl)) rfl rfl rfl ?_
                              refine st_op (ev_int rfl rfl rfl) rfl rfl rfl ?_
                              try show aw _ _ _ _ _ _
                              by_cases hc89 : (kind != 5) = true
                              · refine aw_condT hc89 rfl ?_
                                try show aw _ _ _ _ _ _
                                have hc89 : ¬ (kind = 5) := by simpa using hc89
                                refine aw_seq ?_
                                refine aw_reg ?_
                                refine st_op (ev_fieldAddr rfl fa26_9 (o' := 9) rfl) rfl rfl rfl ?_
                                refine st_op (ev_load rfl (lvar_part (l := [.int .i64 s_index, .int .i64 s_term, .string s_conf, .string s_data]) many24 h55 rfl rfl (by decide))) rfl rfl rfl ?_
                                refine st_op (ev_build zero24 pl24 (parts := []) rfl (cs := [.int .i64 0, .int .i64 0, .string (⟨#[]⟩), .string (⟨#[]⟩)]) rfl) rfl rfl rfl ?_
                                refine st_call rfl rfl rfl ent30 rfl rfl rfl ?_
                                obtain ⟨_, H91, hs90, hs90v, hx92⟩ := ref17_EqSnap_spec Hl52 s_index s_term s_conf s_data (0 : Int) (0 : Int) (⟨#[]⟩ : ByteArray) (⟨#[]⟩ : ByteArray)
                                rw [hs90v] at hs90; clear hs90v
                                refine ⟨_, H91, hs90, ?_⟩
                                have H91n : Hl52.next ≤ H91.next := hx92.1
                                refine st_op (ev_assign rfl) rfl rfl rfl ?_
                                try show aw _ _ _ _ _ _
                                refine aw_ret ?_
                                have hx93 : Ext H H91 := (Ext.trans (Ext.trans (Ext.trans (Ext.trans (Ext.trans (Ext.trans (Ext.trans hx6 hx11) hx17) hx27) hx33) hx39) hxl53) hx92)
                                have hres : (Spec.mayMsg kind from_ to_ term index logterm commit yes es s_index s_term s_conf s_data) = (Spec.eqSn s_index s_term s_conf s_data (0 : Int) (0 : Int) (⟨#[]⟩ : ByteArray) (⟨#[]⟩ : ByteArray)) := by rw [Spec.mayMsg_last (by omega) (by rw [hv, List.drop_eq_nil_of_le (by omega), Spec.entR, Bool.true_and]; exact decide_eq_true (by omega)) (fun h => by first | omega | exact Bool.noConfusion (h.symm.trans (show yes = false by assumption)))]; rw [if_neg (by omega)]; exact Spec.eqSn_zero
                                exact ⟨.bool (Spec.eqSn s_index s_term s_conf s_data (0 : Int) (0 : Int) (⟨#[]⟩ : ByteArray) (⟨#[]⟩ : ByteArray)), rfl, by first | (rw [hres]; done) | rw [← hres], hx93⟩
                              · rw [Bool.not_eq_true] at hc89; refine aw_condF hc89 rfl ?_
                                try show aw _ _ _ _ _ _
                                have hc89 : (kind = 5) := by simpa using hc89
                                exfalso; omega
                      ·
                        have hb45 := of_decide_eq_false hb45
                        refine st_skip rfl rfl rfl ?_
                        refine st_skip rfl rfl rfl ?_
                        refine st_skip rfl rfl rfl ?_
                        refine st_op (ev_pickF rfl rfl) rfl rfl rfl ?_
                        refine st_op (ev_move rfl) rfl rfl rfl ?_
                        refine st_op (ev_fieldAddr rfl fa26_7 (o' := 7) rfl) rfl rfl rfl ?_
                        refine st_op (ev_load rfl (lvar_one one4 h42 rfl)) rfl rfl rfl ?_
                        refine st_op (ev_move rfl) rfl rfl rfl ?_
                        refine st_bool 74 rfl (fun hb94 => ?_) (fun hb94 => ?_)
                        ·
                          refine st_op (ev_fieldAddr rfl fa26_0 (o' := 0) rfl) rfl rfl rfl ?_
                          refine st_op (ev_load rfl (lvar_one one3 h42 rfl)) rfl rfl rfl ?_
                          refine st_op (ev_int rfl rfl rfl) rfl rfl rfl ?_
                          refine st_op (ev_pickT rfl rfl) rfl rfl rfl ?_
                          refine st_op (ev_move rfl) rfl rfl rfl ?_
                          refine st_bool 79 rfl (fun hb95 => ?_) (fun hb95 => ?_)
                          ·
                            have hb95 : ¬ (kind = 2) := by simpa using hb95
                            refine st_op (ev_fieldAddr rfl fa26_0 (o' := 0) rfl) rfl rfl rfl ?_
                            refine st_op (ev_load rfl (lvar_one one3 h42 rfl)) rfl rfl rfl ?_
                            refine st_op (ev_int rfl rfl rfl) rfl rfl rfl ?_
                            refine st_op (ev_pickT rfl rfl) rfl rfl rfl ?_
                            refine st_op (ev_pickF rfl rfl) rfl rfl rfl ?_
                            try show aw _ _ _ _ _ _
                            by_cases hc96 : (kind != 4) = true
                            · refine aw_condT hc96 rfl ?_
                              try show aw _ _ _ _ _ _
                              have hc96 : ¬ (kind = 4) := by simpa using hc96
                              refine aw_seq ?_
                              refine aw_reg ?_
                              refine st_op (ev_assign rfl) rfl rfl rfl ?_
                              try show aw _ _ _ _ _ _
                              refine aw_ret ?_
                              have hx97 : Ext H H38 := (Ext.trans (Ext.trans (Ext.trans (Ext.trans (Ext.trans hx6 hx11) hx17) hx27) hx33) hx39)
                              have hres : (Spec.mayMsg kind from_ to_ term index logterm commit yes es s_index s_term s_conf s_data) = false := by first | exact Spec.mayMsg_f1 (by omega) | exact Spec.mayMsg_f5 (by omega) | exact Spec.mayMsg_f4 (by omega) (by omega) | exact Spec.mayMsg_f3 (by assumption) (by omega) (by omega)
                              exact ⟨.bool false, rfl, by first | (rw [hres]; done) | rw [← hres], hx97⟩
                            · rw [Bool.not_eq_true] at hc96; refine aw_condF hc96 rfl ?_
                              try show aw _ _ _ _ _ _
                              have hc96 : (kind = 4) := by simpa using hc96
                              refine aw_skip ?_
                              try show aw _ _ _ _ _ _
                              refine aw_seq ?_
                              refine aw_reg ?_
                              refine st_op (ev_fieldAddr rfl fa26_5 (o' := 5) rfl) rfl rfl rfl ?_
                              refine st_op (ev_load rfl (lvar_one one2 h42 rfl)) rfl rfl rfl ?_
                              refine st_op (ev_assign rfl) rfl rfl rfl ?_
                              try show aw _ _ _ _ _ _
                              refine aw_seq ?_
                              refine aw_seq ?_
                              refine aw_reg ?_
                              refine st_op (ev_assign rfl) rfl rfl rfl ?_
                              try show aw _ _ _ _ _ _
                              refine aw_block ?_
                              refine aw_keep [1, 3, 4] (l' := (.cons 1 (.pointer (some ⟨b1, 0, none⟩)) (.cons 3 (.int .i64 logterm) (.cons 4 (.int .i64 0) .nil)))) (by repeat (first | exact Up.done | refine Up.then ?_ | refine Up.inBlock ?_)) rfl ?_
                              refine aw_iter (α := Nat × Int × Heap) (fun a => es.length - a.1) (fun a => (.cons 1 (.pointer (some ⟨b1, 0, none⟩)) (.cons 3 (.int .i64 a.2.1) (.cons 4 (.int .i64 (a.1 : Int)) .nil)))) (fun a => a.2.2) (fun a => (a.1 ≤ es.length) ∧ (Spec.entR term index logterm es = Spec.entR term (index + (a.1 : Int)) a.2.1 (es.drop a.1)) ∧ (Ext H38 a.2.2)) (0, logterm, H38) ⟨(show 0 ≤ es.length from Nat.zero_le _), (show Spec.entR term index logterm es = Spec.entR term (index + (0 : Int)) logterm (es.drop 0) from (by simp)), (show Ext H38 H38 from (Ext.refl H38))⟩ ?_
                              rintro ⟨i, tm, Hl98⟩ ⟨hi, hv, hxl99⟩ ih100
                              replace hi : i ≤ es.length := hi
                              replace hv : Spec.entR term index logterm es = Spec.entR term (index + (i : Int)) tm (es.drop i) := hv
                              replace hxl99 : Ext H38 Hl98 := hxl99
                              show aw _ _ _ (RL _ (.cons 1 (.pointer (some ⟨b1, 0, none⟩)) (.cons 3 (.int .i64 tm) (.cons 4 (.int .i64 (i : Int)) .nil)))) Hl98 _
                              have Hl98n : H38.next ≤ Hl98.next := hxl99.1
                              refine aw_seq ?_
                              refine aw_seq ?_
                              refine aw_reg ?_
                              refine st_op (ev_move rfl) rfl rfl rfl ?_
                              refine st_op (ev_fieldAddr rfl fa26_8 (o' := 8) rfl) rfl rfl rfl ?_
                              have h101 := Ext.blk hxl99 (by omega) h42
                              refine st_op (ev_load rfl (lvar_one one22 h101 rfl)) rfl rfl rfl ?_
                              refine st_op (ev_lenSl rfl Try.underlying22) rfl rfl rfl ?_
                              refine st_op (ev_int rfl rfl rfl) rfl rfl rfl ?_
                              try show aw _ _ _ _ _ _
                              by_cases hc102 : (decide ((i : Int) < (es.length : Int))) = true
                              · refine aw_condT hc102 rfl ?_
                                try show aw _ _ _ _ _ _
                                have hc102 := of_decide_eq_true hc102
                                exfalso; omega
                              · rw [Bool.not_eq_true] at hc102; refine aw_condF hc102 rfl ?_
                                try show aw _ _ _ _ _ _
                                have hc102 := of_decide_eq_false hc102
                                refine aw_exit ?_
                                try show aw _ _ _ _ _ _
                                refine aw_seq ?_
                                refine aw_seq ?_
                                refine aw_reg ?_
                                refine st_op (ev_fieldAddr rfl fa26_0 (o' := 0) rfl) rfl rfl rfl ?_
                                refine st_op (ev_load rfl (lvar_one one3 h101 rfl)) rfl rfl rfl ?_
                                refine st_op (ev_int rfl rfl rfl) rfl rfl rfl ?_
                                try show aw _ _ _ _ _ _
                                by_cases hc103 : (kind != 5) = true
                                · refine aw_condT hc103 rfl ?_
                                  try show aw _ _ _ _ _ _
                                  have hc103 : ¬ (kind = 5) := by simpa using hc103
                                  refine aw_seq ?_
                                  refine aw_reg ?_
                                  refine st_op (ev_fieldAddr rfl fa26_9 (o' := 9) rfl) rfl rfl rfl ?_
                                  refine st_op (ev_load rfl (lvar_part (l := [.int .i64 s_index, .int .i64 s_term, .string s_conf, .string s_data]) many24 h101 rfl rfl (by decide))) rfl rfl rfl ?_
                                  refine st_op (ev_build zero24 pl24 (parts := []) rfl (cs := [.int .i64 0, .int .i64 0, .string (⟨#[]⟩), .string (⟨#[]⟩)]) rfl) rfl rfl rfl ?_
                                  refine st_call rfl rfl rfl ent30 rfl rfl rfl ?_
                                  obtain ⟨_, H105, hs104, hs104v, hx106⟩ := ref17_EqSnap_spec Hl98 s_index s_term s_conf s_data (0 : Int) (0 : Int) (⟨#[]⟩ : ByteArray) (⟨#[]⟩ : ByteArray)
                                  rw [hs104v] at hs104; clear hs104v
                                  refine ⟨_, H105, hs104, ?_⟩
                                  have H105n : Hl98.next ≤ H105.next := hx106.1
                                  refine st_op (ev_assign rfl) rfl rfl rfl ?_
                                  try show aw _ _ _ _ _ _
                                  refine aw_ret ?_
                                  have hx107 : Ext H H105 := (Ext.trans (Ext.trans (Ext.trans (Ext.trans (Ext.trans (Ext.trans (Ext.trans hx6 hx11) hx17) hx27) hx33) hx39) hxl99) hx106)
                                  have hres : (Spec.mayMsg kind from_ to_ term index logterm commit yes es s_index s_term s_conf s_data) = (Spec.eqSn s_index s_term s_conf s_data (0 : Int) (0 : Int) (⟨#[]⟩ : ByteArray) (⟨#[]⟩ : ByteArray)) := by rw [Spec.mayMsg_last (by omega) (by rw [hv, List.drop_eq_nil_of_le (by omega), Spec.entR, Bool.true_and]; exact decide_eq_true (by omega)) (fun h => by first | omega | exact Bool.noConfusion (h.symm.trans (show yes = false by assumption)))]; rw [if_neg (by omega)]; exact Spec.eqSn_zero
                                  exact ⟨.bool (Spec.eqSn s_index s_term s_conf s_data (0 : Int) (0 : Int) (⟨#[]⟩ : ByteArray) (⟨#[]⟩ : ByteArray)), rfl, by first | (rw [hres]; done) | rw [← hres], hx107⟩
                                · rw [Bool.not_eq_true] at hc103; refine aw_condF hc103 rfl ?_
                                  try show aw _ _ _ _ _ _
                                  have hc103 : (kind = 5) := by simpa using hc103
                                  exfalso; omega
                          ·
                            have hb95 : (kind = 2) := by simpa using hb95
                            refine st_skip rfl rfl rfl ?_
                            refine st_skip rfl rfl rfl ?_
                            refine st_skip rfl rfl rfl ?_
                            refine st_op (ev_pickF rfl rfl) rfl rfl rfl ?_
                            refine st_op (ev_pickF rfl rfl) rfl rfl rfl ?_
                            try show aw _ _ _ _ _ _
                            refine aw_cond (t := false) rfl ?_
                            try show aw _ _ _ _ _ _
                            refine aw_skip ?_
                            try show aw _ _ _ _ _ _
                            refine aw_seq ?_
                            refine aw_reg ?_
                            refine st_op (ev_fieldAddr rfl fa26_5 (o' := 5) rfl) rfl rfl rfl ?_
                            refine st_op (ev_load rfl (lvar_one one2 h42 rfl)) rfl rfl rfl ?_
                            refine st_op (ev_assign rfl) rfl rfl rfl ?_
                            try show aw _ _ _ _ _ _
                            refine aw_seq ?_
                            refine aw_seq ?_
                            refine aw_reg ?_
                            refine st_op (ev_assign rfl) rfl rfl rfl ?_
                            try show aw _ _ _ _ _ _
                            refine aw_block ?_
                            refine aw_keep [1, 3, 4] (l' := (.cons 1 (.pointer (some ⟨b1, 0, none⟩)) (.cons 3 (.int .i64 logterm) (.cons 4 (.int .i64 0) .nil)))) (by repeat (first | exact Up.done | refine Up.then ?_ | refine Up.inBlock ?_)) rfl ?_
                            refine aw_iter (α := Nat × Int × Heap) (fun a => es.length - a.1) (fun a => (.cons 1 (.pointer (some ⟨b1, 0, none⟩)) (.cons 3 (.int .i64 a.2.1) (.cons 4 (.int .i64 (a.1 : Int)) .nil)))) (fun a => a.2.2) (fun a => (a.1 ≤ es.length) ∧ (Spec.entR term index logterm es = Spec.entR term (index + (a.1 : Int)) a.2.1 (es.drop a.1)) ∧ (Ext H38 a.2.2)) (0, logterm, H38) ⟨(show 0 ≤ es.length from Nat.zero_le _), (show Spec.entR term index logterm es = Spec.entR term (index + (0 : Int)) logterm (es.drop 0) from (by simp)), (show Ext H38 H38 from (Ext.refl H38))⟩ ?_
                            rintro ⟨i, tm, Hl108⟩ ⟨hi, hv, hxl109⟩ ih110
                            replace hi : i ≤ es.length := hi
                            replace hv : Spec.entR term index logterm es = Spec.entR term (index + (i : Int)) tm (es.drop i) := hv
                            replace hxl109 : Ext H38 Hl108 := hxl109
                            show aw _ _ _ (RL _ (.cons 1 (.pointer (some ⟨b1, 0, none⟩)) (.cons 3 (.int .i64 tm) (.cons 4 (.int .i64 (i : Int)) .nil)))) Hl108 _
                            have Hl108n : H38.next ≤ Hl108.next := hxl109.1
                            refine aw_seq ?_
                            refine aw_seq ?_
                            refine aw_reg ?_
                            refine st_op (ev_move rfl) rfl rfl rfl ?_
                            refine st_op (ev_fieldAddr rfl fa26_8 (o' := 8) rfl) rfl rfl rfl ?_
                            have h111 := Ext.blk hxl109 (by omega) h42
                            refine st_op (ev_load rfl (lvar_one one22 h111 rfl)) rfl rfl rfl ?_
                            refine st_op (ev_lenSl rfl Try.underlying22) rfl rfl rfl ?_
                            refine st_op (ev_int rfl rfl rfl) rfl rfl rfl ?_
                            try show aw _ _ _ _ _ _
                            by_cases hc112 : (decide ((i : Int) < (es.length : Int))) = true
                            · refine aw_condT hc112 rfl ?_
                              try show aw _ _ _ _ _ _
                              have hc112 := of_decide_eq_true hc112
                              exfalso; omega
                            · rw [Bool.not_eq_true] at hc112; refine aw_condF hc112 rfl ?_
                              try show aw _ _ _ _ _ _
                              have hc112 := of_decide_eq_false hc112
                              refine aw_exit ?_
                              try show aw _ _ _ _ _ _
                              refine aw_seq ?_
                              refine aw_seq ?_
                              refine aw_reg ?_
                              refine st_op (ev_fieldAddr rfl fa26_0 (o' := 0) rfl) rfl rfl rfl ?_
                              refine st_op (ev_load rfl (lvar_one one3 h111 rfl)) rfl rfl rfl ?_
                              refine st_op (ev_int rfl rfl rfl) rfl rfl rfl ?_
                              try show aw _ _ _ _ _ _
                              by_cases hc113 : (kind != 5) = true
                              · refine aw_condT hc113 rfl ?_
                                try show aw _ _ _ _ _ _
                                have hc113 : ¬ (kind = 5) := by simpa using hc113
                                refine aw_seq ?_
                                refine aw_reg ?_
                                refine st_op (ev_fieldAddr rfl fa26_9 (o' := 9) rfl) rfl rfl rfl ?_
                                refine st_op (ev_load rfl (lvar_part (l := [.int .i64 s_index, .int .i64 s_term, .string s_conf, .string s_data]) many24 h111 rfl rfl (by decide))) rfl rfl rfl ?_
                                refine st_op (ev_build zero24 pl24 (parts := []) rfl (cs := [.int .i64 0, .int .i64 0, .string (⟨#[]⟩), .string (⟨#[]⟩)]) rfl) rfl rfl rfl ?_
                                refine st_call rfl rfl rfl ent30 rfl rfl rfl ?_
                                obtain ⟨_, H115, hs114, hs114v, hx116⟩ := ref17_EqSnap_spec Hl108 s_index s_term s_conf s_data (0 : Int) (0 : Int) (⟨#[]⟩ : ByteArray) (⟨#[]⟩ : ByteArray)
                                rw [hs114v] at hs114; clear hs114v
                                refine ⟨_, H115, hs114, ?_⟩
                                have H115n : Hl108.next ≤ H115.next := hx116.1
                                refine st_op (ev_assign rfl) rfl rfl rfl ?_
                                try show aw _ _ _ _ _ _
                                refine aw_ret ?_
                                have hx117 : Ext H H115 := (Ext.trans (Ext.trans (Ext.trans (Ext.trans (Ext.trans (Ext.trans (Ext.trans hx6 hx11) hx17) hx27) hx33) hx39) hxl109) hx116)
                                have hres : (Spec.mayMsg kind from_ to_ term index logterm commit yes es s_index s_term s_conf s_data) = (Spec.eqSn s_index s_term s_conf s_data (0 : Int) (0 : Int) (⟨#[]⟩ : ByteArray) (⟨#[]⟩ : ByteArray)) := by rw [Spec.mayMsg_last (by omega) (by rw [hv, List.drop_eq_nil_of_le (by omega), Spec.entR, Bool.true_and]; exact decide_eq_true (by omega)) (fun h => by first | omega | exact Bool.noConfusion (h.symm.trans (show yes = false by assumption)))]; rw [if_neg (by omega)]; exact Spec.eqSn_zero
                                exact ⟨.bool (Spec.eqSn s_index s_term s_conf s_data (0 : Int) (0 : Int) (⟨#[]⟩ : ByteArray) (⟨#[]⟩ : ByteArray)), rfl, by first | (rw [hres]; done) | rw [← hres], hx117⟩
                              · rw [Bool.not_eq_true] at hc113; refine aw_condF hc113 rfl ?_
                                try show aw _ _ _ _ _ _
                                have hc113 : (kind = 5) := by simpa using hc113
                                exfalso; omega
                        ·
                          refine st_skip rfl rfl rfl ?_
                          refine st_skip rfl rfl rfl ?_
                          refine st_skip rfl rfl rfl ?_
                          refine st_op (ev_pickF rfl rfl) rfl rfl rfl ?_
                          refine st_op (ev_move rfl) rfl rfl rfl ?_
                          refine st_skip rfl rfl rfl ?_
                          refine st_skip rfl rfl rfl ?_
                          refine st_skip rfl rfl rfl ?_
                          refine st_op (ev_pickF rfl rfl) rfl rfl rfl ?_
                          refine st_op (ev_pickF rfl rfl) rfl rfl rfl ?_
                          try show aw _ _ _ _ _ _
                          refine aw_cond (t := false) rfl ?_
                          try show aw _ _ _ _ _ _
                          refine aw_skip ?_
                          try show aw _ _ _ _ _ _
                          refine aw_seq ?_
                          refine aw_reg ?_
                          refine st_op (ev_fieldAddr rfl fa26_5 (o' := 5) rfl) rfl rfl rfl ?_
                          refine st_op (ev_load rfl (lvar_one one2 h42 rfl)) rfl rfl rfl ?_
                          refine st_op (ev_assign rfl) rfl rfl rfl ?_
                          try show aw _ _ _ _ _ _
                          refine aw_seq ?_
                          refine aw_seq ?_
                          refine aw_reg ?_
                          refine st_op (ev_assign rfl) rfl rfl rfl ?_
                          try show aw _ _ _ _ _ _
                          refine aw_block ?_
                          refine aw_keep [1, 3, 4] (l' := (.cons 1 (.pointer (some ⟨b1, 0, none⟩)) (.cons 3 (.int .i64 logterm) (.cons 4 (.int .i64 0) .nil)))) (by repeat (first | exact Up.done | refine Up.then ?_ | refine Up.inBlock ?_)) rfl ?_
                          refine aw_iter (α := Nat × Int × Heap) (fun a => es.length - a.1) (fun a => (.cons 1 (.pointer (some ⟨b1, 0, none⟩)) (.cons 3 (.int .i64 a.2.1) (.cons 4 (.int .i64 (a.1 : Int)) .nil)))) (fun a => a.2.2) (fun a => (a.1 ≤ es.length) ∧ (Spec.entR term index logterm es = Spec.entR term (index + (a.1 : Int)) a.2.1 (es.drop a.1)) ∧ (Ext H38 a.2.2)) (0, logterm, H38) ⟨(show 0 ≤ es.length from Nat.zero_le _), (show Spec.entR term index logterm es = Spec.entR term (index + (0 : Int)) logterm (es.drop 0) from (by simp)), (show Ext H38 H38 from (Ext.refl H38))⟩ ?_
                          rintro ⟨i, tm, Hl118⟩ ⟨hi, hv, hxl119⟩ ih120
                          replace hi : i ≤ es.length := hi
                          replace hv : Spec.entR term index logterm es = Spec.entR term (index + (i : Int)) tm (es.drop i) := hv
                          replace hxl119 : Ext H38 Hl118 := hxl119
                          show aw _ _ _ (RL _ (.cons 1 (.pointer (some ⟨b1, 0, none⟩)) (.cons 3 (.int .i64 tm) (.cons 4 (.int .i64 (i : Int)) .nil)))) Hl118 _
                          have Hl118n : H38.next ≤ Hl118.next := hxl119.1
                          refine aw_seq ?_
                          refine aw_seq ?_
                          refine aw_reg ?_
                          refine st_op (ev_move rfl) rfl rfl rfl ?_
                          refine st_op (ev_fieldAddr rfl fa26_8 (o' := 8) rfl) rfl rfl rfl ?_
                          have h121 := Ext.blk hxl119 (by omega) h42
                          refine st_op (ev_load rfl (lvar_one one22 h121 rfl)) rfl rfl rfl ?_
                          refine st_op (ev_lenSl rfl Try.underlying22) rfl rfl rfl ?_
                          refine st_op (ev_int rfl rfl rfl) rfl rfl rfl ?_
                          try show aw _ _ _ _ _ _
                          by_cases hc122 : (decide ((i : Int) < (es.length : Int))) = true
                          · refine aw_condT hc122 rfl ?_
                            try show aw _ _ _ _ _ _
                            have hc122 := of_decide_eq_true hc122
                            exfalso; omega
                          · rw [Bool.not_eq_true] at hc122; refine aw_condF hc122 rfl ?_
                            try show aw _ _ _ _ _ _
                            have hc122 := of_decide_eq_false hc122
                            refine aw_exit ?_
                            try show aw _ _ _ _ _ _
                            refine aw_seq ?_
                            refine aw_seq ?_
                            refine aw_reg ?_
                            refine st_op (ev_fieldAddr rfl fa26_0 (o' := 0) rfl) rfl rfl rfl ?_
                            refine st_op (ev_load rfl (lvar_one one3 h121 rfl)) rfl rfl rfl ?_
                            refine st_op (ev_int rfl rfl rfl) rfl rfl rfl ?_
                            try show aw _ _ _ _ _ _
                            by_cases hc123 : (kind != 5) = true
                            · refine aw_condT hc123 rfl ?_
                              try show aw _ _ _ _ _ _
                              have hc123 : ¬ (kind = 5) := by simpa using hc123
                              refine aw_seq ?_
                              refine aw_reg ?_
                              refine st_op (ev_fieldAddr rfl fa26_9 (o' := 9) rfl) rfl rfl rfl ?_
                              refine st_op (ev_load rfl (lvar_part (l := [.int .i64 s_index, .int .i64 s_term, .string s_conf, .string s_data]) many24 h121 rfl rfl (by decide))) rfl rfl rfl ?_
                              refine st_op (ev_build zero24 pl24 (parts := []) rfl (cs := [.int .i64 0, .int .i64 0, .string (⟨#[]⟩), .string (⟨#[]⟩)]) rfl) rfl rfl rfl ?_
                              refine st_call rfl rfl rfl ent30 rfl rfl rfl ?_
                              obtain ⟨_, H125, hs124, hs124v, hx126⟩ := ref17_EqSnap_spec Hl118 s_index s_term s_conf s_data (0 : Int) (0 : Int) (⟨#[]⟩ : ByteArray) (⟨#[]⟩ : ByteArray)
                              rw [hs124v] at hs124; clear hs124v
                              refine ⟨_, H125, hs124, ?_⟩
                              have H125n : Hl118.next ≤ H125.next := hx126.1
                              refine st_op (ev_assign rfl) rfl rfl rfl ?_
                              try show aw _ _ _ _ _ _
                              refine aw_ret ?_
                              have hx127 : Ext H H125 := (Ext.trans (Ext.trans (Ext.trans (Ext.trans (Ext.trans (Ext.trans (Ext.trans hx6 hx11) hx17) hx27) hx33) hx39) hxl119) hx126)
                              have hres : (Spec.mayMsg kind from_ to_ term index logterm commit yes es s_index s_term s_conf s_data) = (Spec.eqSn s_index s_term s_conf s_data (0 : Int) (0 : Int) (⟨#[]⟩ : ByteArray) (⟨#[]⟩ : ByteArray)) := by rw [Spec.mayMsg_last (by omega) (by rw [hv, List.drop_eq_nil_of_le (by omega), Spec.entR, Bool.true_and]; exact decide_eq_true (by omega)) (fun h => by first | omega | exact Bool.noConfusion (h.symm.trans (show yes = false by assumption)))]; rw [if_neg (by omega)]; exact Spec.eqSn_zero
                              exact ⟨.bool (Spec.eqSn s_index s_term s_conf s_data (0 : Int) (0 : Int) (⟨#[]⟩ : ByteArray) (⟨#[]⟩ : ByteArray)), rfl, by first | (rw [hres]; done) | rw [← hres], hx127⟩
                            · rw [Bool.not_eq_true] at hc123; refine aw_condF hc123 rfl ?_
                              try show aw _ _ _ _ _ _
                              have hc123 : (kind = 5) := by simpa using hc123
                              refine aw_skip ?_
                              try show aw _ _ _ _ _ _
                              refine aw_seq ?_
                              refine aw_reg ?_
                              refine st_op (ev_fieldAddr rfl fa26_9 (o' := 9) rfl) rfl rfl rfl ?_
                              refine st_op (ev_fieldAddr rfl fa24_2 (o' := 11) rfl) rfl rfl rfl ?_
                              refine st_op (ev_load rfl (lvar_one one9 h121 rfl)) rfl rfl rfl ?_
                              refine st_call rfl rfl rfl ent31 rfl rfl rfl ?_
                              obtain ⟨_, H129, hs128, A131, c132, hs128v, hm133, hx130⟩ := ref21_DecodeConf_spec Hl118 s_conf (by omega)
                              rw [hs128v] at hs128; clear hs128v
                              refine ⟨_, H129, hs128, ?_⟩
                              have H129n : Hl118.next ≤ H129.next := hx130.1
                              refine st_op (ev_move rfl) rfl rfl rfl ?_
                              refine st_op (ev_extract rfl rfl) rfl rfl rfl ?_
                              refine st_op (ev_extract rfl rfl) rfl rfl rfl ?_
                              refine st_op (ev_assign rfl) rfl rfl rfl ?_
                              refine st_op (ev_assign rfl) rfl rfl rfl ?_
                              try show aw _ _ _ _ _ _
                              refine aw_seq ?_
                              refine aw_reg ?_
                              refine st_op (ev_move rfl) rfl rfl rfl ?_
                              refine st_op (ev_move rfl) rfl rfl rfl ?_
                              refine st_bool 142 rfl (fun hb134 => ?_) (fun hb134 => ?_)
                              ·
                                refine st_op (ev_fieldAddr rfl fa26_9 (o' := 9) rfl) rfl rfl rfl ?_
                                have h135 := Ext.blk hx130 (by omega) h121
                                refine st_op (ev_load rfl (lvar_part (l := [.int .i64 s_index, .int .i64 s_term, .string s_conf, .string s_data]) many24 h135 rfl rfl (by decide))) rfl rfl rfl ?_
                                refine st_call rfl rfl rfl ent32 rfl rfl rfl ?_
                                obtain ⟨_, H137, hs136, hs136v, hx138⟩ := ref17_MaySnap_spec H129 s_index s_term s_conf s_data
                                rw [hs136v] at hs136; clear hs136v
                                refine ⟨_, H137, hs136, ?_⟩
                                have H137n : H129.next ≤ H137.next := hx138.1
                                refine st_op (ev_pickT rfl rfl) rfl rfl rfl ?_
                                refine st_op (ev_assign rfl) rfl rfl rfl ?_
                                try show aw _ _ _ _ _ _
                                refine aw_ret ?_
                                have hx139 : Ext H H137 := (Ext.trans (Ext.trans (Ext.trans (Ext.trans (Ext.trans (Ext.trans (Ext.trans (Ext.trans hx6 hx11) hx17) hx27) hx33) hx39) hxl119) hx130) hx138)
                                have hres : (Spec.mayMsg kind from_ to_ term index logterm commit yes es s_index s_term s_conf s_data) = (Spec.mayS s_index s_term s_conf s_data) := by rw [Spec.mayMsg_last (by omega) (by rw [hv, List.drop_eq_nil_of_le (by omega), Spec.entR, Bool.true_and]; exact decide_eq_true (by omega)) (fun h => by first | omega | exact Bool.noConfusion (h.symm.trans (show yes = false by assumption)))]; rw [if_pos (by omega), show (Spec.decC s_conf).2 = true by assumption, Bool.true_and]
                                exact ⟨.bool (Spec.mayS s_index s_term s_conf s_data), rfl, by first | (rw [hres]; done) | rw [← hres], hx139⟩
                              ·
                                refine st_skip rfl rfl rfl ?_
                                refine st_skip rfl rfl rfl ?_
                                refine st_skip rfl rfl rfl ?_
                                refine st_op (ev_pickF rfl rfl) rfl rfl rfl ?_
                                refine st_op (ev_assign rfl) rfl rfl rfl ?_
                                try show aw _ _ _ _ _ _
                                refine aw_ret ?_
                                have hx140 : Ext H H129 := (Ext.trans (Ext.trans (Ext.trans (Ext.trans (Ext.trans (Ext.trans (Ext.trans hx6 hx11) hx17) hx27) hx33) hx39) hxl119) hx130)
                                have hres : (Spec.mayMsg kind from_ to_ term index logterm commit yes es s_index s_term s_conf s_data) = false := by rw [Spec.mayMsg_last (by omega) (by rw [hv, List.drop_eq_nil_of_le (by omega), Spec.entR, Bool.true_and]; exact decide_eq_true (by omega)) (fun h => by first | omega | exact Bool.noConfusion (h.symm.trans (show yes = false by assumption)))]; rw [if_pos (by omega), show (Spec.decC s_conf).2 = false by assumption]; rfl
                                exact ⟨.bool false, rfl, by first | (rw [hres]; done) | rw [← hres], hx140⟩
theorem net_New_spec (H : Heap)  : ∃ v H', Spec Try.prog 16 [] H v H' ∧ (∃ rb0, (v = .pointer (some ⟨rb0, 0, none⟩)) ∧ (H.next ≤ rb0) ∧ (rb0 < H'.next) ∧ (H'.blk rb0 = some ⟨[.slice none 0 0], 0, false, false⟩) ∧ (Ext H H')) := by
  refine spec_go0 E0_ok 3 (f := 16) Try.func16 rfl rfl ?_
  refine aw_seq ?_
  refine aw_reg ?_
  refine st_op (ev_assign rfl) rfl rfl rfl ?_
  try show aw _ _ _ _ _ _
  refine aw_seq ?_
  refine aw_reg ?_
  refine st_op (ev_build zero73 pl73 (parts := []) rfl (cs := [.slice none 0 0]) rfl) rfl rfl rfl ?_
  obtain ⟨b1, H2, he3, b1e, H2n_, hB5, f4⟩ := mem_box (P := Try.prog) H (v := .agg #[.slice none 0 0]) (cs := [.slice none 0 0]) rfl rfl
  refine st_op (he3 _ _ _ _ _ _ _ _ _ rfl) rfl rfl rfl ?_
  have hx6 : Ext H H2 := Ext.new (by omega) H2n_ f4
  have H2n : H.next ≤ H2.next := hx6.1
  refine st_op (ev_assign rfl) rfl rfl rfl ?_
  try show aw _ _ _ _ _ _
  refine aw_ret ?_
  exact ⟨.pointer (some ⟨b1, 0, none⟩), rfl, b1, rfl, (by omega), (by omega), hB5, hx6⟩
theorem raft_server_spec (H : Heap) (id : Int) : ∃ v H', Spec Try.prog 40 [.int .i64 id] H v H' ∧ ((v = .bool (decide (1 ≤ id ∧ id ≤ 7))) ∧ (Ext H H')) := by
  refine spec_go1 E0_ok 9 (f := 40) Try.func40 rfl rfl rfl ?_
  refine aw_seq ?_
  refine aw_reg ?_
  refine st_op (ev_assign rfl) rfl rfl rfl ?_
  try show aw _ _ _ _ _ _
  refine aw_seq ?_
  refine aw_reg ?_
  refine st_op (ev_move rfl) rfl rfl rfl ?_
  refine st_op (ev_int rfl rfl rfl) rfl rfl rfl ?_
  refine st_op (ev_move rfl) rfl rfl rfl ?_
  refine st_bool 5 rfl (fun hb1 => ?_) (fun hb1 => ?_)
  ·
    have hb1 := of_decide_eq_true hb1
    refine st_op (ev_move rfl) rfl rfl rfl ?_
    refine st_op (ev_int rfl rfl rfl) rfl rfl rfl ?_
    refine st_op (ev_pickT rfl rfl) rfl rfl rfl ?_
    refine st_op (ev_assign rfl) rfl rfl rfl ?_
    try show aw _ _ _ _ _ _
    refine aw_ret ?_
    have hres : (decide (1 ≤ id ∧ id ≤ 7)) = (decide (id ≤ 7)) := by simp_all <;> omega
    exact ⟨.bool (decide (id ≤ 7)), rfl, by first | (rw [hres]; done) | rw [← hres], (Ext.refl H)⟩
  ·
    have hb1 := of_decide_eq_false hb1
    refine st_skip rfl rfl rfl ?_
    refine st_skip rfl rfl rfl ?_
    refine st_op (ev_pickF rfl rfl) rfl rfl rfl ?_
    refine st_op (ev_assign rfl) rfl rfl rfl ?_
    try show aw _ _ _ _ _ _
    refine aw_ret ?_
    have hres : (decide (1 ≤ id ∧ id ≤ 7)) = false := by simp_all <;> omega
    exact ⟨.bool false, rfl, by first | (rw [hres]; done) | rw [← hres], (Ext.refl H)⟩
theorem raft_in_spec (H : Heap) (least : Int) (hleast : -9223372036854775808 ≤ least ∧ least ≤ 9223372036854775807) (lA : Option Addr) (l : List Int) (lc : Nat) (hl : Row H lA lc 1 (l.map i64c)) (cl : l.length ≤ lc) (ll : l.length ≤ 1099511627776) : ∃ v H', Spec Try.prog 41 [.int .i64 least, .slice lA l.length lc] H v H' ∧ ((v = .bool (Spec.inF least 1099511627776 l)) ∧ (Ext H H')) := by
  refine spec_go2 E0_ok 21 (f := 41) Try.func41 rfl rfl rfl ?_
  refine aw_seq ?_
  refine aw_reg ?_
  refine st_op (ev_assign rfl) rfl rfl rfl ?_
  try show aw _ _ _ _ _ _
  refine aw_seq ?_
  refine aw_seq ?_
  refine aw_reg ?_
  refine st_op (ev_move rfl) rfl rfl rfl ?_
  refine st_op (ev_lenSl rfl Try.underlying77) rfl rfl rfl ?_
  refine st_op (ev_move rfl) rfl rfl rfl ?_
  try show aw _ _ _ _ _ _
  refine aw_block ?_
  refine aw_keep [0, 7, 8, 9] (l' := (.cons 0 (.int .i64 least) (.cons 7 (.slice lA l.length lc) (.cons 8 (.int .i64 (l.length : Int)) (.cons 9 (.int .i64 0) .nil))))) (by repeat (first | exact Up.done | refine Up.then ?_ | refine Up.inBlock ?_)) rfl ?_
  refine aw_iter (α := Nat × Heap) (fun a => l.length - a.1) (fun a => (.cons 0 (.int .i64 least) (.cons 7 (.slice lA l.length lc) (.cons 8 (.int .i64 (l.length : Int)) (.cons 9 (.int .i64 (a.1 : Int)) .nil))))) (fun a => a.2) (fun a => (a.1 ≤ l.length) ∧ (Spec.inF least 1099511627776 l = Spec.inF least 1099511627776 (l.drop a.1)) ∧ (Ext H a.2)) (0, H) ⟨(show 0 ≤ l.length from Nat.zero_le _), (show Spec.inF least 1099511627776 l = Spec.inF least 1099511627776 (l.drop 0) from rfl), (show Ext H H from (Ext.refl H))⟩ ?_
  rintro ⟨i, Hl1⟩ ⟨hi, hv, hxl2⟩ ih3
  replace hi : i ≤ l.length := hi
  replace hv : Spec.inF least 1099511627776 l = Spec.inF least 1099511627776 (l.drop i) := hv
  replace hxl2 : Ext H Hl1 := hxl2
  show aw _ _ _ (RL _ (.cons 0 (.int .i64 least) (.cons 7 (.slice lA l.length lc) (.cons 8 (.int .i64 (l.length : Int)) (.cons 9 (.int .i64 (i : Int)) .nil))))) Hl1 _
  have Hl1n : H.next ≤ Hl1.next := hxl2.1
  refine aw_seq ?_
  refine aw_reg ?_
  refine st_op (ev_int rfl rfl rfl) rfl rfl rfl ?_
  try show aw _ _ _ _ _ _
  refine aw_seq ?_
  by_cases hc4 : (decide ((i : Int) < (l.length : Int))) = true
  · refine aw_condT hc4 rfl ?_
    try show aw _ _ _ _ _ _
    have hc4 := of_decide_eq_true hc4
    refine aw_skip ?_
    try show aw _ _ _ _ _ _
    refine aw_seq ?_
    refine aw_block ?_
    refine aw_seq ?_
    refine aw_reg ?_
    have h5 := Row.ext hl hxl2
    have hi6 : 0 ≤ ((i : Int) : Int) := by omega
    have hi7 : ((i : Int) : Int) < ((l.length : Nat) : Int) := by first | omega | (simp only [List.length_append, List.length_cons, List.length_nil, List.length_map, List.length_set, List.length_replicate, Spec.bytesOf_length]; omega) | (simp; omega)
    obtain ⟨x8, hx9⟩ : ∃ e, l[i]? = some e := ⟨_, List.getElem?_eq_getElem (by first | omega | (simp only [List.length_append, List.length_cons, List.length_nil, List.length_map, List.length_set, List.length_replicate, Spec.bytesOf_length]; omega) | (simp; omega))⟩
    refine st_op (ev_at rfl rfl h5 (getMap i64c hx9) (by first | rfl | omega | simp) hi6 hi7 el77) rfl rfl rfl ?_
    refine st_op (ev_atL rfl h5 (getMap i64c hx9) one2 rfl) rfl rfl rfl ?_
    refine st_op (ev_assign rfl) rfl rfl rfl ?_
    try show aw _ _ _ _ _ _
    refine aw_seq ?_
    refine aw_reg ?_
    refine st_op (ev_move rfl) rfl rfl rfl ?_
    refine st_op (ev_move rfl) rfl rfl rfl ?_
    refine st_op (ev_int rfl rfl rfl) rfl rfl rfl ?_
    refine st_op (ev_move rfl) rfl rfl rfl ?_
    refine st_bool 16 rfl (fun hb10 => ?_) (fun hb10 => ?_)
    ·
      have hb10 := of_decide_eq_true hb10
      refine st_skip rfl rfl rfl ?_
      refine st_skip rfl rfl rfl ?_
      refine st_op (ev_pickT rfl rfl) rfl rfl rfl ?_
      try show aw _ _ _ _ _ _
      refine aw_cond (t := true) rfl ?_
      try show aw _ _ _ _ _ _
      refine aw_seq ?_
      refine aw_reg ?_
      refine st_op (ev_assign rfl) rfl rfl rfl ?_
      try show aw _ _ _ _ _ _
      refine aw_ret ?_
      have hres : (Spec.inF least 1099511627776 l) = false := by rw [hv, drop_at hx9, Spec.inF]; first | (rw [if_pos (by omega)]; done) | (rw [if_neg (by omega), if_pos (by omega)]; done)
      exact ⟨.bool false, rfl, by first | (rw [hres]; done) | rw [← hres], hxl2⟩
    ·
      have hb10 := of_decide_eq_false hb10
      refine st_op (ev_move rfl) rfl rfl rfl ?_
      refine st_op (ev_int rfl rfl rfl) rfl rfl rfl ?_
      refine st_op (ev_pickF rfl rfl) rfl rfl rfl ?_
      try show aw _ _ _ _ _ _
      by_cases hc11 : (decide (x8 > 1099511627776)) = true
      · refine aw_condT hc11 rfl ?_
        try show aw _ _ _ _ _ _
        have hc11 := of_decide_eq_true hc11
        refine aw_seq ?_
        refine aw_reg ?_
        refine st_op (ev_assign rfl) rfl rfl rfl ?_
        try show aw _ _ _ _ _ _
        refine aw_ret ?_
        have hres : (Spec.inF least 1099511627776 l) = false := by rw [hv, drop_at hx9, Spec.inF]; first | (rw [if_pos (by omega)]; done) | (rw [if_neg (by omega), if_pos (by omega)]; done)
        exact ⟨.bool false, rfl, by first | (rw [hres]; done) | rw [← hres], hxl2⟩
      · rw [Bool.not_eq_true] at hc11; refine aw_condF hc11 rfl ?_
        try show aw _ _ _ _ _ _
        have hc11 := of_decide_eq_false hc11
        refine aw_skip ?_
        try show aw _ _ _ _ _ _
        refine aw_reg ?_
        refine st_op (ev_int64 (c := (i : Int) + 1) rfl rfl rfl (by omega) (by omega)) rfl rfl rfl ?_
        refine st_op (ev_move rfl) rfl rfl rfl ?_
        try show aw _ _ _ _ _ _
        refine aw_keep [0, 7, 8, 9] (l' := (.cons 0 (.int .i64 least) (.cons 7 (.slice lA l.length lc) (.cons 8 (.int .i64 (l.length : Int)) (.cons 9 (.int .i64 ((i : Int) + 1)) .nil))))) (by repeat (first | exact Up.done | refine Up.then ?_ | refine Up.inBlock ?_)) rfl ?_
        exact ih3 (i + 1, Hl1) ⟨(show (i + 1) ≤ l.length from (by omega)), (show Spec.inF least 1099511627776 l = Spec.inF least 1099511627776 (l.drop (i + 1)) from (by rw [hv, drop_at hx9, Spec.inF, if_neg (by omega), if_neg (by omega)])), (show Ext H Hl1 from hxl2)⟩ (by simp only; omega)
  · rw [Bool.not_eq_true] at hc4; refine aw_condF hc4 rfl ?_
    try show aw _ _ _ _ _ _
    have hc4 := of_decide_eq_false hc4
    refine aw_exit ?_
    try show aw _ _ _ _ _ _
    refine aw_seq ?_
    refine aw_reg ?_
    refine st_op (ev_assign rfl) rfl rfl rfl ?_
    try show aw _ _ _ _ _ _
    refine aw_ret ?_
    have hres : (Spec.inF least 1099511627776 l) = true := by rw [hv, List.drop_eq_nil_of_le (by omega)]; rfl
    exact ⟨.bool true, rfl, by first | (rw [hres]; done) | rw [← hres], hxl2⟩
theorem wal_in_spec (H : Heap) (least : Int) (hleast : -9223372036854775808 ≤ least ∧ least ≤ 9223372036854775807) (most : Int) (hmost : -9223372036854775808 ≤ most ∧ most ≤ 9223372036854775807) (lA : Option Addr) (l : List Int) (lc : Nat) (hl : Row H lA lc 1 (l.map i64c)) (cl : l.length ≤ lc) (ll : l.length ≤ 1099511627776) : ∃ v H', Spec Try.prog 66 [.int .i64 least, .int .i64 most, .slice lA l.length lc] H v H' ∧ ((v = .bool (Spec.inF least most l)) ∧ (Ext H H')) := by
  refine spec_go3 E0_ok 24 (f := 66) Try.func66 rfl rfl rfl ?_
  refine aw_seq ?_
  refine aw_reg ?_
  refine st_op (ev_assign rfl) rfl rfl rfl ?_
  try show aw _ _ _ _ _ _
  refine aw_seq ?_
  refine aw_seq ?_
  refine aw_reg ?_
  refine st_op (ev_move rfl) rfl rfl rfl ?_
  refine st_op (ev_lenSl rfl Try.underlying77) rfl rfl rfl ?_
  refine st_op (ev_move rfl) rfl rfl rfl ?_
  try show aw _ _ _ _ _ _
  refine aw_block ?_
  refine aw_keep [0, 1, 9, 10, 11] (l' := (.cons 0 (.int .i64 least) (.cons 1 (.int .i64 most) (.cons 9 (.slice lA l.length lc) (.cons 10 (.int .i64 (l.length : Int)) (.cons 11 (.int .i64 0) .nil)))))) (by repeat (first | exact Up.done | refine Up.then ?_ | refine Up.inBlock ?_)) rfl ?_
  refine aw_iter (α := Nat × Heap) (fun a => l.length - a.1) (fun a => (.cons 0 (.int .i64 least) (.cons 1 (.int .i64 most) (.cons 9 (.slice lA l.length lc) (.cons 10 (.int .i64 (l.length : Int)) (.cons 11 (.int .i64 (a.1 : Int)) .nil)))))) (fun a => a.2) (fun a => (a.1 ≤ l.length) ∧ (Spec.inF least most l = Spec.inF least most (l.drop a.1)) ∧ (Ext H a.2)) (0, H) ⟨(show 0 ≤ l.length from Nat.zero_le _), (show Spec.inF least most l = Spec.inF least most (l.drop 0) from rfl), (show Ext H H from (Ext.refl H))⟩ ?_
  rintro ⟨i, Hl1⟩ ⟨hi, hv, hxl2⟩ ih3
  replace hi : i ≤ l.length := hi
  replace hv : Spec.inF least most l = Spec.inF least most (l.drop i) := hv
  replace hxl2 : Ext H Hl1 := hxl2
  show aw _ _ _ (RL _ (.cons 0 (.int .i64 least) (.cons 1 (.int .i64 most) (.cons 9 (.slice lA l.length lc) (.cons 10 (.int .i64 (l.length : Int)) (.cons 11 (.int .i64 (i : Int)) .nil)))))) Hl1 _
  have Hl1n : H.next ≤ Hl1.next := hxl2.1
  refine aw_seq ?_
  refine aw_reg ?_
  refine st_op (ev_int rfl rfl rfl) rfl rfl rfl ?_
  try show aw _ _ _ _ _ _
  refine aw_seq ?_
  by_cases hc4 : (decide ((i : Int) < (l.length : Int))) = true
  · refine aw_condT hc4 rfl ?_
    try show aw _ _ _ _ _ _
    have hc4 := of_decide_eq_true hc4
    refine aw_skip ?_
    try show aw _ _ _ _ _ _
    refine aw_seq ?_
    refine aw_block ?_
    refine aw_seq ?_
    refine aw_reg ?_
    have h5 := Row.ext hl hxl2
    have hi6 : 0 ≤ ((i : Int) : Int) := by omega
    have hi7 : ((i : Int) : Int) < ((l.length : Nat) : Int) := by first | omega | (simp only [List.length_append, List.length_cons, List.length_nil, List.length_map, List.length_set, List.length_replicate, Spec.bytesOf_length]; omega) | (simp; omega)
    obtain ⟨x8, hx9⟩ : ∃ e, l[i]? = some e := ⟨_, List.getElem?_eq_getElem (by first | omega | (simp only [List.length_append, List.length_cons, List.length_nil, List.length_map, List.length_set, List.length_replicate, Spec.bytesOf_length]; omega) | (simp; omega))⟩
    refine st_op (ev_at rfl rfl h5 (getMap i64c hx9) (by first | rfl | omega | simp) hi6 hi7 el77) rfl rfl rfl ?_
    refine st_op (ev_atL rfl h5 (getMap i64c hx9) one2 rfl) rfl rfl rfl ?_
    refine st_op (ev_assign rfl) rfl rfl rfl ?_
    try show aw _ _ _ _ _ _
    refine aw_seq ?_
    refine aw_reg ?_
    refine st_op (ev_move rfl) rfl rfl rfl ?_
    refine st_op (ev_move rfl) rfl rfl rfl ?_
    refine st_op (ev_int rfl rfl rfl) rfl rfl rfl ?_
    refine st_op (ev_move rfl) rfl rfl rfl ?_
    refine st_bool 18 rfl (fun hb10 => ?_) (fun hb10 => ?_)
    ·
      have hb10 := of_decide_eq_true hb10
      refine st_skip rfl rfl rfl ?_
      refine st_skip rfl rfl rfl ?_
      refine st_skip rfl rfl rfl ?_
      refine st_op (ev_pickT rfl rfl) rfl rfl rfl ?_
      try show aw _ _ _ _ _ _
      refine aw_cond (t := true) rfl ?_
      try show aw _ _ _ _ _ _
      refine aw_seq ?_
      refine aw_reg ?_
      refine st_op (ev_assign rfl) rfl rfl rfl ?_
      try show aw _ _ _ _ _ _
      refine aw_ret ?_
      have hres : (Spec.inF least most l) = false := by rw [hv, drop_at hx9, Spec.inF]; first | (rw [if_pos (by omega)]; done) | (rw [if_neg (by omega), if_pos (by omega)]; done)
      exact ⟨.bool false, rfl, by first | (rw [hres]; done) | rw [← hres], hxl2⟩
    ·
      have hb10 := of_decide_eq_false hb10
      refine st_op (ev_move rfl) rfl rfl rfl ?_
      refine st_op (ev_move rfl) rfl rfl rfl ?_
      refine st_op (ev_int rfl rfl rfl) rfl rfl rfl ?_
      refine st_op (ev_pickF rfl rfl) rfl rfl rfl ?_
      try show aw _ _ _ _ _ _
      by_cases hc11 : (decide (x8 > most)) = true
      · refine aw_condT hc11 rfl ?_
        try show aw _ _ _ _ _ _
        have hc11 := of_decide_eq_true hc11
        refine aw_seq ?_
        refine aw_reg ?_
        refine st_op (ev_assign rfl) rfl rfl rfl ?_
        try show aw _ _ _ _ _ _
        refine aw_ret ?_
        have hres : (Spec.inF least most l) = false := by rw [hv, drop_at hx9, Spec.inF]; first | (rw [if_pos (by omega)]; done) | (rw [if_neg (by omega), if_pos (by omega)]; done)
        exact ⟨.bool false, rfl, by first | (rw [hres]; done) | rw [← hres], hxl2⟩
      · rw [Bool.not_eq_true] at hc11; refine aw_condF hc11 rfl ?_
        try show aw _ _ _ _ _ _
        have hc11 := of_decide_eq_false hc11
        refine aw_skip ?_
        try show aw _ _ _ _ _ _
        refine aw_reg ?_
        refine st_op (ev_int64 (c := (i : Int) + 1) rfl rfl rfl (by omega) (by omega)) rfl rfl rfl ?_
        refine st_op (ev_move rfl) rfl rfl rfl ?_
        try show aw _ _ _ _ _ _
        refine aw_keep [0, 1, 9, 10, 11] (l' := (.cons 0 (.int .i64 least) (.cons 1 (.int .i64 most) (.cons 9 (.slice lA l.length lc) (.cons 10 (.int .i64 (l.length : Int)) (.cons 11 (.int .i64 ((i : Int) + 1)) .nil)))))) (by repeat (first | exact Up.done | refine Up.then ?_ | refine Up.inBlock ?_)) rfl ?_
        exact ih3 (i + 1, Hl1) ⟨(show (i + 1) ≤ l.length from (by omega)), (show Spec.inF least most l = Spec.inF least most (l.drop (i + 1)) from (by rw [hv, drop_at hx9, Spec.inF, if_neg (by omega), if_neg (by omega)])), (show Ext H Hl1 from hxl2)⟩ (by simp only; omega)
  · rw [Bool.not_eq_true] at hc4; refine aw_condF hc4 rfl ?_
    try show aw _ _ _ _ _ _
    have hc4 := of_decide_eq_false hc4
    refine aw_exit ?_
    try show aw _ _ _ _ _ _
    refine aw_seq ?_
    refine aw_reg ?_
    refine st_op (ev_assign rfl) rfl rfl rfl ?_
    try show aw _ _ _ _ _ _
    refine aw_ret ?_
    have hres : (Spec.inF least most l) = true := by rw [hv, List.drop_eq_nil_of_le (by omega)]; rfl
    exact ⟨.bool true, rfl, by first | (rw [hres]; done) | rw [← hres], hxl2⟩
theorem wal_May_spec (H : Heap) (r_hard : Bool) (r_h_term : Int) (r_h_vote : Int) (r_e_index : Int) (r_e_term : Int) (r_e_kind : Int) (r_e_data : ByteArray) : ∃ v H', Spec Try.prog 58 [.agg #[.bool r_hard, .int .i64 r_h_term, .int .i64 r_h_vote, .int .i64 r_e_index, .int .i64 r_e_term, .int .i64 r_e_kind, .string r_e_data]] H v H' ∧ ((v = .bool (Spec.mayF r_hard r_h_term r_h_vote r_e_index r_e_term r_e_kind r_e_data)) ∧ (Ext H H')) := by
  refine spec_go1 E0_ok 61 (f := 58) Try.func58 rfl rfl rfl ?_
  refine aw_seq ?_
  refine aw_reg ?_
  obtain ⟨b1, H2, he3, b1e, H2n_, hB5, f4⟩ := mem_box (P := Try.prog) H (v := .agg #[.bool r_hard, .int .i64 r_h_term, .int .i64 r_h_vote, .int .i64 r_e_index, .int .i64 r_e_term, .int .i64 r_e_kind, .string r_e_data]) (cs := [.bool r_hard, .int .i64 r_h_term, .int .i64 r_h_vote, .int .i64 r_e_index, .int .i64 r_e_term, .int .i64 r_e_kind, .string r_e_data]) rfl rfl
  refine st_op (he3 _ _ _ _ _ _ _ _ _ rfl) rfl rfl rfl ?_
  have hx6 : Ext H H2 := Ext.new (by omega) H2n_ f4
  have H2n : H.next ≤ H2.next := hx6.1
  refine st_op (ev_assign rfl) rfl rfl rfl ?_
  try show aw _ _ _ _ _ _
  refine aw_seq ?_
  refine aw_seq ?_
  refine aw_reg ?_
  refine st_op (ev_fieldAddr rfl fa82_0 (o' := 0) rfl) rfl rfl rfl ?_
  refine st_op (ev_load rfl (lvar_one one4 hB5 rfl)) rfl rfl rfl ?_
  try show aw _ _ _ _ _ _
  by_cases hc7 : r_hard = true
  · refine aw_condT hc7 rfl ?_
    try show aw _ _ _ _ _ _
    refine aw_seq ?_
    refine aw_reg ?_
    refine st_op (ev_fieldAddr rfl fa82_1 (o' := 1) rfl) rfl rfl rfl ?_
    refine st_op (ev_fieldAddr rfl fa80_0 (o' := 1) rfl) rfl rfl rfl ?_
    refine st_op (ev_load rfl (lvar_one one2 hB5 rfl)) rfl rfl rfl ?_
    obtain ⟨b8, H9, he10, b8e, H9n_, hm12, f11⟩ := mem_lit H2 (xs := ([.int .i64 r_h_term] : List Value)) (m := 1) (rows := [[.int .i64 r_h_term]]) rfl eok77 (by decide) (by decide) zf2 rfl (allLen rfl) rfl
    replace hm12 : My H2 H9 (some ⟨b8, 0, none⟩) 1 1 ([r_h_term].map i64c) := hm12
    refine st_op (he10 _ _ _ _ _ _ _ _ rfl) rfl rfl rfl ?_
    have hx13 : Ext H2 H9 := Ext.new (by omega) H9n_ f11
    have H9n : H2.next ≤ H9.next := hx13.1
    refine st_call rfl rfl rfl ent66 rfl rfl rfl ?_
    obtain ⟨_, H15, hs14, hs14v, hx16⟩ := wal_in_spec H9 0 (by decide) 1099511627776 (by decide) (some ⟨b8, 0, none⟩) ([r_h_term]) 1 (My.row hm12) (My.capF hm12 (by first | omega | (simp only [List.length_append, List.length_cons, List.length_nil, List.length_map, List.length_set, List.length_replicate, Spec.bytesOf_length]; omega) | (simp; omega))) (by first | omega | (simp only [List.length_append, List.length_cons, List.length_nil, List.length_map, List.length_set, List.length_replicate, Spec.bytesOf_length]; omega) | (simp; omega))
    rw [hs14v] at hs14; clear hs14v
    refine ⟨_, H15, hs14, ?_⟩
    have H15n : H9.next ≤ H15.next := hx16.1
    refine st_op (ev_move rfl) rfl rfl rfl ?_
    refine st_bool 10 rfl (fun hb17 => ?_) (fun hb17 => ?_)
    ·
      have hb17m := Spec.inF_one hb17
      refine st_op (ev_fieldAddr rfl fa82_1 (o' := 1) rfl) rfl rfl rfl ?_
      refine st_op (ev_fieldAddr rfl fa80_1 (o' := 2) rfl) rfl rfl rfl ?_
      have hx19 : Ext H2 H15 := (Ext.trans hx13 hx16)
      have h18 := Ext.blk hx19 (by omega) hB5
      refine st_op (ev_load rfl (lvar_one one3 h18 rfl)) rfl rfl rfl ?_
      refine st_op (ev_int rfl rfl rfl) rfl rfl rfl ?_
      refine st_op (ev_pickT rfl rfl) rfl rfl rfl ?_
      refine st_op (ev_move rfl) rfl rfl rfl ?_
      refine st_bool 16 rfl (fun hb20 => ?_) (fun hb20 => ?_)
      ·
        have hb20 := of_decide_eq_true hb20
        refine st_op (ev_fieldAddr rfl fa82_1 (o' := 1) rfl) rfl rfl rfl ?_
        refine st_op (ev_fieldAddr rfl fa80_1 (o' := 2) rfl) rfl rfl rfl ?_
        refine st_op (ev_load rfl (lvar_one one3 h18 rfl)) rfl rfl rfl ?_
        refine st_op (ev_int rfl rfl rfl) rfl rfl rfl ?_
        refine st_op (ev_pickT rfl rfl) rfl rfl rfl ?_
        refine st_op (ev_move rfl) rfl rfl rfl ?_
        refine st_bool 22 rfl (fun hb21 => ?_) (fun hb21 => ?_)
        ·
          have hb21 := of_decide_eq_true hb21
          refine st_op (ev_fieldAddr rfl fa82_2 (o' := 3) rfl) rfl rfl rfl ?_
          refine st_op (ev_load rfl (lvar_part (l := [.int .i64 r_e_index, .int .i64 r_e_term, .int .i64 r_e_kind, .string r_e_data]) many45 h18 rfl rfl (by decide))) rfl rfl rfl ?_
          refine st_op (ev_build zero45 pl45 (parts := []) rfl (cs := [.int .i64 0, .int .i64 0, .int .i64 0, .string (⟨#[]⟩)]) rfl) rfl rfl rfl ?_
          obtain ⟨q22, hq23, hi24⟩ : ∃ q, bin.eqCells [.int .i64 r_e_index, .int .i64 r_e_term, .int .i64 r_e_kind, .string r_e_data] [.int .i64 0, .int .i64 0, .int .i64 0, .string (⟨#[]⟩)] = some q ∧ (q = true ↔ r_e_index = 0 ∧ r_e_term = 0 ∧ r_e_kind = 0 ∧ r_e_data = (⟨#[]⟩ : ByteArray)) := ⟨_, rfl, by simp [Bool.and_eq_true, ba_beq]⟩
          refine st_op (ev_agg rfl rfl (by rw [eqt45, show fitAgg Try.prog 45 (#[.int .i64 r_e_index, .int .i64 r_e_term, .int .i64 r_e_kind, .string r_e_data] : Array Value).toList = true from fit45 r_e_index r_e_term r_e_kind r_e_data]; rfl) hq23 rfl) rfl rfl rfl ?_
          refine st_op (ev_pickT rfl rfl) rfl rfl rfl ?_
          refine st_op (ev_assign rfl) rfl rfl rfl ?_
          try show aw _ _ _ _ _ _
          refine aw_ret ?_
          have hx25 : Ext H H15 := (Ext.trans (Ext.trans hx6 hx13) hx16)
          have hres : (Spec.mayF r_hard r_h_term r_h_vote r_e_index r_e_term r_e_kind r_e_data) = q22 := by rw [Bool.eq_iff_iff]; simp only [Spec.mayF]; (try simp_all [Spec.ba_empty]) <;> (try (intros; omega))
          exact ⟨.bool q22, rfl, by first | (rw [hres]; done) | rw [← hres], hx25⟩
        ·
          have hb21 := of_decide_eq_false hb21
          refine st_skip rfl rfl rfl ?_
          refine st_skip rfl rfl rfl ?_
          refine st_skip rfl rfl rfl ?_
          refine st_skip rfl rfl rfl ?_
          refine st_op (ev_pickF rfl rfl) rfl rfl rfl ?_
          refine st_op (ev_assign rfl) rfl rfl rfl ?_
          try show aw _ _ _ _ _ _
          refine aw_ret ?_
          have hx26 : Ext H H15 := (Ext.trans (Ext.trans hx6 hx13) hx16)
          have hres : (Spec.mayF r_hard r_h_term r_h_vote r_e_index r_e_term r_e_kind r_e_data) = false := by rw [Bool.eq_iff_iff]; simp only [Spec.mayF]; (try simp_all [Spec.ba_empty]) <;> (try (intros; omega))
          exact ⟨.bool false, rfl, by first | (rw [hres]; done) | rw [← hres], hx26⟩
      ·
        have hb20 := of_decide_eq_false hb20
        refine st_skip rfl rfl rfl ?_
        refine st_skip rfl rfl rfl ?_
        refine st_skip rfl rfl rfl ?_
        refine st_skip rfl rfl rfl ?_
        refine st_op (ev_pickF rfl rfl) rfl rfl rfl ?_
        refine st_op (ev_move rfl) rfl rfl rfl ?_
        refine st_skip rfl rfl rfl ?_
        refine st_skip rfl rfl rfl ?_
        refine st_skip rfl rfl rfl ?_
        refine st_skip rfl rfl rfl ?_
        refine st_op (ev_pickF rfl rfl) rfl rfl rfl ?_
        refine st_op (ev_assign rfl) rfl rfl rfl ?_
        try show aw _ _ _ _ _ _
        refine aw_ret ?_
        have hx27 : Ext H H15 := (Ext.trans (Ext.trans hx6 hx13) hx16)
        have hres : (Spec.mayF r_hard r_h_term r_h_vote r_e_index r_e_term r_e_kind r_e_data) = false := by rw [Bool.eq_iff_iff]; simp only [Spec.mayF]; (try simp_all [Spec.ba_empty]) <;> (try (intros; omega))
        exact ⟨.bool false, rfl, by first | (rw [hres]; done) | rw [← hres], hx27⟩
    ·
      have hb17m := Spec.inF_oneN hb17
      refine st_skip rfl rfl rfl ?_
      refine st_skip rfl rfl rfl ?_
      refine st_skip rfl rfl rfl ?_
      refine st_skip rfl rfl rfl ?_
      refine st_op (ev_pickF rfl rfl) rfl rfl rfl ?_
      refine st_op (ev_move rfl) rfl rfl rfl ?_
      refine st_skip rfl rfl rfl ?_
      refine st_skip rfl rfl rfl ?_
      refine st_skip rfl rfl rfl ?_
      refine st_skip rfl rfl rfl ?_
      refine st_op (ev_pickF rfl rfl) rfl rfl rfl ?_
      refine st_op (ev_move rfl) rfl rfl rfl ?_
      refine st_skip rfl rfl rfl ?_
      refine st_skip rfl rfl rfl ?_
      refine st_skip rfl rfl rfl ?_
      refine st_skip rfl rfl rfl ?_
      refine st_op (ev_pickF rfl rfl) rfl rfl rfl ?_
      refine st_op (ev_assign rfl) rfl rfl rfl ?_
      try show aw _ _ _ _ _ _
      refine aw_ret ?_
      have hx28 : Ext H H15 := (Ext.trans (Ext.trans hx6 hx13) hx16)
      have hres : (Spec.mayF r_hard r_h_term r_h_vote r_e_index r_e_term r_e_kind r_e_data) = false := by rw [Bool.eq_iff_iff]; simp only [Spec.mayF]; (try simp_all [Spec.ba_empty]) <;> (try (intros; omega))
      exact ⟨.bool false, rfl, by first | (rw [hres]; done) | rw [← hres], hx28⟩
  · rw [Bool.not_eq_true] at hc7; refine aw_condF hc7 rfl ?_
    try show aw _ _ _ _ _ _
    refine aw_skip ?_
    try show aw _ _ _ _ _ _
    refine aw_seq ?_
    refine aw_reg ?_
    refine st_op (ev_fieldAddr rfl fa82_1 (o' := 1) rfl) rfl rfl rfl ?_
    refine st_op (ev_load rfl (lvar_part (l := [.int .i64 r_h_term, .int .i64 r_h_vote]) many80 hB5 rfl rfl (by decide))) rfl rfl rfl ?_
    refine st_op (ev_build zero80 pl80 (parts := []) rfl (cs := [.int .i64 0, .int .i64 0]) rfl) rfl rfl rfl ?_
    obtain ⟨q29, hq30, hi31⟩ : ∃ q, bin.eqCells [.int .i64 r_h_term, .int .i64 r_h_vote] [.int .i64 0, .int .i64 0] = some q ∧ (q = true ↔ r_h_term = 0 ∧ r_h_vote = 0) := ⟨_, rfl, by simp [Bool.and_eq_true, ba_beq]⟩
    refine st_op (ev_agg rfl rfl (by rw [eqt80, show fitAgg Try.prog 80 (#[.int .i64 r_h_term, .int .i64 r_h_vote] : Array Value).toList = true from fit80 r_h_term r_h_vote]; rfl) hq30 rfl) rfl rfl rfl ?_
    refine st_op (ev_move rfl) rfl rfl rfl ?_
    refine st_bool 32 rfl (fun hb32 => ?_) (fun hb32 => ?_)
    ·
      have hb32E := hi31.1 hb32
      refine st_op (ev_fieldAddr rfl fa82_2 (o' := 3) rfl) rfl rfl rfl ?_
      refine st_op (ev_fieldAddr rfl fa45_0 (o' := 3) rfl) rfl rfl rfl ?_
      refine st_op (ev_load rfl (lvar_one one2 hB5 rfl)) rfl rfl rfl ?_
      refine st_op (ev_fieldAddr rfl fa82_2 (o' := 3) rfl) rfl rfl rfl ?_
      refine st_op (ev_fieldAddr rfl fa45_1 (o' := 4) rfl) rfl rfl rfl ?_
      refine st_op (ev_load rfl (lvar_one one2 hB5 rfl)) rfl rfl rfl ?_
      obtain ⟨b33, H34, he35, b33e, H34n_, hm37, f36⟩ := mem_lit H2 (xs := ([.int .i64 r_e_index, .int .i64 r_e_term] : List Value)) (m := 2) (rows := [[.int .i64 r_e_index], [.int .i64 r_e_term]]) rfl eok77 (by decide) (by decide) zf2 rfl (allLen rfl) rfl
      replace hm37 : My H2 H34 (some ⟨b33, 0, none⟩) 2 1 ([r_e_index, r_e_term].map i64c) := hm37
      refine st_op (he35 _ _ _ _ _ _ _ _ rfl) rfl rfl rfl ?_
      have hx38 : Ext H2 H34 := Ext.new (by omega) H34n_ f36
      have H34n : H2.next ≤ H34.next := hx38.1
      refine st_call rfl rfl rfl ent66 rfl rfl rfl ?_
      obtain ⟨_, H40, hs39, hs39v, hx41⟩ := wal_in_spec H34 1 (by decide) 1099511627776 (by decide) (some ⟨b33, 0, none⟩) ([r_e_index, r_e_term]) 2 (My.row hm37) (My.capF hm37 (by first | omega | (simp only [List.length_append, List.length_cons, List.length_nil, List.length_map, List.length_set, List.length_replicate, Spec.bytesOf_length]; omega) | (simp; omega))) (by first | omega | (simp only [List.length_append, List.length_cons, List.length_nil, List.length_map, List.length_set, List.length_replicate, Spec.bytesOf_length]; omega) | (simp; omega))
      rw [hs39v] at hs39; clear hs39v
      refine ⟨_, H40, hs39, ?_⟩
      have H40n : H34.next ≤ H40.next := hx41.1
      refine st_op (ev_pickT rfl rfl) rfl rfl rfl ?_
      refine st_op (ev_move rfl) rfl rfl rfl ?_
      refine st_bool 42 rfl (fun hb42 => ?_) (fun hb42 => ?_)
      ·
        have hb42m := Spec.inF_two hb42
        refine st_op (ev_fieldAddr rfl fa82_2 (o' := 3) rfl) rfl rfl rfl ?_
        refine st_op (ev_fieldAddr rfl fa45_2 (o' := 5) rfl) rfl rfl rfl ?_
        have hx44 : Ext H2 H40 := (Ext.trans hx38 hx41)
        have h43 := Ext.blk hx44 (by omega) hB5
        refine st_op (ev_load rfl (lvar_one one3 h43 rfl)) rfl rfl rfl ?_
        refine st_op (ev_int rfl rfl rfl) rfl rfl rfl ?_
        refine st_op (ev_pickT rfl rfl) rfl rfl rfl ?_
        refine st_op (ev_move rfl) rfl rfl rfl ?_
        refine st_bool 48 rfl (fun hb45 => ?_) (fun hb45 => ?_)
        ·
          have hb45 := of_decide_eq_true hb45
          refine st_op (ev_fieldAddr rfl fa82_2 (o' := 3) rfl) rfl rfl rfl ?_
          refine st_op (ev_fieldAddr rfl fa45_2 (o' := 5) rfl) rfl rfl rfl ?_
          refine st_op (ev_load rfl (lvar_one one3 h43 rfl)) rfl rfl rfl ?_
          refine st_op (ev_int rfl rfl rfl) rfl rfl rfl ?_
          refine st_op (ev_pickT rfl rfl) rfl rfl rfl ?_
          refine st_op (ev_move rfl) rfl rfl rfl ?_
          refine st_bool 54 rfl (fun hb46 => ?_) (fun hb46 => ?_)
          ·
            have hb46 := of_decide_eq_true hb46
            refine st_op (ev_fieldAddr rfl fa82_2 (o' := 3) rfl) rfl rfl rfl ?_
            refine st_op (ev_fieldAddr rfl fa45_3 (o' := 6) rfl) rfl rfl rfl ?_
            refine st_op (ev_load rfl (lvar_one one9 h43 rfl)) rfl rfl rfl ?_
            refine st_op (ev_lenStr rfl Try.underlying9) rfl rfl rfl ?_
            refine st_op (ev_int rfl rfl rfl) rfl rfl rfl ?_
            refine st_op (ev_pickT rfl rfl) rfl rfl rfl ?_
            refine st_op (ev_assign rfl) rfl rfl rfl ?_
            try show aw _ _ _ _ _ _
            refine aw_ret ?_
            have hx47 : Ext H H40 := (Ext.trans (Ext.trans hx6 hx38) hx41)
            have hres : (Spec.mayF r_hard r_h_term r_h_vote r_e_index r_e_term r_e_kind r_e_data) = (decide (((r_e_data).size : Int) ≤ 2500)) := by rw [Bool.eq_iff_iff]; simp only [Spec.mayF]; (try simp_all [Spec.ba_empty]) <;> (try (intros; omega))
            exact ⟨.bool (decide (((r_e_data).size : Int) ≤ 2500)), rfl, by first | (rw [hres]; done) | rw [← hres], hx47⟩
          ·
            have hb46 := of_decide_eq_false hb46
            refine st_skip rfl rfl rfl ?_
            refine st_skip rfl rfl rfl ?_
            refine st_skip rfl rfl rfl ?_
            refine st_skip rfl rfl rfl ?_
            refine st_skip rfl rfl rfl ?_
            refine st_op (ev_pickF rfl rfl) rfl rfl rfl ?_
            refine st_op (ev_assign rfl) rfl rfl rfl ?_
            try show aw _ _ _ _ _ _
            refine aw_ret ?_
            have hx48 : Ext H H40 := (Ext.trans (Ext.trans hx6 hx38) hx41)
            have hres : (Spec.mayF r_hard r_h_term r_h_vote r_e_index r_e_term r_e_kind r_e_data) = false := by rw [Bool.eq_iff_iff]; simp only [Spec.mayF]; (try simp_all [Spec.ba_empty]) <;> (try (intros; omega))
            exact ⟨.bool false, rfl, by first | (rw [hres]; done) | rw [← hres], hx48⟩
        ·
          have hb45 := of_decide_eq_false hb45
          refine st_skip rfl rfl rfl ?_
          refine st_skip rfl rfl rfl ?_
          refine st_skip rfl rfl rfl ?_
          refine st_skip rfl rfl rfl ?_
          refine st_op (ev_pickF rfl rfl) rfl rfl rfl ?_
          refine st_op (ev_move rfl) rfl rfl rfl ?_
          refine st_skip rfl rfl rfl ?_
          refine st_skip rfl rfl rfl ?_
          refine st_skip rfl rfl rfl ?_
          refine st_skip rfl rfl rfl ?_
          refine st_skip rfl rfl rfl ?_
          refine st_op (ev_pickF rfl rfl) rfl rfl rfl ?_
          refine st_op (ev_assign rfl) rfl rfl rfl ?_
          try show aw _ _ _ _ _ _
          refine aw_ret ?_
          have hx49 : Ext H H40 := (Ext.trans (Ext.trans hx6 hx38) hx41)
          have hres : (Spec.mayF r_hard r_h_term r_h_vote r_e_index r_e_term r_e_kind r_e_data) = false := by rw [Bool.eq_iff_iff]; simp only [Spec.mayF]; (try simp_all [Spec.ba_empty]) <;> (try (intros; omega))
          exact ⟨.bool false, rfl, by first | (rw [hres]; done) | rw [← hres], hx49⟩
      ·
        have hb42m := Spec.inF_twoN hb42
        refine st_skip rfl rfl rfl ?_
        refine st_skip rfl rfl rfl ?_
        refine st_skip rfl rfl rfl ?_
        refine st_skip rfl rfl rfl ?_
        refine st_op (ev_pickF rfl rfl) rfl rfl rfl ?_
        refine st_op (ev_move rfl) rfl rfl rfl ?_
        refine st_skip rfl rfl rfl ?_
        refine st_skip rfl rfl rfl ?_
        refine st_skip rfl rfl rfl ?_
        refine st_skip rfl rfl rfl ?_
        refine st_op (ev_pickF rfl rfl) rfl rfl rfl ?_
        refine st_op (ev_move rfl) rfl rfl rfl ?_
        refine st_skip rfl rfl rfl ?_
        refine st_skip rfl rfl rfl ?_
        refine st_skip rfl rfl rfl ?_
        refine st_skip rfl rfl rfl ?_
        refine st_skip rfl rfl rfl ?_
        refine st_op (ev_pickF rfl rfl) rfl rfl rfl ?_
        refine st_op (ev_assign rfl) rfl rfl rfl ?_
        try show aw _ _ _ _ _ _
        refine aw_ret ?_
        have hx50 : Ext H H40 := (Ext.trans (Ext.trans hx6 hx38) hx41)
        have hres : (Spec.mayF r_hard r_h_term r_h_vote r_e_index r_e_term r_e_kind r_e_data) = false := by rw [Bool.eq_iff_iff]; simp only [Spec.mayF]; (try simp_all [Spec.ba_empty]) <;> (try (intros; omega))
        exact ⟨.bool false, rfl, by first | (rw [hres]; done) | rw [← hres], hx50⟩
    ·
      have hb32E : ¬ (r_h_term = 0 ∧ r_h_vote = 0) := fun e => absurd (hi31.2 e) (by rw [hb32]; decide)
      refine st_skip rfl rfl rfl ?_
      refine st_skip rfl rfl rfl ?_
      refine st_skip rfl rfl rfl ?_
      refine st_skip rfl rfl rfl ?_
      refine st_skip rfl rfl rfl ?_
      refine st_skip rfl rfl rfl ?_
      refine st_skip rfl rfl rfl ?_
      refine st_skip rfl rfl rfl ?_
      refine st_op (ev_pickF rfl rfl) rfl rfl rfl ?_
      refine st_op (ev_move rfl) rfl rfl rfl ?_
      refine st_skip rfl rfl rfl ?_
      refine st_skip rfl rfl rfl ?_
      refine st_skip rfl rfl rfl ?_
      refine st_skip rfl rfl rfl ?_
      refine st_op (ev_pickF rfl rfl) rfl rfl rfl ?_
      refine st_op (ev_move rfl) rfl rfl rfl ?_
      refine st_skip rfl rfl rfl ?_
      refine st_skip rfl rfl rfl ?_
      refine st_skip rfl rfl rfl ?_
      refine st_skip rfl rfl rfl ?_
      refine st_op (ev_pickF rfl rfl) rfl rfl rfl ?_
      refine st_op (ev_move rfl) rfl rfl rfl ?_
      refine st_skip rfl rfl rfl ?_
      refine st_skip rfl rfl rfl ?_
      refine st_skip rfl rfl rfl ?_
      refine st_skip rfl rfl rfl ?_
      refine st_skip rfl rfl rfl ?_
      refine st_op (ev_pickF rfl rfl) rfl rfl rfl ?_
      refine st_op (ev_assign rfl) rfl rfl rfl ?_
      try show aw _ _ _ _ _ _
      refine aw_ret ?_
      have hres : (Spec.mayF r_hard r_h_term r_h_vote r_e_index r_e_term r_e_kind r_e_data) = false := by rw [Bool.eq_iff_iff]; simp only [Spec.mayF]; (try simp_all [Spec.ba_empty]) <;> (try (intros; omega))
      exact ⟨.bool false, rfl, by first | (rw [hres]; done) | rw [← hres], hx6⟩
theorem raft_entries_spec (H : Heap) (kind : Int) (from_ : Int) (to_ : Int) (term : Int) (index : Int) (hindex : 0 ≤ index ∧ index ≤ 1099511627776) (logterm : Int) (commit : Int) (yes : Bool) (esA : Option Addr) (es : List Entry) (esc : Nat) (hes : Row H esA esc 4 (es.map Entry.cells)) (ces : es.length ≤ esc) (les : es.length ≤ 1048576) (s_index : Int) (s_term : Int) (s_conf : ByteArray) (hs_conf : s_conf.size ≤ 1073741824) (s_data : ByteArray) (hs_data : s_data.size ≤ 1073741824) : ∃ v H', Spec Try.prog 42 [.agg #[.int .i64 kind, .int .i64 from_, .int .i64 to_, .int .i64 term, .int .i64 index, .int .i64 logterm, .int .i64 commit, .bool yes, .slice esA es.length esc, .int .i64 s_index, .int .i64 s_term, .string s_conf, .string s_data]] H v H' ∧ ((v = .bool (Spec.entR term index logterm es && decide (es.length ≤ 8 ∧ (es.length = 0 ∨ kind = 3)))) ∧ (Ext H H')) := by
  refine spec_go1 E0_ok 62 (f := 42) Try.func42 rfl rfl rfl ?_
  refine aw_seq ?_
  refine aw_reg ?_
  obtain ⟨b1, H2, he3, b1e, H2n_, hB5, f4⟩ := mem_box (P := Try.prog) H (v := .agg #[.int .i64 kind, .int .i64 from_, .int .i64 to_, .int .i64 term, .int .i64 index, .int .i64 logterm, .int .i64 commit, .bool yes, .slice esA es.length esc, .int .i64 s_index, .int .i64 s_term, .string s_conf, .string s_data]) (cs := [.int .i64 kind, .int .i64 from_, .int .i64 to_, .int .i64 term, .int .i64 index, .int .i64 logterm, .int .i64 commit, .bool yes, .slice esA es.length esc, .int .i64 s_index, .int .i64 s_term, .string s_conf, .string s_data]) rfl rfl
  refine st_op (he3 _ _ _ _ _ _ _ _ _ rfl) rfl rfl rfl ?_
  have hx6 : Ext H H2 := Ext.new (by omega) H2n_ f4
  have H2n : H.next ≤ H2.next := hx6.1
  refine st_op (ev_assign rfl) rfl rfl rfl ?_
  try show aw _ _ _ _ _ _
  refine aw_seq ?_
  refine aw_marks (fun b => b < H2.next) [(false, false), (false, false), (false, false), (false, false), (false, false), (false, false)] mixed (by kernel_rfl) (by kernel_rfl) ?_
  refine sm_op (ev_fieldAddr rfl fa26_4 (o' := 4) rfl) rfl rfl rfl ?_
  refine sm_op (ev_load rfl (lvar_one one2 hB5 rfl)) rfl rfl rfl ?_
  refine sm_op (ev_fieldAddr rfl fa26_5 (o' := 5) rfl) rfl rfl rfl ?_
  refine sm_op (ev_load rfl (lvar_one one2 hB5 rfl)) rfl rfl rfl ?_
  refine sm_op (ev_assign rfl) rfl rfl rfl ?_
  refine sm_op (ev_assign rfl) rfl rfl rfl ?_
  try show aw _ _ _ _ _ _
  refine aw_seq ?_
  refine aw_seq ?_
  refine aw_reg ?_
  refine st_op (ev_fieldAddr rfl fa26_8 (o' := 8) rfl) rfl rfl rfl ?_
  refine st_op (ev_load rfl (lvar_one one22 hB5 rfl)) rfl rfl rfl ?_
  refine st_op (ev_lenSl rfl Try.underlying22) rfl rfl rfl ?_
  refine st_op (ev_move rfl) rfl rfl rfl ?_
  try show aw _ _ _ _ _ _
  refine aw_block ?_
  refine aw_keep [1, 3, 4, 12, 13, 14] (l' := (.cons 1 (.pointer (some ⟨b1, 0, none⟩)) (.cons 3 (.int .i64 index) (.cons 4 (.int .i64 logterm) (.cons 12 (.slice esA es.length esc) (.cons 13 (.int .i64 (es.length : Int)) (.cons 14 (.int .i64 0) .nil))))))) (by repeat (first | exact Up.done | refine Up.then ?_ | refine Up.inBlock ?_)) rfl ?_
  refine aw_iter (α := Nat × Int × Int × Heap) (fun a => es.length - a.1) (fun a => (.cons 1 (.pointer (some ⟨b1, 0, none⟩)) (.cons 3 (.int .i64 a.2.1) (.cons 4 (.int .i64 a.2.2.1) (.cons 12 (.slice esA es.length esc) (.cons 13 (.int .i64 (es.length : Int)) (.cons 14 (.int .i64 (a.1 : Int)) .nil))))))) (fun a => a.2.2.2) (fun a => (a.1 ≤ es.length) ∧ (Spec.entR term index logterm es = Spec.entR term a.2.1 a.2.2.1 (es.drop a.1)) ∧ (0 ≤ a.2.1 ∧ a.2.1 ≤ 1099511627776) ∧ (Ext H2 a.2.2.2)) (0, index, logterm, H2) ⟨(show 0 ≤ es.length from Nat.zero_le _), (show Spec.entR term index logterm es = Spec.entR term index logterm (es.drop 0) from rfl), (show 0 ≤ index ∧ index ≤ 1099511627776 from ⟨by omega, by omega⟩), (show Ext H2 H2 from (Ext.refl H2))⟩ ?_
  rintro ⟨i, ix, tm, Hl7⟩ ⟨hi, hv, hn8, hxl9⟩ ih10
  replace hi : i ≤ es.length := hi
  replace hv : Spec.entR term index logterm es = Spec.entR term ix tm (es.drop i) := hv
  replace hn8 : 0 ≤ ix ∧ ix ≤ 1099511627776 := hn8
  replace hxl9 : Ext H2 Hl7 := hxl9
  show aw _ _ _ (RL _ (.cons 1 (.pointer (some ⟨b1, 0, none⟩)) (.cons 3 (.int .i64 ix) (.cons 4 (.int .i64 tm) (.cons 12 (.slice esA es.length esc) (.cons 13 (.int .i64 (es.length : Int)) (.cons 14 (.int .i64 (i : Int)) .nil))))))) Hl7 _
  have Hl7n : H2.next ≤ Hl7.next := hxl9.1
  refine aw_seq ?_
  refine aw_reg ?_
  refine st_op (ev_int rfl rfl rfl) rfl rfl rfl ?_
  try show aw _ _ _ _ _ _
  refine aw_seq ?_
  by_cases hc11 : (decide ((i : Int) < (es.length : Int))) = true
  · refine aw_condT hc11 rfl ?_
    try show aw _ _ _ _ _ _
    have hc11 := of_decide_eq_true hc11
    refine aw_skip ?_
    try show aw _ _ _ _ _ _
    refine aw_seq ?_
    refine aw_block ?_
    refine aw_seq ?_
    refine aw_reg ?_
    have hx13 : Ext H Hl7 := (Ext.trans hx6 hxl9)
    have h12 := Row.ext hes hx13
    have hi14 : 0 ≤ ((i : Int) : Int) := by omega
    have hi15 : ((i : Int) : Int) < ((es.length : Nat) : Int) := by first | omega | (simp only [List.length_append, List.length_cons, List.length_nil, List.length_map, List.length_set, List.length_replicate, Spec.bytesOf_length]; omega) | (simp; omega)
    obtain ⟨x16, hx17⟩ : ∃ e, es[i]? = some e := ⟨_, List.getElem?_eq_getElem (by first | omega | (simp only [List.length_append, List.length_cons, List.length_nil, List.length_map, List.length_set, List.length_replicate, Spec.bytesOf_length]; omega) | (simp; omega))⟩
    refine st_op (ev_at rfl rfl h12 (getMap Entry.cells hx17) (by first | rfl | omega | simp) hi14 hi15 el22) rfl rfl rfl ?_
    refine st_op (ev_atN (cs := [.int .i64 x16.index, .int .i64 x16.term, .int .i64 x16.kind, .string x16.data]) rfl h12 (getMap Entry.cells hx17) many45 rfl rfl (by decide)) rfl rfl rfl ?_
    obtain ⟨b18, H19, he20, b18e, H19n_, hB22, f21⟩ := mem_alloc Hl7 zero45
    refine st_op (he20 _ _ _ _ _ _ _) rfl rfl rfl ?_
    have hx23 : Ext Hl7 H19 := Ext.new (by omega) H19n_ f21
    have H19n : Hl7.next ≤ H19.next := hx23.1
    obtain ⟨H24, he25, H24n_, hB26, f27⟩ := mem_store (v := .agg #[.int .i64 x16.index, .int .i64 x16.term, .int .i64 x16.kind, .string x16.data]) (o := 0) (cs' := [.int .i64 x16.index, .int .i64 x16.term, .int .i64 x16.kind, .string x16.data]) 4 rfl rfl size45 hB22 rfl rfl rfl
    refine st_op0 (he25 _ _ _ _ _ _ _ _ _ rfl rfl) rfl rfl ?_
    have hf28 : Fr (fun q => q = b18) H19 H24 := Fr.write H24n_ f27
    have H24n : H19.next ≤ H24.next := hf28.1
    try show aw _ _ _ _ _ _
    refine aw_seq ?_
    refine aw_seq ?_
    refine aw_reg ?_
    refine st_op (ev_fieldAddr rfl fa45_0 (o' := 0) rfl) rfl rfl rfl ?_
    refine st_op (ev_load rfl (lvar_one one2 hB26 rfl)) rfl rfl rfl ?_
    refine st_op (ev_move rfl) rfl rfl rfl ?_
    refine st_op (ev_int64 (c := ix + 1) rfl rfl rfl (by omega) (by omega)) rfl rfl rfl ?_
    refine st_op (ev_int rfl rfl rfl) rfl rfl rfl ?_
    refine st_op (ev_move rfl) rfl rfl rfl ?_
    refine st_bool 23 rfl (fun hb29 => ?_) (fun hb29 => ?_)
    ·
      have hb29 : ¬ (x16.index = ix + 1) := by simpa using hb29
      refine st_skip rfl rfl rfl ?_
      refine st_skip rfl rfl rfl ?_
      refine st_skip rfl rfl rfl ?_
      refine st_skip rfl rfl rfl ?_
      refine st_op (ev_pickT rfl rfl) rfl rfl rfl ?_
      refine st_op (ev_move rfl) rfl rfl rfl ?_
      refine st_skip rfl rfl rfl ?_
      refine st_skip rfl rfl rfl ?_
      refine st_skip rfl rfl rfl ?_
      refine st_skip rfl rfl rfl ?_
      refine st_skip rfl rfl rfl ?_
      refine st_op (ev_pickT rfl rfl) rfl rfl rfl ?_
      refine st_op (ev_move rfl) rfl rfl rfl ?_
      refine st_skip rfl rfl rfl ?_
      refine st_skip rfl rfl rfl ?_
      refine st_skip rfl rfl rfl ?_
      refine st_skip rfl rfl rfl ?_
      refine st_op (ev_pickT rfl rfl) rfl rfl rfl ?_
      try show aw _ _ _ _ _ _
      refine aw_cond (t := true) rfl ?_
      try show aw _ _ _ _ _ _
      refine aw_seq ?_
      refine aw_reg ?_
      refine st_op (ev_assign rfl) rfl rfl rfl ?_
      try show aw _ _ _ _ _ _
      refine aw_ret ?_
      have hx30 : Ext H H24 := (Ext.then (Ext.trans hx13 hx23) hf28 (fun q hq e => by omega))
      have hres : (Spec.entR term index logterm es && decide (es.length ≤ 8 ∧ (es.length = 0 ∨ kind = 3))) = false := by first | (rw [hv, drop_at hx17, Spec.entR, if_pos (by first | exact .inl (by omega) | exact .inr (.inl (by omega)) | exact .inr (.inr (.inl (by omega))) | exact .inr (.inr (.inr (by assumption))))]; rfl) | (rw [hv, List.drop_eq_nil_of_le (by omega), Spec.entR, Bool.eq_iff_iff]; simp only [Bool.true_and, decide_eq_true_eq, beq_iff_eq, Bool.false_eq_true, iff_true, iff_false]; omega)
      exact ⟨.bool false, rfl, by first | (rw [hres]; done) | rw [← hres], hx30⟩
    ·
      have hb29 : (x16.index = ix + 1) := by simpa using hb29
      refine st_op (ev_fieldAddr rfl fa45_1 (o' := 1) rfl) rfl rfl rfl ?_
      refine st_op (ev_load rfl (lvar_one one2 hB26 rfl)) rfl rfl rfl ?_
      refine st_op (ev_move rfl) rfl rfl rfl ?_
      refine st_op (ev_int rfl rfl rfl) rfl rfl rfl ?_
      refine st_op (ev_pickF rfl rfl) rfl rfl rfl ?_
      refine st_op (ev_move rfl) rfl rfl rfl ?_
      refine st_bool 29 rfl (fun hb31 => ?_) (fun hb31 => ?_)
      ·
        have hb31 := of_decide_eq_true hb31
        refine st_skip rfl rfl rfl ?_
        refine st_skip rfl rfl rfl ?_
        refine st_skip rfl rfl rfl ?_
        refine st_skip rfl rfl rfl ?_
        refine st_skip rfl rfl rfl ?_
        refine st_op (ev_pickT rfl rfl) rfl rfl rfl ?_
        refine st_op (ev_move rfl) rfl rfl rfl ?_
        refine st_skip rfl rfl rfl ?_
        refine st_skip rfl rfl rfl ?_
        refine st_skip rfl rfl rfl ?_
        refine st_skip rfl rfl rfl ?_
        refine st_op (ev_pickT rfl rfl) rfl rfl rfl ?_
        try show aw _ _ _ _ _ _
        refine aw_cond (t := true) rfl ?_
        try show aw _ _ _ _ _ _
        refine aw_seq ?_
        refine aw_reg ?_
        refine st_op (ev_assign rfl) rfl rfl rfl ?_
        try show aw _ _ _ _ _ _
        refine aw_ret ?_
        have hx32 : Ext H H24 := (Ext.then (Ext.trans hx13 hx23) hf28 (fun q hq e => by omega))
        have hres : (Spec.entR term index logterm es && decide (es.length ≤ 8 ∧ (es.length = 0 ∨ kind = 3))) = false := by first | (rw [hv, drop_at hx17, Spec.entR, if_pos (by first | exact .inl (by omega) | exact .inr (.inl (by omega)) | exact .inr (.inr (.inl (by omega))) | exact .inr (.inr (.inr (by assumption))))]; rfl) | (rw [hv, List.drop_eq_nil_of_le (by omega), Spec.entR, Bool.eq_iff_iff]; simp only [Bool.true_and, decide_eq_true_eq, beq_iff_eq, Bool.false_eq_true, iff_true, iff_false]; omega)
        exact ⟨.bool false, rfl, by first | (rw [hres]; done) | rw [← hres], hx32⟩
      ·
        have hb31 := of_decide_eq_false hb31
        refine st_op (ev_fieldAddr rfl fa45_1 (o' := 1) rfl) rfl rfl rfl ?_
        refine st_op (ev_load rfl (lvar_one one2 hB26 rfl)) rfl rfl rfl ?_
        refine st_op (ev_fieldAddr rfl fa26_3 (o' := 3) rfl) rfl rfl rfl ?_
        have hx34 : Ext H2 H24 := (Ext.then (Ext.trans hxl9 hx23) hf28 (fun q hq e => by omega))
        have h33 := Ext.blk hx34 (by omega) hB5
        refine st_op (ev_load rfl (lvar_one one2 h33 rfl)) rfl rfl rfl ?_
        refine st_op (ev_int rfl rfl rfl) rfl rfl rfl ?_
        refine st_op (ev_pickF rfl rfl) rfl rfl rfl ?_
        refine st_op (ev_move rfl) rfl rfl rfl ?_
        refine st_bool 36 rfl (fun hb35 => ?_) (fun hb35 => ?_)
        ·
          have hb35 := of_decide_eq_true hb35
          refine st_skip rfl rfl rfl ?_
          refine st_skip rfl rfl rfl ?_
          refine st_skip rfl rfl rfl ?_
          refine st_skip rfl rfl rfl ?_
          refine st_op (ev_pickT rfl rfl) rfl rfl rfl ?_
          try show aw _ _ _ _ _ _
          refine aw_cond (t := true) rfl ?_
          try show aw _ _ _ _ _ _
          refine aw_seq ?_
          refine aw_reg ?_
          refine st_op (ev_assign rfl) rfl rfl rfl ?_
          try show aw _ _ _ _ _ _
          refine aw_ret ?_
          have hx36 : Ext H H24 := (Ext.then (Ext.trans hx13 hx23) hf28 (fun q hq e => by omega))
          have hres : (Spec.entR term index logterm es && decide (es.length ≤ 8 ∧ (es.length = 0 ∨ kind = 3))) = false := by first | (rw [hv, drop_at hx17, Spec.entR, if_pos (by first | exact .inl (by omega) | exact .inr (.inl (by omega)) | exact .inr (.inr (.inl (by omega))) | exact .inr (.inr (.inr (by assumption))))]; rfl) | (rw [hv, List.drop_eq_nil_of_le (by omega), Spec.entR, Bool.eq_iff_iff]; simp only [Bool.true_and, decide_eq_true_eq, beq_iff_eq, Bool.false_eq_true, iff_true, iff_false]; omega)
          exact ⟨.bool false, rfl, by first | (rw [hres]; done) | rw [← hres], hx36⟩
        ·
          have hb35 := of_decide_eq_false hb35
          refine st_op (ev_load rfl (lvar_part (l := [.int .i64 x16.index, .int .i64 x16.term, .int .i64 x16.kind, .string x16.data]) many45 hB26 rfl rfl (by decide))) rfl rfl rfl ?_
          refine st_op (ev_build zero82 pl82 (parts := [(2, .agg #[.int .i64 x16.index, .int .i64 x16.term, .int .i64 x16.kind, .string x16.data])]) rfl (cs := [.bool false, .int .i64 0, .int .i64 0, .int .i64 x16.index, .int .i64 x16.term, .int .i64 x16.kind, .string x16.data]) rfl) rfl rfl rfl ?_
          refine st_call rfl rfl rfl ent58 rfl rfl rfl ?_
          obtain ⟨_, H38, hs37, hs37v, hx39⟩ := wal_May_spec H24 false (0 : Int) (0 : Int) x16.index x16.term x16.kind x16.data
          rw [hs37v] at hs37; clear hs37v
          refine ⟨_, H38, hs37, ?_⟩
          have H38n : H24.next ≤ H38.next := hx39.1
          refine st_op (ev_not rfl) rfl rfl rfl ?_
          refine st_op (ev_pickF rfl rfl) rfl rfl rfl ?_
          try show aw _ _ _ _ _ _
          by_cases hc40 : (!(Spec.mayF false (0 : Int) (0 : Int) x16.index x16.term x16.kind x16.data)) = true
          · refine aw_condT hc40 rfl ?_
            try show aw _ _ _ _ _ _
            replace hc40 : (Spec.mayF false (0 : Int) (0 : Int) x16.index x16.term x16.kind x16.data) = false := by rw [Bool.not_eq_true'] at hc40; exact hc40
            refine aw_seq ?_
            refine aw_reg ?_
            refine st_op (ev_assign rfl) rfl rfl rfl ?_
            try show aw _ _ _ _ _ _
            refine aw_ret ?_
            have hx41 : Ext H H38 := (Ext.trans (Ext.then (Ext.trans hx13 hx23) hf28 (fun q hq e => by omega)) hx39)
            have hres : (Spec.entR term index logterm es && decide (es.length ≤ 8 ∧ (es.length = 0 ∨ kind = 3))) = false := by first | (rw [hv, drop_at hx17, Spec.entR, if_pos (by first | exact .inl (by omega) | exact .inr (.inl (by omega)) | exact .inr (.inr (.inl (by omega))) | exact .inr (.inr (.inr (by assumption))))]; rfl) | (rw [hv, List.drop_eq_nil_of_le (by omega), Spec.entR, Bool.eq_iff_iff]; simp only [Bool.true_and, decide_eq_true_eq, beq_iff_eq, Bool.false_eq_true, iff_true, iff_false]; omega)
            exact ⟨.bool false, rfl, by first | (rw [hres]; done) | rw [← hres], hx41⟩
          · rw [Bool.not_eq_true] at hc40; refine aw_condF hc40 rfl ?_
            try show aw _ _ _ _ _ _
            replace hc40 : (Spec.mayF false (0 : Int) (0 : Int) x16.index x16.term x16.kind x16.data) = true := by rw [Bool.not_eq_false'] at hc40; exact hc40
            have hc40m := Spec.may_says hc40
            refine aw_skip ?_
            try show aw _ _ _ _ _ _
            refine aw_marks (fun b => b < H38.next) [(false, false), (false, false), (false, false), (false, false), (false, false), (false, false)] mixed (by kernel_rfl) (by kernel_rfl) ?_
            refine sm_op (ev_fieldAddr rfl fa45_0 (o' := 0) rfl) rfl rfl rfl ?_
            have h42 := Ext.blk hx39 (by omega) hB26
            refine sm_op (ev_load rfl (lvar_one one2 h42 rfl)) rfl rfl rfl ?_
            refine sm_op (ev_fieldAddr rfl fa45_1 (o' := 1) rfl) rfl rfl rfl ?_
            refine sm_op (ev_load rfl (lvar_one one2 h42 rfl)) rfl rfl rfl ?_
            refine sm_op (ev_assign rfl) rfl rfl rfl ?_
            refine sm_op (ev_assign rfl) rfl rfl rfl ?_
            try show aw _ _ _ _ _ _
            refine aw_reg ?_
            refine st_op (ev_int64 (c := (i : Int) + 1) rfl rfl rfl (by omega) (by omega)) rfl rfl rfl ?_
            refine st_op (ev_move rfl) rfl rfl rfl ?_
            try show aw _ _ _ _ _ _
            have hx43 : Ext H2 H38 := (Ext.trans hx34 hx39)
            refine aw_keep [1, 3, 4, 12, 13, 14] (l' := (.cons 1 (.pointer (some ⟨b1, 0, none⟩)) (.cons 3 (.int .i64 x16.index) (.cons 4 (.int .i64 x16.term) (.cons 12 (.slice esA es.length esc) (.cons 13 (.int .i64 (es.length : Int)) (.cons 14 (.int .i64 ((i : Int) + 1)) .nil))))))) (by repeat (first | exact Up.done | refine Up.then ?_ | refine Up.inBlock ?_)) rfl ?_
            exact ih10 (i + 1, x16.index, x16.term, H38) ⟨(show (i + 1) ≤ es.length from (by omega)), (show Spec.entR term index logterm es = Spec.entR term x16.index x16.term (es.drop (i + 1)) from (by rw [hv, drop_at hx17, Spec.entR, if_neg (fun q => by rcases q with q | q | q | q <;> first | omega | exact Bool.noConfusion (q.symm.trans (show _ = true by assumption)))])), (show 0 ≤ x16.index ∧ x16.index ≤ 1099511627776 from ⟨by omega, by omega⟩), (show Ext H2 H38 from hx43)⟩ (by simp only; omega)
  · rw [Bool.not_eq_true] at hc11; refine aw_condF hc11 rfl ?_
    try show aw _ _ _ _ _ _
    have hc11 := of_decide_eq_false hc11
    refine aw_exit ?_
    try show aw _ _ _ _ _ _
    refine aw_seq ?_
    refine aw_reg ?_
    refine st_op (ev_fieldAddr rfl fa26_8 (o' := 8) rfl) rfl rfl rfl ?_
    have h44 := Ext.blk hxl9 (by omega) hB5
    refine st_op (ev_load rfl (lvar_one one22 h44 rfl)) rfl rfl rfl ?_
    refine st_op (ev_lenSl rfl Try.underlying22) rfl rfl rfl ?_
    refine st_op (ev_int rfl rfl rfl) rfl rfl rfl ?_
    refine st_op (ev_move rfl) rfl rfl rfl ?_
    refine st_bool 51 rfl (fun hb45 => ?_) (fun hb45 => ?_)
    ·
      have hb45 := of_decide_eq_true hb45
      refine st_op (ev_fieldAddr rfl fa26_8 (o' := 8) rfl) rfl rfl rfl ?_
      refine st_op (ev_load rfl (lvar_one one22 h44 rfl)) rfl rfl rfl ?_
      refine st_op (ev_lenSl rfl Try.underlying22) rfl rfl rfl ?_
      refine st_op (ev_int rfl rfl rfl) rfl rfl rfl ?_
      refine st_op (ev_move rfl) rfl rfl rfl ?_
      refine st_bool 56 rfl (fun hb46 => ?_) (fun hb46 => ?_)
      ·
        have hb46 := eq_of_beq hb46
        refine st_skip rfl rfl rfl ?_
        refine st_skip rfl rfl rfl ?_
        refine st_skip rfl rfl rfl ?_
        refine st_op (ev_pickT rfl rfl) rfl rfl rfl ?_
        refine st_op (ev_pickT rfl rfl) rfl rfl rfl ?_
        refine st_op (ev_assign rfl) rfl rfl rfl ?_
        try show aw _ _ _ _ _ _
        refine aw_ret ?_
        have hx47 : Ext H Hl7 := (Ext.trans hx6 hxl9)
        have hres : (Spec.entR term index logterm es && decide (es.length ≤ 8 ∧ (es.length = 0 ∨ kind = 3))) = true := by first | (rw [hv, drop_at hx17, Spec.entR, if_pos (by first | exact .inl (by omega) | exact .inr (.inl (by omega)) | exact .inr (.inr (.inl (by omega))) | exact .inr (.inr (.inr (by assumption))))]; rfl) | (rw [hv, List.drop_eq_nil_of_le (by omega), Spec.entR, Bool.eq_iff_iff]; simp only [Bool.true_and, decide_eq_true_eq, beq_iff_eq, Bool.false_eq_true, iff_true, iff_false]; omega)
        exact ⟨.bool true, rfl, by first | (rw [hres]; done) | rw [← hres], hx47⟩
      ·
        have hb46 := ne_of_beq_false hb46
        refine st_op (ev_fieldAddr rfl fa26_0 (o' := 0) rfl) rfl rfl rfl ?_
        refine st_op (ev_load rfl (lvar_one one3 h44 rfl)) rfl rfl rfl ?_
        refine st_op (ev_int rfl rfl rfl) rfl rfl rfl ?_
        refine st_op (ev_pickF rfl rfl) rfl rfl rfl ?_
        refine st_op (ev_pickT rfl rfl) rfl rfl rfl ?_
        refine st_op (ev_assign rfl) rfl rfl rfl ?_
        try show aw _ _ _ _ _ _
        refine aw_ret ?_
        have hx48 : Ext H Hl7 := (Ext.trans hx6 hxl9)
        have hres : (Spec.entR term index logterm es && decide (es.length ≤ 8 ∧ (es.length = 0 ∨ kind = 3))) = (kind == 3) := by first | (rw [hv, drop_at hx17, Spec.entR, if_pos (by first | exact .inl (by omega) | exact .inr (.inl (by omega)) | exact .inr (.inr (.inl (by omega))) | exact .inr (.inr (.inr (by assumption))))]; rfl) | (rw [hv, List.drop_eq_nil_of_le (by omega), Spec.entR, Bool.eq_iff_iff]; simp only [Bool.true_and, decide_eq_true_eq, beq_iff_eq, Bool.false_eq_true, iff_true, iff_false]; omega)
        exact ⟨.bool (kind == 3), rfl, by first | (rw [hres]; done) | rw [← hres], hx48⟩
    ·
      have hb45 := of_decide_eq_false hb45
      refine st_skip rfl rfl rfl ?_
      refine st_skip rfl rfl rfl ?_
      refine st_skip rfl rfl rfl ?_
      refine st_skip rfl rfl rfl ?_
      refine st_skip rfl rfl rfl ?_
      refine st_skip rfl rfl rfl ?_
      refine st_skip rfl rfl rfl ?_
      refine st_skip rfl rfl rfl ?_
      refine st_skip rfl rfl rfl ?_
      refine st_op (ev_pickF rfl rfl) rfl rfl rfl ?_
      refine st_op (ev_assign rfl) rfl rfl rfl ?_
      try show aw _ _ _ _ _ _
      refine aw_ret ?_
      have hx49 : Ext H Hl7 := (Ext.trans hx6 hxl9)
      have hres : (Spec.entR term index logterm es && decide (es.length ≤ 8 ∧ (es.length = 0 ∨ kind = 3))) = false := by first | (rw [hv, drop_at hx17, Spec.entR, if_pos (by first | exact .inl (by omega) | exact .inr (.inl (by omega)) | exact .inr (.inr (.inl (by omega))) | exact .inr (.inr (.inr (by assumption))))]; rfl) | (rw [hv, List.drop_eq_nil_of_le (by omega), Spec.entR, Bool.eq_iff_iff]; simp only [Bool.true_and, decide_eq_true_eq, beq_iff_eq, Bool.false_eq_true, iff_true, iff_false]; omega)
      exact ⟨.bool false, rfl, by first | (rw [hres]; done) | rw [← hres], hx49⟩
theorem conf_May_spec (H : Heap) (lA : Option Addr) (l : List Int) (lc : Nat) (hl : Row H lA lc 1 (l.map i64c)) (cl : l.length ≤ lc) (ll : l.length ≤ 274877906944) : ∃ v H', Spec Try.prog 59 [.slice lA l.length lc] H v H' ∧ ((v = .bool (Spec.mayC l)) ∧ (Ext H H')) := by
  refine spec_go1 E0_ok 35 (f := 59) Try.func59 rfl rfl rfl ?_
  refine aw_seq ?_
  refine aw_reg ?_
  refine st_op (ev_assign rfl) rfl rfl rfl ?_
  try show aw _ _ _ _ _ _
  refine aw_seq ?_
  refine aw_seq ?_
  refine aw_reg ?_
  refine st_op (ev_move rfl) rfl rfl rfl ?_
  refine st_op (ev_lenSl rfl Try.underlying56) rfl rfl rfl ?_
  refine st_op (ev_move rfl) rfl rfl rfl ?_
  try show aw _ _ _ _ _ _
  refine aw_block ?_
  refine aw_keep [0, 5, 6, 7] (l' := (.cons 0 (.slice lA l.length lc) (.cons 5 (.slice lA l.length lc) (.cons 6 (.int .i64 (l.length : Int)) (.cons 7 (.int .i64 0) .nil))))) (by repeat (first | exact Up.done | refine Up.then ?_ | refine Up.inBlock ?_)) rfl ?_
  refine aw_iter (α := Nat × Int × Heap) (fun a => l.length - a.1) (fun a => (.cons 0 (.slice lA l.length lc) (.cons 5 (.slice lA l.length lc) (.cons 6 (.int .i64 (l.length : Int)) (.cons 7 (.int .i64 (a.1 : Int)) .nil))))) (fun a => a.2.2) (fun a => (a.1 ≤ l.length) ∧ (Spec.upF 0 l = Spec.upF a.2.1 (l.drop a.1)) ∧ ((a.1 = 0 → a.2.1 = 0) ∧ (0 < a.1 → l[a.1 - 1]? = some a.2.1)) ∧ (Ext H a.2.2)) (0, (0 : Int), H) ⟨(show 0 ≤ l.length from Nat.zero_le _), (show Spec.upF 0 l = Spec.upF (0 : Int) (l.drop 0) from rfl), (show (0 = 0 → (0 : Int) = 0) ∧ (0 < 0 → l[0 - 1]? = some (0 : Int)) from ⟨fun _ => rfl, fun h => absurd h (by decide)⟩), (show Ext H H from (Ext.refl H))⟩ ?_
  rintro ⟨i, pv, Hl1⟩ ⟨hi, hv, hpv, hxl2⟩ ih3
  replace hi : i ≤ l.length := hi
  replace hv : Spec.upF 0 l = Spec.upF pv (l.drop i) := hv
  replace hpv : (i = 0 → pv = 0) ∧ (0 < i → l[i - 1]? = some pv) := hpv
  replace hxl2 : Ext H Hl1 := hxl2
  show aw _ _ _ (RL _ (.cons 0 (.slice lA l.length lc) (.cons 5 (.slice lA l.length lc) (.cons 6 (.int .i64 (l.length : Int)) (.cons 7 (.int .i64 (i : Int)) .nil))))) Hl1 _
  have Hl1n : H.next ≤ Hl1.next := hxl2.1
  refine aw_seq ?_
  refine aw_reg ?_
  refine st_op (ev_int rfl rfl rfl) rfl rfl rfl ?_
  try show aw _ _ _ _ _ _
  refine aw_seq ?_
  by_cases hc4 : (decide ((i : Int) < (l.length : Int))) = true
  · refine aw_condT hc4 rfl ?_
    try show aw _ _ _ _ _ _
    have hc4 := of_decide_eq_true hc4
    refine aw_skip ?_
    try show aw _ _ _ _ _ _
    refine aw_seq ?_
    refine aw_block ?_
    refine aw_seq ?_
    refine aw_reg ?_
    refine st_op (ev_move rfl) rfl rfl rfl ?_
    have h5 := Row.ext hl hxl2
    have hi6 : 0 ≤ ((i : Int) : Int) := by omega
    have hi7 : ((i : Int) : Int) < ((l.length : Nat) : Int) := by first | omega | (simp only [List.length_append, List.length_cons, List.length_nil, List.length_map, List.length_set, List.length_replicate, Spec.bytesOf_length]; omega) | (simp; omega)
    obtain ⟨x8, hx9⟩ : ∃ e, l[i]? = some e := ⟨_, List.getElem?_eq_getElem (by first | omega | (simp only [List.length_append, List.length_cons, List.length_nil, List.length_map, List.length_set, List.length_replicate, Spec.bytesOf_length]; omega) | (simp; omega))⟩
    refine st_op (ev_at rfl rfl h5 (getMap i64c hx9) (by first | rfl | omega | simp) hi6 hi7 el56) rfl rfl rfl ?_
    refine st_op (ev_atL rfl h5 (getMap i64c hx9) one3 rfl) rfl rfl rfl ?_
    refine st_op (ev_assign rfl) rfl rfl rfl ?_
    refine st_op (ev_assign rfl) rfl rfl rfl ?_
    try show aw _ _ _ _ _ _
    refine aw_seq ?_
    refine aw_reg ?_
    refine st_op (ev_move rfl) rfl rfl rfl ?_
    refine st_op (ev_int rfl rfl rfl) rfl rfl rfl ?_
    refine st_op (ev_move rfl) rfl rfl rfl ?_
    refine st_bool 14 rfl (fun hb10 => ?_) (fun hb10 => ?_)
    ·
      have hb10 := of_decide_eq_true hb10
      refine st_skip rfl rfl rfl ?_
      refine st_skip rfl rfl rfl ?_
      refine st_op (ev_pickT rfl rfl) rfl rfl rfl ?_
      refine st_op (ev_move rfl) rfl rfl rfl ?_
      refine st_skip rfl rfl rfl ?_
      refine st_skip rfl rfl rfl ?_
      refine st_skip rfl rfl rfl ?_
      refine st_skip rfl rfl rfl ?_
      refine st_skip rfl rfl rfl ?_
      refine st_skip rfl rfl rfl ?_
      refine st_skip rfl rfl rfl ?_
      refine st_skip rfl rfl rfl ?_
      refine st_skip rfl rfl rfl ?_
      refine st_skip rfl rfl rfl ?_
      refine st_skip rfl rfl rfl ?_
      refine st_op (ev_pickT rfl rfl) rfl rfl rfl ?_
      try show aw _ _ _ _ _ _
      refine aw_cond (t := true) rfl ?_
      try show aw _ _ _ _ _ _
      refine aw_seq ?_
      refine aw_reg ?_
      refine st_op (ev_assign rfl) rfl rfl rfl ?_
      try show aw _ _ _ _ _ _
      refine aw_ret ?_
      have hres : (Spec.mayC l) = false := by unfold Spec.mayC; rw [hv, drop_at hx9, Spec.upF, if_pos (by omega)]; rfl
      exact ⟨.bool false, rfl, by first | (rw [hres]; done) | rw [← hres], hxl2⟩
    ·
      have hb10 := of_decide_eq_false hb10
      refine st_op (ev_move rfl) rfl rfl rfl ?_
      refine st_op (ev_int rfl rfl rfl) rfl rfl rfl ?_
      refine st_op (ev_pickF rfl rfl) rfl rfl rfl ?_
      refine st_op (ev_move rfl) rfl rfl rfl ?_
      refine st_bool 18 rfl (fun hb11 => ?_) (fun hb11 => ?_)
      ·
        have hb11 := of_decide_eq_true hb11
        refine st_skip rfl rfl rfl ?_
        refine st_skip rfl rfl rfl ?_
        refine st_skip rfl rfl rfl ?_
        refine st_skip rfl rfl rfl ?_
        refine st_skip rfl rfl rfl ?_
        refine st_skip rfl rfl rfl ?_
        refine st_skip rfl rfl rfl ?_
        refine st_skip rfl rfl rfl ?_
        refine st_skip rfl rfl rfl ?_
        refine st_skip rfl rfl rfl ?_
        refine st_skip rfl rfl rfl ?_
        refine st_op (ev_pickT rfl rfl) rfl rfl rfl ?_
        try show aw _ _ _ _ _ _
        refine aw_cond (t := true) rfl ?_
        try show aw _ _ _ _ _ _
        refine aw_seq ?_
        refine aw_reg ?_
        refine st_op (ev_assign rfl) rfl rfl rfl ?_
        try show aw _ _ _ _ _ _
        refine aw_ret ?_
        have hres : (Spec.mayC l) = false := by unfold Spec.mayC; rw [hv, drop_at hx9, Spec.upF, if_pos (by omega)]; rfl
        exact ⟨.bool false, rfl, by first | (rw [hres]; done) | rw [← hres], hxl2⟩
      ·
        have hb11 := of_decide_eq_false hb11
        refine st_op (ev_move rfl) rfl rfl rfl ?_
        refine st_op (ev_int rfl rfl rfl) rfl rfl rfl ?_
        refine st_op (ev_move rfl) rfl rfl rfl ?_
        refine st_bool 21 rfl (fun hb12 => ?_) (fun hb12 => ?_)
        ·
          have hb12 := of_decide_eq_true hb12
          refine st_op (ev_move rfl) rfl rfl rfl ?_
          refine st_op (ev_move rfl) rfl rfl rfl ?_
          refine st_op (ev_int64 (c := (i : Int) - 1) rfl rfl rfl (by omega) (by omega)) rfl rfl rfl ?_
          have hi13 : 0 ≤ ((i : Int) - 1 : Int) := by omega
          have hi14 : ((i : Int) - 1 : Int) < ((l.length : Nat) : Int) := by first | omega | (simp only [List.length_append, List.length_cons, List.length_nil, List.length_map, List.length_set, List.length_replicate, Spec.bytesOf_length]; omega) | (simp; omega)
          obtain ⟨x15, hx16⟩ : ∃ e, l[(((i : Int) - 1)).toNat]? = some e := ⟨_, List.getElem?_eq_getElem (by first | omega | (simp only [List.length_append, List.length_cons, List.length_nil, List.length_map, List.length_set, List.length_replicate, Spec.bytesOf_length]; omega) | (simp; omega))⟩
          have x15p : x15 = pv := by have q := hpv.2 (by omega); rw [show (((((i : Int) - 1)).toNat) : Nat) = i - 1 by omega] at hx16; rw [hx16] at q; cases q; rfl
          refine st_op (ev_at rfl rfl h5 (getMap i64c hx16) (by first | rfl | omega | simp) hi13 hi14 el56) rfl rfl rfl ?_
          refine st_op (ev_atL rfl h5 (getMap i64c hx16) one3 rfl) rfl rfl rfl ?_
          refine st_op (ev_move rfl) rfl rfl rfl ?_
          refine st_op (ev_int rfl rfl rfl) rfl rfl rfl ?_
          refine st_op (ev_pickT rfl rfl) rfl rfl rfl ?_
          refine st_op (ev_pickF rfl rfl) rfl rfl rfl ?_
          try show aw _ _ _ _ _ _
          by_cases hc17 : (decide (x15 ≥ x8)) = true
          · refine aw_condT hc17 rfl ?_
            try show aw _ _ _ _ _ _
            have hc17 := of_decide_eq_true hc17
            refine aw_seq ?_
            refine aw_reg ?_
            refine st_op (ev_assign rfl) rfl rfl rfl ?_
            try show aw _ _ _ _ _ _
            refine aw_ret ?_
            have hres : (Spec.mayC l) = false := by unfold Spec.mayC; rw [hv, drop_at hx9, Spec.upF, if_pos (by omega)]; rfl
            exact ⟨.bool false, rfl, by first | (rw [hres]; done) | rw [← hres], hxl2⟩
          · rw [Bool.not_eq_true] at hc17; refine aw_condF hc17 rfl ?_
            try show aw _ _ _ _ _ _
            have hc17 := of_decide_eq_false hc17
            refine aw_skip ?_
            try show aw _ _ _ _ _ _
            refine aw_reg ?_
            refine st_op (ev_int64 (c := (i : Int) + 1) rfl rfl rfl (by omega) (by omega)) rfl rfl rfl ?_
            refine st_op (ev_move rfl) rfl rfl rfl ?_
            try show aw _ _ _ _ _ _
            refine aw_keep [0, 5, 6, 7] (l' := (.cons 0 (.slice lA l.length lc) (.cons 5 (.slice lA l.length lc) (.cons 6 (.int .i64 (l.length : Int)) (.cons 7 (.int .i64 ((i : Int) + 1)) .nil))))) (by repeat (first | exact Up.done | refine Up.then ?_ | refine Up.inBlock ?_)) rfl ?_
            exact ih3 (i + 1, x8, Hl1) ⟨(show (i + 1) ≤ l.length from (by omega)), (show Spec.upF 0 l = Spec.upF x8 (l.drop (i + 1)) from (by rw [hv, drop_at hx9, Spec.upF, if_neg (by omega)])), (show ((i + 1) = 0 → x8 = 0) ∧ (0 < (i + 1) → l[(i + 1) - 1]? = some x8) from ⟨fun h => absurd h (by omega), fun _ => by rw [Nat.add_sub_cancel]; exact hx9⟩), (show Ext H Hl1 from hxl2)⟩ (by simp only; omega)
        ·
          have hb12 := of_decide_eq_false hb12
          refine st_skip rfl rfl rfl ?_
          refine st_skip rfl rfl rfl ?_
          refine st_skip rfl rfl rfl ?_
          refine st_skip rfl rfl rfl ?_
          refine st_skip rfl rfl rfl ?_
          refine st_skip rfl rfl rfl ?_
          refine st_skip rfl rfl rfl ?_
          refine st_op (ev_pickF rfl rfl) rfl rfl rfl ?_
          refine st_op (ev_pickF rfl rfl) rfl rfl rfl ?_
          try show aw _ _ _ _ _ _
          refine aw_cond (t := false) rfl ?_
          try show aw _ _ _ _ _ _
          refine aw_skip ?_
          try show aw _ _ _ _ _ _
          refine aw_reg ?_
          refine st_op (ev_int64 (c := (i : Int) + 1) rfl rfl rfl (by omega) (by omega)) rfl rfl rfl ?_
          refine st_op (ev_move rfl) rfl rfl rfl ?_
          try show aw _ _ _ _ _ _
          refine aw_keep [0, 5, 6, 7] (l' := (.cons 0 (.slice lA l.length lc) (.cons 5 (.slice lA l.length lc) (.cons 6 (.int .i64 (l.length : Int)) (.cons 7 (.int .i64 ((i : Int) + 1)) .nil))))) (by repeat (first | exact Up.done | refine Up.then ?_ | refine Up.inBlock ?_)) rfl ?_
          exact ih3 (i + 1, x8, Hl1) ⟨(show (i + 1) ≤ l.length from (by omega)), (show Spec.upF 0 l = Spec.upF x8 (l.drop (i + 1)) from (by rw [hv, drop_at hx9, Spec.upF, if_neg (by have := hpv.1 (by omega); omega)])), (show ((i + 1) = 0 → x8 = 0) ∧ (0 < (i + 1) → l[(i + 1) - 1]? = some x8) from ⟨fun h => absurd h (by omega), fun _ => by rw [Nat.add_sub_cancel]; exact hx9⟩), (show Ext H Hl1 from hxl2)⟩ (by simp only; omega)
  · rw [Bool.not_eq_true] at hc4; refine aw_condF hc4 rfl ?_
    try show aw _ _ _ _ _ _
    have hc4 := of_decide_eq_false hc4
    refine aw_exit ?_
    try show aw _ _ _ _ _ _
    refine aw_seq ?_
    refine aw_reg ?_
    refine st_op (ev_move rfl) rfl rfl rfl ?_
    refine st_op (ev_lenSl rfl Try.underlying56) rfl rfl rfl ?_
    refine st_op (ev_int rfl rfl rfl) rfl rfl rfl ?_
    refine st_op (ev_assign rfl) rfl rfl rfl ?_
    try show aw _ _ _ _ _ _
    refine aw_ret ?_
    have hres : (Spec.mayC l) = (decide ((l.length : Int) > 0)) := by unfold Spec.mayC; rw [hv, List.drop_eq_nil_of_le (by omega)]; simp [Spec.upF]
    exact ⟨.bool (decide ((l.length : Int) > 0)), rfl, by first | (rw [hres]; done) | rw [← hres], hxl2⟩
theorem conf_Decode_spec (H : Heap) (s : ByteArray) (hs : s.size ≤ 1073741824) : ∃ v H', Spec Try.prog 43 [.string s] H v H' ∧ (∃ rA0 rc0, (v = .tuple #[.slice rA0 (((Spec.decC s).1).length) rc0, .bool ((Spec.decC s).2)]) ∧ (My H H' rA0 rc0 1 (((Spec.decC s).1).map i64c)) ∧ (Ext H H')) := by
  refine spec_go1 E0_ok 24 (f := 43) Try.func43 rfl rfl rfl ?_
  refine aw_seq ?_
  refine aw_reg ?_
  refine st_op (ev_assign rfl) rfl rfl rfl ?_
  refine st_op (ev_assign rfl) rfl rfl rfl ?_
  try show aw _ _ _ _ _ _
  refine aw_seq ?_
  refine aw_reg ?_
  refine st_op (ev_assign rfl) rfl rfl rfl ?_
  try show aw _ _ _ _ _ _
  refine aw_seq ?_
  refine aw_seq ?_
  refine aw_reg ?_
  refine st_op (ev_move rfl) rfl rfl rfl ?_
  refine st_op (ev_lenStr rfl Try.underlying9) rfl rfl rfl ?_
  refine st_op (ev_move rfl) rfl rfl rfl ?_
  try show aw _ _ _ _ _ _
  refine aw_block ?_
  have hm2 : My H H none 0 1 (([] : List Int).map i64c) := .nil
  refine aw_keep [0, 4, 7, 8] (l' := (.cons 0 (.string s) (.cons 4 (.slice none 0 0) (.cons 7 (.int .i64 ((s).size : Int)) (.cons 8 (.int .i64 0) .nil))))) (by repeat (first | exact Up.done | refine Up.then ?_ | refine Up.inBlock ?_)) rfl ?_
  refine aw_iter (α := Nat × Option Addr × Nat × List Int × Heap) (fun a => s.size - a.1) (fun a => (.cons 0 (.string s) (.cons 4 (.slice a.2.1 a.2.2.2.1.length a.2.2.1) (.cons 7 (.int .i64 ((s).size : Int)) (.cons 8 (.int .i64 (a.1 : Int)) .nil))))) (fun a => a.2.2.2.2) (fun a => (a.1 ≤ s.size) ∧ (a.2.2.2.1 = (Spec.digits s).take a.1) ∧ (My H a.2.2.2.2 a.2.1 a.2.2.1 1 (a.2.2.2.1.map i64c)) ∧ (Ext H a.2.2.2.2)) (0, none, 0, ([] : List Int), H) ⟨(show 0 ≤ s.size from Nat.zero_le _), (show ([] : List Int) = (Spec.digits s).take 0 from rfl), (show My H H none 0 1 (([] : List Int).map i64c) from hm2), (show Ext H H from (Ext.refl H))⟩ ?_
  rintro ⟨i, A, cp, l, Hl1⟩ ⟨hi, hl, hm3, hxl4⟩ ih5
  replace hi : i ≤ s.size := hi
  replace hl : l = (Spec.digits s).take i := hl
  replace hm3 : My H Hl1 A cp 1 (l.map i64c) := hm3
  replace hxl4 : Ext H Hl1 := hxl4
  show aw _ _ _ (RL _ (.cons 0 (.string s) (.cons 4 (.slice A l.length cp) (.cons 7 (.int .i64 ((s).size : Int)) (.cons 8 (.int .i64 (i : Int)) .nil))))) Hl1 _
  have Hl1n : H.next ≤ Hl1.next := hxl4.1
  have hll : l.length = i := by rw [hl, List.length_take, Spec.digits_len]; omega
  refine aw_seq ?_
  refine aw_reg ?_
  refine st_op (ev_int rfl rfl rfl) rfl rfl rfl ?_
  try show aw _ _ _ _ _ _
  refine aw_seq ?_
  by_cases hc6 : (decide ((i : Int) < ((s).size : Int))) = true
  · refine aw_condT hc6 rfl ?_
    try show aw _ _ _ _ _ _
    have hc6 := of_decide_eq_true hc6
    refine aw_skip ?_
    try show aw _ _ _ _ _ _
    refine aw_seq ?_
    refine aw_block ?_
    refine aw_seq ?_
    refine aw_reg ?_
    refine st_op (ev_move rfl) rfl rfl rfl ?_
    refine st_op (ev_assign rfl) rfl rfl rfl ?_
    try show aw _ _ _ _ _ _
    refine aw_reg ?_
    refine st_op (ev_move rfl) rfl rfl rfl ?_
    refine st_op (ev_move rfl) rfl rfl rfl ?_
    refine st_op (ev_move rfl) rfl rfl rfl ?_
    obtain ⟨y7, hy8⟩ : ∃ y, (s).data.toList[i]? = some y := ⟨_, List.getElem?_eq_getElem (by simp; omega)⟩
    have y7t := y7.toNat_lt
    refine st_op (ev_ixStr Try.underlying9 rfl rfl (ba_get hy8)) rfl rfl rfl ?_
    refine st_op (ev_convI Try.underlying5 Try.underlying3 rfl (wrI64 (by omega) (by omega))) rfl rfl rfl ?_
    refine st_op (ev_int64 (c := (y7.toNat : Int) - 48) rfl rfl rfl (by omega) (by omega)) rfl rfl rfl ?_
    obtain ⟨b9, H10, he11, b9e, H10n_, hm13, f12⟩ := mem_lit Hl1 (xs := ([.int .i64 ((y7.toNat : Int) - 48)] : List Value)) (m := 1) (rows := [[.int .i64 ((y7.toNat : Int) - 48)]]) rfl eok56 (by decide) (by decide) zf3 rfl (allLen rfl) rfl
    replace hm13 : My Hl1 H10 (some ⟨b9, 0, none⟩) 1 1 ([(y7.toNat : Int) - 48].map i64c) := hm13
    refine st_op (he11 _ _ _ _ _ _ _ _ rfl) rfl rfl rfl ?_
    have hx14 : Ext Hl1 H10 := Ext.new (by omega) H10n_ f12
    have H10n : Hl1.next ≤ H10.next := hx14.1
    have h15 := My.ext hm3 hx14
    obtain ⟨A16, c17, H18, W19, he20, hm21, hf22⟩ := mem_append (f := i64c) (old := l) (new := [(y7.toNat : Int) - 48]) (m := l.length) (mx := 1) (c := cp) (by first | rfl | simp) (by first | rfl | simp) eok56 (by decide) hm3 h15 (by omega) (((My.row hm13)).srcF (by decide) (by first | rfl | simp)) rfl i64c_len i64c_one (by first | omega | (simp only [List.length_append, List.length_cons, List.length_nil, List.length_map, List.length_set, List.length_replicate, Spec.bytesOf_length]; omega) | (simp; omega)) (by first | omega | (simp only [List.length_append, List.length_cons, List.length_nil, List.length_map, List.length_set, List.length_replicate, Spec.bytesOf_length]; omega) | (simp; omega))
    refine st_op (he20 _ _ _ _ _ _ _ _ _ _ rfl rfl isrow56) rfl rfl rfl ?_
    have H18n : H10.next ≤ H18.next := hf22.1
    refine st_op (ev_assign rfl) rfl rfl rfl ?_
    try show aw _ _ _ _ _ _
    refine aw_reg ?_
    refine st_op (ev_int64 (c := (i : Int) + 1) rfl rfl rfl (by omega) (by omega)) rfl rfl rfl ?_
    refine st_op (ev_move rfl) rfl rfl rfl ?_
    try show aw _ _ _ _ _ _
    have hx23 : Ext H H18 := (Ext.then (Ext.trans hxl4 hx14) hf22 (fun q hq e => by omega))
    refine aw_keep [0, 4, 7, 8] (l' := (.cons 0 (.string s) (.cons 4 (.slice A16 ((l ++ [(y7.toNat : Int) - 48]).length) c17) (.cons 7 (.int .i64 ((s).size : Int)) (.cons 8 (.int .i64 ((i : Int) + 1)) .nil))))) (by repeat (first | exact Up.done | refine Up.then ?_ | refine Up.inBlock ?_)) rfl ?_
    exact ih5 (i + 1, A16, c17, (l ++ [(y7.toNat : Int) - 48]), H18) ⟨(show (i + 1) ≤ s.size from (by omega)), (show (l ++ [(y7.toNat : Int) - 48]) = (Spec.digits s).take (i + 1) from (by rw [List.take_add_one, ← hl, Spec.digits_at hy8]; rfl)), (show My H H18 A16 c17 1 ((l ++ [(y7.toNat : Int) - 48]).map i64c) from hm21), (show Ext H H18 from hx23)⟩ (by simp only; omega)
  · rw [Bool.not_eq_true] at hc6; refine aw_condF hc6 rfl ?_
    try show aw _ _ _ _ _ _
    have hc6 := of_decide_eq_false hc6
    refine aw_exit ?_
    try show aw _ _ _ _ _ _
    refine aw_seq ?_
    refine aw_seq ?_
    refine aw_reg ?_
    refine st_op (ev_move rfl) rfl rfl rfl ?_
    refine st_call rfl rfl rfl ent59 rfl rfl rfl ?_
    obtain ⟨_, H25, hs24, hs24v, hx26⟩ := conf_May_spec Hl1 A l cp (My.row hm3) (My.capF hm3 (by first | omega | (simp only [List.length_append, List.length_cons, List.length_nil, List.length_map, List.length_set, List.length_replicate, Spec.bytesOf_length]; omega) | (simp; omega))) (by first | omega | (simp only [List.length_append, List.length_cons, List.length_nil, List.length_map, List.length_set, List.length_replicate, Spec.bytesOf_length]; omega) | (simp; omega))
    rw [hs24v] at hs24; clear hs24v
    refine ⟨_, H25, hs24, ?_⟩
    have H25n : Hl1.next ≤ H25.next := hx26.1
    refine st_op (ev_not rfl) rfl rfl rfl ?_
    try show aw _ _ _ _ _ _
    by_cases hc27 : (!(Spec.mayC l)) = true
    · refine aw_condT hc27 rfl ?_
      try show aw _ _ _ _ _ _
      replace hc27 : (Spec.mayC l) = false := by rw [Bool.not_eq_true'] at hc27; exact hc27
      refine aw_seq ?_
      refine aw_reg ?_
      refine st_op (ev_assign rfl) rfl rfl rfl ?_
      refine st_op (ev_assign rfl) rfl rfl rfl ?_
      try show aw _ _ _ _ _ _
      refine aw_ret ?_
      have hm28 : My H25 H25 none 0 1 (([] : List Int).map i64c) := .nil
      have hx29 : Ext H H25 := (Ext.trans hxl4 hx26)
      have hres : (Spec.decC s) = (([] : List Int), false) := by (have hd : l = Spec.digits s := by rw [hl, List.take_of_length_le (by rw [Spec.digits_len]; omega)]); unfold Spec.decC; rw [← hd]; first | (rw [if_pos (by assumption)]; done) | (rw [if_neg (fun h => Bool.noConfusion (h.symm.trans (show _ = false by assumption)))]; done)
      exact ⟨.tuple #[.slice none 0 0, .bool false], rfl, none, 0, by first | (rw [hres]; first | done | rfl | simp; done) | rfl, (by rw [hres]; exact (My.older hm28 (by omega))), hx29⟩
    · rw [Bool.not_eq_true] at hc27; refine aw_condF hc27 rfl ?_
      try show aw _ _ _ _ _ _
      replace hc27 : (Spec.mayC l) = true := by rw [Bool.not_eq_false'] at hc27; exact hc27
      refine aw_skip ?_
      try show aw _ _ _ _ _ _
      refine aw_seq ?_
      refine aw_reg ?_
      refine st_op (ev_move rfl) rfl rfl rfl ?_
      refine st_op (ev_assign rfl) rfl rfl rfl ?_
      refine st_op (ev_assign rfl) rfl rfl rfl ?_
      try show aw _ _ _ _ _ _
      refine aw_ret ?_
      have h30 := My.ext hm3 hx26
      have hx31 : Ext H H25 := (Ext.trans hxl4 hx26)
      have hres : (Spec.decC s) = (l, true) := by (have hd : l = Spec.digits s := by rw [hl, List.take_of_length_le (by rw [Spec.digits_len]; omega)]); unfold Spec.decC; rw [← hd]; first | (rw [if_pos (by assumption)]; done) | (rw [if_neg (fun h => Bool.noConfusion (h.symm.trans (show _ = false by assumption)))]; done)
      exact ⟨.tuple #[.slice A l.length cp, .bool true], rfl, A, cp, by first | (rw [hres]; first | done | rfl | simp; done) | rfl, (by rw [hres]; exact h30), hx31⟩
theorem wal_may_spec (H : Heap) (s_index : Int) (s_term : Int) (s_conf : ByteArray) (s_data : ByteArray) : ∃ v H', Spec Try.prog 60 [.agg #[.int .i64 s_index, .int .i64 s_term, .string s_conf, .string s_data]] H v H' ∧ ((v = .bool (Spec.mayS s_index s_term s_conf s_data)) ∧ (Ext H H')) := by
  refine spec_go1 E0_ok 21 (f := 60) Try.func60 rfl rfl rfl ?_
  refine aw_seq ?_
  refine aw_reg ?_
  obtain ⟨b1, H2, he3, b1e, H2n_, hB5, f4⟩ := mem_box (P := Try.prog) H (v := .agg #[.int .i64 s_index, .int .i64 s_term, .string s_conf, .string s_data]) (cs := [.int .i64 s_index, .int .i64 s_term, .string s_conf, .string s_data]) rfl rfl
  refine st_op (he3 _ _ _ _ _ _ _ _ _ rfl) rfl rfl rfl ?_
  have hx6 : Ext H H2 := Ext.new (by omega) H2n_ f4
  have H2n : H.next ≤ H2.next := hx6.1
  refine st_op (ev_assign rfl) rfl rfl rfl ?_
  try show aw _ _ _ _ _ _
  refine aw_seq ?_
  refine aw_reg ?_
  refine st_op (ev_fieldAddr rfl fa24_0 (o' := 0) rfl) rfl rfl rfl ?_
  refine st_op (ev_load rfl (lvar_one one2 hB5 rfl)) rfl rfl rfl ?_
  refine st_op (ev_fieldAddr rfl fa24_1 (o' := 1) rfl) rfl rfl rfl ?_
  refine st_op (ev_load rfl (lvar_one one2 hB5 rfl)) rfl rfl rfl ?_
  obtain ⟨b7, H8, he9, b7e, H8n_, hm11, f10⟩ := mem_lit H2 (xs := ([.int .i64 s_index, .int .i64 s_term] : List Value)) (m := 2) (rows := [[.int .i64 s_index], [.int .i64 s_term]]) rfl eok77 (by decide) (by decide) zf2 rfl (allLen rfl) rfl
  replace hm11 : My H2 H8 (some ⟨b7, 0, none⟩) 2 1 ([s_index, s_term].map i64c) := hm11
  refine st_op (he9 _ _ _ _ _ _ _ _ rfl) rfl rfl rfl ?_
  have hx12 : Ext H2 H8 := Ext.new (by omega) H8n_ f10
  have H8n : H2.next ≤ H8.next := hx12.1
  refine st_call rfl rfl rfl ent66 rfl rfl rfl ?_
  obtain ⟨_, H14, hs13, hs13v, hx15⟩ := wal_in_spec H8 0 (by decide) 1099511627776 (by decide) (some ⟨b7, 0, none⟩) ([s_index, s_term]) 2 (My.row hm11) (My.capF hm11 (by first | omega | (simp only [List.length_append, List.length_cons, List.length_nil, List.length_map, List.length_set, List.length_replicate, Spec.bytesOf_length]; omega) | (simp; omega))) (by first | omega | (simp only [List.length_append, List.length_cons, List.length_nil, List.length_map, List.length_set, List.length_replicate, Spec.bytesOf_length]; omega) | (simp; omega))
  rw [hs13v] at hs13; clear hs13v
  refine ⟨_, H14, hs13, ?_⟩
  have H14n : H8.next ≤ H14.next := hx15.1
  refine st_op (ev_move rfl) rfl rfl rfl ?_
  refine st_bool 9 rfl (fun hb16 => ?_) (fun hb16 => ?_)
  ·
    have hb16m := Spec.inF_two hb16
    refine st_op (ev_fieldAddr rfl fa24_2 (o' := 2) rfl) rfl rfl rfl ?_
    have hx18 : Ext H2 H14 := (Ext.trans hx12 hx15)
    have h17 := Ext.blk hx18 (by omega) hB5
    refine st_op (ev_load rfl (lvar_one one9 h17 rfl)) rfl rfl rfl ?_
    refine st_op (ev_lenStr rfl Try.underlying9) rfl rfl rfl ?_
    refine st_op (ev_int rfl rfl rfl) rfl rfl rfl ?_
    refine st_op (ev_pickT rfl rfl) rfl rfl rfl ?_
    refine st_op (ev_move rfl) rfl rfl rfl ?_
    refine st_bool 15 rfl (fun hb19 => ?_) (fun hb19 => ?_)
    ·
      have hb19 := of_decide_eq_true hb19
      refine st_op (ev_fieldAddr rfl fa24_3 (o' := 3) rfl) rfl rfl rfl ?_
      refine st_op (ev_load rfl (lvar_one one9 h17 rfl)) rfl rfl rfl ?_
      refine st_op (ev_lenStr rfl Try.underlying9) rfl rfl rfl ?_
      refine st_op (ev_int rfl rfl rfl) rfl rfl rfl ?_
      refine st_op (ev_pickT rfl rfl) rfl rfl rfl ?_
      refine st_op (ev_assign rfl) rfl rfl rfl ?_
      try show aw _ _ _ _ _ _
      refine aw_ret ?_
      have hx20 : Ext H H14 := (Ext.trans (Ext.trans hx6 hx12) hx15)
      have hres : (Spec.mayS s_index s_term s_conf s_data) = (decide (((s_data).size : Int) ≤ 200000)) := by simp only [Spec.mayS]; (try simp_all) <;> (try (intros; omega))
      exact ⟨.bool (decide (((s_data).size : Int) ≤ 200000)), rfl, by first | (rw [hres]; done) | rw [← hres], hx20⟩
    ·
      have hb19 := of_decide_eq_false hb19
      refine st_skip rfl rfl rfl ?_
      refine st_skip rfl rfl rfl ?_
      refine st_skip rfl rfl rfl ?_
      refine st_skip rfl rfl rfl ?_
      refine st_op (ev_pickF rfl rfl) rfl rfl rfl ?_
      refine st_op (ev_assign rfl) rfl rfl rfl ?_
      try show aw _ _ _ _ _ _
      refine aw_ret ?_
      have hx21 : Ext H H14 := (Ext.trans (Ext.trans hx6 hx12) hx15)
      have hres : (Spec.mayS s_index s_term s_conf s_data) = false := by simp only [Spec.mayS]; (try simp_all) <;> (try (intros; omega))
      exact ⟨.bool false, rfl, by first | (rw [hres]; done) | rw [← hres], hx21⟩
  ·
    have hb16m := Spec.inF_twoN hb16
    refine st_skip rfl rfl rfl ?_
    refine st_skip rfl rfl rfl ?_
    refine st_skip rfl rfl rfl ?_
    refine st_skip rfl rfl rfl ?_
    refine st_op (ev_pickF rfl rfl) rfl rfl rfl ?_
    refine st_op (ev_move rfl) rfl rfl rfl ?_
    refine st_skip rfl rfl rfl ?_
    refine st_skip rfl rfl rfl ?_
    refine st_skip rfl rfl rfl ?_
    refine st_skip rfl rfl rfl ?_
    refine st_op (ev_pickF rfl rfl) rfl rfl rfl ?_
    refine st_op (ev_assign rfl) rfl rfl rfl ?_
    try show aw _ _ _ _ _ _
    refine aw_ret ?_
    have hx22 : Ext H H14 := (Ext.trans (Ext.trans hx6 hx12) hx15)
    have hres : (Spec.mayS s_index s_term s_conf s_data) = false := by simp only [Spec.mayS]; (try simp_all) <;> (try (intros; omega))
    exact ⟨.bool false, rfl, by first | (rw [hres]; done) | rw [← hres], hx22⟩

end Go.AM
