/- Part of a machine of its own for this claim: the program's code over memory without draws. -/
import Derived.Test.YtoamlagpnnmnhabAmPWal
import Derived.Test.YtoamlagpnnmnhabAmD
import Derived.Test.YtoamlagpnnmnhabAmE
import Derived.Test.YtoamlagpnnmnhabProg
import Derived.KernelRfl
set_option linter.unusedVariables false
set_option linter.unusedSimpArgs false
set_option linter.unnecessarySimpa false
set_option linter.unusedVariables false
set_option linter.unusedSimpArgs false
set_option linter.unnecessarySimpa false
namespace Go.AM
open Go Go.Proofs

noncomputable def E0 : TypeId → Bool := eqTy Try.prog
theorem E0_ok : EqOk Try.prog E0 := eqTy_ok
theorem mixed : Try.prog.follows .mixedOrders = true := by kernel_rfl

noncomputable def X0 (f : FuncId) : List Tmp := (bif_ (Nat.ble 26 f) (bif_ (Nat.ble 39 f) (bif_ (Nat.ble 46 f) (bif_ (Nat.ble 49 f) (bif_ (Nat.ble 51 f) (bif_ (Nat.ble 52 f) [0, 2, 3, 4, 5, 6, 7, 8, 9, 13, 41, 53, 59] [0, 2, 3, 4, 5, 6, 7, 14, 18, 25]) (bif_ (Nat.ble 50 f) [0, 2, 3, 4, 5, 6, 7, 8, 9, 10, 11, 12, 21, 31, 37, 43] [0, 2, 3, 4, 5, 9, 20, 25])) (bif_ (Nat.ble 47 f) (bif_ (Nat.ble 48 f) [0, 2] [0, 2]) [0, 1, 4, 5, 7, 10, 11, 12, 13, 20, 21])) (bif_ (Nat.ble 42 f) (bif_ (Nat.ble 44 f) (bif_ (Nat.ble 45 f) [0, 1, 2] [0, 2, 3, 4, 5, 6, 7, 15, 22, 28]) (bif_ (Nat.ble 43 f) [0, 1, 4, 5, 6, 7, 8, 9, 10, 11, 14, 24] [0, 2, 3, 4, 5, 6, 7, 8, 9, 10, 13, 17, 31, 33, 44, 53, 73])) (bif_ (Nat.ble 40 f) (bif_ (Nat.ble 41 f) [0, 2] [0, 2, 3, 4, 5, 30]) [0, 2, 3, 4, 5, 30]))) (bif_ (Nat.ble 32 f) (bif_ (Nat.ble 35 f) (bif_ (Nat.ble 37 f) (bif_ (Nat.ble 38 f) [0, 2, 3, 4, 5, 6, 7, 8, 9, 10, 11, 12, 16, 28, 36, 56, 76] [0, 2]) (bif_ (Nat.ble 36 f) [0, 2, 3, 4, 9, 13] [0, 1, 4, 5, 6, 17])) (bif_ (Nat.ble 33 f) (bif_ (Nat.ble 34 f) [0, 1, 2, 6, 8, 9, 10, 11, 12, 22] [0, 1, 2]) [0, 1, 2, 3, 4])) (bif_ (Nat.ble 29 f) (bif_ (Nat.ble 30 f) (bif_ (Nat.ble 31 f) [0, 1, 2] [0, 1, 4]) [0, 1, 4, 5, 10, 14]) (bif_ (Nat.ble 27 f) (bif_ (Nat.ble 28 f) [0, 1, 4, 5, 6, 17] [0, 1, 4, 8]) [0, 1, 2, 3, 4])))) (bif_ (Nat.ble 13 f) (bif_ (Nat.ble 19 f) (bif_ (Nat.ble 22 f) (bif_ (Nat.ble 24 f) (bif_ (Nat.ble 25 f) [0, 2, 3, 4, 5, 6, 7, 8, 9, 10, 11, 12, 13, 14, 15, 16, 25, 59, 62, 73, 84] [0, 1, 2, 3, 4, 5, 6, 9, 28]) (bif_ (Nat.ble 23 f) [0, 1, 4] [0, 2, 3, 4, 5, 6, 7, 8, 9, 10, 11, 12, 13, 14, 15, 16, 18, 27, 30, 31, 56, 65, 86, 95, 120])) (bif_ (Nat.ble 20 f) (bif_ (Nat.ble 21 f) [0, 2, 3, 4, 5, 6, 7, 8, 9, 13, 23] [0, 2, 3, 4, 5, 6, 7, 8, 9, 13, 23]) [0, 1, 4, 8])) (bif_ (Nat.ble 16 f) (bif_ (Nat.ble 17 f) (bif_ (Nat.ble 18 f) [0, 1, 2] [0, 1, 2, 3, 4]) [0, 2, 3, 4, 5, 6, 7, 8, 9, 10, 19, 28, 29, 39, 72]) (bif_ (Nat.ble 14 f) (bif_ (Nat.ble 15 f) [0, 1, 2, 3, 6, 8] [0, 1, 2, 4]) [0, 1, 2, 4]))) (bif_ (Nat.ble 6 f) (bif_ (Nat.ble 9 f) (bif_ (Nat.ble 11 f) (bif_ (Nat.ble 12 f) [0, 1, 2] [0, 1, 2, 3, 4, 8]) (bif_ (Nat.ble 10 f) [0, 1, 2] [0, 1, 2, 3, 4, 5, 6, 7, 8, 9, 10, 16])) (bif_ (Nat.ble 7 f) (bif_ (Nat.ble 8 f) [0, 2, 3, 4, 5, 6, 7, 8, 9, 10, 13, 19, 24, 38] [0, 1, 2, 3, 8, 9, 10, 11, 12, 13, 16, 22]) [0, 1, 4, 5, 6, 7, 8, 9, 10, 11, 12, 13, 16, 24, 35, 56])) (bif_ (Nat.ble 3 f) (bif_ (Nat.ble 4 f) (bif_ (Nat.ble 5 f) [0, 2, 3, 4, 5, 6, 7, 8, 9, 12] [0, 1, 2, 3, 4, 10, 11, 12, 13, 14, 15, 16, 17, 18, 19, 20, 23, 31, 53, 66, 103, 107, 120]) [0, 1, 2, 4, 5, 6, 7, 8, 9, 10, 13, 21, 44, 46]) []))))

theorem ElemInfo.mk5 : ∃ i, Try.prog.info? 5 = some i ∧ i.size = 1 ∧ i.bytes = 1 ∧ (i.zero.map fun z => z.cells.size) = some 1 := elemInfo (by kernel_rfl)
theorem ElemInfo.mk27 : ∃ i, Try.prog.info? 27 = some i ∧ i.size = 7 ∧ i.bytes = 64 ∧ (i.zero.map fun z => z.cells.size) = some 7 := elemInfo (by kernel_rfl)
theorem ElemInfo.mk32 : ∃ i, Try.prog.info? 32 = some i ∧ i.size = 7 ∧ i.bytes = 64 ∧ (i.zero.map fun z => z.cells.size) = some 7 := elemInfo (by kernel_rfl)
theorem ElemInfo.mk2 : ∃ i, Try.prog.info? 2 = some i ∧ i.size = 1 ∧ i.bytes = 8 ∧ (i.zero.map fun z => z.cells.size) = some 1 := elemInfo (by kernel_rfl)
theorem zf2 : ∃ i z, Try.prog.info? 2 = some i ∧ i.zero = some z ∧ z.cells.toList.all flat = true := zeroFlat (by kernel_rfl)
theorem zf27 : ∃ i z, Try.prog.info? 27 = some i ∧ i.zero = some z ∧ z.cells.toList.all flat = true := zeroFlat (by kernel_rfl)
theorem zf32 : ∃ i z, Try.prog.info? 32 = some i ∧ i.zero = some z ∧ z.cells.toList.all flat = true := zeroFlat (by kernel_rfl)
theorem zf5 : ∃ i z, Try.prog.info? 5 = some i ∧ i.zero = some z ∧ z.cells.toList.all flat = true := zeroFlat (by kernel_rfl)
theorem el30 : elemIs Try.prog 30 1 = true := by kernel_rfl
theorem el43 : elemIs Try.prog 43 7 = true := by kernel_rfl
theorem el45 : elemIs Try.prog 45 7 = true := by kernel_rfl
theorem el81 : elemIs Try.prog 81 1 = true := by kernel_rfl
theorem ent10 : enters Try.prog 10 = true := by kernel_rfl
theorem ent13 : enters Try.prog 13 = true := by kernel_rfl
theorem ent14 : enters Try.prog 14 = true := by kernel_rfl
theorem ent15 : enters Try.prog 15 = true := by kernel_rfl
theorem ent16 : enters Try.prog 16 = true := by kernel_rfl
theorem ent17 : enters Try.prog 17 = true := by kernel_rfl
theorem ent18 : enters Try.prog 18 = true := by kernel_rfl
theorem ent19 : enters Try.prog 19 = true := by kernel_rfl
theorem ent20 : enters Try.prog 20 = true := by kernel_rfl
theorem ent21 : enters Try.prog 21 = true := by kernel_rfl
theorem ent22 : enters Try.prog 22 = true := by kernel_rfl
theorem ent27 : enters Try.prog 27 = true := by kernel_rfl
theorem ent31 : enters Try.prog 31 = true := by kernel_rfl
theorem ent32 : enters Try.prog 32 = true := by kernel_rfl
theorem ent33 : enters Try.prog 33 = true := by kernel_rfl
theorem ent34 : enters Try.prog 34 = true := by kernel_rfl
theorem ent35 : enters Try.prog 35 = true := by kernel_rfl
theorem ent36 : enters Try.prog 36 = true := by kernel_rfl
theorem ent37 : enters Try.prog 37 = true := by kernel_rfl
theorem ent38 : enters Try.prog 38 = true := by kernel_rfl
theorem ent39 : enters Try.prog 39 = true := by kernel_rfl
theorem ent40 : enters Try.prog 40 = true := by kernel_rfl
theorem ent41 : enters Try.prog 41 = true := by kernel_rfl
theorem ent42 : enters Try.prog 42 = true := by kernel_rfl
theorem ent43 : enters Try.prog 43 = true := by kernel_rfl
theorem ent44 : enters Try.prog 44 = true := by kernel_rfl
theorem ent46 : enters Try.prog 46 = true := by kernel_rfl
theorem ent47 : enters Try.prog 47 = true := by kernel_rfl
theorem ent48 : enters Try.prog 48 = true := by kernel_rfl
theorem ent49 : enters Try.prog 49 = true := by kernel_rfl
theorem ent50 : enters Try.prog 50 = true := by kernel_rfl
theorem ent51 : enters Try.prog 51 = true := by kernel_rfl
theorem ent52 : enters Try.prog 52 = true := by kernel_rfl
theorem ent9 : enters Try.prog 9 = true := by kernel_rfl
theorem eok30 : ElemOk Try.prog 30 5 1 1 := ⟨Try.underlying30, ElemInfo.mk5⟩
theorem eok43 : ElemOk Try.prog 43 27 7 64 := ⟨Try.underlying43, ElemInfo.mk27⟩
theorem eok45 : ElemOk Try.prog 45 32 7 64 := ⟨Try.underlying45, ElemInfo.mk32⟩
theorem eok81 : ElemOk Try.prog 81 2 1 8 := ⟨Try.underlying81, ElemInfo.mk2⟩
theorem eqt23 : E0 23 = true := by kernel_rfl
theorem eqt25 : E0 25 = true := by kernel_rfl
theorem fa23_0 : fieldIs Try.prog 23 0 0 = true := by kernel_rfl
theorem fa23_1 : fieldIs Try.prog 23 1 1 = true := by kernel_rfl
theorem fa25_0 : fieldIs Try.prog 25 0 0 = true := by kernel_rfl
theorem fa25_1 : fieldIs Try.prog 25 1 1 = true := by kernel_rfl
theorem fa25_2 : fieldIs Try.prog 25 2 2 = true := by kernel_rfl
theorem fa25_3 : fieldIs Try.prog 25 3 3 = true := by kernel_rfl
theorem fa27_0 : fieldIs Try.prog 27 0 0 = true := by kernel_rfl
theorem fa27_1 : fieldIs Try.prog 27 1 1 = true := by kernel_rfl
theorem fa27_2 : fieldIs Try.prog 27 2 3 = true := by kernel_rfl
theorem fa32_0 : fieldIs Try.prog 32 0 0 = true := by kernel_rfl
theorem fa32_1 : fieldIs Try.prog 32 1 1 = true := by kernel_rfl
theorem fa32_2 : fieldIs Try.prog 32 2 3 = true := by kernel_rfl
theorem fa78_0 : fieldIs Try.prog 78 0 0 = true := by kernel_rfl
theorem fa78_1 : fieldIs Try.prog 78 1 1 = true := by kernel_rfl
theorem fit23 (a0 : Int) (a1 : Int) : fitAgg Try.prog 23 [.int .i64 a0, .int .i64 a1] = true := by kernel_rfl
theorem fit25 (a0 : Int) (a1 : Int) (a2 : Int) (a3 : ByteArray) : fitAgg Try.prog 25 [.int .i64 a0, .int .i64 a1, .int .i64 a2, .string a3] = true := by kernel_rfl
theorem isbool4 : isBoolT Try.prog 4 = true := by kernel_rfl
theorem isrow30 : isRow Try.prog (some 30) = true := by kernel_rfl
theorem isrow43 : isRow Try.prog (some 43) = true := by kernel_rfl
theorem isrow45 : isRow Try.prog (some 45) = true := by kernel_rfl
theorem isrow81 : isRow Try.prog (some 81) = true := by kernel_rfl
theorem isrow9 : isRow Try.prog (some 9) = true := by kernel_rfl
theorem isstr_9 : isStr Try.prog 9 = true := by kernel_rfl
theorem many23 : manyB Try.prog 23 2 = true := by kernel_rfl
theorem many25 : manyB Try.prog 25 4 = true := by kernel_rfl
theorem many27 : manyB Try.prog 27 7 = true := by kernel_rfl
theorem many32 : manyB Try.prog 32 7 = true := by kernel_rfl
theorem one2 : oneB Try.prog 2 = true := by kernel_rfl
theorem one3 : oneB Try.prog 3 = true := by kernel_rfl
theorem one30 : oneB Try.prog 30 = true := by kernel_rfl
theorem one4 : oneB Try.prog 4 = true := by kernel_rfl
theorem one5 : oneB Try.prog 5 = true := by kernel_rfl
theorem one9 : oneB Try.prog 9 = true := by kernel_rfl
theorem pl23 : placesOf Try.prog 23 = some [(0, 1), (1, 1)] := by kernel_rfl
theorem pl25 : placesOf Try.prog 25 = some [(0, 1), (1, 1), (2, 1), (3, 1)] := by kernel_rfl
theorem pl27 : placesOf Try.prog 27 = some [(0, 1), (1, 2), (3, 4)] := by kernel_rfl
theorem pl32 : placesOf Try.prog 32 = some [(0, 1), (1, 2), (3, 4)] := by kernel_rfl
theorem pl78 : placesOf Try.prog 78 = some [(0, 1), (1, 1)] := by kernel_rfl
theorem size2 : sizeIs Try.prog 2 1 = true := by kernel_rfl
theorem size27 : sizeIs Try.prog 27 7 = true := by kernel_rfl
theorem size3 : sizeIs Try.prog 3 1 = true := by kernel_rfl
theorem size30 : sizeIs Try.prog 30 1 = true := by kernel_rfl
theorem size32 : sizeIs Try.prog 32 7 = true := by kernel_rfl
theorem size4 : sizeIs Try.prog 4 1 = true := by kernel_rfl
theorem size5 : sizeIs Try.prog 5 1 = true := by kernel_rfl
theorem size9 : sizeIs Try.prog 9 1 = true := by kernel_rfl
theorem slu8_30 : slU8 Try.prog 30 = true := by kernel_rfl
theorem zero23 : ZeroIs Try.prog 23 [.int .i64 0, .int .i64 0] := ⟨.agg #[.int .i64 0, .int .i64 0], by kernel_rfl, rfl, rfl, rfl⟩
theorem zero25 : ZeroIs Try.prog 25 [.int .i64 0, .int .i64 0, .int .i64 0, .string (⟨#[]⟩)] := ⟨.agg #[.int .i64 0, .int .i64 0, .int .i64 0, .string (⟨#[]⟩)], by kernel_rfl, rfl, rfl, rfl⟩
theorem zero27 : ZeroIs Try.prog 27 [.bool false, .int .i64 0, .int .i64 0, .int .i64 0, .int .i64 0, .int .i64 0, .string (⟨#[]⟩)] := ⟨.agg #[.bool false, .int .i64 0, .int .i64 0, .int .i64 0, .int .i64 0, .int .i64 0, .string (⟨#[]⟩)], by kernel_rfl, rfl, rfl, rfl⟩
theorem zero32 : ZeroIs Try.prog 32 [.bool false, .int .i64 0, .int .i64 0, .int .i64 0, .int .i64 0, .int .i64 0, .string (⟨#[]⟩)] := ⟨.agg #[.bool false, .int .i64 0, .int .i64 0, .int .i64 0, .int .i64 0, .int .i64 0, .string (⟨#[]⟩)], by kernel_rfl, rfl, rfl, rfl⟩
theorem zero78 : ZeroIs Try.prog 78 [.slice none 0 0, .bool false] := ⟨.agg #[.slice none 0 0, .bool false], by kernel_rfl, rfl, rfl, rfl⟩
theorem law18_begun_ran : okF (runF Try.prog X0 1000 40 9 [] Hp.nil) = true := by kernel_rfl
theorem law18_begun_spec (H : Heap) : ∃ v H', Spec Try.prog 9 [] H v H' ∧ (v = .bool true ∧ H' = H) := ⟨_, _, okF_any mixed law18_begun_ran H, rfl, rfl⟩
theorem law1_Short_spec (H : Heap) (bA : Option Addr) (b : List Int) (bc : Nat) (hb : Row H bA bc 1 (b.map u8c)) (cb : b.length ≤ bc) (lb : b.length ≤ 140737488355328) (bb : Spec.Bytes b) (n : Int) (hn : 0 ≤ n ∧ n ≤ 1099511627776) : ∃ v H', Spec Try.prog 19 [.slice bA b.length bc, .int .i64 n] H v H' ∧ (∃ rA0 rc0, (v = .slice rA0 ((b.take n.toNat).length) rc0) ∧ (Row H' rA0 rc0 1 ((b.take n.toNat).map u8c)) ∧ ((b.take n.toNat).length ≤ rc0) ∧ (Spec.Bytes (b.take n.toNat)) ∧ ((b.take n.toNat).length ≤ n.toNat) ∧ (Ext H H')) := by
  refine spec_go2 E0_ok 13 (f := 19) Try.func19 rfl rfl rfl ?_
  refine aw_seq ?_
  refine aw_reg ?_
  refine st_op (ev_assign rfl) rfl rfl rfl ?_
  try show aw _ _ _ _ _ _
  refine aw_seq ?_
  refine aw_seq ?_
  refine aw_reg ?_
  refine st_op (ev_move rfl) rfl rfl rfl ?_
  refine st_op (ev_lenSl rfl Try.underlying30) rfl rfl rfl ?_
  refine st_op (ev_move rfl) rfl rfl rfl ?_
  refine st_op (ev_int rfl rfl rfl) rfl rfl rfl ?_
  try show aw _ _ _ _ _ _
  by_cases hc1 : (decide ((b.length : Int) > n)) = true
  · refine aw_condT hc1 rfl ?_
    try show aw _ _ _ _ _ _
    have hc1 := of_decide_eq_true hc1
    refine aw_seq ?_
    refine aw_reg ?_
    refine st_op (ev_move rfl) rfl rfl rfl ?_
    refine st_op (ev_move rfl) rfl rfl rfl ?_
    obtain ⟨A2, c3, L4, hL5, hl6, hs7, hr8, hc9⟩ := sliceA_typed u8c el30 (by decide) hb cb (lo := none) (hi := some (.int .i64 n)) (l := 0) (h := (n).toNat) (by rw [Option.isSome_some, if_pos rfl]; exact bound_int (by first | omega | (simp only [List.length_append, List.length_cons, List.length_nil, List.length_map, List.length_set, List.length_replicate, Spec.bytesOf_length]; omega) | (simp; omega)) (by first | omega | (simp only [List.length_append, List.length_cons, List.length_nil, List.length_map, List.length_set, List.length_replicate, Spec.bytesOf_length]; omega) | (simp; omega)) (by first | rfl | omega)) rfl (by first | omega | (simp only [List.length_append, List.length_cons, List.length_nil, List.length_map, List.length_set, List.length_replicate, Spec.bytesOf_length]; omega) | (simp; omega)) (by first | omega | (simp only [List.length_append, List.length_cons, List.length_nil, List.length_map, List.length_set, List.length_replicate, Spec.bytesOf_length]; omega) | (simp; omega))
    refine st_op (ev_slice rfl rfl rfl rfl hs7) rfl rfl rfl ?_
    have hL5b : Spec.Bytes L4 := by rw [hL5]; exact Spec.Bytes.take (Spec.Bytes.drop (by first | assumption | exact Spec.Bytes.nil | exact Spec.bytes_of _ | (repeat' first | assumption | exact Spec.Bytes.nil | exact Spec.bytes_of _ | exact Spec.enc_bytes _ | exact Spec.four_bytes _ | exact Spec.sealF_bytes (by assumption) | apply Spec.Bytes.append | apply Spec.Bytes.cons (by omega) | apply Spec.Bytes.take | apply Spec.Bytes.drop)) _) _
    refine st_op (ev_assign rfl) rfl rfl rfl ?_
    try show aw _ _ _ _ _ _
    refine aw_ret ?_
    have hres : (b.take n.toNat) = L4 := by rw [hL5]; rfl
    exact ⟨.slice A2 L4.length c3, rfl, A2, c3, by rw [hres]; first | done | rfl | simp, (by rw [hres]; exact hr8), (by rw [hres]; exact hc9), (by exact bb.take _), (by exact List.length_take_le _ _), (Ext.refl H)⟩
  · rw [Bool.not_eq_true] at hc1; refine aw_condF hc1 rfl ?_
    try show aw _ _ _ _ _ _
    have hc1 := of_decide_eq_false hc1
    refine aw_skip ?_
    try show aw _ _ _ _ _ _
    refine aw_seq ?_
    refine aw_reg ?_
    refine st_op (ev_move rfl) rfl rfl rfl ?_
    refine st_op (ev_assign rfl) rfl rfl rfl ?_
    try show aw _ _ _ _ _ _
    refine aw_ret ?_
    have hres : (b.take n.toNat) = b := by exact List.take_of_length_le (by omega)
    exact ⟨.slice bA b.length bc, rfl, bA, bc, by rw [hres]; first | done | rfl | simp, (by rw [hres]; exact hb), (by rw [hres]; exact cb), (by exact bb.take _), (by exact List.length_take_le _ _), (Ext.refl H)⟩
theorem num_Get_spec (H : Heap) (bA : Option Addr) (b : List Int) (bc : Nat) (hb : Row H bA bc 1 (b.map u8c)) (cb : b.length ≤ bc) (lb : b.length ≤ 1099511627776) (bb : Spec.Bytes b) : ∃ v H', Spec Try.prog 50 [.slice bA b.length bc] H v H' ∧ ((v = .tuple #[.int .i64 ((Spec.numGet 0 0 b).1), .int .i64 ((Spec.numGet 0 0 b).2.1), .int .i64 ((Spec.numGet 0 0 b).2.2)]) ∧ ((Spec.numGet 0 0 b).2.2 = 0 → -9223372036854775808 ≤ (Spec.numGet 0 0 b).1 ∧ (Spec.numGet 0 0 b).1 ≤ 9223372036854775807 ∧ 1 ≤ (Spec.numGet 0 0 b).2.1 ∧ (Spec.numGet 0 0 b).2.1 ≤ 10 ∧ (Spec.numGet 0 0 b).2.1 ≤ b.length) ∧ (0 ≤ (Spec.numGet 0 0 b).2.2 ∧ (Spec.numGet 0 0 b).2.2 ≤ 2) ∧ ((Spec.numGet 0 0 b).2.2 ≠ 0 → (Spec.numGet 0 0 b).1 = 0 ∧ (Spec.numGet 0 0 b).2.1 = 0) ∧ (Ext H H')) := by
  refine spec_go1 E0_ok 50 (f := 50) Try.func50 rfl rfl rfl ?_
  refine aw_seq ?_
  refine aw_reg ?_
  refine st_op (ev_assign rfl) rfl rfl rfl ?_
  refine st_op (ev_assign rfl) rfl rfl rfl ?_
  refine st_op (ev_assign rfl) rfl rfl rfl ?_
  try show aw _ _ _ _ _ _
  refine aw_seq ?_
  refine aw_reg ?_
  refine st_op (ev_assign rfl) rfl rfl rfl ?_
  try show aw _ _ _ _ _ _
  refine aw_seq ?_
  refine aw_seq ?_
  refine aw_reg ?_
  refine st_op (ev_move rfl) rfl rfl rfl ?_
  refine st_op (ev_lenSl rfl Try.underlying30) rfl rfl rfl ?_
  refine st_op (ev_move rfl) rfl rfl rfl ?_
  try show aw _ _ _ _ _ _
  refine aw_block ?_
  refine aw_keep [5, 9, 10, 11] (l' := (.cons 5 (.int .u64 0) (.cons 9 (.slice bA b.length bc) (.cons 10 (.int .i64 (b.length : Int)) (.cons 11 (.int .i64 0) .nil))))) (by repeat (first | exact Up.done | refine Up.then ?_ | refine Up.inBlock ?_)) rfl ?_
  refine aw_iter (α := Nat × Int × Nat × Heap) (fun a => b.length - a.1) (fun a => (.cons 5 (.int .u64 a.2.1) (.cons 9 (.slice bA b.length bc) (.cons 10 (.int .i64 (b.length : Int)) (.cons 11 (.int .i64 (a.1 : Int)) .nil))))) (fun a => a.2.2.2) (fun a => (a.1 ≤ b.length) ∧ (a.1 ≤ 9) ∧ (a.2.1 = (a.2.2.1 : Int)) ∧ (a.2.2.1 < 2 ^ (7 * a.1)) ∧ (Spec.numGet 0 0 b = Spec.numGet a.1 a.2.2.1 (b.drop a.1)) ∧ (0 ≤ a.2.1 ∧ a.2.1 ≤ 18446744073709551615) ∧ (Ext H a.2.2.2)) (0, (0 : Int), 0, H) ⟨(show 0 ≤ b.length from Nat.zero_le _), (show 0 ≤ 9 from Nat.zero_le _), (show (0 : Int) = (0 : Int) from rfl), (show 0 < 2 ^ (7 * 0) from (by decide)), (show Spec.numGet 0 0 b = Spec.numGet 0 0 (b.drop 0) from rfl), (show 0 ≤ (0 : Int) ∧ (0 : Int) ≤ 18446744073709551615 from ⟨by omega, by omega⟩), (show Ext H H from (Ext.refl H))⟩ ?_
  rintro ⟨i, v, u, Hl1⟩ ⟨hi, hnine, hv, hu, hI, hn2, hxl3⟩ ih4
  replace hi : i ≤ b.length := hi
  replace hnine : i ≤ 9 := hnine
  replace hv : v = (u : Int) := hv
  replace hu : u < 2 ^ (7 * i) := hu
  replace hI : Spec.numGet 0 0 b = Spec.numGet i u (b.drop i) := hI
  replace hn2 : 0 ≤ v ∧ v ≤ 18446744073709551615 := hn2
  replace hxl3 : Ext H Hl1 := hxl3
  show aw _ _ _ (RL _ (.cons 5 (.int .u64 v) (.cons 9 (.slice bA b.length bc) (.cons 10 (.int .i64 (b.length : Int)) (.cons 11 (.int .i64 (i : Int)) .nil))))) Hl1 _
  have Hl1n : H.next ≤ Hl1.next := hxl3.1
  refine aw_seq ?_
  refine aw_reg ?_
  refine st_op (ev_int rfl rfl rfl) rfl rfl rfl ?_
  try show aw _ _ _ _ _ _
  refine aw_seq ?_
  by_cases hc5 : (decide ((i : Int) < (b.length : Int))) = true
  · refine aw_condT hc5 rfl ?_
    try show aw _ _ _ _ _ _
    have hc5 := of_decide_eq_true hc5
    refine aw_skip ?_
    try show aw _ _ _ _ _ _
    refine aw_seq ?_
    refine aw_block ?_
    refine aw_seq ?_
    refine aw_reg ?_
    refine st_op (ev_move rfl) rfl rfl rfl ?_
    have h6 := Row.ext hb hxl3
    have hi7 : 0 ≤ ((i : Int) : Int) := by omega
    have hi8 : ((i : Int) : Int) < ((b.length : Nat) : Int) := by first | omega | (simp only [List.length_append, List.length_cons, List.length_nil, List.length_map, List.length_set, List.length_replicate, Spec.bytesOf_length]; omega) | (simp; omega)
    obtain ⟨x9, hx10⟩ : ∃ e, b[i]? = some e := ⟨_, List.getElem?_eq_getElem (by first | omega | (simp only [List.length_append, List.length_cons, List.length_nil, List.length_map, List.length_set, List.length_replicate, Spec.bytesOf_length]; omega) | (simp; omega))⟩
    have x9b : 0 ≤ x9 ∧ x9 < 256 := ((by first | assumption | exact Spec.Bytes.nil | exact Spec.bytes_of _ | (repeat' first | assumption | exact Spec.Bytes.nil | exact Spec.bytes_of _ | exact Spec.enc_bytes _ | exact Spec.four_bytes _ | exact Spec.sealF_bytes (by assumption) | apply Spec.Bytes.append | apply Spec.Bytes.cons (by omega) | apply Spec.Bytes.take | apply Spec.Bytes.drop)) : Spec.Bytes b) _ (List.mem_of_getElem? hx10)
    have hg := fun h => Spec.get_acc (u := u) (i := i) (c := x9) x9b hu hnine h
    refine st_op (ev_at rfl rfl h6 (getMap u8c hx10) (by first | rfl | omega | simp) hi7 hi8 el30) rfl rfl rfl ?_
    refine st_op (ev_atL rfl h6 (getMap u8c hx10) one5 rfl) rfl rfl rfl ?_
    refine st_op (ev_assign rfl) rfl rfl rfl ?_
    refine st_op (ev_assign rfl) rfl rfl rfl ?_
    try show aw _ _ _ _ _ _
    refine aw_seq ?_
    refine aw_seq ?_
    refine aw_reg ?_
    refine st_op (ev_move rfl) rfl rfl rfl ?_
    refine st_op (ev_int rfl rfl rfl) rfl rfl rfl ?_
    refine st_op (ev_move rfl) rfl rfl rfl ?_
    refine st_bool 18 rfl (fun hb11 => ?_) (fun hb11 => ?_)
    ·
      have hb11 := eq_of_beq hb11
      refine st_op (ev_move rfl) rfl rfl rfl ?_
      refine st_op (ev_int rfl rfl rfl) rfl rfl rfl ?_
      refine st_op (ev_pickT rfl rfl) rfl rfl rfl ?_
      try show aw _ _ _ _ _ _
      by_cases hc12 : (decide (x9 > 1)) = true
      · refine aw_condT hc12 rfl ?_
        try show aw _ _ _ _ _ _
        have hc12 := of_decide_eq_true hc12
        refine aw_seq ?_
        refine aw_reg ?_
        refine st_op (ev_assign rfl) rfl rfl rfl ?_
        refine st_op (ev_assign rfl) rfl rfl rfl ?_
        refine st_op (ev_assign rfl) rfl rfl rfl ?_
        try show aw _ _ _ _ _ _
        refine aw_ret ?_
        have hres : (Spec.numGet 0 0 b) = (0, 0, 1) := by first | (rw [hI, List.drop_eq_nil_of_le (by omega)]; rfl) | (rw [hI, drop_at hx10, Spec.numGet, if_pos (by omega)]; done) | (rw [hI, drop_at hx10, Spec.numGet, if_neg (by omega), if_neg (by omega), if_pos (by omega)]; done) | (subst hv; rw [hI, drop_at hx10, Spec.numGet, if_neg (by omega), if_neg (by omega), if_neg (by omega)]; have h4 := hg.2.2.2 (by omega); rw [h4] at hg; rw [hg.1] at *; have h5 := Spec.get_end hg.2.1; congr 1; first | exact (h5.1 (by assumption)).symm | exact (h5.2 (by assumption)).symm)
        exact ⟨.tuple #[.int .i64 0, .int .i64 0, .int .i64 1], rfl, by rw [hres], (by exact (Spec.numGet_all b bb).1), (by exact (Spec.numGet_all b bb).2.1), (by exact (Spec.numGet_all b bb).2.2), hxl3⟩
      · rw [Bool.not_eq_true] at hc12; refine aw_condF hc12 rfl ?_
        try show aw _ _ _ _ _ _
        have hc12 := of_decide_eq_false hc12
        refine aw_skip ?_
        try show aw _ _ _ _ _ _
        refine aw_seq ?_
        replace hg := hg (by omega)
        refine aw_reg ?_
        refine st_op (ev_move rfl) rfl rfl rfl ?_
        refine st_op (ev_move rfl) rfl rfl rfl ?_
        have hw13 : 0 ≤ (Go.bits .and .u8 x9 127) ∧ (Go.bits .and .u8 x9 127) ≤ 255 := bitsU8 _ _ _
        refine st_op (ev_bits rfl rfl rfl) rfl rfl rfl ?_
        refine st_op (ev_convI Try.underlying5 Try.underlying91 rfl (wrU64 (by omega) (by omega))) rfl rfl rfl ?_
        refine st_op (ev_move rfl) rfl rfl rfl ?_
        refine st_op (ev_int64 (c := 7 * (i : Int)) rfl rfl rfl (by omega) (by omega)) rfl rfl rfl ?_
        have hw14 : 0 ≤ (Spec.shl .u64 (Go.bits .and .u8 x9 127) (7 * (i : Int))) ∧ (Spec.shl .u64 (Go.bits .and .u8 x9 127) (7 * (i : Int))) ≤ 18446744073709551615 := wrapU64 _
        refine st_op (ev_shlV rfl rfl (by omega)) rfl rfl rfl ?_
        have hw15 : 0 ≤ (Go.bits .or .u64 v (Spec.shl .u64 (Go.bits .and .u8 x9 127) (7 * (i : Int)))) ∧ (Go.bits .or .u64 v (Spec.shl .u64 (Go.bits .and .u8 x9 127) (7 * (i : Int)))) ≤ 18446744073709551615 := bitsU64 _ _ _
        refine st_op (ev_bits rfl rfl rfl) rfl rfl rfl ?_
        refine st_op (ev_assign rfl) rfl rfl rfl ?_
        try show aw _ _ _ _ _ _
        refine aw_seq ?_
        refine aw_seq ?_
        refine aw_reg ?_
        refine st_op (ev_move rfl) rfl rfl rfl ?_
        refine st_op (ev_int rfl rfl rfl) rfl rfl rfl ?_
        try show aw _ _ _ _ _ _
        by_cases hc16 : (decide (x9 > 127)) = true
        · refine aw_condT hc16 rfl ?_
          try show aw _ _ _ _ _ _
          have hc16 := of_decide_eq_true hc16
          exfalso; omega
        · rw [Bool.not_eq_true] at hc16; refine aw_condF hc16 rfl ?_
          try show aw _ _ _ _ _ _
          have hc16 := of_decide_eq_false hc16
          refine aw_skip ?_
          try show aw _ _ _ _ _ _
          refine aw_seq ?_
          refine aw_seq ?_
          refine aw_reg ?_
          refine st_op (ev_move rfl) rfl rfl rfl ?_
          refine st_op (ev_int rfl rfl rfl) rfl rfl rfl ?_
          refine st_op (ev_move rfl) rfl rfl rfl ?_
          refine st_bool 34 rfl (fun hb17 => ?_) (fun hb17 => ?_)
          ·
            have hb17 := of_decide_eq_true hb17
            refine st_op (ev_move rfl) rfl rfl rfl ?_
            refine st_op (ev_int rfl rfl rfl) rfl rfl rfl ?_
            refine st_op (ev_pickT rfl rfl) rfl rfl rfl ?_
            try show aw _ _ _ _ _ _
            by_cases hc18 : (x9 == 0) = true
            · refine aw_condT hc18 rfl ?_
              try show aw _ _ _ _ _ _
              have hc18 := eq_of_beq hc18
              refine aw_seq ?_
              refine aw_reg ?_
              refine st_op (ev_assign rfl) rfl rfl rfl ?_
              refine st_op (ev_assign rfl) rfl rfl rfl ?_
              refine st_op (ev_assign rfl) rfl rfl rfl ?_
              try show aw _ _ _ _ _ _
              refine aw_ret ?_
              have hres : (Spec.numGet 0 0 b) = (0, 0, 1) := by first | (rw [hI, List.drop_eq_nil_of_le (by omega)]; rfl) | (rw [hI, drop_at hx10, Spec.numGet, if_pos (by omega)]; done) | (rw [hI, drop_at hx10, Spec.numGet, if_neg (by omega), if_neg (by omega), if_pos (by omega)]; done) | (subst hv; rw [hI, drop_at hx10, Spec.numGet, if_neg (by omega), if_neg (by omega), if_neg (by omega)]; have h4 := hg.2.2.2 (by omega); rw [h4] at hg; rw [hg.1] at *; have h5 := Spec.get_end hg.2.1; congr 1; first | exact (h5.1 (by assumption)).symm | exact (h5.2 (by assumption)).symm)
              exact ⟨.tuple #[.int .i64 0, .int .i64 0, .int .i64 1], rfl, by rw [hres], (by exact (Spec.numGet_all b bb).1), (by exact (Spec.numGet_all b bb).2.1), (by exact (Spec.numGet_all b bb).2.2), hxl3⟩
            · rw [Bool.not_eq_true] at hc18; refine aw_condF hc18 rfl ?_
              try show aw _ _ _ _ _ _
              have hc18 := ne_of_beq_false hc18
              refine aw_skip ?_
              try show aw _ _ _ _ _ _
              refine aw_seq ?_
              refine aw_reg ?_
              refine st_op (ev_move rfl) rfl rfl rfl ?_
              refine st_op (ev_shr (a := (Go.bits .or .u64 v (Spec.shl .u64 (Go.bits .and .u8 x9 127) (7 * (i : Int))))) (c := 2) rfl rfl (by decide) (by decide)) rfl rfl rfl ?_
              refine st_op (ev_convI Try.underlying91 Try.underlying2 rfl (wrI64 (by omega) (by omega))) rfl rfl rfl ?_
              refine st_op (ev_assign rfl) rfl rfl rfl ?_
              try show aw _ _ _ _ _ _
              refine aw_seq ?_
              refine aw_seq ?_
              refine aw_reg ?_
              refine st_op (ev_move rfl) rfl rfl rfl ?_
              have hw19 : 0 ≤ (Go.bits .and .u64 (Go.bits .or .u64 v (Spec.shl .u64 (Go.bits .and .u8 x9 127) (7 * (i : Int)))) 1) ∧ (Go.bits .and .u64 (Go.bits .or .u64 v (Spec.shl .u64 (Go.bits .and .u8 x9 127) (7 * (i : Int)))) 1) ≤ 18446744073709551615 := bitsU64 _ _ _
              refine st_op (ev_bits rfl rfl rfl) rfl rfl rfl ?_
              refine st_op (ev_int rfl rfl rfl) rfl rfl rfl ?_
              try show aw _ _ _ _ _ _
              by_cases hc20 : ((Go.bits .and .u64 (Go.bits .or .u64 v (Spec.shl .u64 (Go.bits .and .u8 x9 127) (7 * (i : Int)))) 1) == 1) = true
              · refine aw_condT hc20 rfl ?_
                try show aw _ _ _ _ _ _
                have hc20 := eq_of_beq hc20
                refine aw_reg ?_
                refine st_op (ev_move rfl) rfl rfl rfl ?_
                have hw21 : -9223372036854775808 ≤ (Go.bits .xor .i64 (-1) ((Go.bits .or .u64 v (Spec.shl .u64 (Go.bits .and .u8 x9 127) (7 * (i : Int)))) / 2)) ∧ (Go.bits .xor .i64 (-1) ((Go.bits .or .u64 v (Spec.shl .u64 (Go.bits .and .u8 x9 127) (7 * (i : Int)))) / 2)) ≤ 9223372036854775807 := bitsI64 _ _ _
                refine st_op (ev_comS rfl rfl) rfl rfl rfl ?_
                refine st_op (ev_assign rfl) rfl rfl rfl ?_
                try show aw _ _ _ _ _ _
                refine aw_seq ?_
                refine aw_reg ?_
                refine st_op (ev_move rfl) rfl rfl rfl ?_
                refine st_op (ev_move rfl) rfl rfl rfl ?_
                refine st_op (ev_int64 (c := (i : Int) + 1) rfl rfl rfl (by omega) (by omega)) rfl rfl rfl ?_
                refine st_op (ev_assign rfl) rfl rfl rfl ?_
                refine st_op (ev_assign rfl) rfl rfl rfl ?_
                refine st_op (ev_assign rfl) rfl rfl rfl ?_
                try show aw _ _ _ _ _ _
                refine aw_ret ?_
                have hres : (Spec.numGet 0 0 b) = ((Go.bits .xor .i64 (-1) ((Go.bits .or .u64 v (Spec.shl .u64 (Go.bits .and .u8 x9 127) (7 * (i : Int)))) / 2)), (i : Int) + 1, 0) := by first | (rw [hI, List.drop_eq_nil_of_le (by omega)]; rfl) | (rw [hI, drop_at hx10, Spec.numGet, if_pos (by omega)]; done) | (rw [hI, drop_at hx10, Spec.numGet, if_neg (by omega), if_neg (by omega), if_pos (by omega)]; done) | (subst hv; rw [hI, drop_at hx10, Spec.numGet, if_neg (by omega), if_neg (by omega), if_neg (by omega)]; have h4 := hg.2.2.2 (by omega); rw [h4] at hg; rw [hg.1] at *; have h5 := Spec.get_end hg.2.1; congr 1; first | exact (h5.1 (by assumption)).symm | exact (h5.2 (by assumption)).symm)
                exact ⟨.tuple #[.int .i64 (Go.bits .xor .i64 (-1) ((Go.bits .or .u64 v (Spec.shl .u64 (Go.bits .and .u8 x9 127) (7 * (i : Int)))) / 2)), .int .i64 ((i : Int) + 1), .int .i64 0], rfl, by rw [hres], (by exact (Spec.numGet_all b bb).1), (by exact (Spec.numGet_all b bb).2.1), (by exact (Spec.numGet_all b bb).2.2), hxl3⟩
              · rw [Bool.not_eq_true] at hc20; refine aw_condF hc20 rfl ?_
                try show aw _ _ _ _ _ _
                have hc20 := ne_of_beq_false hc20
                refine aw_skip ?_
                try show aw _ _ _ _ _ _
                refine aw_seq ?_
                refine aw_reg ?_
                refine st_op (ev_move rfl) rfl rfl rfl ?_
                refine st_op (ev_move rfl) rfl rfl rfl ?_
                refine st_op (ev_int64 (c := (i : Int) + 1) rfl rfl rfl (by omega) (by omega)) rfl rfl rfl ?_
                refine st_op (ev_assign rfl) rfl rfl rfl ?_
                refine st_op (ev_assign rfl) rfl rfl rfl ?_
                refine st_op (ev_assign rfl) rfl rfl rfl ?_
                try show aw _ _ _ _ _ _
                refine aw_ret ?_
                have hres : (Spec.numGet 0 0 b) = (((Go.bits .or .u64 v (Spec.shl .u64 (Go.bits .and .u8 x9 127) (7 * (i : Int)))) / 2), (i : Int) + 1, 0) := by first | (rw [hI, List.drop_eq_nil_of_le (by omega)]; rfl) | (rw [hI, drop_at hx10, Spec.numGet, if_pos (by omega)]; done) | (rw [hI, drop_at hx10, Spec.numGet, if_neg (by omega), if_neg (by omega), if_pos (by omega)]; done) | (subst hv; rw [hI, drop_at hx10, Spec.numGet, if_neg (by omega), if_neg (by omega), if_neg (by omega)]; have h4 := hg.2.2.2 (by omega); rw [h4] at hg; rw [hg.1] at *; have h5 := Spec.get_end hg.2.1; congr 1; first | exact (h5.1 (by assumption)).symm | exact (h5.2 (by assumption)).symm)
                exact ⟨.tuple #[.int .i64 ((Go.bits .or .u64 v (Spec.shl .u64 (Go.bits .and .u8 x9 127) (7 * (i : Int)))) / 2), .int .i64 ((i : Int) + 1), .int .i64 0], rfl, by rw [hres], (by exact (Spec.numGet_all b bb).1), (by exact (Spec.numGet_all b bb).2.1), (by exact (Spec.numGet_all b bb).2.2), hxl3⟩
          ·
            have hb17 := of_decide_eq_false hb17
            exfalso; omega
    ·
      have hb11 := ne_of_beq_false hb11
      refine st_skip rfl rfl rfl ?_
      refine st_skip rfl rfl rfl ?_
      refine st_op (ev_pickF rfl rfl) rfl rfl rfl ?_
      try show aw _ _ _ _ _ _
      refine aw_cond (t := false) rfl ?_
      try show aw _ _ _ _ _ _
      refine aw_skip ?_
      try show aw _ _ _ _ _ _
      refine aw_seq ?_
      replace hg := hg (by omega)
      refine aw_reg ?_
      refine st_op (ev_move rfl) rfl rfl rfl ?_
      refine st_op (ev_move rfl) rfl rfl rfl ?_
      have hw22 : 0 ≤ (Go.bits .and .u8 x9 127) ∧ (Go.bits .and .u8 x9 127) ≤ 255 := bitsU8 _ _ _
      refine st_op (ev_bits rfl rfl rfl) rfl rfl rfl ?_
      refine st_op (ev_convI Try.underlying5 Try.underlying91 rfl (wrU64 (by omega) (by omega))) rfl rfl rfl ?_
      refine st_op (ev_move rfl) rfl rfl rfl ?_
      refine st_op (ev_int64 (c := 7 * (i : Int)) rfl rfl rfl (by omega) (by omega)) rfl rfl rfl ?_
      have hw23 : 0 ≤ (Spec.shl .u64 (Go.bits .and .u8 x9 127) (7 * (i : Int))) ∧ (Spec.shl .u64 (Go.bits .and .u8 x9 127) (7 * (i : Int))) ≤ 18446744073709551615 := wrapU64 _
      refine st_op (ev_shlV rfl rfl (by omega)) rfl rfl rfl ?_
      have hw24 : 0 ≤ (Go.bits .or .u64 v (Spec.shl .u64 (Go.bits .and .u8 x9 127) (7 * (i : Int)))) ∧ (Go.bits .or .u64 v (Spec.shl .u64 (Go.bits .and .u8 x9 127) (7 * (i : Int)))) ≤ 18446744073709551615 := bitsU64 _ _ _
      refine st_op (ev_bits rfl rfl rfl) rfl rfl rfl ?_
      refine st_op (ev_assign rfl) rfl rfl rfl ?_
      try show aw _ _ _ _ _ _
      refine aw_seq ?_
      refine aw_seq ?_
      refine aw_reg ?_
      refine st_op (ev_move rfl) rfl rfl rfl ?_
      refine st_op (ev_int rfl rfl rfl) rfl rfl rfl ?_
      try show aw _ _ _ _ _ _
      by_cases hc25 : (decide (x9 > 127)) = true
      · refine aw_condT hc25 rfl ?_
        try show aw _ _ _ _ _ _
        have hc25 := of_decide_eq_true hc25
        refine aw_exit ?_
        try show aw _ _ _ _ _ _
        refine aw_reg ?_
        refine st_op (ev_int64 (c := (i : Int) + 1) rfl rfl rfl (by omega) (by omega)) rfl rfl rfl ?_
        refine st_op (ev_move rfl) rfl rfl rfl ?_
        try show aw _ _ _ _ _ _
        refine aw_keep [5, 9, 10, 11] (l' := (.cons 5 (.int .u64 (Go.bits .or .u64 v (Spec.shl .u64 (Go.bits .and .u8 x9 127) (7 * (i : Int))))) (.cons 9 (.slice bA b.length bc) (.cons 10 (.int .i64 (b.length : Int)) (.cons 11 (.int .i64 ((i : Int) + 1)) .nil))))) (by repeat (first | exact Up.done | refine Up.then ?_ | refine Up.inBlock ?_)) rfl ?_
        exact ih4 (i + 1, (Go.bits .or .u64 v (Spec.shl .u64 (Go.bits .and .u8 x9 127) (7 * (i : Int)))), (u + (x9 % 128).toNat * 2 ^ (7 * i)), Hl1) ⟨(show (i + 1) ≤ b.length from (by omega)), (show (i + 1) ≤ 9 from (by omega)), (show (Go.bits .or .u64 v (Spec.shl .u64 (Go.bits .and .u8 x9 127) (7 * (i : Int)))) = ((u + (x9 % 128).toNat * 2 ^ (7 * i)) : Int) from (by subst hv; exact hg.1)), (show (u + (x9 % 128).toNat * 2 ^ (7 * i)) < 2 ^ (7 * (i + 1)) from (hg.2.2.1 (by omega))), (show Spec.numGet 0 0 b = Spec.numGet (i + 1) (u + (x9 % 128).toNat * 2 ^ (7 * i)) (b.drop (i + 1)) from (by rw [hI, drop_at hx10, Spec.numGet, if_neg (by omega), if_pos (by omega)])), (show 0 ≤ (Go.bits .or .u64 v (Spec.shl .u64 (Go.bits .and .u8 x9 127) (7 * (i : Int)))) ∧ (Go.bits .or .u64 v (Spec.shl .u64 (Go.bits .and .u8 x9 127) (7 * (i : Int)))) ≤ 18446744073709551615 from ⟨by omega, by omega⟩), (show Ext H Hl1 from hxl3)⟩ (by simp only; omega)
      · rw [Bool.not_eq_true] at hc25; refine aw_condF hc25 rfl ?_
        try show aw _ _ _ _ _ _
        have hc25 := of_decide_eq_false hc25
        refine aw_skip ?_
        try show aw _ _ _ _ _ _
        refine aw_seq ?_
        refine aw_seq ?_
        refine aw_reg ?_
        refine st_op (ev_move rfl) rfl rfl rfl ?_
        refine st_op (ev_int rfl rfl rfl) rfl rfl rfl ?_
        refine st_op (ev_move rfl) rfl rfl rfl ?_
        refine st_bool 34 rfl (fun hb26 => ?_) (fun hb26 => ?_)
        ·
          have hb26 := of_decide_eq_true hb26
          refine st_op (ev_move rfl) rfl rfl rfl ?_
          refine st_op (ev_int rfl rfl rfl) rfl rfl rfl ?_
          refine st_op (ev_pickT rfl rfl) rfl rfl rfl ?_
          try show aw _ _ _ _ _ _
          by_cases hc27 : (x9 == 0) = true
          · refine aw_condT hc27 rfl ?_
            try show aw _ _ _ _ _ _
            have hc27 := eq_of_beq hc27
            refine aw_seq ?_
            refine aw_reg ?_
            refine st_op (ev_assign rfl) rfl rfl rfl ?_
            refine st_op (ev_assign rfl) rfl rfl rfl ?_
            refine st_op (ev_assign rfl) rfl rfl rfl ?_
            try show aw _ _ _ _ _ _
            refine aw_ret ?_
            have hres : (Spec.numGet 0 0 b) = (0, 0, 1) := by first | (rw [hI, List.drop_eq_nil_of_le (by omega)]; rfl) | (rw [hI, drop_at hx10, Spec.numGet, if_pos (by omega)]; done) | (rw [hI, drop_at hx10, Spec.numGet, if_neg (by omega), if_neg (by omega), if_pos (by omega)]; done) | (subst hv; rw [hI, drop_at hx10, Spec.numGet, if_neg (by omega), if_neg (by omega), if_neg (by omega)]; have h4 := hg.2.2.2 (by omega); rw [h4] at hg; rw [hg.1] at *; have h5 := Spec.get_end hg.2.1; congr 1; first | exact (h5.1 (by assumption)).symm | exact (h5.2 (by assumption)).symm)
            exact ⟨.tuple #[.int .i64 0, .int .i64 0, .int .i64 1], rfl, by rw [hres], (by exact (Spec.numGet_all b bb).1), (by exact (Spec.numGet_all b bb).2.1), (by exact (Spec.numGet_all b bb).2.2), hxl3⟩
          · rw [Bool.not_eq_true] at hc27; refine aw_condF hc27 rfl ?_
            try show aw _ _ _ _ _ _
            have hc27 := ne_of_beq_false hc27
            refine aw_skip ?_
            try show aw _ _ _ _ _ _
            refine aw_seq ?_
            refine aw_reg ?_
            refine st_op (ev_move rfl) rfl rfl rfl ?_
            refine st_op (ev_shr (a := (Go.bits .or .u64 v (Spec.shl .u64 (Go.bits .and .u8 x9 127) (7 * (i : Int))))) (c := 2) rfl rfl (by decide) (by decide)) rfl rfl rfl ?_
            refine st_op (ev_convI Try.underlying91 Try.underlying2 rfl (wrI64 (by omega) (by omega))) rfl rfl rfl ?_
            refine st_op (ev_assign rfl) rfl rfl rfl ?_
            try show aw _ _ _ _ _ _
            refine aw_seq ?_
            refine aw_seq ?_
            refine aw_reg ?_
            refine st_op (ev_move rfl) rfl rfl rfl ?_
            have hw28 : 0 ≤ (Go.bits .and .u64 (Go.bits .or .u64 v (Spec.shl .u64 (Go.bits .and .u8 x9 127) (7 * (i : Int)))) 1) ∧ (Go.bits .and .u64 (Go.bits .or .u64 v (Spec.shl .u64 (Go.bits .and .u8 x9 127) (7 * (i : Int)))) 1) ≤ 18446744073709551615 := bitsU64 _ _ _
            refine st_op (ev_bits rfl rfl rfl) rfl rfl rfl ?_
            refine st_op (ev_int rfl rfl rfl) rfl rfl rfl ?_
            try show aw _ _ _ _ _ _
            by_cases hc29 : ((Go.bits .and .u64 (Go.bits .or .u64 v (Spec.shl .u64 (Go.bits .and .u8 x9 127) (7 * (i : Int)))) 1) == 1) = true
            · refine aw_condT hc29 rfl ?_
              try show aw _ _ _ _ _ _
              have hc29 := eq_of_beq hc29
              refine aw_reg ?_
              refine st_op (ev_move rfl) rfl rfl rfl ?_
              have hw30 : -9223372036854775808 ≤ (Go.bits .xor .i64 (-1) ((Go.bits .or .u64 v (Spec.shl .u64 (Go.bits .and .u8 x9 127) (7 * (i : Int)))) / 2)) ∧ (Go.bits .xor .i64 (-1) ((Go.bits .or .u64 v (Spec.shl .u64 (Go.bits .and .u8 x9 127) (7 * (i : Int)))) / 2)) ≤ 9223372036854775807 := bitsI64 _ _ _
              refine st_op (ev_comS rfl rfl) rfl rfl rfl ?_
              refine st_op (ev_assign rfl) rfl rfl rfl ?_
              try show aw _ _ _ _ _ _
              refine aw_seq ?_
              refine aw_reg ?_
              refine st_op (ev_move rfl) rfl rfl rfl ?_
              refine st_op (ev_move rfl) rfl rfl rfl ?_
              refine st_op (ev_int64 (c := (i : Int) + 1) rfl rfl rfl (by omega) (by omega)) rfl rfl rfl ?_
              refine st_op (ev_assign rfl) rfl rfl rfl ?_
              refine st_op (ev_assign rfl) rfl rfl rfl ?_
              refine st_op (ev_assign rfl) rfl rfl rfl ?_
              try show aw _ _ _ _ _ _
              refine aw_ret ?_
              have hres : (Spec.numGet 0 0 b) = ((Go.bits .xor .i64 (-1) ((Go.bits .or .u64 v (Spec.shl .u64 (Go.bits .and .u8 x9 127) (7 * (i : Int)))) / 2)), (i : Int) + 1, 0) := by first | (rw [hI, List.drop_eq_nil_of_le (by omega)]; rfl) | (rw [hI, drop_at hx10, Spec.numGet, if_pos (by omega)]; done) | (rw [hI, drop_at hx10, Spec.numGet, if_neg (by omega), if_neg (by omega), if_pos (by omega)]; done) | (subst hv; rw [hI, drop_at hx10, Spec.numGet, if_neg (by omega), if_neg (by omega), if_neg (by omega)]; have h4 := hg.2.2.2 (by omega); rw [h4] at hg; rw [hg.1] at *; have h5 := Spec.get_end hg.2.1; congr 1; first | exact (h5.1 (by assumption)).symm | exact (h5.2 (by assumption)).symm)
              exact ⟨.tuple #[.int .i64 (Go.bits .xor .i64 (-1) ((Go.bits .or .u64 v (Spec.shl .u64 (Go.bits .and .u8 x9 127) (7 * (i : Int)))) / 2)), .int .i64 ((i : Int) + 1), .int .i64 0], rfl, by rw [hres], (by exact (Spec.numGet_all b bb).1), (by exact (Spec.numGet_all b bb).2.1), (by exact (Spec.numGet_all b bb).2.2), hxl3⟩
            · rw [Bool.not_eq_true] at hc29; refine aw_condF hc29 rfl ?_
              try show aw _ _ _ _ _ _
              have hc29 := ne_of_beq_false hc29
              refine aw_skip ?_
              try show aw _ _ _ _ _ _
              refine aw_seq ?_
              refine aw_reg ?_
              refine st_op (ev_move rfl) rfl rfl rfl ?_
              refine st_op (ev_move rfl) rfl rfl rfl ?_
              refine st_op (ev_int64 (c := (i : Int) + 1) rfl rfl rfl (by omega) (by omega)) rfl rfl rfl ?_
              refine st_op (ev_assign rfl) rfl rfl rfl ?_
              refine st_op (ev_assign rfl) rfl rfl rfl ?_
              refine st_op (ev_assign rfl) rfl rfl rfl ?_
              try show aw _ _ _ _ _ _
              refine aw_ret ?_
              have hres : (Spec.numGet 0 0 b) = (((Go.bits .or .u64 v (Spec.shl .u64 (Go.bits .and .u8 x9 127) (7 * (i : Int)))) / 2), (i : Int) + 1, 0) := by first | (rw [hI, List.drop_eq_nil_of_le (by omega)]; rfl) | (rw [hI, drop_at hx10, Spec.numGet, if_pos (by omega)]; done) | (rw [hI, drop_at hx10, Spec.numGet, if_neg (by omega), if_neg (by omega), if_pos (by omega)]; done) | (subst hv; rw [hI, drop_at hx10, Spec.numGet, if_neg (by omega), if_neg (by omega), if_neg (by omega)]; have h4 := hg.2.2.2 (by omega); rw [h4] at hg; rw [hg.1] at *; have h5 := Spec.get_end hg.2.1; congr 1; first | exact (h5.1 (by assumption)).symm | exact (h5.2 (by assumption)).symm)
              exact ⟨.tuple #[.int .i64 ((Go.bits .or .u64 v (Spec.shl .u64 (Go.bits .and .u8 x9 127) (7 * (i : Int)))) / 2), .int .i64 ((i : Int) + 1), .int .i64 0], rfl, by rw [hres], (by exact (Spec.numGet_all b bb).1), (by exact (Spec.numGet_all b bb).2.1), (by exact (Spec.numGet_all b bb).2.2), hxl3⟩
        ·
          have hb26 := of_decide_eq_false hb26
          refine st_skip rfl rfl rfl ?_
          refine st_skip rfl rfl rfl ?_
          refine st_op (ev_pickF rfl rfl) rfl rfl rfl ?_
          try show aw _ _ _ _ _ _
          refine aw_cond (t := false) rfl ?_
          try show aw _ _ _ _ _ _
          refine aw_skip ?_
          try show aw _ _ _ _ _ _
          refine aw_seq ?_
          refine aw_reg ?_
          refine st_op (ev_move rfl) rfl rfl rfl ?_
          refine st_op (ev_shr (a := (Go.bits .or .u64 v (Spec.shl .u64 (Go.bits .and .u8 x9 127) (7 * (i : Int))))) (c := 2) rfl rfl (by decide) (by decide)) rfl rfl rfl ?_
          refine st_op (ev_convI Try.underlying91 Try.underlying2 rfl (wrI64 (by omega) (by omega))) rfl rfl rfl ?_
          refine st_op (ev_assign rfl) rfl rfl rfl ?_
          try show aw _ _ _ _ _ _
          refine aw_seq ?_
          refine aw_seq ?_
          refine aw_reg ?_
          refine st_op (ev_move rfl) rfl rfl rfl ?_
          have hw31 : 0 ≤ (Go.bits .and .u64 (Go.bits .or .u64 v (Spec.shl .u64 (Go.bits .and .u8 x9 127) (7 * (i : Int)))) 1) ∧ (Go.bits .and .u64 (Go.bits .or .u64 v (Spec.shl .u64 (Go.bits .and .u8 x9 127) (7 * (i : Int)))) 1) ≤ 18446744073709551615 := bitsU64 _ _ _
          refine st_op (ev_bits rfl rfl rfl) rfl rfl rfl ?_
          refine st_op (ev_int rfl rfl rfl) rfl rfl rfl ?_
          try show aw _ _ _ _ _ _
          by_cases hc32 : ((Go.bits .and .u64 (Go.bits .or .u64 v (Spec.shl .u64 (Go.bits .and .u8 x9 127) (7 * (i : Int)))) 1) == 1) = true
          · refine aw_condT hc32 rfl ?_
            try show aw _ _ _ _ _ _
            have hc32 := eq_of_beq hc32
            refine aw_reg ?_
            refine st_op (ev_move rfl) rfl rfl rfl ?_
            have hw33 : -9223372036854775808 ≤ (Go.bits .xor .i64 (-1) ((Go.bits .or .u64 v (Spec.shl .u64 (Go.bits .and .u8 x9 127) (7 * (i : Int)))) / 2)) ∧ (Go.bits .xor .i64 (-1) ((Go.bits .or .u64 v (Spec.shl .u64 (Go.bits .and .u8 x9 127) (7 * (i : Int)))) / 2)) ≤ 9223372036854775807 := bitsI64 _ _ _
            refine st_op (ev_comS rfl rfl) rfl rfl rfl ?_
            refine st_op (ev_assign rfl) rfl rfl rfl ?_
            try show aw _ _ _ _ _ _
            refine aw_seq ?_
            refine aw_reg ?_
            refine st_op (ev_move rfl) rfl rfl rfl ?_
            refine st_op (ev_move rfl) rfl rfl rfl ?_
            refine st_op (ev_int64 (c := (i : Int) + 1) rfl rfl rfl (by omega) (by omega)) rfl rfl rfl ?_
            refine st_op (ev_assign rfl) rfl rfl rfl ?_
            refine st_op (ev_assign rfl) rfl rfl rfl ?_
            refine st_op (ev_assign rfl) rfl rfl rfl ?_
            try show aw _ _ _ _ _ _
            refine aw_ret ?_
            have hres : (Spec.numGet 0 0 b) = ((Go.bits .xor .i64 (-1) ((Go.bits .or .u64 v (Spec.shl .u64 (Go.bits .and .u8 x9 127) (7 * (i : Int)))) / 2)), (i : Int) + 1, 0) := by first | (rw [hI, List.drop_eq_nil_of_le (by omega)]; rfl) | (rw [hI, drop_at hx10, Spec.numGet, if_pos (by omega)]; done) | (rw [hI, drop_at hx10, Spec.numGet, if_neg (by omega), if_neg (by omega), if_pos (by omega)]; done) | (subst hv; rw [hI, drop_at hx10, Spec.numGet, if_neg (by omega), if_neg (by omega), if_neg (by omega)]; have h4 := hg.2.2.2 (by omega); rw [h4] at hg; rw [hg.1] at *; have h5 := Spec.get_end hg.2.1; congr 1; first | exact (h5.1 (by assumption)).symm | exact (h5.2 (by assumption)).symm)
            exact ⟨.tuple #[.int .i64 (Go.bits .xor .i64 (-1) ((Go.bits .or .u64 v (Spec.shl .u64 (Go.bits .and .u8 x9 127) (7 * (i : Int)))) / 2)), .int .i64 ((i : Int) + 1), .int .i64 0], rfl, by rw [hres], (by exact (Spec.numGet_all b bb).1), (by exact (Spec.numGet_all b bb).2.1), (by exact (Spec.numGet_all b bb).2.2), hxl3⟩
          · rw [Bool.not_eq_true] at hc32; refine aw_condF hc32 rfl ?_
            try show aw _ _ _ _ _ _
            have hc32 := ne_of_beq_false hc32
            refine aw_skip ?_
            try show aw _ _ _ _ _ _
            refine aw_seq ?_
            refine aw_reg ?_
            refine st_op (ev_move rfl) rfl rfl rfl ?_
            refine st_op (ev_move rfl) rfl rfl rfl ?_
            refine st_op (ev_int64 (c := (i : Int) + 1) rfl rfl rfl (by omega) (by omega)) rfl rfl rfl ?_
            refine st_op (ev_assign rfl) rfl rfl rfl ?_
            refine st_op (ev_assign rfl) rfl rfl rfl ?_
            refine st_op (ev_assign rfl) rfl rfl rfl ?_
            try show aw _ _ _ _ _ _
            refine aw_ret ?_
            have hres : (Spec.numGet 0 0 b) = (((Go.bits .or .u64 v (Spec.shl .u64 (Go.bits .and .u8 x9 127) (7 * (i : Int)))) / 2), (i : Int) + 1, 0) := by first | (rw [hI, List.drop_eq_nil_of_le (by omega)]; rfl) | (rw [hI, drop_at hx10, Spec.numGet, if_pos (by omega)]; done) | (rw [hI, drop_at hx10, Spec.numGet, if_neg (by omega), if_neg (by omega), if_pos (by omega)]; done) | (subst hv; rw [hI, drop_at hx10, Spec.numGet, if_neg (by omega), if_neg (by omega), if_neg (by omega)]; have h4 := hg.2.2.2 (by omega); rw [h4] at hg; rw [hg.1] at *; have h5 := Spec.get_end hg.2.1; congr 1; first | exact (h5.1 (by assumption)).symm | exact (h5.2 (by assumption)).symm)
            exact ⟨.tuple #[.int .i64 ((Go.bits .or .u64 v (Spec.shl .u64 (Go.bits .and .u8 x9 127) (7 * (i : Int)))) / 2), .int .i64 ((i : Int) + 1), .int .i64 0], rfl, by rw [hres], (by exact (Spec.numGet_all b bb).1), (by exact (Spec.numGet_all b bb).2.1), (by exact (Spec.numGet_all b bb).2.2), hxl3⟩
  · rw [Bool.not_eq_true] at hc5; refine aw_condF hc5 rfl ?_
    try show aw _ _ _ _ _ _
    have hc5 := of_decide_eq_false hc5
    refine aw_exit ?_
    try show aw _ _ _ _ _ _
    refine aw_seq ?_
    refine aw_reg ?_
    refine st_op (ev_assign rfl) rfl rfl rfl ?_
    refine st_op (ev_assign rfl) rfl rfl rfl ?_
    refine st_op (ev_assign rfl) rfl rfl rfl ?_
    try show aw _ _ _ _ _ _
    refine aw_ret ?_
    have hres : (Spec.numGet 0 0 b) = (0, 0, 2) := by first | (rw [hI, List.drop_eq_nil_of_le (by omega)]; rfl) | (rw [hI, drop_at hx10, Spec.numGet, if_pos (by omega)]; done) | (rw [hI, drop_at hx10, Spec.numGet, if_neg (by omega), if_neg (by omega), if_pos (by omega)]; done) | (subst hv; rw [hI, drop_at hx10, Spec.numGet, if_neg (by omega), if_neg (by omega), if_neg (by omega)]; have h4 := hg.2.2.2 (by omega); rw [h4] at hg; rw [hg.1] at *; have h5 := Spec.get_end hg.2.1; congr 1; first | exact (h5.1 (by assumption)).symm | exact (h5.2 (by assumption)).symm)
    exact ⟨.tuple #[.int .i64 0, .int .i64 0, .int .i64 2], rfl, by rw [hres], (by exact (Spec.numGet_all b bb).1), (by exact (Spec.numGet_all b bb).2.1), (by exact (Spec.numGet_all b bb).2.2), hxl3⟩
theorem crc_More_spec (H : Heap) (s : Int) (hs : 0 ≤ s ∧ s ≤ 4294967295) (bA : Option Addr) (b : List Int) (bc : Nat) (hb : Row H bA bc 1 (b.map u8c)) (cb : b.length ≤ bc) (lb : b.length ≤ 1099511627776) (bb : Spec.Bytes b) : ∃ v H', Spec Try.prog 46 [.int .u32 s, .slice bA b.length bc] H v H' ∧ ((v = .int .u32 ((Spec.crcMore s.toNat b : Nat) : Int)) ∧ (0 ≤ ((Spec.crcMore s.toNat b : Nat) : Int) ∧ ((Spec.crcMore s.toNat b : Nat) : Int) ≤ 4294967295) ∧ (Ext H H')) := by
  refine spec_go2 E0_ok 33 (f := 46) Try.func46 rfl rfl rfl ?_
  refine aw_seq ?_
  refine aw_reg ?_
  refine st_op (ev_assign rfl) rfl rfl rfl ?_
  try show aw _ _ _ _ _ _
  refine aw_seq ?_
  refine aw_reg ?_
  refine st_op (ev_move rfl) rfl rfl rfl ?_
  have hw1 : 0 ≤ (Go.bits .xor .u32 (IntKind.max .u32) s) ∧ (Go.bits .xor .u32 (IntKind.max .u32) s) ≤ 4294967295 := bitsU32 _ _ _
  refine st_op (ev_comU rfl rfl) rfl rfl rfl ?_
  refine st_op (ev_assign rfl) rfl rfl rfl ?_
  try show aw _ _ _ _ _ _
  refine aw_seq ?_
  refine aw_seq ?_
  refine aw_reg ?_
  refine st_op (ev_move rfl) rfl rfl rfl ?_
  refine st_op (ev_lenSl rfl Try.underlying30) rfl rfl rfl ?_
  refine st_op (ev_move rfl) rfl rfl rfl ?_
  try show aw _ _ _ _ _ _
  refine aw_block ?_
  refine aw_keep [5, 10, 11, 12] (l' := (.cons 5 (.int .u32 (Go.bits .xor .u32 (IntKind.max .u32) s)) (.cons 10 (.slice bA b.length bc) (.cons 11 (.int .i64 (b.length : Int)) (.cons 12 (.int .i64 0) .nil))))) (by repeat (first | exact Up.done | refine Up.then ?_ | refine Up.inBlock ?_)) rfl ?_
  refine aw_iter (α := Nat × Int × Heap) (fun a => b.length - a.1) (fun a => (.cons 5 (.int .u32 a.2.1) (.cons 10 (.slice bA b.length bc) (.cons 11 (.int .i64 (b.length : Int)) (.cons 12 (.int .i64 (a.1 : Int)) .nil))))) (fun a => a.2.2) (fun a => (a.1 ≤ b.length) ∧ (Spec.crcRun (4294967295 - s.toNat) b = Spec.crcRun a.2.1.toNat (b.drop a.1)) ∧ (0 ≤ a.2.1 ∧ a.2.1 ≤ 4294967295) ∧ (Ext H a.2.2)) (0, (Go.bits .xor .u32 (IntKind.max .u32) s), H) ⟨(show 0 ≤ b.length from Nat.zero_le _), (show Spec.crcRun (4294967295 - s.toNat) b = Spec.crcRun (Go.bits .xor .u32 (IntKind.max .u32) s).toNat (b.drop 0) from (by first | rfl | (rw [Spec.not_u32 hs.1 (by omega), List.drop_zero]; congr 1; omega))), (show 0 ≤ (Go.bits .xor .u32 (IntKind.max .u32) s) ∧ (Go.bits .xor .u32 (IntKind.max .u32) s) ≤ 4294967295 from ⟨by omega, by omega⟩), (show Ext H H from (Ext.refl H))⟩ ?_
  rintro ⟨i, x, Hl2⟩ ⟨hi, hx, hn3, hxl4⟩ ih5
  replace hi : i ≤ b.length := hi
  replace hx : Spec.crcRun (4294967295 - s.toNat) b = Spec.crcRun x.toNat (b.drop i) := hx
  replace hn3 : 0 ≤ x ∧ x ≤ 4294967295 := hn3
  replace hxl4 : Ext H Hl2 := hxl4
  show aw _ _ _ (RL _ (.cons 5 (.int .u32 x) (.cons 10 (.slice bA b.length bc) (.cons 11 (.int .i64 (b.length : Int)) (.cons 12 (.int .i64 (i : Int)) .nil))))) Hl2 _
  have Hl2n : H.next ≤ Hl2.next := hxl4.1
  refine aw_seq ?_
  refine aw_reg ?_
  refine st_op (ev_int rfl rfl rfl) rfl rfl rfl ?_
  try show aw _ _ _ _ _ _
  refine aw_seq ?_
  by_cases hc6 : (decide ((i : Int) < (b.length : Int))) = true
  · refine aw_condT hc6 rfl ?_
    try show aw _ _ _ _ _ _
    have hc6 := of_decide_eq_true hc6
    refine aw_skip ?_
    try show aw _ _ _ _ _ _
    refine aw_seq ?_
    refine aw_block ?_
    refine aw_seq ?_
    refine aw_reg ?_
    have h7 := Row.ext hb hxl4
    have hi8 : 0 ≤ ((i : Int) : Int) := by omega
    have hi9 : ((i : Int) : Int) < ((b.length : Nat) : Int) := by first | omega | (simp only [List.length_append, List.length_cons, List.length_nil, List.length_map, List.length_set, List.length_replicate, Spec.bytesOf_length]; omega) | (simp; omega)
    obtain ⟨x10, hx11⟩ : ∃ e, b[i]? = some e := ⟨_, List.getElem?_eq_getElem (by first | omega | (simp only [List.length_append, List.length_cons, List.length_nil, List.length_map, List.length_set, List.length_replicate, Spec.bytesOf_length]; omega) | (simp; omega))⟩
    have x10b : 0 ≤ x10 ∧ x10 < 256 := ((by first | assumption | exact Spec.Bytes.nil | exact Spec.bytes_of _ | (repeat' first | assumption | exact Spec.Bytes.nil | exact Spec.bytes_of _ | exact Spec.enc_bytes _ | exact Spec.four_bytes _ | exact Spec.sealF_bytes (by assumption) | apply Spec.Bytes.append | apply Spec.Bytes.cons (by omega) | apply Spec.Bytes.take | apply Spec.Bytes.drop)) : Spec.Bytes b) _ (List.mem_of_getElem? hx11)
    refine st_op (ev_at rfl rfl h7 (getMap u8c hx11) (by first | rfl | omega | simp) hi8 hi9 el30) rfl rfl rfl ?_
    refine st_op (ev_atL rfl h7 (getMap u8c hx11) one5 rfl) rfl rfl rfl ?_
    refine st_op (ev_assign rfl) rfl rfl rfl ?_
    try show aw _ _ _ _ _ _
    refine aw_seq ?_
    refine aw_reg ?_
    refine st_op (ev_move rfl) rfl rfl rfl ?_
    refine st_op (ev_move rfl) rfl rfl rfl ?_
    refine st_op (ev_convI Try.underlying5 Try.underlying87 rfl (wrU32 (by omega) (by omega))) rfl rfl rfl ?_
    have hw12 : 0 ≤ (Go.bits .xor .u32 x x10) ∧ (Go.bits .xor .u32 x x10) ≤ 4294967295 := bitsU32 _ _ _
    refine st_op (ev_bits rfl rfl rfl) rfl rfl rfl ?_
    refine st_op (ev_assign rfl) rfl rfl rfl ?_
    try show aw _ _ _ _ _ _
    refine aw_seq ?_
    refine aw_reg ?_
    refine st_op (ev_move rfl) rfl rfl rfl ?_
    try show aw _ _ _ _ _ _
    refine aw_block ?_
    refine aw_keep [5, 10, 11, 12, 20] (l' := (.cons 5 (.int .u32 (Go.bits .xor .u32 x x10)) (.cons 10 (.slice bA b.length bc) (.cons 11 (.int .i64 (b.length : Int)) (.cons 12 (.int .i64 (i : Int)) (.cons 20 (.int .i64 0) .nil)))))) (by repeat (first | exact Up.done | refine Up.then ?_ | refine Up.inBlock ?_)) rfl ?_
    refine aw_iter (α := Nat × Int × Heap) (fun a => 8 - a.1) (fun a => (.cons 5 (.int .u32 a.2.1) (.cons 10 (.slice bA b.length bc) (.cons 11 (.int .i64 (b.length : Int)) (.cons 12 (.int .i64 (i : Int)) (.cons 20 (.int .i64 (a.1 : Int)) .nil)))))) (fun a => a.2.2) (fun a => (a.1 ≤ 8) ∧ (Spec.crcSteps 8 (Go.bits .xor .u32 x x10).toNat = Spec.crcSteps (8 - a.1) a.2.1.toNat) ∧ (0 ≤ a.2.1 ∧ a.2.1 ≤ 4294967295) ∧ (Ext Hl2 a.2.2)) (0, (Go.bits .xor .u32 x x10), Hl2) ⟨(show 0 ≤ 8 from (by decide)), (show Spec.crcSteps 8 (Go.bits .xor .u32 x x10).toNat = Spec.crcSteps (8 - 0) (Go.bits .xor .u32 x x10).toNat from rfl), (show 0 ≤ (Go.bits .xor .u32 x x10) ∧ (Go.bits .xor .u32 x x10) ≤ 4294967295 from ⟨by omega, by omega⟩), (show Ext Hl2 Hl2 from (Ext.refl Hl2))⟩ ?_
    rintro ⟨j, y, Hl13⟩ ⟨hj, hy, hn14, hxl15⟩ ih16
    replace hj : j ≤ 8 := hj
    replace hy : Spec.crcSteps 8 (Go.bits .xor .u32 x x10).toNat = Spec.crcSteps (8 - j) y.toNat := hy
    replace hn14 : 0 ≤ y ∧ y ≤ 4294967295 := hn14
    replace hxl15 : Ext Hl2 Hl13 := hxl15
    show aw _ _ _ (RL _ (.cons 5 (.int .u32 y) (.cons 10 (.slice bA b.length bc) (.cons 11 (.int .i64 (b.length : Int)) (.cons 12 (.int .i64 (i : Int)) (.cons 20 (.int .i64 (j : Int)) .nil)))))) Hl13 _
    have Hl13n : Hl2.next ≤ Hl13.next := hxl15.1
    have hn : 0 ≤ y ∧ y ≤ 4294967295 := by omega
    refine aw_seq ?_
    refine aw_reg ?_
    refine st_op (ev_int rfl rfl rfl) rfl rfl rfl ?_
    try show aw _ _ _ _ _ _
    refine aw_seq ?_
    by_cases hc17 : (decide ((j : Int) < 8)) = true
    · refine aw_condT hc17 rfl ?_
      try show aw _ _ _ _ _ _
      have hc17 := of_decide_eq_true hc17
      refine aw_skip ?_
      try show aw _ _ _ _ _ _
      refine aw_seq ?_
      refine aw_block ?_
      refine aw_reg ?_
      refine st_op (ev_move rfl) rfl rfl rfl ?_
      refine st_op (ev_shr (a := y) (c := 2) rfl rfl (by decide) (by decide)) rfl rfl rfl ?_
      refine st_op (ev_move rfl) rfl rfl rfl ?_
      have hw18 : 0 ≤ (Go.bits .and .u32 y 1) ∧ (Go.bits .and .u32 y 1) ≤ 4294967295 := bitsU32 _ _ _
      refine st_op (ev_bits rfl rfl rfl) rfl rfl rfl ?_
      have hw19 : 0 ≤ (IntKind.u32.wrap (0 - (Go.bits .and .u32 y 1))) ∧ (IntKind.u32.wrap (0 - (Go.bits .and .u32 y 1))) ≤ 4294967295 := wrapU32 _
      refine st_op (ev_neg rfl) rfl rfl rfl ?_
      have hw20 : 0 ≤ (Go.bits .and .u32 3988292384 (IntKind.u32.wrap (0 - (Go.bits .and .u32 y 1)))) ∧ (Go.bits .and .u32 3988292384 (IntKind.u32.wrap (0 - (Go.bits .and .u32 y 1)))) ≤ 4294967295 := bitsU32 _ _ _
      refine st_op (ev_bits rfl rfl rfl) rfl rfl rfl ?_
      have hw21 : 0 ≤ (Go.bits .xor .u32 (y / 2) (Go.bits .and .u32 3988292384 (IntKind.u32.wrap (0 - (Go.bits .and .u32 y 1))))) ∧ (Go.bits .xor .u32 (y / 2) (Go.bits .and .u32 3988292384 (IntKind.u32.wrap (0 - (Go.bits .and .u32 y 1))))) ≤ 4294967295 := bitsU32 _ _ _
      refine st_op (ev_bits rfl rfl rfl) rfl rfl rfl ?_
      refine st_op (ev_assign rfl) rfl rfl rfl ?_
      try show aw _ _ _ _ _ _
      refine aw_reg ?_
      refine st_op (ev_int64 (c := (j : Int) + 1) rfl rfl rfl (by omega) (by omega)) rfl rfl rfl ?_
      refine st_op (ev_move rfl) rfl rfl rfl ?_
      try show aw _ _ _ _ _ _
      refine aw_keep [5, 10, 11, 12, 20] (l' := (.cons 5 (.int .u32 (Go.bits .xor .u32 (y / 2) (Go.bits .and .u32 3988292384 (IntKind.u32.wrap (0 - (Go.bits .and .u32 y 1)))))) (.cons 10 (.slice bA b.length bc) (.cons 11 (.int .i64 (b.length : Int)) (.cons 12 (.int .i64 (i : Int)) (.cons 20 (.int .i64 ((j : Int) + 1)) .nil)))))) (by repeat (first | exact Up.done | refine Up.then ?_ | refine Up.inBlock ?_)) rfl ?_
      exact ih16 (j + 1, (Go.bits .xor .u32 (y / 2) (Go.bits .and .u32 3988292384 (IntKind.u32.wrap (0 - (Go.bits .and .u32 y 1))))), Hl13) ⟨(show (j + 1) ≤ 8 from (by omega)), (show Spec.crcSteps 8 (Go.bits .xor .u32 x x10).toNat = Spec.crcSteps (8 - (j + 1)) (Go.bits .xor .u32 (y / 2) (Go.bits .and .u32 3988292384 (IntKind.u32.wrap (0 - (Go.bits .and .u32 y 1))))).toNat from (by rw [hy, show 8 - j = (8 - (j + 1)) + 1 by omega]; show Spec.crcSteps (8 - (j + 1)) (Spec.crcStep y.toNat) = _; congr 1; rw [Spec.crc_one hn]; rfl)), (show 0 ≤ (Go.bits .xor .u32 (y / 2) (Go.bits .and .u32 3988292384 (IntKind.u32.wrap (0 - (Go.bits .and .u32 y 1))))) ∧ (Go.bits .xor .u32 (y / 2) (Go.bits .and .u32 3988292384 (IntKind.u32.wrap (0 - (Go.bits .and .u32 y 1))))) ≤ 4294967295 from ⟨by omega, by omega⟩), (show Ext Hl2 Hl13 from hxl15)⟩ (by simp only; omega)
    · rw [Bool.not_eq_true] at hc17; refine aw_condF hc17 rfl ?_
      try show aw _ _ _ _ _ _
      have hc17 := of_decide_eq_false hc17
      refine aw_exit ?_
      try show aw _ _ _ _ _ _
      refine aw_reg ?_
      refine st_op (ev_int64 (c := (i : Int) + 1) rfl rfl rfl (by omega) (by omega)) rfl rfl rfl ?_
      refine st_op (ev_move rfl) rfl rfl rfl ?_
      try show aw _ _ _ _ _ _
      have hx22 : Ext H Hl13 := (Ext.trans hxl4 hxl15)
      refine aw_keep [5, 10, 11, 12] (l' := (.cons 5 (.int .u32 y) (.cons 10 (.slice bA b.length bc) (.cons 11 (.int .i64 (b.length : Int)) (.cons 12 (.int .i64 ((i : Int) + 1)) .nil))))) (by repeat (first | exact Up.done | refine Up.then ?_ | refine Up.inBlock ?_)) rfl ?_
      exact ih5 (i + 1, y, Hl13) ⟨(show (i + 1) ≤ b.length from (by omega)), (show Spec.crcRun (4294967295 - s.toNat) b = Spec.crcRun y.toNat (b.drop (i + 1)) from (by rw [hx, drop_at hx11, Spec.crc_more (by omega) x10b, hy, show 8 - j = 0 by omega]; rfl)), (show 0 ≤ y ∧ y ≤ 4294967295 from ⟨by omega, by omega⟩), (show Ext H Hl13 from hx22)⟩ (by simp only; omega)
  · rw [Bool.not_eq_true] at hc6; refine aw_condF hc6 rfl ?_
    try show aw _ _ _ _ _ _
    have hc6 := of_decide_eq_false hc6
    refine aw_exit ?_
    try show aw _ _ _ _ _ _
    refine aw_seq ?_
    refine aw_reg ?_
    refine st_op (ev_move rfl) rfl rfl rfl ?_
    have hw23 : 0 ≤ (Go.bits .xor .u32 (IntKind.max .u32) x) ∧ (Go.bits .xor .u32 (IntKind.max .u32) x) ≤ 4294967295 := bitsU32 _ _ _
    refine st_op (ev_comU rfl rfl) rfl rfl rfl ?_
    refine st_op (ev_assign rfl) rfl rfl rfl ?_
    try show aw _ _ _ _ _ _
    refine aw_ret ?_
    have hres : ((Spec.crcMore s.toNat b : Nat) : Int) = (Go.bits .xor .u32 (IntKind.max .u32) x) := by exact Spec.crc_fin hs (by omega) (by rw [hx, List.drop_eq_nil_of_le (by omega)]; rfl)
    exact ⟨.int .u32 (Go.bits .xor .u32 (IntKind.max .u32) x), rfl, by rw [hres], (by exact ⟨by omega, by have := Spec.crcMore_lt s.toNat b; omega⟩), hxl4⟩
theorem crc_Sum_spec (H : Heap) (bA : Option Addr) (b : List Int) (bc : Nat) (hb : Row H bA bc 1 (b.map u8c)) (cb : b.length ≤ bc) (lb : b.length ≤ 1099511627776) (bb : Spec.Bytes b) : ∃ v H', Spec Try.prog 47 [.slice bA b.length bc] H v H' ∧ ((v = .int .u32 ((Spec.crcMore 0 b : Nat) : Int)) ∧ (0 ≤ ((Spec.crcMore 0 b : Nat) : Int) ∧ ((Spec.crcMore 0 b : Nat) : Int) ≤ 4294967295) ∧ (Ext H H')) := by
  refine spec_go1 E0_ok 5 (f := 47) Try.func47 rfl rfl rfl ?_
  refine aw_seq ?_
  refine aw_reg ?_
  refine st_op (ev_assign rfl) rfl rfl rfl ?_
  try show aw _ _ _ _ _ _
  refine aw_seq ?_
  refine aw_reg ?_
  refine st_op (ev_move rfl) rfl rfl rfl ?_
  refine st_call rfl rfl rfl ent46 rfl rfl rfl ?_
  obtain ⟨_, H2, hs1, hs1v, hq4, hx3⟩ := crc_More_spec H 0 (by decide) bA b bc hb cb (by first | omega | (simp only [List.length_append, List.length_cons, List.length_nil, List.length_map, List.length_set, List.length_replicate, Spec.bytesOf_length]; omega) | (simp; omega)) (by first | assumption | exact Spec.Bytes.nil | exact Spec.bytes_of _ | (repeat' first | assumption | exact Spec.Bytes.nil | exact Spec.bytes_of _ | exact Spec.enc_bytes _ | exact Spec.four_bytes _ | exact Spec.sealF_bytes (by assumption) | apply Spec.Bytes.append | apply Spec.Bytes.cons (by omega) | apply Spec.Bytes.take | apply Spec.Bytes.drop))
  rw [hs1v] at hs1; clear hs1v
  refine ⟨_, H2, hs1, ?_⟩
  have H2n : H.next ≤ H2.next := hx3.1
  refine st_op (ev_assign rfl) rfl rfl rfl ?_
  try show aw _ _ _ _ _ _
  refine aw_ret ?_
  have hres : ((Spec.crcMore 0 b : Nat) : Int) = ((Spec.crcMore (0 : Int).toNat b : Nat) : Int) := by rfl
  exact ⟨.int .u32 ((Spec.crcMore (0 : Int).toNat b : Nat) : Int), rfl, by rw [hres], (by exact ⟨by omega, by have := Spec.crcMore_lt 0 b; omega⟩), hx3⟩
theorem num_Four_spec (H : Heap) (s : Int) (hs : 0 ≤ s ∧ s ≤ 4294967295) : ∃ v H', Spec Try.prog 48 [.int .u32 s] H v H' ∧ (∃ rA0 rc0, (v = .slice rA0 ((Spec.four s.toNat).length) rc0) ∧ (My H H' rA0 rc0 1 ((Spec.four s.toNat).map u8c)) ∧ (((Spec.four s.toNat)).length = 4) ∧ (Ext H H')) := by
  refine spec_go1 E0_ok 15 (f := 48) Try.func48 rfl rfl rfl ?_
  refine aw_seq ?_
  refine aw_reg ?_
  refine st_op (ev_assign rfl) rfl rfl rfl ?_
  try show aw _ _ _ _ _ _
  refine aw_seq ?_
  refine aw_reg ?_
  refine st_op (ev_move rfl) rfl rfl rfl ?_
  refine st_op (ev_shr (a := s) (c := 16777216) rfl rfl (by decide) (by decide)) rfl rfl rfl ?_
  refine st_op (ev_convI Try.underlying87 Try.underlying5 rfl (wrU8 (by omega) (by omega))) rfl rfl rfl ?_
  refine st_op (ev_move rfl) rfl rfl rfl ?_
  refine st_op (ev_shr (a := s) (c := 65536) rfl rfl (by decide) (by decide)) rfl rfl rfl ?_
  have hw1 : 0 ≤ (IntKind.u8.wrap (s / 65536)) ∧ (IntKind.u8.wrap (s / 65536)) ≤ 255 := wrapU8 _
  refine st_op (ev_convInt Try.underlying87 Try.underlying5 rfl) rfl rfl rfl ?_
  refine st_op (ev_move rfl) rfl rfl rfl ?_
  refine st_op (ev_shr (a := s) (c := 256) rfl rfl (by decide) (by decide)) rfl rfl rfl ?_
  have hw2 : 0 ≤ (IntKind.u8.wrap (s / 256)) ∧ (IntKind.u8.wrap (s / 256)) ≤ 255 := wrapU8 _
  refine st_op (ev_convInt Try.underlying87 Try.underlying5 rfl) rfl rfl rfl ?_
  refine st_op (ev_move rfl) rfl rfl rfl ?_
  have hw3 : 0 ≤ (IntKind.u8.wrap s) ∧ (IntKind.u8.wrap s) ≤ 255 := wrapU8 _
  refine st_op (ev_convInt Try.underlying87 Try.underlying5 rfl) rfl rfl rfl ?_
  obtain ⟨b4, H5, he6, b4e, H5n_, hm8, f7⟩ := mem_lit H (xs := [.int .u8 (s / 16777216), .int .u8 (IntKind.u8.wrap (s / 65536)), .int .u8 (IntKind.u8.wrap (s / 256)), .int .u8 (IntKind.u8.wrap s)]) (m := 4) (rows := [[.int .u8 (s / 16777216)], [.int .u8 (IntKind.u8.wrap (s / 65536))], [.int .u8 (IntKind.u8.wrap (s / 256))], [.int .u8 (IntKind.u8.wrap s)]]) rfl eok30 (by decide) (by decide) zf5 rfl (allLen rfl) rfl
  replace hm8 : My H H5 (some ⟨b4, 0, none⟩) 4 1 ([(s / 16777216), (IntKind.u8.wrap (s / 65536)), (IntKind.u8.wrap (s / 256)), (IntKind.u8.wrap s)].map u8c) := hm8
  refine st_op (he6 _ _ _ _ _ _ _ _ rfl) rfl rfl rfl ?_
  have hx9 : Ext H H5 := Ext.new (by omega) H5n_ f7
  have H5n : H.next ≤ H5.next := hx9.1
  refine st_op (ev_assign rfl) rfl rfl rfl ?_
  try show aw _ _ _ _ _ _
  refine aw_ret ?_
  have hres : (Spec.four s.toNat) = [(s / 16777216), (IntKind.u8.wrap (s / 65536)), (IntKind.u8.wrap (s / 256)), (IntKind.u8.wrap s)] := by rw [← Spec.four_is, show ((s.toNat : Nat) : Int) = s from Int.toNat_of_nonneg hs.1, IntKind.wrap_u8, IntKind.wrap_u8, IntKind.wrap_u8, show s / 16777216 % 256 = s / 16777216 by omega]
  exact ⟨.slice (some ⟨b4, 0, none⟩) 4 4, rfl, (some ⟨b4, 0, none⟩), 4, by rw [hres]; first | done | rfl | simp, (by rw [hres]; exact hm8), (by rfl), hx9⟩
theorem frame_Open_spec (H : Heap) (bA : Option Addr) (b : List Int) (bc : Nat) (hb : Row H bA bc 1 (b.map u8c)) (cb : b.length ≤ bc) (lb : b.length ≤ 1099511627776) (bb : Spec.Bytes b) : ∃ v H', Spec Try.prog 38 [.slice bA b.length bc] H v H' ∧ (∃ rA1 rc1, (v = .tuple #[.int .i64 ((Spec.openF b).1), .slice rA1 (((Spec.openF b).2.1).length) rc1, .int .i64 ((Spec.openF b).2.2.1), .int .i64 ((Spec.openF b).2.2.2)]) ∧ (My H H' rA1 rc1 1 (((Spec.openF b).2.1).map u8c)) ∧ ((Spec.openF b).2.2.2 = 0 → 1 ≤ (Spec.openF b).1 ∧ (Spec.openF b).1 ≤ 255 ∧ (Spec.openF b).2.1.length ≤ 4000 ∧ 6 ≤ (Spec.openF b).2.2.1 ∧ (Spec.openF b).2.2.1 ≤ b.length ∧ (Spec.openF b).2.2.1 ≤ 4020) ∧ (0 ≤ (Spec.openF b).2.2.2 ∧ (Spec.openF b).2.2.2 ≤ 3) ∧ ((Spec.openF b).2.2.2 ≠ 0 → (Spec.openF b).1 = 0 ∧ (Spec.openF b).2.1 = [] ∧ (Spec.openF b).2.2.1 = 0) ∧ (Spec.Bytes (Spec.openF b).2.1) ∧ (Ext H H')) := by
  refine spec_go1 E0_ok 84 (f := 38) Try.func38 rfl rfl rfl ?_
  refine aw_seq ?_
  refine aw_reg ?_
  refine st_op (ev_assign rfl) rfl rfl rfl ?_
  refine st_op (ev_assign rfl) rfl rfl rfl ?_
  refine st_op (ev_assign rfl) rfl rfl rfl ?_
  refine st_op (ev_assign rfl) rfl rfl rfl ?_
  try show aw _ _ _ _ _ _
  refine aw_seq ?_
  refine aw_block ?_
  refine aw_seq ?_
  refine aw_reg ?_
  refine st_op (ev_move rfl) rfl rfl rfl ?_
  refine st_op (ev_lenSl rfl Try.underlying30) rfl rfl rfl ?_
  refine st_op (ev_int rfl rfl rfl) rfl rfl rfl ?_
  refine st_op (ev_assign rfl) rfl rfl rfl ?_
  try show aw _ _ _ _ _ _
  by_cases hc1 : ((b.length : Int) == 0) = true
  · refine aw_condT hc1 rfl ?_
    try show aw _ _ _ _ _ _
    have hc1 := eq_of_beq hc1
    refine aw_seq ?_
    refine aw_reg ?_
    refine st_op (ev_assign rfl) rfl rfl rfl ?_
    refine st_op (ev_assign rfl) rfl rfl rfl ?_
    refine st_op (ev_assign rfl) rfl rfl rfl ?_
    refine st_op (ev_assign rfl) rfl rfl rfl ?_
    try show aw _ _ _ _ _ _
    refine aw_ret ?_
    have hm2 : My H H none 0 1 (([] : List Int).map u8c) := .nil
    have hres : (Spec.openF b) = (0, ([] : List Int), 0, 2) := by rw [show b = [] from List.eq_nil_of_length_eq_zero (by omega)]; rfl
    exact ⟨.tuple #[.int .i64 0, .slice none 0 0, .int .i64 0, .int .i64 2], rfl, none, 0, by rw [hres]; first | done | rfl | simp, (by rw [hres]; exact hm2), (by exact (Spec.open_all bb).1), (by exact (Spec.open_all bb).2.1), (by exact (Spec.open_all bb).2.2.1), (by exact (Spec.open_all bb).2.2.2), (Ext.refl H)⟩
  · rw [Bool.not_eq_true] at hc1; refine aw_condF hc1 rfl ?_
    try show aw _ _ _ _ _ _
    have hc1 := ne_of_beq_false hc1
    refine aw_seq ?_
    refine aw_reg ?_
    refine st_op (ev_move rfl) rfl rfl rfl ?_
    have hi3 : 0 ≤ (0 : Int) := by omega
    have hi4 : (0 : Int) < ((b.length : Nat) : Int) := by first | omega | (simp only [List.length_append, List.length_cons, List.length_nil, List.length_map, List.length_set, List.length_replicate, Spec.bytesOf_length]; omega) | (simp; omega)
    obtain ⟨x5, hx6⟩ : ∃ e, b[0]? = some e := ⟨_, List.getElem?_eq_getElem (by first | omega | (simp only [List.length_append, List.length_cons, List.length_nil, List.length_map, List.length_set, List.length_replicate, Spec.bytesOf_length]; omega) | (simp; omega))⟩
    have x5b : 0 ≤ x5 ∧ x5 < 256 := ((by first | assumption | exact Spec.Bytes.nil | exact Spec.bytes_of _ | (repeat' first | assumption | exact Spec.Bytes.nil | exact Spec.bytes_of _ | exact Spec.enc_bytes _ | exact Spec.four_bytes _ | exact Spec.sealF_bytes (by assumption) | apply Spec.Bytes.append | apply Spec.Bytes.cons (by omega) | apply Spec.Bytes.take | apply Spec.Bytes.drop)) : Spec.Bytes b) _ (List.mem_of_getElem? hx6)
    refine st_op (ev_at rfl rfl hb (getMap u8c hx6) (by first | rfl | omega | simp) hi3 hi4 el30) rfl rfl rfl ?_
    refine st_op (ev_atL rfl hb (getMap u8c hx6) one5 rfl) rfl rfl rfl ?_
    refine st_op (ev_int rfl rfl rfl) rfl rfl rfl ?_
    refine st_op (ev_assign rfl) rfl rfl rfl ?_
    try show aw _ _ _ _ _ _
    by_cases hc7 : (x5 == 0) = true
    · refine aw_condT hc7 rfl ?_
      try show aw _ _ _ _ _ _
      have hc7 := eq_of_beq hc7
      refine aw_seq ?_
      refine aw_reg ?_
      refine st_op (ev_assign rfl) rfl rfl rfl ?_
      refine st_op (ev_assign rfl) rfl rfl rfl ?_
      refine st_op (ev_assign rfl) rfl rfl rfl ?_
      refine st_op (ev_assign rfl) rfl rfl rfl ?_
      try show aw _ _ _ _ _ _
      refine aw_ret ?_
      have hm8 : My H H none 0 1 (([] : List Int).map u8c) := .nil
      have hres : (Spec.openF b) = (0, ([] : List Int), 0, 3) := by exact Spec.openF_0 (by rw [hx6]; congr 1)
      exact ⟨.tuple #[.int .i64 0, .slice none 0 0, .int .i64 0, .int .i64 3], rfl, none, 0, by rw [hres]; first | done | rfl | simp, (by rw [hres]; exact hm8), (by exact (Spec.open_all bb).1), (by exact (Spec.open_all bb).2.1), (by exact (Spec.open_all bb).2.2.1), (by exact (Spec.open_all bb).2.2.2), (Ext.refl H)⟩
    · rw [Bool.not_eq_true] at hc7; refine aw_condF hc7 rfl ?_
      try show aw _ _ _ _ _ _
      have hc7 := ne_of_beq_false hc7
      refine aw_skip ?_
      try show aw _ _ _ _ _ _
      refine aw_seq ?_
      refine aw_reg ?_
      refine st_op (ev_move rfl) rfl rfl rfl ?_
      obtain ⟨A9, c10, L11, hL12, hl13, hs14, hr15, hc16⟩ := sliceA_typed u8c el30 (by decide) hb cb (lo := some (.int .i64 1)) (hi := none) (l := 1) (h := b.length) rfl (bound_int (by first | omega | (simp only [List.length_append, List.length_cons, List.length_nil, List.length_map, List.length_set, List.length_replicate, Spec.bytesOf_length]; omega) | (simp; omega)) (by first | omega | (simp only [List.length_append, List.length_cons, List.length_nil, List.length_map, List.length_set, List.length_replicate, Spec.bytesOf_length]; omega) | (simp; omega)) (by first | rfl | omega)) (by first | omega | (simp only [List.length_append, List.length_cons, List.length_nil, List.length_map, List.length_set, List.length_replicate, Spec.bytesOf_length]; omega) | (simp; omega)) (by first | omega | (simp only [List.length_append, List.length_cons, List.length_nil, List.length_map, List.length_set, List.length_replicate, Spec.bytesOf_length]; omega) | (simp; omega))
      refine st_op (ev_slice rfl rfl rfl rfl hs14) rfl rfl rfl ?_
      have hL12b : Spec.Bytes L11 := by rw [hL12]; exact Spec.Bytes.take (Spec.Bytes.drop (by first | assumption | exact Spec.Bytes.nil | exact Spec.bytes_of _ | (repeat' first | assumption | exact Spec.Bytes.nil | exact Spec.bytes_of _ | exact Spec.enc_bytes _ | exact Spec.four_bytes _ | exact Spec.sealF_bytes (by assumption) | apply Spec.Bytes.append | apply Spec.Bytes.cons (by omega) | apply Spec.Bytes.take | apply Spec.Bytes.drop)) _) _
      refine st_call rfl rfl rfl ent50 rfl rfl rfl ?_
      obtain ⟨_, H18, hs17, hs17v, hq20, hq21, hq22, hx19⟩ := num_Get_spec H A9 L11 c10 hr15 hc16 (by first | omega | (simp only [List.length_append, List.length_cons, List.length_nil, List.length_map, List.length_set, List.length_replicate, Spec.bytesOf_length]; omega) | (simp; omega)) (by first | assumption | exact Spec.Bytes.nil | exact Spec.bytes_of _ | (repeat' first | assumption | exact Spec.Bytes.nil | exact Spec.bytes_of _ | exact Spec.enc_bytes _ | exact Spec.four_bytes _ | exact Spec.sealF_bytes (by assumption) | apply Spec.Bytes.append | apply Spec.Bytes.cons (by omega) | apply Spec.Bytes.take | apply Spec.Bytes.drop))
      rw [hs17v] at hs17; clear hs17v
      generalize hR24 : (Spec.numGet 0 0 L11) = r23 at hs17 hq20 hq21 hq22
      obtain ⟨z25, z26, z27⟩ := r23
      dsimp only at hs17 hq20 hq21 hq22
      refine ⟨_, H18, hs17, ?_⟩
      have H18n : H.next ≤ H18.next := hx19.1
      refine st_op (ev_move rfl) rfl rfl rfl ?_
      refine st_op (ev_extract rfl rfl) rfl rfl rfl ?_
      refine st_op (ev_extract rfl rfl) rfl rfl rfl ?_
      refine st_op (ev_extract rfl rfl) rfl rfl rfl ?_
      refine st_op (ev_assign rfl) rfl rfl rfl ?_
      refine st_op (ev_assign rfl) rfl rfl rfl ?_
      refine st_op (ev_assign rfl) rfl rfl rfl ?_
      try show aw _ _ _ _ _ _
      refine aw_seq ?_
      refine aw_block ?_
      refine aw_seq ?_
      refine aw_reg ?_
      refine st_op (ev_move rfl) rfl rfl rfl ?_
      refine st_op (ev_int rfl rfl rfl) rfl rfl rfl ?_
      refine st_op (ev_move rfl) rfl rfl rfl ?_
      refine st_bool 31 rfl (fun hb28 => ?_) (fun hb28 => ?_)
      ·
        have hb28 := eq_of_beq hb28
        refine st_op (ev_move rfl) rfl rfl rfl ?_
        refine st_op (ev_lenSl rfl Try.underlying30) rfl rfl rfl ?_
        refine st_op (ev_int rfl rfl rfl) rfl rfl rfl ?_
        refine st_op (ev_pickT rfl rfl) rfl rfl rfl ?_
        refine st_op (ev_assign rfl) rfl rfl rfl ?_
        try show aw _ _ _ _ _ _
        by_cases hc29 : (decide ((b.length : Int) ≤ 2)) = true
        · refine aw_condT hc29 rfl ?_
          try show aw _ _ _ _ _ _
          have hc29 := of_decide_eq_true hc29
          refine aw_seq ?_
          refine aw_reg ?_
          refine st_op (ev_assign rfl) rfl rfl rfl ?_
          refine st_op (ev_assign rfl) rfl rfl rfl ?_
          refine st_op (ev_assign rfl) rfl rfl rfl ?_
          refine st_op (ev_assign rfl) rfl rfl rfl ?_
          try show aw _ _ _ _ _ _
          refine aw_ret ?_
          have hm30 : My H18 H18 none 0 1 (([] : List Int).map u8c) := .nil
          have hres : (Spec.openF b) = (0, ([] : List Int), 0, 2) := by first | (exfalso; omega) | (rw [Spec.openF_ne hx6 hL12 hR24]; (repeat (first | rfl | rw [if_neg (by omega)] | rw [if_pos (by omega)])))
          exact ⟨.tuple #[.int .i64 0, .slice none 0 0, .int .i64 0, .int .i64 2], rfl, none, 0, by rw [hres]; first | done | rfl | simp, (by rw [hres]; exact (My.older hm30 (by omega))), (by exact (Spec.open_all bb).1), (by exact (Spec.open_all bb).2.1), (by exact (Spec.open_all bb).2.2.1), (by exact (Spec.open_all bb).2.2.2), hx19⟩
        · rw [Bool.not_eq_true] at hc29; refine aw_condF hc29 rfl ?_
          try show aw _ _ _ _ _ _
          have hc29 := of_decide_eq_false hc29
          refine aw_seq ?_
          refine aw_reg ?_
          refine st_op (ev_move rfl) rfl rfl rfl ?_
          refine st_op (ev_int rfl rfl rfl) rfl rfl rfl ?_
          refine st_op (ev_move rfl) rfl rfl rfl ?_
          refine st_bool 39 rfl (fun hb31 => ?_) (fun hb31 => ?_)
          ·
            have hb31 : ¬ (z27 = 0) := by simpa using hb31
            refine st_skip rfl rfl rfl ?_
            refine st_skip rfl rfl rfl ?_
            refine st_op (ev_pickT rfl rfl) rfl rfl rfl ?_
            refine st_op (ev_move rfl) rfl rfl rfl ?_
            refine st_skip rfl rfl rfl ?_
            refine st_skip rfl rfl rfl ?_
            refine st_op (ev_pickT rfl rfl) rfl rfl rfl ?_
            refine st_op (ev_assign rfl) rfl rfl rfl ?_
            try show aw _ _ _ _ _ _
            refine aw_cond (t := true) rfl ?_
            try show aw _ _ _ _ _ _
            refine aw_seq ?_
            refine aw_reg ?_
            refine st_op (ev_assign rfl) rfl rfl rfl ?_
            refine st_op (ev_assign rfl) rfl rfl rfl ?_
            refine st_op (ev_assign rfl) rfl rfl rfl ?_
            refine st_op (ev_assign rfl) rfl rfl rfl ?_
            try show aw _ _ _ _ _ _
            refine aw_ret ?_
            have hm32 : My H18 H18 none 0 1 (([] : List Int).map u8c) := .nil
            have hres : (Spec.openF b) = (0, ([] : List Int), 0, 3) := by first | (exfalso; omega) | (rw [Spec.openF_ne hx6 hL12 hR24]; (repeat (first | rfl | rw [if_neg (by omega)] | rw [if_pos (by omega)])))
            exact ⟨.tuple #[.int .i64 0, .slice none 0 0, .int .i64 0, .int .i64 3], rfl, none, 0, by rw [hres]; first | done | rfl | simp, (by rw [hres]; exact (My.older hm32 (by omega))), (by exact (Spec.open_all bb).1), (by exact (Spec.open_all bb).2.1), (by exact (Spec.open_all bb).2.2.1), (by exact (Spec.open_all bb).2.2.2), hx19⟩
          ·
            have hb31 : (z27 = 0) := by simpa using hb31
            exfalso; omega
      ·
        have hb28 := ne_of_beq_false hb28
        refine st_skip rfl rfl rfl ?_
        refine st_skip rfl rfl rfl ?_
        refine st_skip rfl rfl rfl ?_
        refine st_op (ev_pickF rfl rfl) rfl rfl rfl ?_
        refine st_op (ev_assign rfl) rfl rfl rfl ?_
        try show aw _ _ _ _ _ _
        refine aw_cond (t := false) rfl ?_
        try show aw _ _ _ _ _ _
        refine aw_seq ?_
        refine aw_reg ?_
        refine st_op (ev_move rfl) rfl rfl rfl ?_
        refine st_op (ev_int rfl rfl rfl) rfl rfl rfl ?_
        refine st_op (ev_move rfl) rfl rfl rfl ?_
        refine st_bool 39 rfl (fun hb33 => ?_) (fun hb33 => ?_)
        ·
          have hb33 : ¬ (z27 = 0) := by simpa using hb33
          refine st_skip rfl rfl rfl ?_
          refine st_skip rfl rfl rfl ?_
          refine st_op (ev_pickT rfl rfl) rfl rfl rfl ?_
          refine st_op (ev_move rfl) rfl rfl rfl ?_
          refine st_skip rfl rfl rfl ?_
          refine st_skip rfl rfl rfl ?_
          refine st_op (ev_pickT rfl rfl) rfl rfl rfl ?_
          refine st_op (ev_assign rfl) rfl rfl rfl ?_
          try show aw _ _ _ _ _ _
          refine aw_cond (t := true) rfl ?_
          try show aw _ _ _ _ _ _
          refine aw_seq ?_
          refine aw_reg ?_
          refine st_op (ev_assign rfl) rfl rfl rfl ?_
          refine st_op (ev_assign rfl) rfl rfl rfl ?_
          refine st_op (ev_assign rfl) rfl rfl rfl ?_
          refine st_op (ev_assign rfl) rfl rfl rfl ?_
          try show aw _ _ _ _ _ _
          refine aw_ret ?_
          have hm34 : My H18 H18 none 0 1 (([] : List Int).map u8c) := .nil
          have hres : (Spec.openF b) = (0, ([] : List Int), 0, 3) := by first | (exfalso; omega) | (rw [Spec.openF_ne hx6 hL12 hR24]; (repeat (first | rfl | rw [if_neg (by omega)] | rw [if_pos (by omega)])))
          exact ⟨.tuple #[.int .i64 0, .slice none 0 0, .int .i64 0, .int .i64 3], rfl, none, 0, by rw [hres]; first | done | rfl | simp, (by rw [hres]; exact (My.older hm34 (by omega))), (by exact (Spec.open_all bb).1), (by exact (Spec.open_all bb).2.1), (by exact (Spec.open_all bb).2.2.1), (by exact (Spec.open_all bb).2.2.2), hx19⟩
        ·
          have hb33 : (z27 = 0) := by simpa using hb33
          refine st_op (ev_move rfl) rfl rfl rfl ?_
          refine st_op (ev_int rfl rfl rfl) rfl rfl rfl ?_
          refine st_op (ev_pickF rfl rfl) rfl rfl rfl ?_
          refine st_op (ev_move rfl) rfl rfl rfl ?_
          refine st_bool 43 rfl (fun hb35 => ?_) (fun hb35 => ?_)
          ·
            have hb35 := of_decide_eq_true hb35
            refine st_skip rfl rfl rfl ?_
            refine st_skip rfl rfl rfl ?_
            refine st_op (ev_pickT rfl rfl) rfl rfl rfl ?_
            refine st_op (ev_assign rfl) rfl rfl rfl ?_
            try show aw _ _ _ _ _ _
            refine aw_cond (t := true) rfl ?_
            try show aw _ _ _ _ _ _
            refine aw_seq ?_
            refine aw_reg ?_
            refine st_op (ev_assign rfl) rfl rfl rfl ?_
            refine st_op (ev_assign rfl) rfl rfl rfl ?_
            refine st_op (ev_assign rfl) rfl rfl rfl ?_
            refine st_op (ev_assign rfl) rfl rfl rfl ?_
            try show aw _ _ _ _ _ _
            refine aw_ret ?_
            have hm36 : My H18 H18 none 0 1 (([] : List Int).map u8c) := .nil
            have hres : (Spec.openF b) = (0, ([] : List Int), 0, 3) := by first | (exfalso; omega) | (rw [Spec.openF_ne hx6 hL12 hR24]; (repeat (first | rfl | rw [if_neg (by omega)] | rw [if_pos (by omega)])))
            exact ⟨.tuple #[.int .i64 0, .slice none 0 0, .int .i64 0, .int .i64 3], rfl, none, 0, by rw [hres]; first | done | rfl | simp, (by rw [hres]; exact (My.older hm36 (by omega))), (by exact (Spec.open_all bb).1), (by exact (Spec.open_all bb).2.1), (by exact (Spec.open_all bb).2.2.1), (by exact (Spec.open_all bb).2.2.2), hx19⟩
          ·
            have hb35 := of_decide_eq_false hb35
            refine st_op (ev_move rfl) rfl rfl rfl ?_
            refine st_op (ev_int rfl rfl rfl) rfl rfl rfl ?_
            refine st_op (ev_pickF rfl rfl) rfl rfl rfl ?_
            refine st_op (ev_assign rfl) rfl rfl rfl ?_
            try show aw _ _ _ _ _ _
            by_cases hc37 : (decide (z25 > 4000)) = true
            · refine aw_condT hc37 rfl ?_
              try show aw _ _ _ _ _ _
              have hc37 := of_decide_eq_true hc37
              refine aw_seq ?_
              refine aw_reg ?_
              refine st_op (ev_assign rfl) rfl rfl rfl ?_
              refine st_op (ev_assign rfl) rfl rfl rfl ?_
              refine st_op (ev_assign rfl) rfl rfl rfl ?_
              refine st_op (ev_assign rfl) rfl rfl rfl ?_
              try show aw _ _ _ _ _ _
              refine aw_ret ?_
              have hm38 : My H18 H18 none 0 1 (([] : List Int).map u8c) := .nil
              have hres : (Spec.openF b) = (0, ([] : List Int), 0, 3) := by first | (exfalso; omega) | (rw [Spec.openF_ne hx6 hL12 hR24]; (repeat (first | rfl | rw [if_neg (by omega)] | rw [if_pos (by omega)])))
              exact ⟨.tuple #[.int .i64 0, .slice none 0 0, .int .i64 0, .int .i64 3], rfl, none, 0, by rw [hres]; first | done | rfl | simp, (by rw [hres]; exact (My.older hm38 (by omega))), (by exact (Spec.open_all bb).1), (by exact (Spec.open_all bb).2.1), (by exact (Spec.open_all bb).2.2.1), (by exact (Spec.open_all bb).2.2.2), hx19⟩
            · rw [Bool.not_eq_true] at hc37; refine aw_condF hc37 rfl ?_
              try show aw _ _ _ _ _ _
              have hc37 := of_decide_eq_false hc37
              refine aw_skip ?_
              try show aw _ _ _ _ _ _
              refine aw_seq ?_
              refine aw_reg ?_
              refine st_op (ev_move rfl) rfl rfl rfl ?_
              refine st_op (ev_int64 (c := 1 + z26) rfl rfl rfl (by omega) (by omega)) rfl rfl rfl ?_
              refine st_op (ev_assign rfl) rfl rfl rfl ?_
              try show aw _ _ _ _ _ _
              refine aw_seq ?_
              refine aw_reg ?_
              refine st_op (ev_move rfl) rfl rfl rfl ?_
              refine st_op (ev_int64 (c := (1 + z26) + 4) rfl rfl rfl (by omega) (by omega)) rfl rfl rfl ?_
              refine st_op (ev_move rfl) rfl rfl rfl ?_
              refine st_op (ev_int64 (c := ((1 + z26) + 4) + z25) rfl rfl rfl (by omega) (by omega)) rfl rfl rfl ?_
              refine st_op (ev_assign rfl) rfl rfl rfl ?_
              try show aw _ _ _ _ _ _
              refine aw_seq ?_
              refine aw_seq ?_
              refine aw_reg ?_
              refine st_op (ev_move rfl) rfl rfl rfl ?_
              refine st_op (ev_lenSl rfl Try.underlying30) rfl rfl rfl ?_
              refine st_op (ev_move rfl) rfl rfl rfl ?_
              refine st_op (ev_int rfl rfl rfl) rfl rfl rfl ?_
              try show aw _ _ _ _ _ _
              by_cases hc39 : (decide ((b.length : Int) < ((1 + z26) + 4) + z25)) = true
              · refine aw_condT hc39 rfl ?_
                try show aw _ _ _ _ _ _
                have hc39 := of_decide_eq_true hc39
                refine aw_seq ?_
                refine aw_reg ?_
                refine st_op (ev_assign rfl) rfl rfl rfl ?_
                refine st_op (ev_assign rfl) rfl rfl rfl ?_
                refine st_op (ev_assign rfl) rfl rfl rfl ?_
                refine st_op (ev_assign rfl) rfl rfl rfl ?_
                try show aw _ _ _ _ _ _
                refine aw_ret ?_
                have hm40 : My H18 H18 none 0 1 (([] : List Int).map u8c) := .nil
                have hres : (Spec.openF b) = (0, ([] : List Int), 0, 2) := by first | (exfalso; omega) | (rw [Spec.openF_ne hx6 hL12 hR24]; (repeat (first | rfl | rw [if_neg (by omega)] | rw [if_pos (by omega)])))
                exact ⟨.tuple #[.int .i64 0, .slice none 0 0, .int .i64 0, .int .i64 2], rfl, none, 0, by rw [hres]; first | done | rfl | simp, (by rw [hres]; exact (My.older hm40 (by omega))), (by exact (Spec.open_all bb).1), (by exact (Spec.open_all bb).2.1), (by exact (Spec.open_all bb).2.2.1), (by exact (Spec.open_all bb).2.2.2), hx19⟩
              · rw [Bool.not_eq_true] at hc39; refine aw_condF hc39 rfl ?_
                try show aw _ _ _ _ _ _
                have hc39 := of_decide_eq_false hc39
                refine aw_skip ?_
                try show aw _ _ _ _ _ _
                refine aw_seq ?_
                refine aw_reg ?_
                refine st_op (ev_move rfl) rfl rfl rfl ?_
                refine st_op (ev_move rfl) rfl rfl rfl ?_
                refine st_op (ev_int64 (c := (1 + z26) + 4) rfl rfl rfl (by omega) (by omega)) rfl rfl rfl ?_
                refine st_op (ev_move rfl) rfl rfl rfl ?_
                have h49 := Row.ext hb hx19
                obtain ⟨A41, c42, L43, hL44, hl45, hs46, hr47, hc48⟩ := sliceA_typed u8c el30 (by decide) h49 cb (lo := some (.int .i64 ((1 + z26) + 4))) (hi := some (.int .i64 (((1 + z26) + 4) + z25))) (l := (((1 + z26) + 4)).toNat) (h := ((((1 + z26) + 4) + z25)).toNat) (by rw [Option.isSome_some, if_pos rfl]; exact bound_int (by first | omega | (simp only [List.length_append, List.length_cons, List.length_nil, List.length_map, List.length_set, List.length_replicate, Spec.bytesOf_length]; omega) | (simp; omega)) (by first | omega | (simp only [List.length_append, List.length_cons, List.length_nil, List.length_map, List.length_set, List.length_replicate, Spec.bytesOf_length]; omega) | (simp; omega)) (by first | rfl | omega)) (bound_int (by first | omega | (simp only [List.length_append, List.length_cons, List.length_nil, List.length_map, List.length_set, List.length_replicate, Spec.bytesOf_length]; omega) | (simp; omega)) (by first | omega | (simp only [List.length_append, List.length_cons, List.length_nil, List.length_map, List.length_set, List.length_replicate, Spec.bytesOf_length]; omega) | (simp; omega)) (by first | rfl | omega)) (by first | omega | (simp only [List.length_append, List.length_cons, List.length_nil, List.length_map, List.length_set, List.length_replicate, Spec.bytesOf_length]; omega) | (simp; omega)) (by first | omega | (simp only [List.length_append, List.length_cons, List.length_nil, List.length_map, List.length_set, List.length_replicate, Spec.bytesOf_length]; omega) | (simp; omega))
                refine st_op (ev_slice rfl rfl rfl rfl hs46) rfl rfl rfl ?_
                have hL44b : Spec.Bytes L43 := by rw [hL44]; exact Spec.Bytes.take (Spec.Bytes.drop (by first | assumption | exact Spec.Bytes.nil | exact Spec.bytes_of _ | (repeat' first | assumption | exact Spec.Bytes.nil | exact Spec.bytes_of _ | exact Spec.enc_bytes _ | exact Spec.four_bytes _ | exact Spec.sealF_bytes (by assumption) | apply Spec.Bytes.append | apply Spec.Bytes.cons (by omega) | apply Spec.Bytes.take | apply Spec.Bytes.drop)) _) _
                refine st_op (ev_assign rfl) rfl rfl rfl ?_
                try show aw _ _ _ _ _ _
                refine aw_seq ?_
                refine aw_seq ?_
                refine aw_marks (fun b => b < H18.next) [(false, false), (false, false), (false, false), (false, true), (false, false), (false, true), (false, true), (false, false), (false, false), (false, false), (false, false), (false, false), (true, false), (true, false), (false, false)] mixed (by kernel_rfl) (by kernel_rfl) ?_
                refine sm_op (ev_move rfl) rfl rfl rfl ?_
                refine sm_op (ev_move rfl) rfl rfl rfl ?_
                obtain ⟨A50, c51, L52, hL53, hl54, hs55, hr56, hc57⟩ := sliceA_typed u8c el30 (by decide) h49 cb (lo := none) (hi := some (.int .i64 (1 + z26))) (l := 0) (h := ((1 + z26)).toNat) (by rw [Option.isSome_some, if_pos rfl]; exact bound_int (by first | omega | (simp only [List.length_append, List.length_cons, List.length_nil, List.length_map, List.length_set, List.length_replicate, Spec.bytesOf_length]; omega) | (simp; omega)) (by first | omega | (simp only [List.length_append, List.length_cons, List.length_nil, List.length_map, List.length_set, List.length_replicate, Spec.bytesOf_length]; omega) | (simp; omega)) (by first | rfl | omega)) rfl (by first | omega | (simp only [List.length_append, List.length_cons, List.length_nil, List.length_map, List.length_set, List.length_replicate, Spec.bytesOf_length]; omega) | (simp; omega)) (by first | omega | (simp only [List.length_append, List.length_cons, List.length_nil, List.length_map, List.length_set, List.length_replicate, Spec.bytesOf_length]; omega) | (simp; omega))
                refine sm_op (ev_slice rfl rfl rfl rfl hs55) rfl rfl rfl ?_
                have hL53b : Spec.Bytes L52 := by rw [hL53]; exact Spec.Bytes.take (Spec.Bytes.drop (by first | assumption | exact Spec.Bytes.nil | exact Spec.bytes_of _ | (repeat' first | assumption | exact Spec.Bytes.nil | exact Spec.bytes_of _ | exact Spec.enc_bytes _ | exact Spec.four_bytes _ | exact Spec.sealF_bytes (by assumption) | apply Spec.Bytes.append | apply Spec.Bytes.cons (by omega) | apply Spec.Bytes.take | apply Spec.Bytes.drop)) _) _
                refine sm_call rfl rfl rfl ent47 rfl rfl rfl ?_
                obtain ⟨_, H59, hs58, hs58v, hq61, hx60⟩ := crc_Sum_spec H18 A50 L52 c51 hr56 hc57 (by first | omega | (simp only [List.length_append, List.length_cons, List.length_nil, List.length_map, List.length_set, List.length_replicate, Spec.bytesOf_length]; omega) | (simp; omega)) (by first | assumption | exact Spec.Bytes.nil | exact Spec.bytes_of _ | (repeat' first | assumption | exact Spec.Bytes.nil | exact Spec.bytes_of _ | exact Spec.enc_bytes _ | exact Spec.four_bytes _ | exact Spec.sealF_bytes (by assumption) | apply Spec.Bytes.append | apply Spec.Bytes.cons (by omega) | apply Spec.Bytes.take | apply Spec.Bytes.drop))
                rw [hs58v] at hs58; clear hs58v
                refine ⟨_, H59, hs58, (fun _ b hb => hx60.2 b (by omega)), ?_⟩
                have H59n : H18.next ≤ H59.next := hx60.1
                refine sm_op (ev_move rfl) rfl rfl rfl ?_
                refine sm_call rfl rfl rfl ent46 rfl rfl rfl ?_
                have h62 := Row.ext hr47 hx60
                obtain ⟨_, H64, hs63, hs63v, hq66, hx65⟩ := crc_More_spec H59 ((Spec.crcMore 0 L52 : Nat) : Int) ⟨by omega, by omega⟩ A41 L43 c42 h62 hc48 (by first | omega | (simp only [List.length_append, List.length_cons, List.length_nil, List.length_map, List.length_set, List.length_replicate, Spec.bytesOf_length]; omega) | (simp; omega)) (by first | assumption | exact Spec.Bytes.nil | exact Spec.bytes_of _ | (repeat' first | assumption | exact Spec.Bytes.nil | exact Spec.bytes_of _ | exact Spec.enc_bytes _ | exact Spec.four_bytes _ | exact Spec.sealF_bytes (by assumption) | apply Spec.Bytes.append | apply Spec.Bytes.cons (by omega) | apply Spec.Bytes.take | apply Spec.Bytes.drop))
                rw [hs63v] at hs63; clear hs63v
                refine ⟨_, H64, hs63, (fun _ b hb => hx65.2 b (by omega)), ?_⟩
                have H64n : H59.next ≤ H64.next := hx65.1
                refine sm_call rfl rfl rfl ent48 rfl rfl rfl ?_
                obtain ⟨_, H68, hs67, A70, c71, hs67v, hm72, hq73, hx69⟩ := num_Four_spec H64 ((Spec.crcMore ((Spec.crcMore 0 L52 : Nat) : Int).toNat L43 : Nat) : Int) ⟨by omega, by omega⟩
                rw [hs67v] at hs67; clear hs67v
                refine ⟨_, H68, hs67, (fun _ b hb => hx69.2 b (by omega)), ?_⟩
                have H68n : H64.next ≤ H68.next := hx69.1
                refine sm_op (ev_strOf (l := (Spec.four ((Spec.crcMore ((Spec.crcMore 0 L52 : Nat) : Int).toNat L43 : Nat) : Int).toNat)) (A := A70) (c := c71) slu8_30 isstr_9 rfl (My.anil hm72) (My.row hm72)) rfl rfl rfl ?_
                refine sm_op (ev_move rfl) rfl rfl rfl ?_
                refine sm_op (ev_move rfl) rfl rfl rfl ?_
                refine sm_op (ev_move rfl) rfl rfl rfl ?_
                refine sm_op (ev_int64 (c := (1 + z26) + 4) rfl rfl rfl (by omega) (by omega)) rfl rfl rfl ?_
                have hx83 : Ext H18 H68 := (Ext.trans (Ext.trans hx60 hx65) hx69)
                have h82 := Row.ext h49 hx83
                obtain ⟨A74, c75, L76, hL77, hl78, hs79, hr80, hc81⟩ := sliceA_typed u8c el30 (by decide) h82 cb (lo := some (.int .i64 (1 + z26))) (hi := some (.int .i64 ((1 + z26) + 4))) (l := ((1 + z26)).toNat) (h := (((1 + z26) + 4)).toNat) (by rw [Option.isSome_some, if_pos rfl]; exact bound_int (by first | omega | (simp only [List.length_append, List.length_cons, List.length_nil, List.length_map, List.length_set, List.length_replicate, Spec.bytesOf_length]; omega) | (simp; omega)) (by first | omega | (simp only [List.length_append, List.length_cons, List.length_nil, List.length_map, List.length_set, List.length_replicate, Spec.bytesOf_length]; omega) | (simp; omega)) (by first | rfl | omega)) (bound_int (by first | omega | (simp only [List.length_append, List.length_cons, List.length_nil, List.length_map, List.length_set, List.length_replicate, Spec.bytesOf_length]; omega) | (simp; omega)) (by first | omega | (simp only [List.length_append, List.length_cons, List.length_nil, List.length_map, List.length_set, List.length_replicate, Spec.bytesOf_length]; omega) | (simp; omega)) (by first | rfl | omega)) (by first | omega | (simp only [List.length_append, List.length_cons, List.length_nil, List.length_map, List.length_set, List.length_replicate, Spec.bytesOf_length]; omega) | (simp; omega)) (by first | omega | (simp only [List.length_append, List.length_cons, List.length_nil, List.length_map, List.length_set, List.length_replicate, Spec.bytesOf_length]; omega) | (simp; omega))
                refine sm_read (ev_slice rfl rfl rfl rfl hs79) rfl rfl rfl (fun q hq => Nat.lt_of_lt_of_le (rd_slice rfl rfl h49 hq) (by omega)) ?_
                have hL77b : Spec.Bytes L76 := by rw [hL77]; exact Spec.Bytes.take (Spec.Bytes.drop (by first | assumption | exact Spec.Bytes.nil | exact Spec.bytes_of _ | (repeat' first | assumption | exact Spec.Bytes.nil | exact Spec.bytes_of _ | exact Spec.enc_bytes _ | exact Spec.four_bytes _ | exact Spec.sealF_bytes (by assumption) | apply Spec.Bytes.append | apply Spec.Bytes.cons (by omega) | apply Spec.Bytes.take | apply Spec.Bytes.drop)) _) _
                refine sm_read (ev_strOf (l := L76) (A := A74) (c := c75) slu8_30 isstr_9 rfl (fun h => sliceA_none el30 (h ▸ hs79)) hr80) rfl rfl rfl (fun q hq => Nat.lt_of_lt_of_le (rd_conv2 rfl rfl el30 hs79 h49 (by first | omega | (simp only [List.length_append, List.length_cons, List.length_nil, List.length_map, List.length_set, List.length_replicate, Spec.bytesOf_length]; omega) | (simp; omega)) hq) (by omega)) ?_
                refine sm_op (ev_str rfl rfl rfl) rfl rfl rfl ?_
                try show aw _ _ _ _ _ _
                by_cases hc84 : (!(((strOfNums (Spec.four ((Spec.crcMore ((Spec.crcMore 0 L52 : Nat) : Int).toNat L43 : Nat) : Int).toNat))).toList == ((strOfNums L76)).toList)) = true
                · refine aw_condT hc84 rfl ?_
                  try show aw _ _ _ _ _ _
                  replace hc84 : (((strOfNums (Spec.four ((Spec.crcMore ((Spec.crcMore 0 L52 : Nat) : Int).toNat L43 : Nat) : Int).toNat))).toList == ((strOfNums L76)).toList) = false := by rw [Bool.not_eq_true'] at hc84; exact hc84
                  have hc84 := ne_of_beq_false hc84
                  refine aw_seq ?_
                  refine aw_reg ?_
                  refine st_op (ev_assign rfl) rfl rfl rfl ?_
                  refine st_op (ev_assign rfl) rfl rfl rfl ?_
                  refine st_op (ev_assign rfl) rfl rfl rfl ?_
                  refine st_op (ev_assign rfl) rfl rfl rfl ?_
                  try show aw _ _ _ _ _ _
                  refine aw_ret ?_
                  have hm85 : My H68 H68 none 0 1 (([] : List Int).map u8c) := .nil
                  have hx86 : Ext H H68 := (Ext.trans (Ext.trans (Ext.trans hx19 hx60) hx65) hx69)
                  have hres : (Spec.openF b) = (0, ([] : List Int), 0, 3) := by first | (exfalso; omega) | exact (Spec.open_end bb hx6 hL12 (by rw [hR24]; congr 2 <;> omega) (by omega) (by omega) (by omega) (by omega) hL44 hL53 hL77).2 (by assumption) | exact (Spec.open_end bb hx6 hL12 (by rw [hR24]; congr 2 <;> omega) (by omega) (by omega) (by omega) (by omega) hL44 hL53 hL77).1 (by assumption)
                  exact ⟨.tuple #[.int .i64 0, .slice none 0 0, .int .i64 0, .int .i64 3], rfl, none, 0, by rw [hres]; first | done | rfl | simp, (by rw [hres]; exact (My.older hm85 (by omega))), (by exact (Spec.open_all bb).1), (by exact (Spec.open_all bb).2.1), (by exact (Spec.open_all bb).2.2.1), (by exact (Spec.open_all bb).2.2.2), hx86⟩
                · rw [Bool.not_eq_true] at hc84; refine aw_condF hc84 rfl ?_
                  try show aw _ _ _ _ _ _
                  replace hc84 : (((strOfNums (Spec.four ((Spec.crcMore ((Spec.crcMore 0 L52 : Nat) : Int).toNat L43 : Nat) : Int).toNat))).toList == ((strOfNums L76)).toList) = true := by rw [Bool.not_eq_false'] at hc84; exact hc84
                  have hc84 := eq_of_beq hc84
                  refine aw_skip ?_
                  try show aw _ _ _ _ _ _
                  refine aw_seq ?_
                  refine aw_marks (fun b => b < H68.next) [(false, false), (false, false), (true, false), (false, false), (false, false), (false, true), (false, false), (false, false), (false, false), (false, false), (false, false)] mixed (by kernel_rfl) (by kernel_rfl) ?_
                  refine sm_op (ev_move rfl) rfl rfl rfl ?_
                  have hi87 : 0 ≤ (0 : Int) := by omega
                  have hi88 : (0 : Int) < ((b.length : Nat) : Int) := by first | omega | (simp only [List.length_append, List.length_cons, List.length_nil, List.length_map, List.length_set, List.length_replicate, Spec.bytesOf_length]; omega) | (simp; omega)
                  refine sm_op (ev_at rfl rfl h82 (getMap u8c hx6) (by first | rfl | omega | simp) hi87 hi88 el30) rfl rfl rfl ?_
                  refine sm_read (ev_atL rfl h82 (getMap u8c hx6) one5 rfl) rfl rfl rfl (fun q hq => Nat.lt_of_lt_of_le (rd_at rfl rfl h82 (getMap u8c hx6) hq) (by omega)) ?_
                  refine sm_op (ev_convI Try.underlying5 Try.underlying3 rfl (wrI64 (by omega) (by omega))) rfl rfl rfl ?_
                  refine sm_op (ev_move rfl) rfl rfl rfl ?_
                  have hm89 : My H68 H68 none 0 1 (([] : List Int).map u8c) := .nil
                  have hx91 : Ext H59 H68 := (Ext.trans hx65 hx69)
                  have h90 := Row.ext h62 hx91
                  obtain ⟨A92, c93, H94, W95, he96, hm97, hf98⟩ := mem_append (f := u8c) (old := ([] : List Int)) (new := L43) (m := 0) (mx := L43.length) (c := 0) (by first | rfl | simp) (by first | rfl | simp) eok30 (by decide) hm89 hm89 (by omega) ((h90).srcF (by decide) (by first | rfl | simp)) rfl u8c_len u8c_one (by first | omega | (simp only [List.length_append, List.length_cons, List.length_nil, List.length_map, List.length_set, List.length_replicate, Spec.bytesOf_length]; omega) | (simp; omega)) (by first | omega | (simp only [List.length_append, List.length_cons, List.length_nil, List.length_map, List.length_set, List.length_replicate, Spec.bytesOf_length]; omega) | (simp; omega))
                  refine sm_act (he96 _ _ _ _ _ _ _ _ _ _ rfl rfl isrow30) rfl rfl rfl (fun q hq => hf98.2 q (by omega) (fun e => by omega)) ?_
                  have H94n : H68.next ≤ H94.next := hf98.1
                  rw [List.nil_append] at hm97
                  refine sm_op (ev_move rfl) rfl rfl rfl ?_
                  refine sm_op (ev_assign rfl) rfl rfl rfl ?_
                  refine sm_op (ev_assign rfl) rfl rfl rfl ?_
                  refine sm_op (ev_assign rfl) rfl rfl rfl ?_
                  refine sm_op (ev_assign rfl) rfl rfl rfl ?_
                  try show aw _ _ _ _ _ _
                  refine aw_ret ?_
                  have hx99 : Ext H H94 := (Ext.then (Ext.trans (Ext.trans (Ext.trans hx19 hx60) hx65) hx69) hf98 (fun q hq e => by omega))
                  have hres : (Spec.openF b) = (x5, L43, ((1 + z26) + 4) + z25, 0) := by first | (exfalso; omega) | exact (Spec.open_end bb hx6 hL12 (by rw [hR24]; congr 2 <;> omega) (by omega) (by omega) (by omega) (by omega) hL44 hL53 hL77).2 (by assumption) | exact (Spec.open_end bb hx6 hL12 (by rw [hR24]; congr 2 <;> omega) (by omega) (by omega) (by omega) (by omega) hL44 hL53 hL77).1 (by assumption)
                  exact ⟨.tuple #[.int .i64 x5, .slice A92 L43.length c93, .int .i64 (((1 + z26) + 4) + z25), .int .i64 0], rfl, A92, c93, by rw [hres]; first | done | rfl | simp, (by rw [hres]; exact (My.older hm97 (by omega))), (by exact (Spec.open_all bb).1), (by exact (Spec.open_all bb).2.1), (by exact (Spec.open_all bb).2.2.1), (by exact (Spec.open_all bb).2.2.2), hx99⟩
theorem wal_rnum_spec (H : Heap) (lA : Option Addr) (l : List Int) (lc : Nat) (hl : Row H lA lc 1 (l.map u8c)) (cl : l.length ≤ lc) (ll : l.length ≤ 1099511627776) (bl : Spec.Bytes l) (bad : Bool) (p : Nat) (hp : p < H.next) (Bp : H.blk p = some ⟨[.slice lA l.length lc, .bool bad], 2, false, false⟩) : ∃ v H', Spec Try.prog 39 [.pointer (some ⟨p, 0, none⟩)] H v H' ∧ (∃ rA1 rc1, (v = .int .i64 ((Spec.rdN l bad).1)) ∧ (Row H' rA1 rc1 1 (((Spec.rdN l bad).2.1).map u8c)) ∧ (((Spec.rdN l bad).2.1).length ≤ rc1) ∧ (H'.blk p = some ⟨[.slice rA1 (((Spec.rdN l bad).2.1).length) rc1, .bool ((Spec.rdN l bad).2.2)], 2, false, false⟩) ∧ (Spec.Bytes (Spec.rdN l bad).2.1) ∧ ((Spec.rdN l bad).2.1.length ≤ l.length) ∧ (-9223372036854775808 ≤ (Spec.rdN l bad).1 ∧ (Spec.rdN l bad).1 ≤ 9223372036854775807) ∧ (Fr (fun q => q = p) H H')) := by
  refine spec_go1 E0_ok 41 (f := 39) Try.func39 rfl rfl rfl ?_
  refine aw_seq ?_
  refine aw_reg ?_
  refine st_op (ev_assign rfl) rfl rfl rfl ?_
  try show aw _ _ _ _ _ _
  refine aw_seq ?_
  refine aw_reg ?_
  refine st_op (ev_move rfl) rfl rfl rfl ?_
  refine st_op (ev_nilCheck rfl) rfl rfl rfl ?_
  refine st_op (ev_fieldAddr rfl fa78_0 (o' := 0) rfl) rfl rfl rfl ?_
  refine st_op (ev_load rfl (lvar_one one30 Bp rfl)) rfl rfl rfl ?_
  refine st_call rfl rfl rfl ent50 rfl rfl rfl ?_
  obtain ⟨_, H2, hs1, hs1v, hq4, hq5, hq6, hx3⟩ := num_Get_spec H lA l lc hl cl (by first | omega | (simp only [List.length_append, List.length_cons, List.length_nil, List.length_map, List.length_set, List.length_replicate, Spec.bytesOf_length]; omega) | (simp; omega)) (by first | assumption | exact Spec.Bytes.nil | exact Spec.bytes_of _ | (repeat' first | assumption | exact Spec.Bytes.nil | exact Spec.bytes_of _ | exact Spec.enc_bytes _ | exact Spec.four_bytes _ | exact Spec.sealF_bytes (by assumption) | apply Spec.Bytes.append | apply Spec.Bytes.cons (by omega) | apply Spec.Bytes.take | apply Spec.Bytes.drop))
  rw [hs1v] at hs1; clear hs1v
  generalize hR8 : (Spec.numGet 0 0 l) = r7 at hs1 hq4 hq5 hq6
  obtain ⟨z9, z10, z11⟩ := r7
  dsimp only at hs1 hq4 hq5 hq6
  refine ⟨_, H2, hs1, ?_⟩
  have H2n : H.next ≤ H2.next := hx3.1
  refine st_op (ev_move rfl) rfl rfl rfl ?_
  refine st_op (ev_extract rfl rfl) rfl rfl rfl ?_
  refine st_op (ev_extract rfl rfl) rfl rfl rfl ?_
  refine st_op (ev_extract rfl rfl) rfl rfl rfl ?_
  refine st_op (ev_assign rfl) rfl rfl rfl ?_
  refine st_op (ev_assign rfl) rfl rfl rfl ?_
  refine st_op (ev_assign rfl) rfl rfl rfl ?_
  try show aw _ _ _ _ _ _
  refine aw_seq ?_
  refine aw_seq ?_
  refine aw_reg ?_
  refine st_op (ev_move rfl) rfl rfl rfl ?_
  refine st_op (ev_move rfl) rfl rfl rfl ?_
  refine st_op (ev_nilCheck rfl) rfl rfl rfl ?_
  refine st_op (ev_fieldAddr rfl fa78_1 (o' := 1) rfl) rfl rfl rfl ?_
  have h12 := Ext.blk hx3 (by omega) Bp
  refine st_op (ev_load rfl (lvar_one one4 h12 rfl)) rfl rfl rfl ?_
  refine st_op (ev_move rfl) rfl rfl rfl ?_
  refine st_bool 20 rfl (fun hb13 => ?_) (fun hb13 => ?_)
  ·
    refine st_skip rfl rfl rfl ?_
    refine st_skip rfl rfl rfl ?_
    refine st_op (ev_pickT rfl rfl) rfl rfl rfl ?_
    refine st_op (ev_nilCheck rfl) rfl rfl rfl ?_
    refine st_op (ev_fieldAddr rfl fa78_1 (o' := 1) rfl) rfl rfl rfl ?_
    obtain ⟨H14, he15, H14n_, hB16, f17⟩ := mem_store (v := .bool true) (o := 1) (cs' := [.slice lA l.length lc, .bool true]) 1 rfl rfl size4 h12 rfl rfl rfl
    refine st_op0 (he15 _ _ _ _ _ _ _ _ _ rfl rfl) rfl rfl ?_
    have hf18 : Fr (fun q => q = p) H2 H14 := Fr.write H14n_ f17
    have H14n : H2.next ≤ H14.next := hf18.1
    try show aw _ _ _ _ _ _
    refine aw_seq ?_
    refine aw_reg ?_
    refine st_op (ev_move rfl) rfl rfl rfl ?_
    refine st_op (ev_nilCheck rfl) rfl rfl rfl ?_
    refine st_op (ev_fieldAddr rfl fa78_1 (o' := 1) rfl) rfl rfl rfl ?_
    refine st_op (ev_load rfl (lvar_one one4 hB16 rfl)) rfl rfl rfl ?_
    refine st_op (ev_not rfl) rfl rfl rfl ?_
    try show aw _ _ _ _ _ _
    refine aw_cond (t := false) rfl ?_
    try show aw _ _ _ _ _ _
    refine aw_skip ?_
    try show aw _ _ _ _ _ _
    refine aw_seq ?_
    refine aw_reg ?_
    refine st_op (ev_move rfl) rfl rfl rfl ?_
    refine st_op (ev_assign rfl) rfl rfl rfl ?_
    try show aw _ _ _ _ _ _
    refine aw_ret ?_
    have h19 := Row.ext hl hx3
    have h20 := Row.fr h19 hf18 (fun q hq e => ⟨_, e ▸ h12, show (2 : Nat) ≠ 1 by decide⟩)
    have hres : (Spec.rdN l bad) = (z9, l, true) := by unfold Spec.rdN; simp only [hR8]; by_cases hz : z11 = 0 <;> simp_all
    exact ⟨.int .i64 z9, rfl, lA, lc, by rw [hres]; first | done | rfl | simp, (by rw [hres]; exact h20), (by rw [hres]; exact cl), (by rw [hres]; exact hB16), (by exact Spec.rdN_bytes bl bad), (by exact Spec.rdN_len bad), (by exact Spec.rdN_rng bl bad), (Fr.transG (Fr.trans (Fr.refl (fun q => q = p) H) (hx3.fr fun _ => False) (fun q hq (e : False) => e.elim)) hf18 (fun q hq hE e => (e)))⟩
  ·
    refine st_op (ev_move rfl) rfl rfl rfl ?_
    refine st_op (ev_int rfl rfl rfl) rfl rfl rfl ?_
    refine st_op (ev_pickF rfl rfl) rfl rfl rfl ?_
    refine st_op (ev_nilCheck rfl) rfl rfl rfl ?_
    refine st_op (ev_fieldAddr rfl fa78_1 (o' := 1) rfl) rfl rfl rfl ?_
    obtain ⟨H21, he22, H21n_, hB23, f24⟩ := mem_store (v := .bool (z11 != 0)) (o := 1) (cs' := [.slice lA l.length lc, .bool (z11 != 0)]) 1 rfl rfl size4 h12 rfl rfl rfl
    refine st_op0 (he22 _ _ _ _ _ _ _ _ _ rfl rfl) rfl rfl ?_
    have hf25 : Fr (fun q => q = p) H2 H21 := Fr.write H21n_ f24
    have H21n : H2.next ≤ H21.next := hf25.1
    try show aw _ _ _ _ _ _
    refine aw_seq ?_
    refine aw_reg ?_
    refine st_op (ev_move rfl) rfl rfl rfl ?_
    refine st_op (ev_nilCheck rfl) rfl rfl rfl ?_
    refine st_op (ev_fieldAddr rfl fa78_1 (o' := 1) rfl) rfl rfl rfl ?_
    refine st_op (ev_load rfl (lvar_one one4 hB23 rfl)) rfl rfl rfl ?_
    refine st_op (ev_not rfl) rfl rfl rfl ?_
    try show aw _ _ _ _ _ _
    by_cases hc26 : (!(z11 != 0)) = true
    · refine aw_condT hc26 rfl ?_
      try show aw _ _ _ _ _ _
      replace hc26 : (z11 != 0) = false := by rw [Bool.not_eq_true'] at hc26; exact hc26
      have hc26 : (z11 = 0) := by simpa using hc26
      refine aw_reg ?_
      refine st_op (ev_move rfl) rfl rfl rfl ?_
      refine st_op (ev_move rfl) rfl rfl rfl ?_
      refine st_op (ev_nilCheck rfl) rfl rfl rfl ?_
      refine st_op (ev_fieldAddr rfl fa78_0 (o' := 0) rfl) rfl rfl rfl ?_
      refine st_op (ev_load rfl (lvar_one one30 hB23 rfl)) rfl rfl rfl ?_
      refine st_op (ev_move rfl) rfl rfl rfl ?_
      have h35 := Row.ext hl hx3
      have h36 := Row.fr h35 hf25 (fun q hq e => ⟨_, e ▸ h12, show (2 : Nat) ≠ 1 by decide⟩)
      obtain ⟨A27, c28, L29, hL30, hl31, hs32, hr33, hc34⟩ := sliceA_typed u8c el30 (by decide) h36 cl (lo := some (.int .i64 z10)) (hi := none) (l := (z10).toNat) (h := l.length) rfl (bound_int (by first | omega | (simp only [List.length_append, List.length_cons, List.length_nil, List.length_map, List.length_set, List.length_replicate, Spec.bytesOf_length]; omega) | (simp; omega)) (by first | omega | (simp only [List.length_append, List.length_cons, List.length_nil, List.length_map, List.length_set, List.length_replicate, Spec.bytesOf_length]; omega) | (simp; omega)) (by first | rfl | omega)) (by first | omega | (simp only [List.length_append, List.length_cons, List.length_nil, List.length_map, List.length_set, List.length_replicate, Spec.bytesOf_length]; omega) | (simp; omega)) (by first | omega | (simp only [List.length_append, List.length_cons, List.length_nil, List.length_map, List.length_set, List.length_replicate, Spec.bytesOf_length]; omega) | (simp; omega))
      refine st_op (ev_slice rfl rfl rfl rfl hs32) rfl rfl rfl ?_
      have hL30b : Spec.Bytes L29 := by rw [hL30]; exact Spec.Bytes.take (Spec.Bytes.drop (by first | assumption | exact Spec.Bytes.nil | exact Spec.bytes_of _ | (repeat' first | assumption | exact Spec.Bytes.nil | exact Spec.bytes_of _ | exact Spec.enc_bytes _ | exact Spec.four_bytes _ | exact Spec.sealF_bytes (by assumption) | apply Spec.Bytes.append | apply Spec.Bytes.cons (by omega) | apply Spec.Bytes.take | apply Spec.Bytes.drop)) _) _
      refine st_op (ev_nilCheck rfl) rfl rfl rfl ?_
      refine st_op (ev_fieldAddr rfl fa78_0 (o' := 0) rfl) rfl rfl rfl ?_
      obtain ⟨H37, he38, H37n_, hB39, f40⟩ := mem_store (v := .slice A27 L29.length c28) (o := 0) (cs' := [.slice A27 L29.length c28, .bool (z11 != 0)]) 1 rfl rfl size30 hB23 rfl rfl rfl
      refine st_op0 (he38 _ _ _ _ _ _ _ _ _ rfl rfl) rfl rfl ?_
      have hf41 : Fr (fun q => q = p) H21 H37 := Fr.write H37n_ f40
      have H37n : H21.next ≤ H37.next := hf41.1
      try show aw _ _ _ _ _ _
      refine aw_seq ?_
      refine aw_reg ?_
      refine st_op (ev_move rfl) rfl rfl rfl ?_
      refine st_op (ev_assign rfl) rfl rfl rfl ?_
      try show aw _ _ _ _ _ _
      refine aw_ret ?_
      have h42 := Row.fr hr33 hf41 (fun q hq e => ⟨_, e ▸ hB23, show (2 : Nat) ≠ 1 by decide⟩)
      have hres : (Spec.rdN l bad) = (z9, L29, (z11 != 0)) := by unfold Spec.rdN; simp only [hR8]; rw [Spec.drop_all] at hL30; by_cases hz : z11 = 0 <;> simp_all
      exact ⟨.int .i64 z9, rfl, A27, c28, by rw [hres]; first | done | rfl | simp, (by rw [hres]; exact h42), (by rw [hres]; exact hc34), (by rw [hres]; exact hB39), (by exact Spec.rdN_bytes bl bad), (by exact Spec.rdN_len bad), (by exact Spec.rdN_rng bl bad), (Fr.transG (Fr.transG (Fr.trans (Fr.refl (fun q => q = p) H) (hx3.fr fun _ => False) (fun q hq (e : False) => e.elim)) hf25 (fun q hq hE e => (e))) hf41 (fun q hq hE e => (e)))⟩
    · rw [Bool.not_eq_true] at hc26; refine aw_condF hc26 rfl ?_
      try show aw _ _ _ _ _ _
      replace hc26 : (z11 != 0) = true := by rw [Bool.not_eq_false'] at hc26; exact hc26
      have hc26 : ¬ (z11 = 0) := by simpa using hc26
      refine aw_skip ?_
      try show aw _ _ _ _ _ _
      refine aw_seq ?_
      refine aw_reg ?_
      refine st_op (ev_move rfl) rfl rfl rfl ?_
      refine st_op (ev_assign rfl) rfl rfl rfl ?_
      try show aw _ _ _ _ _ _
      refine aw_ret ?_
      have h43 := Row.ext hl hx3
      have h44 := Row.fr h43 hf25 (fun q hq e => ⟨_, e ▸ h12, show (2 : Nat) ≠ 1 by decide⟩)
      have hres : (Spec.rdN l bad) = (z9, l, (z11 != 0)) := by unfold Spec.rdN; simp only [hR8]; by_cases hz : z11 = 0 <;> simp_all
      exact ⟨.int .i64 z9, rfl, lA, lc, by rw [hres]; first | done | rfl | simp, (by rw [hres]; exact h44), (by rw [hres]; exact cl), (by rw [hres]; exact hB23), (by exact Spec.rdN_bytes bl bad), (by exact Spec.rdN_len bad), (by exact Spec.rdN_rng bl bad), (Fr.transG (Fr.trans (Fr.refl (fun q => q = p) H) (hx3.fr fun _ => False) (fun q hq (e : False) => e.elim)) hf25 (fun q hq hE e => (e)))⟩
theorem wal_rdone_spec (H : Heap) (lA : Option Addr) (l : List Int) (lc : Nat) (hl : Row H lA lc 1 (l.map u8c)) (cl : l.length ≤ lc) (ll : l.length ≤ 1099511627776) (bl : Spec.Bytes l) (bad : Bool) (p : Nat) (hp : p < H.next) (Bp : H.blk p = some ⟨[.slice lA l.length lc, .bool bad], 2, false, false⟩) : ∃ v H', Spec Try.prog 41 [.pointer (some ⟨p, 0, none⟩)] H v H' ∧ ((v = .bool (!bad && l.isEmpty)) ∧ (Ext H H')) := by
  refine spec_go1 E0_ok 16 (f := 41) Try.func41 rfl rfl rfl ?_
  refine aw_seq ?_
  refine aw_reg ?_
  refine st_op (ev_assign rfl) rfl rfl rfl ?_
  try show aw _ _ _ _ _ _
  refine aw_seq ?_
  refine aw_reg ?_
  refine st_op (ev_move rfl) rfl rfl rfl ?_
  refine st_op (ev_nilCheck rfl) rfl rfl rfl ?_
  refine st_op (ev_fieldAddr rfl fa78_1 (o' := 1) rfl) rfl rfl rfl ?_
  refine st_op (ev_load rfl (lvar_one one4 Bp rfl)) rfl rfl rfl ?_
  refine st_op (ev_not rfl) rfl rfl rfl ?_
  refine st_op (ev_move rfl) rfl rfl rfl ?_
  refine st_bool 8 rfl (fun hb1 => ?_) (fun hb1 => ?_)
  ·
    replace hb1 : bad = false := by rw [Bool.not_eq_true'] at hb1; exact hb1
    refine st_op (ev_move rfl) rfl rfl rfl ?_
    refine st_op (ev_nilCheck rfl) rfl rfl rfl ?_
    refine st_op (ev_fieldAddr rfl fa78_0 (o' := 0) rfl) rfl rfl rfl ?_
    refine st_op (ev_load rfl (lvar_one one30 Bp rfl)) rfl rfl rfl ?_
    refine st_op (ev_lenSl rfl Try.underlying30) rfl rfl rfl ?_
    refine st_op (ev_int rfl rfl rfl) rfl rfl rfl ?_
    refine st_op (ev_pickT rfl rfl) rfl rfl rfl ?_
    refine st_op (ev_assign rfl) rfl rfl rfl ?_
    try show aw _ _ _ _ _ _
    refine aw_ret ?_
    have hres : (!bad && l.isEmpty) = ((l.length : Int) == 0) := by cases l <;> simp_all <;> omega
    exact ⟨.bool ((l.length : Int) == 0), rfl, by rw [hres], (Ext.refl H)⟩
  ·
    replace hb1 : bad = true := by rw [Bool.not_eq_false'] at hb1; exact hb1
    refine st_skip rfl rfl rfl ?_
    refine st_skip rfl rfl rfl ?_
    refine st_skip rfl rfl rfl ?_
    refine st_skip rfl rfl rfl ?_
    refine st_skip rfl rfl rfl ?_
    refine st_skip rfl rfl rfl ?_
    refine st_op (ev_pickF rfl rfl) rfl rfl rfl ?_
    refine st_op (ev_assign rfl) rfl rfl rfl ?_
    try show aw _ _ _ _ _ _
    refine aw_ret ?_
    have hres : (!bad && l.isEmpty) = false := by cases l <;> simp_all <;> omega
    exact ⟨.bool false, rfl, by rw [hres], (Ext.refl H)⟩
theorem wal_in_spec (H : Heap) (least : Int) (hleast : -9223372036854775808 ≤ least ∧ least ≤ 9223372036854775807) (most : Int) (hmost : -9223372036854775808 ≤ most ∧ most ≤ 9223372036854775807) (lA : Option Addr) (l : List Int) (lc : Nat) (hl : Row H lA lc 1 (l.map i64c)) (cl : l.length ≤ lc) (ll : l.length ≤ 1099511627776) : ∃ v H', Spec Try.prog 34 [.int .i64 least, .int .i64 most, .slice lA l.length lc] H v H' ∧ ((v = .bool (Spec.inF least most l)) ∧ (Ext H H')) := by
  refine spec_go3 E0_ok 24 (f := 34) Try.func34 rfl rfl rfl ?_
  refine aw_seq ?_
  refine aw_reg ?_
  refine st_op (ev_assign rfl) rfl rfl rfl ?_
  try show aw _ _ _ _ _ _
  refine aw_seq ?_
  refine aw_seq ?_
  refine aw_reg ?_
  refine st_op (ev_move rfl) rfl rfl rfl ?_
  refine st_op (ev_lenSl rfl Try.underlying81) rfl rfl rfl ?_
  refine st_op (ev_move rfl) rfl rfl rfl ?_
  try show aw _ _ _ _ _ _
  refine aw_block ?_
  refine aw_keep [0, 1, 9, 10, 11] (l' := (.cons 0 (.int .i64 least) (.cons 1 (.int .i64 most) (.cons 9 (.slice lA l.length lc) (.cons 10 (.int .i64 (l.length : Int)) (.cons 11 (.int .i64 0) .nil)))))) (by repeat (first | exact Up.done | refine Up.then ?_ | refine Up.inBlock ?_)) rfl ?_
  refine aw_iter (α := Nat × Heap) (fun a => l.length - a.1) (fun a => (.cons 0 (.int .i64 least) (.cons 1 (.int .i64 most) (.cons 9 (.slice lA l.length lc) (.cons 10 (.int .i64 (l.length : Int)) (.cons 11 (.int .i64 (a.1 : Int)) .nil)))))) (fun a => a.2) (fun a => (a.1 ≤ l.length) ∧ (Spec.inF least most l = Spec.inF least most (l.drop a.1)) ∧ (Ext H a.2)) (0, H) ⟨(show 0 ≤ l.length from Nat.zero_le _), (show Spec.inF least most l = Spec.inF least most (l.drop 0) from rfl), (show Ext H H from (Ext.refl H))⟩ ?_
  rintro ⟨i, Hl1⟩ ⟨hi, hv, hxl2⟩ ih3
  replace hi : i ≤ l.length := hi
  replace hv : Spec.inF least most l = Spec.inF least most (l.drop i) := hv
  replace hxl2 : Ext H Hl1 := hxl2
  show aw _ _ _ (RL _ (.cons 0 (.int .i64 least) (.cons 1 (.int .i64 most) (.cons 9 (.slice lA l.length lc) (.cons 10 (.int .i64 (l.length : Int)) (.cons 11 (.int .i64 (i : Int)) .nil)))))) Hl1 _
  have Hl1n : H.next ≤ Hl1.next := hxl2.1
  refine aw_seq ?_
  refine aw_reg ?_
  refine st_op (ev_int rfl rfl rfl) rfl rfl rfl ?_
  try show aw _ _ _ _ _ _
  refine aw_seq ?_
  by_cases hc4 : (decide ((i : Int) < (l.length : Int))) = true
  · refine aw_condT hc4 rfl ?_
    try show aw _ _ _ _ _ _
    have hc4 := of_decide_eq_true hc4
    refine aw_skip ?_
    try show aw _ _ _ _ _ _
    refine aw_seq ?_
    refine aw_block ?_
    refine aw_seq ?_
    refine aw_reg ?_
    have h5 := Row.ext hl hxl2
    have hi6 : 0 ≤ ((i : Int) : Int) := by omega
    have hi7 : ((i : Int) : Int) < ((l.length : Nat) : Int) := by first | omega | (simp only [List.length_append, List.length_cons, List.length_nil, List.length_map, List.length_set, List.length_replicate, Spec.bytesOf_length]; omega) | (simp; omega)
    obtain ⟨x8, hx9⟩ : ∃ e, l[i]? = some e := ⟨_, List.getElem?_eq_getElem (by first | omega | (simp only [List.length_append, List.length_cons, List.length_nil, List.length_map, List.length_set, List.length_replicate, Spec.bytesOf_length]; omega) | (simp; omega))⟩
    refine st_op (ev_at rfl rfl h5 (getMap i64c hx9) (by first | rfl | omega | simp) hi6 hi7 el81) rfl rfl rfl ?_
    refine st_op (ev_atL rfl h5 (getMap i64c hx9) one2 rfl) rfl rfl rfl ?_
    refine st_op (ev_assign rfl) rfl rfl rfl ?_
    try show aw _ _ _ _ _ _
    refine aw_seq ?_
    refine aw_reg ?_
    refine st_op (ev_move rfl) rfl rfl rfl ?_
    refine st_op (ev_move rfl) rfl rfl rfl ?_
    refine st_op (ev_int rfl rfl rfl) rfl rfl rfl ?_
    refine st_op (ev_move rfl) rfl rfl rfl ?_
    refine st_bool 18 rfl (fun hb10 => ?_) (fun hb10 => ?_)
    ·
      have hb10 := of_decide_eq_true hb10
      refine st_skip rfl rfl rfl ?_
      refine st_skip rfl rfl rfl ?_
      refine st_skip rfl rfl rfl ?_
      refine st_op (ev_pickT rfl rfl) rfl rfl rfl ?_
      try show aw _ _ _ _ _ _
      refine aw_cond (t := true) rfl ?_
      try show aw _ _ _ _ _ _
      refine aw_seq ?_
      refine aw_reg ?_
      refine st_op (ev_assign rfl) rfl rfl rfl ?_
      try show aw _ _ _ _ _ _
      refine aw_ret ?_
      have hres : (Spec.inF least most l) = false := by rw [hv, drop_at hx9, Spec.inF]; first | (rw [if_pos (by omega)]; done) | (rw [if_neg (by omega), if_pos (by omega)]; done)
      exact ⟨.bool false, rfl, by rw [hres], hxl2⟩
    ·
      have hb10 := of_decide_eq_false hb10
      refine st_op (ev_move rfl) rfl rfl rfl ?_
      refine st_op (ev_move rfl) rfl rfl rfl ?_
      refine st_op (ev_int rfl rfl rfl) rfl rfl rfl ?_
      refine st_op (ev_pickF rfl rfl) rfl rfl rfl ?_
      try show aw _ _ _ _ _ _
      by_cases hc11 : (decide (x8 > most)) = true
      · refine aw_condT hc11 rfl ?_
        try show aw _ _ _ _ _ _
        have hc11 := of_decide_eq_true hc11
        refine aw_seq ?_
        refine aw_reg ?_
        refine st_op (ev_assign rfl) rfl rfl rfl ?_
        try show aw _ _ _ _ _ _
        refine aw_ret ?_
        have hres : (Spec.inF least most l) = false := by rw [hv, drop_at hx9, Spec.inF]; first | (rw [if_pos (by omega)]; done) | (rw [if_neg (by omega), if_pos (by omega)]; done)
        exact ⟨.bool false, rfl, by rw [hres], hxl2⟩
      · rw [Bool.not_eq_true] at hc11; refine aw_condF hc11 rfl ?_
        try show aw _ _ _ _ _ _
        have hc11 := of_decide_eq_false hc11
        refine aw_skip ?_
        try show aw _ _ _ _ _ _
        refine aw_reg ?_
        refine st_op (ev_int64 (c := (i : Int) + 1) rfl rfl rfl (by omega) (by omega)) rfl rfl rfl ?_
        refine st_op (ev_move rfl) rfl rfl rfl ?_
        try show aw _ _ _ _ _ _
        refine aw_keep [0, 1, 9, 10, 11] (l' := (.cons 0 (.int .i64 least) (.cons 1 (.int .i64 most) (.cons 9 (.slice lA l.length lc) (.cons 10 (.int .i64 (l.length : Int)) (.cons 11 (.int .i64 ((i : Int) + 1)) .nil)))))) (by repeat (first | exact Up.done | refine Up.then ?_ | refine Up.inBlock ?_)) rfl ?_
        exact ih3 (i + 1, Hl1) ⟨(show (i + 1) ≤ l.length from (by omega)), (show Spec.inF least most l = Spec.inF least most (l.drop (i + 1)) from (by rw [hv, drop_at hx9, Spec.inF, if_neg (by omega), if_neg (by omega)])), (show Ext H Hl1 from hxl2)⟩ (by simp only; omega)
  · rw [Bool.not_eq_true] at hc4; refine aw_condF hc4 rfl ?_
    try show aw _ _ _ _ _ _
    have hc4 := of_decide_eq_false hc4
    refine aw_exit ?_
    try show aw _ _ _ _ _ _
    refine aw_seq ?_
    refine aw_reg ?_
    refine st_op (ev_assign rfl) rfl rfl rfl ?_
    try show aw _ _ _ _ _ _
    refine aw_ret ?_
    have hres : (Spec.inF least most l) = true := by rw [hv, List.drop_eq_nil_of_le (by omega)]; rfl
    exact ⟨.bool true, rfl, by rw [hres], hxl2⟩
theorem wal_May_spec (H : Heap) (r_hard : Bool) (r_h_term : Int) (r_h_vote : Int) (r_e_index : Int) (r_e_term : Int) (r_e_kind : Int) (r_e_data : ByteArray) : ∃ v H', Spec Try.prog 14 [.agg #[.bool r_hard, .int .i64 r_h_term, .int .i64 r_h_vote, .int .i64 r_e_index, .int .i64 r_e_term, .int .i64 r_e_kind, .string r_e_data]] H v H' ∧ ((v = .bool (Spec.mayF r_hard r_h_term r_h_vote r_e_index r_e_term r_e_kind r_e_data)) ∧ (Ext H H')) := by
  refine spec_go1 E0_ok 61 (f := 14) Try.func14 rfl rfl rfl ?_
  refine aw_seq ?_
  refine aw_reg ?_
  obtain ⟨b1, H2, he3, b1e, H2n_, hB5, f4⟩ := mem_box (P := Try.prog) H (v := .agg #[.bool r_hard, .int .i64 r_h_term, .int .i64 r_h_vote, .int .i64 r_e_index, .int .i64 r_e_term, .int .i64 r_e_kind, .string r_e_data]) (cs := [.bool r_hard, .int .i64 r_h_term, .int .i64 r_h_vote, .int .i64 r_e_index, .int .i64 r_e_term, .int .i64 r_e_kind, .string r_e_data]) rfl rfl
  refine st_op (he3 _ _ _ _ _ _ _ _ _ rfl) rfl rfl rfl ?_
  have hx6 : Ext H H2 := Ext.new (by omega) H2n_ f4
  have H2n : H.next ≤ H2.next := hx6.1
  refine st_op (ev_assign rfl) rfl rfl rfl ?_
  try show aw _ _ _ _ _ _
  refine aw_seq ?_
  refine aw_seq ?_
  refine aw_reg ?_
  refine st_op (ev_fieldAddr rfl fa32_0 (o' := 0) rfl) rfl rfl rfl ?_
  refine st_op (ev_load rfl (lvar_one one4 hB5 rfl)) rfl rfl rfl ?_
  try show aw _ _ _ _ _ _
  by_cases hc7 : r_hard = true
  · refine aw_condT hc7 rfl ?_
    try show aw _ _ _ _ _ _
    refine aw_seq ?_
    refine aw_reg ?_
    refine st_op (ev_fieldAddr rfl fa32_1 (o' := 1) rfl) rfl rfl rfl ?_
    refine st_op (ev_fieldAddr rfl fa23_0 (o' := 1) rfl) rfl rfl rfl ?_
    refine st_op (ev_load rfl (lvar_one one2 hB5 rfl)) rfl rfl rfl ?_
    obtain ⟨b8, H9, he10, b8e, H9n_, hm12, f11⟩ := mem_lit H2 (xs := [.int .i64 r_h_term]) (m := 1) (rows := [[.int .i64 r_h_term]]) rfl eok81 (by decide) (by decide) zf2 rfl (allLen rfl) rfl
    replace hm12 : My H2 H9 (some ⟨b8, 0, none⟩) 1 1 ([r_h_term].map i64c) := hm12
    refine st_op (he10 _ _ _ _ _ _ _ _ rfl) rfl rfl rfl ?_
    have hx13 : Ext H2 H9 := Ext.new (by omega) H9n_ f11
    have H9n : H2.next ≤ H9.next := hx13.1
    refine st_call rfl rfl rfl ent34 rfl rfl rfl ?_
    obtain ⟨_, H15, hs14, hs14v, hx16⟩ := wal_in_spec H9 0 (by decide) 1099511627776 (by decide) (some ⟨b8, 0, none⟩) ([r_h_term]) 1 (My.row hm12) (My.capF hm12 (by first | omega | (simp only [List.length_append, List.length_cons, List.length_nil, List.length_map, List.length_set, List.length_replicate, Spec.bytesOf_length]; omega) | (simp; omega))) (by first | omega | (simp only [List.length_append, List.length_cons, List.length_nil, List.length_map, List.length_set, List.length_replicate, Spec.bytesOf_length]; omega) | (simp; omega))
    rw [hs14v] at hs14; clear hs14v
    refine ⟨_, H15, hs14, ?_⟩
    have H15n : H9.next ≤ H15.next := hx16.1
    refine st_op (ev_move rfl) rfl rfl rfl ?_
    refine st_bool 10 rfl (fun hb17 => ?_) (fun hb17 => ?_)
    ·
      have hb17m := Spec.inF_one hb17
      refine st_op (ev_fieldAddr rfl fa32_1 (o' := 1) rfl) rfl rfl rfl ?_
      refine st_op (ev_fieldAddr rfl fa23_1 (o' := 2) rfl) rfl rfl rfl ?_
      have hx19 : Ext H2 H15 := (Ext.trans hx13 hx16)
      have h18 := Ext.blk hx19 (by omega) hB5
      refine st_op (ev_load rfl (lvar_one one3 h18 rfl)) rfl rfl rfl ?_
      refine st_op (ev_int rfl rfl rfl) rfl rfl rfl ?_
      refine st_op (ev_pickT rfl rfl) rfl rfl rfl ?_
      refine st_op (ev_move rfl) rfl rfl rfl ?_
      refine st_bool 16 rfl (fun hb20 => ?_) (fun hb20 => ?_)
      ·
        have hb20 := of_decide_eq_true hb20
        refine st_op (ev_fieldAddr rfl fa32_1 (o' := 1) rfl) rfl rfl rfl ?_
        refine st_op (ev_fieldAddr rfl fa23_1 (o' := 2) rfl) rfl rfl rfl ?_
        refine st_op (ev_load rfl (lvar_one one3 h18 rfl)) rfl rfl rfl ?_
        refine st_op (ev_int rfl rfl rfl) rfl rfl rfl ?_
        refine st_op (ev_pickT rfl rfl) rfl rfl rfl ?_
        refine st_op (ev_move rfl) rfl rfl rfl ?_
        refine st_bool 22 rfl (fun hb21 => ?_) (fun hb21 => ?_)
        ·
          have hb21 := of_decide_eq_true hb21
          refine st_op (ev_fieldAddr rfl fa32_2 (o' := 3) rfl) rfl rfl rfl ?_
          refine st_op (ev_load rfl (lvar_part (l := [.int .i64 r_e_index, .int .i64 r_e_term, .int .i64 r_e_kind, .string r_e_data]) many25 h18 rfl rfl (by decide))) rfl rfl rfl ?_
          refine st_op (ev_build zero25 pl25 (parts := []) rfl (cs := [.int .i64 0, .int .i64 0, .int .i64 0, .string (⟨#[]⟩)]) rfl) rfl rfl rfl ?_
          obtain ⟨q22, hq23, hi24⟩ : ∃ q, bin.eqCells [.int .i64 r_e_index, .int .i64 r_e_term, .int .i64 r_e_kind, .string r_e_data] [.int .i64 0, .int .i64 0, .int .i64 0, .string (⟨#[]⟩)] = some q ∧ (q = true ↔ r_e_index = 0 ∧ r_e_term = 0 ∧ r_e_kind = 0 ∧ r_e_data = (⟨#[]⟩ : ByteArray)) := ⟨_, rfl, by simp [Bool.and_eq_true, ba_beq]⟩
          refine st_op (ev_agg rfl rfl (by rw [eqt25, show fitAgg Try.prog 25 (#[.int .i64 r_e_index, .int .i64 r_e_term, .int .i64 r_e_kind, .string r_e_data] : Array Value).toList = true from fit25 r_e_index r_e_term r_e_kind r_e_data]; rfl) hq23 rfl) rfl rfl rfl ?_
          refine st_op (ev_pickT rfl rfl) rfl rfl rfl ?_
          refine st_op (ev_assign rfl) rfl rfl rfl ?_
          try show aw _ _ _ _ _ _
          refine aw_ret ?_
          have hx25 : Ext H H15 := (Ext.trans (Ext.trans hx6 hx13) hx16)
          have hres : (Spec.mayF r_hard r_h_term r_h_vote r_e_index r_e_term r_e_kind r_e_data) = q22 := by rw [Bool.eq_iff_iff]; simp only [Spec.mayF]; (try simp_all [Spec.ba_empty]) <;> (try (intros; omega))
          exact ⟨.bool q22, rfl, by rw [hres], hx25⟩
        ·
          have hb21 := of_decide_eq_false hb21
          refine st_skip rfl rfl rfl ?_
          refine st_skip rfl rfl rfl ?_
          refine st_skip rfl rfl rfl ?_
          refine st_skip rfl rfl rfl ?_
          refine st_op (ev_pickF rfl rfl) rfl rfl rfl ?_
          refine st_op (ev_assign rfl) rfl rfl rfl ?_
          try show aw _ _ _ _ _ _
          refine aw_ret ?_
          have hx26 : Ext H H15 := (Ext.trans (Ext.trans hx6 hx13) hx16)
          have hres : (Spec.mayF r_hard r_h_term r_h_vote r_e_index r_e_term r_e_kind r_e_data) = false := by rw [Bool.eq_iff_iff]; simp only [Spec.mayF]; (try simp_all [Spec.ba_empty]) <;> (try (intros; omega))
          exact ⟨.bool false, rfl, by rw [hres], hx26⟩
      ·
        have hb20 := of_decide_eq_false hb20
        refine st_skip rfl rfl rfl ?_
        refine st_skip rfl rfl rfl ?_
        refine st_skip rfl rfl rfl ?_
        refine st_skip rfl rfl rfl ?_
        refine st_op (ev_pickF rfl rfl) rfl rfl rfl ?_
        refine st_op (ev_move rfl) rfl rfl rfl ?_
        refine st_skip rfl rfl rfl ?_
        refine st_skip rfl rfl rfl ?_
        refine st_skip rfl rfl rfl ?_
        refine st_skip rfl rfl rfl ?_
        refine st_op (ev_pickF rfl rfl) rfl rfl rfl ?_
        refine st_op (ev_assign rfl) rfl rfl rfl ?_
        try show aw _ _ _ _ _ _
        refine aw_ret ?_
        have hx27 : Ext H H15 := (Ext.trans (Ext.trans hx6 hx13) hx16)
        have hres : (Spec.mayF r_hard r_h_term r_h_vote r_e_index r_e_term r_e_kind r_e_data) = false := by rw [Bool.eq_iff_iff]; simp only [Spec.mayF]; (try simp_all [Spec.ba_empty]) <;> (try (intros; omega))
        exact ⟨.bool false, rfl, by rw [hres], hx27⟩
    ·
      have hb17m := Spec.inF_oneN hb17
      refine st_skip rfl rfl rfl ?_
      refine st_skip rfl rfl rfl ?_
      refine st_skip rfl rfl rfl ?_
      refine st_skip rfl rfl rfl ?_
      refine st_op (ev_pickF rfl rfl) rfl rfl rfl ?_
      refine st_op (ev_move rfl) rfl rfl rfl ?_
      refine st_skip rfl rfl rfl ?_
      refine st_skip rfl rfl rfl ?_
      refine st_skip rfl rfl rfl ?_
      refine st_skip rfl rfl rfl ?_
      refine st_op (ev_pickF rfl rfl) rfl rfl rfl ?_
      refine st_op (ev_move rfl) rfl rfl rfl ?_
      refine st_skip rfl rfl rfl ?_
      refine st_skip rfl rfl rfl ?_
      refine st_skip rfl rfl rfl ?_
      refine st_skip rfl rfl rfl ?_
      refine st_op (ev_pickF rfl rfl) rfl rfl rfl ?_
      refine st_op (ev_assign rfl) rfl rfl rfl ?_
      try show aw _ _ _ _ _ _
      refine aw_ret ?_
      have hx28 : Ext H H15 := (Ext.trans (Ext.trans hx6 hx13) hx16)
      have hres : (Spec.mayF r_hard r_h_term r_h_vote r_e_index r_e_term r_e_kind r_e_data) = false := by rw [Bool.eq_iff_iff]; simp only [Spec.mayF]; (try simp_all [Spec.ba_empty]) <;> (try (intros; omega))
      exact ⟨.bool false, rfl, by rw [hres], hx28⟩
  · rw [Bool.not_eq_true] at hc7; refine aw_condF hc7 rfl ?_
    try show aw _ _ _ _ _ _
    refine aw_skip ?_
    try show aw _ _ _ _ _ _
    refine aw_seq ?_
    refine aw_reg ?_
    refine st_op (ev_fieldAddr rfl fa32_1 (o' := 1) rfl) rfl rfl rfl ?_
    refine st_op (ev_load rfl (lvar_part (l := [.int .i64 r_h_term, .int .i64 r_h_vote]) many23 hB5 rfl rfl (by decide))) rfl rfl rfl ?_
    refine st_op (ev_build zero23 pl23 (parts := []) rfl (cs := [.int .i64 0, .int .i64 0]) rfl) rfl rfl rfl ?_
    obtain ⟨q29, hq30, hi31⟩ : ∃ q, bin.eqCells [.int .i64 r_h_term, .int .i64 r_h_vote] [.int .i64 0, .int .i64 0] = some q ∧ (q = true ↔ r_h_term = 0 ∧ r_h_vote = 0) := ⟨_, rfl, by simp [Bool.and_eq_true, ba_beq]⟩
    refine st_op (ev_agg rfl rfl (by rw [eqt23, show fitAgg Try.prog 23 (#[.int .i64 r_h_term, .int .i64 r_h_vote] : Array Value).toList = true from fit23 r_h_term r_h_vote]; rfl) hq30 rfl) rfl rfl rfl ?_
    refine st_op (ev_move rfl) rfl rfl rfl ?_
    refine st_bool 32 rfl (fun hb32 => ?_) (fun hb32 => ?_)
    ·
      have hb32E := hi31.1 hb32
      refine st_op (ev_fieldAddr rfl fa32_2 (o' := 3) rfl) rfl rfl rfl ?_
      refine st_op (ev_fieldAddr rfl fa25_0 (o' := 3) rfl) rfl rfl rfl ?_
      refine st_op (ev_load rfl (lvar_one one2 hB5 rfl)) rfl rfl rfl ?_
      refine st_op (ev_fieldAddr rfl fa32_2 (o' := 3) rfl) rfl rfl rfl ?_
      refine st_op (ev_fieldAddr rfl fa25_1 (o' := 4) rfl) rfl rfl rfl ?_
      refine st_op (ev_load rfl (lvar_one one2 hB5 rfl)) rfl rfl rfl ?_
      obtain ⟨b33, H34, he35, b33e, H34n_, hm37, f36⟩ := mem_lit H2 (xs := [.int .i64 r_e_index, .int .i64 r_e_term]) (m := 2) (rows := [[.int .i64 r_e_index], [.int .i64 r_e_term]]) rfl eok81 (by decide) (by decide) zf2 rfl (allLen rfl) rfl
      replace hm37 : My H2 H34 (some ⟨b33, 0, none⟩) 2 1 ([r_e_index, r_e_term].map i64c) := hm37
      refine st_op (he35 _ _ _ _ _ _ _ _ rfl) rfl rfl rfl ?_
      have hx38 : Ext H2 H34 := Ext.new (by omega) H34n_ f36
      have H34n : H2.next ≤ H34.next := hx38.1
      refine st_call rfl rfl rfl ent34 rfl rfl rfl ?_
      obtain ⟨_, H40, hs39, hs39v, hx41⟩ := wal_in_spec H34 1 (by decide) 1099511627776 (by decide) (some ⟨b33, 0, none⟩) ([r_e_index, r_e_term]) 2 (My.row hm37) (My.capF hm37 (by first | omega | (simp only [List.length_append, List.length_cons, List.length_nil, List.length_map, List.length_set, List.length_replicate, Spec.bytesOf_length]; omega) | (simp; omega))) (by first | omega | (simp only [List.length_append, List.length_cons, List.length_nil, List.length_map, List.length_set, List.length_replicate, Spec.bytesOf_length]; omega) | (simp; omega))
      rw [hs39v] at hs39; clear hs39v
      refine ⟨_, H40, hs39, ?_⟩
      have H40n : H34.next ≤ H40.next := hx41.1
      refine st_op (ev_pickT rfl rfl) rfl rfl rfl ?_
      refine st_op (ev_move rfl) rfl rfl rfl ?_
      refine st_bool 42 rfl (fun hb42 => ?_) (fun hb42 => ?_)
      ·
        have hb42m := Spec.inF_two hb42
        refine st_op (ev_fieldAddr rfl fa32_2 (o' := 3) rfl) rfl rfl rfl ?_
        refine st_op (ev_fieldAddr rfl fa25_2 (o' := 5) rfl) rfl rfl rfl ?_
        have hx44 : Ext H2 H40 := (Ext.trans hx38 hx41)
        have h43 := Ext.blk hx44 (by omega) hB5
        refine st_op (ev_load rfl (lvar_one one3 h43 rfl)) rfl rfl rfl ?_
        refine st_op (ev_int rfl rfl rfl) rfl rfl rfl ?_
        refine st_op (ev_pickT rfl rfl) rfl rfl rfl ?_
        refine st_op (ev_move rfl) rfl rfl rfl ?_
        refine st_bool 48 rfl (fun hb45 => ?_) (fun hb45 => ?_)
        ·
          have hb45 := of_decide_eq_true hb45
          refine st_op (ev_fieldAddr rfl fa32_2 (o' := 3) rfl) rfl rfl rfl ?_
          refine st_op (ev_fieldAddr rfl fa25_2 (o' := 5) rfl) rfl rfl rfl ?_
          refine st_op (ev_load rfl (lvar_one one3 h43 rfl)) rfl rfl rfl ?_
          refine st_op (ev_int rfl rfl rfl) rfl rfl rfl ?_
          refine st_op (ev_pickT rfl rfl) rfl rfl rfl ?_
          refine st_op (ev_move rfl) rfl rfl rfl ?_
          refine st_bool 54 rfl (fun hb46 => ?_) (fun hb46 => ?_)
          ·
            have hb46 := of_decide_eq_true hb46
            refine st_op (ev_fieldAddr rfl fa32_2 (o' := 3) rfl) rfl rfl rfl ?_
            refine st_op (ev_fieldAddr rfl fa25_3 (o' := 6) rfl) rfl rfl rfl ?_
            refine st_op (ev_load rfl (lvar_one one9 h43 rfl)) rfl rfl rfl ?_
            refine st_op (ev_lenStr rfl Try.underlying9) rfl rfl rfl ?_
            refine st_op (ev_int rfl rfl rfl) rfl rfl rfl ?_
            refine st_op (ev_pickT rfl rfl) rfl rfl rfl ?_
            refine st_op (ev_assign rfl) rfl rfl rfl ?_
            try show aw _ _ _ _ _ _
            refine aw_ret ?_
            have hx47 : Ext H H40 := (Ext.trans (Ext.trans hx6 hx38) hx41)
            have hres : (Spec.mayF r_hard r_h_term r_h_vote r_e_index r_e_term r_e_kind r_e_data) = (decide (((r_e_data).size : Int) ≤ 2500)) := by rw [Bool.eq_iff_iff]; simp only [Spec.mayF]; (try simp_all [Spec.ba_empty]) <;> (try (intros; omega))
            exact ⟨.bool (decide (((r_e_data).size : Int) ≤ 2500)), rfl, by rw [hres], hx47⟩
          ·
            have hb46 := of_decide_eq_false hb46
            refine st_skip rfl rfl rfl ?_
            refine st_skip rfl rfl rfl ?_
            refine st_skip rfl rfl rfl ?_
            refine st_skip rfl rfl rfl ?_
            refine st_skip rfl rfl rfl ?_
            refine st_op (ev_pickF rfl rfl) rfl rfl rfl ?_
            refine st_op (ev_assign rfl) rfl rfl rfl ?_
            try show aw _ _ _ _ _ _
            refine aw_ret ?_
            have hx48 : Ext H H40 := (Ext.trans (Ext.trans hx6 hx38) hx41)
            have hres : (Spec.mayF r_hard r_h_term r_h_vote r_e_index r_e_term r_e_kind r_e_data) = false := by rw [Bool.eq_iff_iff]; simp only [Spec.mayF]; (try simp_all [Spec.ba_empty]) <;> (try (intros; omega))
            exact ⟨.bool false, rfl, by rw [hres], hx48⟩
        ·
          have hb45 := of_decide_eq_false hb45
          refine st_skip rfl rfl rfl ?_
          refine st_skip rfl rfl rfl ?_
          refine st_skip rfl rfl rfl ?_
          refine st_skip rfl rfl rfl ?_
          refine st_op (ev_pickF rfl rfl) rfl rfl rfl ?_
          refine st_op (ev_move rfl) rfl rfl rfl ?_
          refine st_skip rfl rfl rfl ?_
          refine st_skip rfl rfl rfl ?_
          refine st_skip rfl rfl rfl ?_
          refine st_skip rfl rfl rfl ?_
          refine st_skip rfl rfl rfl ?_
          refine st_op (ev_pickF rfl rfl) rfl rfl rfl ?_
          refine st_op (ev_assign rfl) rfl rfl rfl ?_
          try show aw _ _ _ _ _ _
          refine aw_ret ?_
          have hx49 : Ext H H40 := (Ext.trans (Ext.trans hx6 hx38) hx41)
          have hres : (Spec.mayF r_hard r_h_term r_h_vote r_e_index r_e_term r_e_kind r_e_data) = false := by rw [Bool.eq_iff_iff]; simp only [Spec.mayF]; (try simp_all [Spec.ba_empty]) <;> (try (intros; omega))
          exact ⟨.bool false, rfl, by rw [hres], hx49⟩
      ·
        have hb42m := Spec.inF_twoN hb42
        refine st_skip rfl rfl rfl ?_
        refine st_skip rfl rfl rfl ?_
        refine st_skip rfl rfl rfl ?_
        refine st_skip rfl rfl rfl ?_
        refine st_op (ev_pickF rfl rfl) rfl rfl rfl ?_
        refine st_op (ev_move rfl) rfl rfl rfl ?_
        refine st_skip rfl rfl rfl ?_
        refine st_skip rfl rfl rfl ?_
        refine st_skip rfl rfl rfl ?_
        refine st_skip rfl rfl rfl ?_
        refine st_op (ev_pickF rfl rfl) rfl rfl rfl ?_
        refine st_op (ev_move rfl) rfl rfl rfl ?_
        refine st_skip rfl rfl rfl ?_
        refine st_skip rfl rfl rfl ?_
        refine st_skip rfl rfl rfl ?_
        refine st_skip rfl rfl rfl ?_
        refine st_skip rfl rfl rfl ?_
        refine st_op (ev_pickF rfl rfl) rfl rfl rfl ?_
        refine st_op (ev_assign rfl) rfl rfl rfl ?_
        try show aw _ _ _ _ _ _
        refine aw_ret ?_
        have hx50 : Ext H H40 := (Ext.trans (Ext.trans hx6 hx38) hx41)
        have hres : (Spec.mayF r_hard r_h_term r_h_vote r_e_index r_e_term r_e_kind r_e_data) = false := by rw [Bool.eq_iff_iff]; simp only [Spec.mayF]; (try simp_all [Spec.ba_empty]) <;> (try (intros; omega))
        exact ⟨.bool false, rfl, by rw [hres], hx50⟩
    ·
      have hb32E : ¬ (r_h_term = 0 ∧ r_h_vote = 0) := fun e => absurd (hi31.2 e) (by rw [hb32]; decide)
      refine st_skip rfl rfl rfl ?_
      refine st_skip rfl rfl rfl ?_
      refine st_skip rfl rfl rfl ?_
      refine st_skip rfl rfl rfl ?_
      refine st_skip rfl rfl rfl ?_
      refine st_skip rfl rfl rfl ?_
      refine st_skip rfl rfl rfl ?_
      refine st_skip rfl rfl rfl ?_
      refine st_op (ev_pickF rfl rfl) rfl rfl rfl ?_
      refine st_op (ev_move rfl) rfl rfl rfl ?_
      refine st_skip rfl rfl rfl ?_
      refine st_skip rfl rfl rfl ?_
      refine st_skip rfl rfl rfl ?_
      refine st_skip rfl rfl rfl ?_
      refine st_op (ev_pickF rfl rfl) rfl rfl rfl ?_
      refine st_op (ev_move rfl) rfl rfl rfl ?_
      refine st_skip rfl rfl rfl ?_
      refine st_skip rfl rfl rfl ?_
      refine st_skip rfl rfl rfl ?_
      refine st_skip rfl rfl rfl ?_
      refine st_op (ev_pickF rfl rfl) rfl rfl rfl ?_
      refine st_op (ev_move rfl) rfl rfl rfl ?_
      refine st_skip rfl rfl rfl ?_
      refine st_skip rfl rfl rfl ?_
      refine st_skip rfl rfl rfl ?_
      refine st_skip rfl rfl rfl ?_
      refine st_skip rfl rfl rfl ?_
      refine st_op (ev_pickF rfl rfl) rfl rfl rfl ?_
      refine st_op (ev_assign rfl) rfl rfl rfl ?_
      try show aw _ _ _ _ _ _
      refine aw_ret ?_
      have hres : (Spec.mayF r_hard r_h_term r_h_vote r_e_index r_e_term r_e_kind r_e_data) = false := by rw [Bool.eq_iff_iff]; simp only [Spec.mayF]; (try simp_all [Spec.ba_empty]) <;> (try (intros; omega))
      exact ⟨.bool false, rfl, by rw [hres], hx6⟩
theorem num_GetText_spec (H : Heap) (bA : Option Addr) (b : List Int) (bc : Nat) (hb : Row H bA bc 1 (b.map u8c)) (cb : b.length ≤ bc) (lb : b.length ≤ 1099511627776) (bb : Spec.Bytes b) : ∃ v H', Spec Try.prog 51 [.slice bA b.length bc] H v H' ∧ ((v = .tuple #[.string ((Spec.getText b).1), .int .i64 ((Spec.getText b).2.1), .int .i64 ((Spec.getText b).2.2)]) ∧ ((Spec.getText b).2.2 = 0 → (Spec.getText b).1.size ≤ 1048576 ∧ 1 ≤ (Spec.getText b).2.1 ∧ (Spec.getText b).2.1 ≤ b.length) ∧ (0 ≤ (Spec.getText b).2.2 ∧ (Spec.getText b).2.2 ≤ 2) ∧ ((Spec.getText b).2.2 ≠ 0 → (Spec.getText b).2.1 = 0) ∧ ((Spec.getText b).1.size ≤ 1048576) ∧ (0 ≤ (Spec.getText b).2.1 ∧ (Spec.getText b).2.1 ≤ b.length) ∧ (Ext H H')) := by
  refine spec_go1 E0_ok 42 (f := 51) Try.func51 rfl rfl rfl ?_
  refine aw_seq ?_
  refine aw_reg ?_
  refine st_op (ev_assign rfl) rfl rfl rfl ?_
  refine st_op (ev_assign rfl) rfl rfl rfl ?_
  refine st_op (ev_assign rfl) rfl rfl rfl ?_
  try show aw _ _ _ _ _ _
  refine aw_seq ?_
  refine aw_reg ?_
  refine st_op (ev_move rfl) rfl rfl rfl ?_
  refine st_call rfl rfl rfl ent50 rfl rfl rfl ?_
  obtain ⟨_, H2, hs1, hs1v, hq4, hq5, hq6, hx3⟩ := num_Get_spec H bA b bc hb cb (by first | omega | (simp only [List.length_append, List.length_cons, List.length_nil, List.length_map, List.length_set, List.length_replicate, Spec.bytesOf_length]; omega) | (simp; omega)) (by first | assumption | exact Spec.Bytes.nil | exact Spec.bytes_of _ | (repeat' first | assumption | exact Spec.Bytes.nil | exact Spec.bytes_of _ | exact Spec.enc_bytes _ | exact Spec.four_bytes _ | exact Spec.sealF_bytes (by assumption) | apply Spec.Bytes.append | apply Spec.Bytes.cons (by omega) | apply Spec.Bytes.take | apply Spec.Bytes.drop))
  rw [hs1v] at hs1; clear hs1v
  generalize hR8 : (Spec.numGet 0 0 b) = r7 at hs1 hq4 hq5 hq6
  obtain ⟨z9, z10, z11⟩ := r7
  dsimp only at hs1 hq4 hq5 hq6
  refine ⟨_, H2, hs1, ?_⟩
  have H2n : H.next ≤ H2.next := hx3.1
  refine st_op (ev_move rfl) rfl rfl rfl ?_
  refine st_op (ev_extract rfl rfl) rfl rfl rfl ?_
  refine st_op (ev_extract rfl rfl) rfl rfl rfl ?_
  refine st_op (ev_extract rfl rfl) rfl rfl rfl ?_
  refine st_op (ev_assign rfl) rfl rfl rfl ?_
  refine st_op (ev_assign rfl) rfl rfl rfl ?_
  refine st_op (ev_assign rfl) rfl rfl rfl ?_
  try show aw _ _ _ _ _ _
  refine aw_seq ?_
  refine aw_block ?_
  refine aw_seq ?_
  refine aw_reg ?_
  refine st_op (ev_move rfl) rfl rfl rfl ?_
  refine st_op (ev_int rfl rfl rfl) rfl rfl rfl ?_
  refine st_op (ev_assign rfl) rfl rfl rfl ?_
  try show aw _ _ _ _ _ _
  by_cases hc12 : (z11 != 0) = true
  · refine aw_condT hc12 rfl ?_
    try show aw _ _ _ _ _ _
    have hc12 : ¬ (z11 = 0) := by simpa using hc12
    refine aw_seq ?_
    refine aw_reg ?_
    refine st_op (ev_move rfl) rfl rfl rfl ?_
    refine st_op (ev_assign rfl) rfl rfl rfl ?_
    refine st_op (ev_assign rfl) rfl rfl rfl ?_
    refine st_op (ev_assign rfl) rfl rfl rfl ?_
    try show aw _ _ _ _ _ _
    refine aw_ret ?_
    have hres : (Spec.getText b) = ((⟨#[]⟩ : ByteArray), 0, z11) := by unfold Spec.getText; (try simp only [hR8]); (repeat (first | rfl | rw [if_pos (by first | omega | (simp_all; done) | (simp_all; omega))] | rw [if_neg (by first | omega | (simp_all; done) | (simp_all; omega))]))
    exact ⟨.tuple #[.string (⟨#[]⟩), .int .i64 0, .int .i64 z11], rfl, by rw [hres], (by rw [hres]; first | omega | (refine ⟨?_, ?_, ?_⟩ <;> simp [strOfNums_size] <;> omega) | (simp [strOfNums_size]; omega) | (intro h; simp at h; done) | (simp; done) | (refine ⟨?_, ?_⟩ <;> (simp; try omega)) | (intro _; rfl) | (show (0 : Nat) ≤ _; omega)), (by rw [hres]; first | omega | (refine ⟨?_, ?_, ?_⟩ <;> simp [strOfNums_size] <;> omega) | (simp [strOfNums_size]; omega) | (intro h; simp at h; done) | (simp; done) | (refine ⟨?_, ?_⟩ <;> (simp; try omega)) | (intro _; rfl) | (show (0 : Nat) ≤ _; omega)), (by rw [hres]; first | omega | (refine ⟨?_, ?_, ?_⟩ <;> simp [strOfNums_size] <;> omega) | (simp [strOfNums_size]; omega) | (intro h; simp at h; done) | (simp; done) | (refine ⟨?_, ?_⟩ <;> (simp; try omega)) | (intro _; rfl) | (show (0 : Nat) ≤ _; omega)), (by rw [hres]; first | omega | (refine ⟨?_, ?_, ?_⟩ <;> simp [strOfNums_size] <;> omega) | (simp [strOfNums_size]; omega) | (intro h; simp at h; done) | (simp; done) | (refine ⟨?_, ?_⟩ <;> (simp; try omega)) | (intro _; rfl) | (show (0 : Nat) ≤ _; omega)), (by rw [hres]; first | omega | (refine ⟨?_, ?_, ?_⟩ <;> simp [strOfNums_size] <;> omega) | (simp [strOfNums_size]; omega) | (intro h; simp at h; done) | (simp; done) | (refine ⟨?_, ?_⟩ <;> (simp; try omega)) | (intro _; rfl) | (show (0 : Nat) ≤ _; omega)), hx3⟩
  · rw [Bool.not_eq_true] at hc12; refine aw_condF hc12 rfl ?_
    try show aw _ _ _ _ _ _
    have hc12 : (z11 = 0) := by simpa using hc12
    refine aw_seq ?_
    refine aw_reg ?_
    refine st_op (ev_move rfl) rfl rfl rfl ?_
    refine st_op (ev_int rfl rfl rfl) rfl rfl rfl ?_
    refine st_op (ev_move rfl) rfl rfl rfl ?_
    refine st_bool 21 rfl (fun hb13 => ?_) (fun hb13 => ?_)
    ·
      have hb13 := of_decide_eq_true hb13
      refine st_skip rfl rfl rfl ?_
      refine st_skip rfl rfl rfl ?_
      refine st_op (ev_pickT rfl rfl) rfl rfl rfl ?_
      refine st_op (ev_assign rfl) rfl rfl rfl ?_
      try show aw _ _ _ _ _ _
      refine aw_cond (t := true) rfl ?_
      try show aw _ _ _ _ _ _
      refine aw_seq ?_
      refine aw_reg ?_
      refine st_op (ev_assign rfl) rfl rfl rfl ?_
      refine st_op (ev_assign rfl) rfl rfl rfl ?_
      refine st_op (ev_assign rfl) rfl rfl rfl ?_
      try show aw _ _ _ _ _ _
      refine aw_ret ?_
      have hres : (Spec.getText b) = ((⟨#[]⟩ : ByteArray), 0, 1) := by unfold Spec.getText; (try simp only [hR8]); (repeat (first | rfl | rw [if_pos (by first | omega | (simp_all; done) | (simp_all; omega))] | rw [if_neg (by first | omega | (simp_all; done) | (simp_all; omega))]))
      exact ⟨.tuple #[.string (⟨#[]⟩), .int .i64 0, .int .i64 1], rfl, by rw [hres], (by rw [hres]; first | omega | (refine ⟨?_, ?_, ?_⟩ <;> simp [strOfNums_size] <;> omega) | (simp [strOfNums_size]; omega) | (intro h; simp at h; done) | (simp; done) | (refine ⟨?_, ?_⟩ <;> (simp; try omega)) | (intro _; rfl) | (show (0 : Nat) ≤ _; omega)), (by rw [hres]; first | omega | (refine ⟨?_, ?_, ?_⟩ <;> simp [strOfNums_size] <;> omega) | (simp [strOfNums_size]; omega) | (intro h; simp at h; done) | (simp; done) | (refine ⟨?_, ?_⟩ <;> (simp; try omega)) | (intro _; rfl) | (show (0 : Nat) ≤ _; omega)), (by rw [hres]; first | omega | (refine ⟨?_, ?_, ?_⟩ <;> simp [strOfNums_size] <;> omega) | (simp [strOfNums_size]; omega) | (intro h; simp at h; done) | (simp; done) | (refine ⟨?_, ?_⟩ <;> (simp; try omega)) | (intro _; rfl) | (show (0 : Nat) ≤ _; omega)), (by rw [hres]; first | omega | (refine ⟨?_, ?_, ?_⟩ <;> simp [strOfNums_size] <;> omega) | (simp [strOfNums_size]; omega) | (intro h; simp at h; done) | (simp; done) | (refine ⟨?_, ?_⟩ <;> (simp; try omega)) | (intro _; rfl) | (show (0 : Nat) ≤ _; omega)), (by rw [hres]; first | omega | (refine ⟨?_, ?_, ?_⟩ <;> simp [strOfNums_size] <;> omega) | (simp [strOfNums_size]; omega) | (intro h; simp at h; done) | (simp; done) | (refine ⟨?_, ?_⟩ <;> (simp; try omega)) | (intro _; rfl) | (show (0 : Nat) ≤ _; omega)), hx3⟩
    ·
      have hb13 := of_decide_eq_false hb13
      refine st_op (ev_move rfl) rfl rfl rfl ?_
      refine st_op (ev_int rfl rfl rfl) rfl rfl rfl ?_
      refine st_op (ev_pickF rfl rfl) rfl rfl rfl ?_
      refine st_op (ev_assign rfl) rfl rfl rfl ?_
      try show aw _ _ _ _ _ _
      by_cases hc14 : (decide (z9 > 1048576)) = true
      · refine aw_condT hc14 rfl ?_
        try show aw _ _ _ _ _ _
        have hc14 := of_decide_eq_true hc14
        refine aw_seq ?_
        refine aw_reg ?_
        refine st_op (ev_assign rfl) rfl rfl rfl ?_
        refine st_op (ev_assign rfl) rfl rfl rfl ?_
        refine st_op (ev_assign rfl) rfl rfl rfl ?_
        try show aw _ _ _ _ _ _
        refine aw_ret ?_
        have hres : (Spec.getText b) = ((⟨#[]⟩ : ByteArray), 0, 1) := by unfold Spec.getText; (try simp only [hR8]); (repeat (first | rfl | rw [if_pos (by first | omega | (simp_all; done) | (simp_all; omega))] | rw [if_neg (by first | omega | (simp_all; done) | (simp_all; omega))]))
        exact ⟨.tuple #[.string (⟨#[]⟩), .int .i64 0, .int .i64 1], rfl, by rw [hres], (by rw [hres]; first | omega | (refine ⟨?_, ?_, ?_⟩ <;> simp [strOfNums_size] <;> omega) | (simp [strOfNums_size]; omega) | (intro h; simp at h; done) | (simp; done) | (refine ⟨?_, ?_⟩ <;> (simp; try omega)) | (intro _; rfl) | (show (0 : Nat) ≤ _; omega)), (by rw [hres]; first | omega | (refine ⟨?_, ?_, ?_⟩ <;> simp [strOfNums_size] <;> omega) | (simp [strOfNums_size]; omega) | (intro h; simp at h; done) | (simp; done) | (refine ⟨?_, ?_⟩ <;> (simp; try omega)) | (intro _; rfl) | (show (0 : Nat) ≤ _; omega)), (by rw [hres]; first | omega | (refine ⟨?_, ?_, ?_⟩ <;> simp [strOfNums_size] <;> omega) | (simp [strOfNums_size]; omega) | (intro h; simp at h; done) | (simp; done) | (refine ⟨?_, ?_⟩ <;> (simp; try omega)) | (intro _; rfl) | (show (0 : Nat) ≤ _; omega)), (by rw [hres]; first | omega | (refine ⟨?_, ?_, ?_⟩ <;> simp [strOfNums_size] <;> omega) | (simp [strOfNums_size]; omega) | (intro h; simp at h; done) | (simp; done) | (refine ⟨?_, ?_⟩ <;> (simp; try omega)) | (intro _; rfl) | (show (0 : Nat) ≤ _; omega)), (by rw [hres]; first | omega | (refine ⟨?_, ?_, ?_⟩ <;> simp [strOfNums_size] <;> omega) | (simp [strOfNums_size]; omega) | (intro h; simp at h; done) | (simp; done) | (refine ⟨?_, ?_⟩ <;> (simp; try omega)) | (intro _; rfl) | (show (0 : Nat) ≤ _; omega)), hx3⟩
      · rw [Bool.not_eq_true] at hc14; refine aw_condF hc14 rfl ?_
        try show aw _ _ _ _ _ _
        have hc14 := of_decide_eq_false hc14
        refine aw_seq ?_
        refine aw_reg ?_
        refine st_op (ev_move rfl) rfl rfl rfl ?_
        refine st_op (ev_move rfl) rfl rfl rfl ?_
        refine st_op (ev_lenSl rfl Try.underlying30) rfl rfl rfl ?_
        refine st_op (ev_move rfl) rfl rfl rfl ?_
        refine st_op (ev_int64 (c := (b.length : Int) - z10) rfl rfl rfl (by omega) (by omega)) rfl rfl rfl ?_
        refine st_op (ev_int rfl rfl rfl) rfl rfl rfl ?_
        refine st_op (ev_assign rfl) rfl rfl rfl ?_
        try show aw _ _ _ _ _ _
        by_cases hc15 : (decide (z9 > (b.length : Int) - z10)) = true
        · refine aw_condT hc15 rfl ?_
          try show aw _ _ _ _ _ _
          have hc15 := of_decide_eq_true hc15
          refine aw_seq ?_
          refine aw_reg ?_
          refine st_op (ev_assign rfl) rfl rfl rfl ?_
          refine st_op (ev_assign rfl) rfl rfl rfl ?_
          refine st_op (ev_assign rfl) rfl rfl rfl ?_
          try show aw _ _ _ _ _ _
          refine aw_ret ?_
          have hres : (Spec.getText b) = ((⟨#[]⟩ : ByteArray), 0, 2) := by unfold Spec.getText; (try simp only [hR8]); (repeat (first | rfl | rw [if_pos (by first | omega | (simp_all; done) | (simp_all; omega))] | rw [if_neg (by first | omega | (simp_all; done) | (simp_all; omega))]))
          exact ⟨.tuple #[.string (⟨#[]⟩), .int .i64 0, .int .i64 2], rfl, by rw [hres], (by rw [hres]; first | omega | (refine ⟨?_, ?_, ?_⟩ <;> simp [strOfNums_size] <;> omega) | (simp [strOfNums_size]; omega) | (intro h; simp at h; done) | (simp; done) | (refine ⟨?_, ?_⟩ <;> (simp; try omega)) | (intro _; rfl) | (show (0 : Nat) ≤ _; omega)), (by rw [hres]; first | omega | (refine ⟨?_, ?_, ?_⟩ <;> simp [strOfNums_size] <;> omega) | (simp [strOfNums_size]; omega) | (intro h; simp at h; done) | (simp; done) | (refine ⟨?_, ?_⟩ <;> (simp; try omega)) | (intro _; rfl) | (show (0 : Nat) ≤ _; omega)), (by rw [hres]; first | omega | (refine ⟨?_, ?_, ?_⟩ <;> simp [strOfNums_size] <;> omega) | (simp [strOfNums_size]; omega) | (intro h; simp at h; done) | (simp; done) | (refine ⟨?_, ?_⟩ <;> (simp; try omega)) | (intro _; rfl) | (show (0 : Nat) ≤ _; omega)), (by rw [hres]; first | omega | (refine ⟨?_, ?_, ?_⟩ <;> simp [strOfNums_size] <;> omega) | (simp [strOfNums_size]; omega) | (intro h; simp at h; done) | (simp; done) | (refine ⟨?_, ?_⟩ <;> (simp; try omega)) | (intro _; rfl) | (show (0 : Nat) ≤ _; omega)), (by rw [hres]; first | omega | (refine ⟨?_, ?_, ?_⟩ <;> simp [strOfNums_size] <;> omega) | (simp [strOfNums_size]; omega) | (intro h; simp at h; done) | (simp; done) | (refine ⟨?_, ?_⟩ <;> (simp; try omega)) | (intro _; rfl) | (show (0 : Nat) ≤ _; omega)), hx3⟩
        · rw [Bool.not_eq_true] at hc15; refine aw_condF hc15 rfl ?_
          try show aw _ _ _ _ _ _
          have hc15 := of_decide_eq_false hc15
          refine aw_skip ?_
          try show aw _ _ _ _ _ _
          refine aw_seq ?_
          refine aw_reg ?_
          refine st_op (ev_move rfl) rfl rfl rfl ?_
          refine st_op (ev_move rfl) rfl rfl rfl ?_
          refine st_op (ev_move rfl) rfl rfl rfl ?_
          refine st_op (ev_move rfl) rfl rfl rfl ?_
          refine st_op (ev_int64 (c := z10 + z9) rfl rfl rfl (by omega) (by omega)) rfl rfl rfl ?_
          have h24 := Row.ext hb hx3
          obtain ⟨A16, c17, L18, hL19, hl20, hs21, hr22, hc23⟩ := sliceA_typed u8c el30 (by decide) h24 cb (lo := some (.int .i64 z10)) (hi := some (.int .i64 (z10 + z9))) (l := (z10).toNat) (h := ((z10 + z9)).toNat) (by rw [Option.isSome_some, if_pos rfl]; exact bound_int (by first | omega | (simp only [List.length_append, List.length_cons, List.length_nil, List.length_map, List.length_set, List.length_replicate, Spec.bytesOf_length]; omega) | (simp; omega)) (by first | omega | (simp only [List.length_append, List.length_cons, List.length_nil, List.length_map, List.length_set, List.length_replicate, Spec.bytesOf_length]; omega) | (simp; omega)) (by first | rfl | omega)) (bound_int (by first | omega | (simp only [List.length_append, List.length_cons, List.length_nil, List.length_map, List.length_set, List.length_replicate, Spec.bytesOf_length]; omega) | (simp; omega)) (by first | omega | (simp only [List.length_append, List.length_cons, List.length_nil, List.length_map, List.length_set, List.length_replicate, Spec.bytesOf_length]; omega) | (simp; omega)) (by first | rfl | omega)) (by first | omega | (simp only [List.length_append, List.length_cons, List.length_nil, List.length_map, List.length_set, List.length_replicate, Spec.bytesOf_length]; omega) | (simp; omega)) (by first | omega | (simp only [List.length_append, List.length_cons, List.length_nil, List.length_map, List.length_set, List.length_replicate, Spec.bytesOf_length]; omega) | (simp; omega))
          refine st_op (ev_slice rfl rfl rfl rfl hs21) rfl rfl rfl ?_
          have hL19b : Spec.Bytes L18 := by rw [hL19]; exact Spec.Bytes.take (Spec.Bytes.drop (by first | assumption | exact Spec.Bytes.nil | exact Spec.bytes_of _ | (repeat' first | assumption | exact Spec.Bytes.nil | exact Spec.bytes_of _ | exact Spec.enc_bytes _ | exact Spec.four_bytes _ | exact Spec.sealF_bytes (by assumption) | apply Spec.Bytes.append | apply Spec.Bytes.cons (by omega) | apply Spec.Bytes.take | apply Spec.Bytes.drop)) _) _
          refine st_op (ev_strOf (l := L18) (A := A16) (c := c17) slu8_30 isstr_9 rfl (fun h => sliceA_none el30 (h ▸ hs21)) hr22) rfl rfl rfl ?_
          refine st_op (ev_move rfl) rfl rfl rfl ?_
          refine st_op (ev_move rfl) rfl rfl rfl ?_
          refine st_op (ev_int64 (c := z10 + z9) rfl rfl rfl (by omega) (by omega)) rfl rfl rfl ?_
          refine st_op (ev_assign rfl) rfl rfl rfl ?_
          refine st_op (ev_assign rfl) rfl rfl rfl ?_
          refine st_op (ev_assign rfl) rfl rfl rfl ?_
          try show aw _ _ _ _ _ _
          refine aw_ret ?_
          have hres : (Spec.getText b) = ((strOfNums L18), z10 + z9, 0) := by unfold Spec.getText; (try simp only [hR8]); (repeat (first | rfl | rw [if_pos (by first | omega | (simp_all; done) | (simp_all; omega))] | rw [if_neg (by first | omega | (simp_all; done) | (simp_all; omega))])); rw [hL19, show (z10 + z9).toNat - z10.toNat = z9.toNat by omega]
          exact ⟨.tuple #[.string (strOfNums L18), .int .i64 (z10 + z9), .int .i64 0], rfl, by rw [hres], (by rw [hres]; first | omega | (refine ⟨?_, ?_, ?_⟩ <;> simp [strOfNums_size] <;> omega) | (simp [strOfNums_size]; omega) | (intro h; simp at h; done) | (simp; done) | (refine ⟨?_, ?_⟩ <;> (simp; try omega)) | (intro _; rfl) | (show (0 : Nat) ≤ _; omega)), (by rw [hres]; first | omega | (refine ⟨?_, ?_, ?_⟩ <;> simp [strOfNums_size] <;> omega) | (simp [strOfNums_size]; omega) | (intro h; simp at h; done) | (simp; done) | (refine ⟨?_, ?_⟩ <;> (simp; try omega)) | (intro _; rfl) | (show (0 : Nat) ≤ _; omega)), (by rw [hres]; first | omega | (refine ⟨?_, ?_, ?_⟩ <;> simp [strOfNums_size] <;> omega) | (simp [strOfNums_size]; omega) | (intro h; simp at h; done) | (simp; done) | (refine ⟨?_, ?_⟩ <;> (simp; try omega)) | (intro _; rfl) | (show (0 : Nat) ≤ _; omega)), (by rw [hres]; first | omega | (refine ⟨?_, ?_, ?_⟩ <;> simp [strOfNums_size] <;> omega) | (simp [strOfNums_size]; omega) | (intro h; simp at h; done) | (simp; done) | (refine ⟨?_, ?_⟩ <;> (simp; try omega)) | (intro _; rfl) | (show (0 : Nat) ≤ _; omega)), (by rw [hres]; first | omega | (refine ⟨?_, ?_, ?_⟩ <;> simp [strOfNums_size] <;> omega) | (simp [strOfNums_size]; omega) | (intro h; simp at h; done) | (simp; done) | (refine ⟨?_, ?_⟩ <;> (simp; try omega)) | (intro _; rfl) | (show (0 : Nat) ≤ _; omega)), hx3⟩
theorem wal_rtext_spec (H : Heap) (lA : Option Addr) (l : List Int) (lc : Nat) (hl : Row H lA lc 1 (l.map u8c)) (cl : l.length ≤ lc) (ll : l.length ≤ 1099511627776) (bl : Spec.Bytes l) (bad : Bool) (p : Nat) (hp : p < H.next) (Bp : H.blk p = some ⟨[.slice lA l.length lc, .bool bad], 2, false, false⟩) : ∃ v H', Spec Try.prog 40 [.pointer (some ⟨p, 0, none⟩)] H v H' ∧ (∃ rA1 rc1, (v = .string ((Spec.rdT l bad).1)) ∧ (Row H' rA1 rc1 1 (((Spec.rdT l bad).2.1).map u8c)) ∧ (((Spec.rdT l bad).2.1).length ≤ rc1) ∧ (H'.blk p = some ⟨[.slice rA1 (((Spec.rdT l bad).2.1).length) rc1, .bool ((Spec.rdT l bad).2.2)], 2, false, false⟩) ∧ (Spec.Bytes (Spec.rdT l bad).2.1) ∧ ((Spec.rdT l bad).2.1.length ≤ l.length) ∧ ((Spec.rdT l bad).1.size ≤ 1048576) ∧ (Fr (fun q => q = p) H H')) := by
  refine spec_go1 E0_ok 41 (f := 40) Try.func40 rfl rfl rfl ?_
  refine aw_seq ?_
  refine aw_reg ?_
  refine st_op (ev_assign rfl) rfl rfl rfl ?_
  try show aw _ _ _ _ _ _
  refine aw_seq ?_
  refine aw_reg ?_
  refine st_op (ev_move rfl) rfl rfl rfl ?_
  refine st_op (ev_nilCheck rfl) rfl rfl rfl ?_
  refine st_op (ev_fieldAddr rfl fa78_0 (o' := 0) rfl) rfl rfl rfl ?_
  refine st_op (ev_load rfl (lvar_one one30 Bp rfl)) rfl rfl rfl ?_
  refine st_call rfl rfl rfl ent51 rfl rfl rfl ?_
  obtain ⟨_, H2, hs1, hs1v, hq4, hq5, hq6, hq7, hq8, hx3⟩ := num_GetText_spec H lA l lc hl cl (by first | omega | (simp only [List.length_append, List.length_cons, List.length_nil, List.length_map, List.length_set, List.length_replicate, Spec.bytesOf_length]; omega) | (simp; omega)) (by first | assumption | exact Spec.Bytes.nil | exact Spec.bytes_of _ | (repeat' first | assumption | exact Spec.Bytes.nil | exact Spec.bytes_of _ | exact Spec.enc_bytes _ | exact Spec.four_bytes _ | exact Spec.sealF_bytes (by assumption) | apply Spec.Bytes.append | apply Spec.Bytes.cons (by omega) | apply Spec.Bytes.take | apply Spec.Bytes.drop))
  rw [hs1v] at hs1; clear hs1v
  generalize hR10 : (Spec.getText l) = r9 at hs1 hq4 hq5 hq6 hq7 hq8
  obtain ⟨z11, z12, z13⟩ := r9
  dsimp only at hs1 hq4 hq5 hq6 hq7 hq8
  refine ⟨_, H2, hs1, ?_⟩
  have H2n : H.next ≤ H2.next := hx3.1
  refine st_op (ev_move rfl) rfl rfl rfl ?_
  refine st_op (ev_extract rfl rfl) rfl rfl rfl ?_
  refine st_op (ev_extract rfl rfl) rfl rfl rfl ?_
  refine st_op (ev_extract rfl rfl) rfl rfl rfl ?_
  refine st_op (ev_assign rfl) rfl rfl rfl ?_
  refine st_op (ev_assign rfl) rfl rfl rfl ?_
  refine st_op (ev_assign rfl) rfl rfl rfl ?_
  try show aw _ _ _ _ _ _
  refine aw_seq ?_
  refine aw_seq ?_
  refine aw_reg ?_
  refine st_op (ev_move rfl) rfl rfl rfl ?_
  refine st_op (ev_move rfl) rfl rfl rfl ?_
  refine st_op (ev_nilCheck rfl) rfl rfl rfl ?_
  refine st_op (ev_fieldAddr rfl fa78_1 (o' := 1) rfl) rfl rfl rfl ?_
  have h14 := Ext.blk hx3 (by omega) Bp
  refine st_op (ev_load rfl (lvar_one one4 h14 rfl)) rfl rfl rfl ?_
  refine st_op (ev_move rfl) rfl rfl rfl ?_
  refine st_bool 20 rfl (fun hb15 => ?_) (fun hb15 => ?_)
  ·
    refine st_skip rfl rfl rfl ?_
    refine st_skip rfl rfl rfl ?_
    refine st_op (ev_pickT rfl rfl) rfl rfl rfl ?_
    refine st_op (ev_nilCheck rfl) rfl rfl rfl ?_
    refine st_op (ev_fieldAddr rfl fa78_1 (o' := 1) rfl) rfl rfl rfl ?_
    obtain ⟨H16, he17, H16n_, hB18, f19⟩ := mem_store (v := .bool true) (o := 1) (cs' := [.slice lA l.length lc, .bool true]) 1 rfl rfl size4 h14 rfl rfl rfl
    refine st_op0 (he17 _ _ _ _ _ _ _ _ _ rfl rfl) rfl rfl ?_
    have hf20 : Fr (fun q => q = p) H2 H16 := Fr.write H16n_ f19
    have H16n : H2.next ≤ H16.next := hf20.1
    try show aw _ _ _ _ _ _
    refine aw_seq ?_
    refine aw_reg ?_
    refine st_op (ev_move rfl) rfl rfl rfl ?_
    refine st_op (ev_nilCheck rfl) rfl rfl rfl ?_
    refine st_op (ev_fieldAddr rfl fa78_1 (o' := 1) rfl) rfl rfl rfl ?_
    refine st_op (ev_load rfl (lvar_one one4 hB18 rfl)) rfl rfl rfl ?_
    refine st_op (ev_not rfl) rfl rfl rfl ?_
    try show aw _ _ _ _ _ _
    refine aw_cond (t := false) rfl ?_
    try show aw _ _ _ _ _ _
    refine aw_skip ?_
    try show aw _ _ _ _ _ _
    refine aw_seq ?_
    refine aw_reg ?_
    refine st_op (ev_move rfl) rfl rfl rfl ?_
    refine st_op (ev_assign rfl) rfl rfl rfl ?_
    try show aw _ _ _ _ _ _
    refine aw_ret ?_
    have h21 := Row.ext hl hx3
    have h22 := Row.fr h21 hf20 (fun q hq e => ⟨_, e ▸ h14, show (2 : Nat) ≠ 1 by decide⟩)
    have hres : (Spec.rdT l bad) = (z11, l, true) := by unfold Spec.rdT; simp only [hR10]; by_cases hz : z13 = 0 <;> simp_all
    exact ⟨.string z11, rfl, lA, lc, by rw [hres]; first | done | rfl | simp, (by rw [hres]; exact h22), (by rw [hres]; exact cl), (by rw [hres]; exact hB18), (by exact Spec.rdT_bytes bl bad), (by exact Spec.rdT_len bad), (by exact Spec.rdT_size bl bad), (Fr.transG (Fr.trans (Fr.refl (fun q => q = p) H) (hx3.fr fun _ => False) (fun q hq (e : False) => e.elim)) hf20 (fun q hq hE e => (e)))⟩
  ·
    refine st_op (ev_move rfl) rfl rfl rfl ?_
    refine st_op (ev_int rfl rfl rfl) rfl rfl rfl ?_
    refine st_op (ev_pickF rfl rfl) rfl rfl rfl ?_
    refine st_op (ev_nilCheck rfl) rfl rfl rfl ?_
    refine st_op (ev_fieldAddr rfl fa78_1 (o' := 1) rfl) rfl rfl rfl ?_
    obtain ⟨H23, he24, H23n_, hB25, f26⟩ := mem_store (v := .bool (z13 != 0)) (o := 1) (cs' := [.slice lA l.length lc, .bool (z13 != 0)]) 1 rfl rfl size4 h14 rfl rfl rfl
    refine st_op0 (he24 _ _ _ _ _ _ _ _ _ rfl rfl) rfl rfl ?_
    have hf27 : Fr (fun q => q = p) H2 H23 := Fr.write H23n_ f26
    have H23n : H2.next ≤ H23.next := hf27.1
    try show aw _ _ _ _ _ _
    refine aw_seq ?_
    refine aw_reg ?_
    refine st_op (ev_move rfl) rfl rfl rfl ?_
    refine st_op (ev_nilCheck rfl) rfl rfl rfl ?_
    refine st_op (ev_fieldAddr rfl fa78_1 (o' := 1) rfl) rfl rfl rfl ?_
    refine st_op (ev_load rfl (lvar_one one4 hB25 rfl)) rfl rfl rfl ?_
    refine st_op (ev_not rfl) rfl rfl rfl ?_
    try show aw _ _ _ _ _ _
    by_cases hc28 : (!(z13 != 0)) = true
    · refine aw_condT hc28 rfl ?_
      try show aw _ _ _ _ _ _
      replace hc28 : (z13 != 0) = false := by rw [Bool.not_eq_true'] at hc28; exact hc28
      have hc28 : (z13 = 0) := by simpa using hc28
      refine aw_reg ?_
      refine st_op (ev_move rfl) rfl rfl rfl ?_
      refine st_op (ev_move rfl) rfl rfl rfl ?_
      refine st_op (ev_nilCheck rfl) rfl rfl rfl ?_
      refine st_op (ev_fieldAddr rfl fa78_0 (o' := 0) rfl) rfl rfl rfl ?_
      refine st_op (ev_load rfl (lvar_one one30 hB25 rfl)) rfl rfl rfl ?_
      refine st_op (ev_move rfl) rfl rfl rfl ?_
      have h37 := Row.ext hl hx3
      have h38 := Row.fr h37 hf27 (fun q hq e => ⟨_, e ▸ h14, show (2 : Nat) ≠ 1 by decide⟩)
      obtain ⟨A29, c30, L31, hL32, hl33, hs34, hr35, hc36⟩ := sliceA_typed u8c el30 (by decide) h38 cl (lo := some (.int .i64 z12)) (hi := none) (l := (z12).toNat) (h := l.length) rfl (bound_int (by first | omega | (simp only [List.length_append, List.length_cons, List.length_nil, List.length_map, List.length_set, List.length_replicate, Spec.bytesOf_length]; omega) | (simp; omega)) (by first | omega | (simp only [List.length_append, List.length_cons, List.length_nil, List.length_map, List.length_set, List.length_replicate, Spec.bytesOf_length]; omega) | (simp; omega)) (by first | rfl | omega)) (by first | omega | (simp only [List.length_append, List.length_cons, List.length_nil, List.length_map, List.length_set, List.length_replicate, Spec.bytesOf_length]; omega) | (simp; omega)) (by first | omega | (simp only [List.length_append, List.length_cons, List.length_nil, List.length_map, List.length_set, List.length_replicate, Spec.bytesOf_length]; omega) | (simp; omega))
      refine st_op (ev_slice rfl rfl rfl rfl hs34) rfl rfl rfl ?_
      have hL32b : Spec.Bytes L31 := by rw [hL32]; exact Spec.Bytes.take (Spec.Bytes.drop (by first | assumption | exact Spec.Bytes.nil | exact Spec.bytes_of _ | (repeat' first | assumption | exact Spec.Bytes.nil | exact Spec.bytes_of _ | exact Spec.enc_bytes _ | exact Spec.four_bytes _ | exact Spec.sealF_bytes (by assumption) | apply Spec.Bytes.append | apply Spec.Bytes.cons (by omega) | apply Spec.Bytes.take | apply Spec.Bytes.drop)) _) _
      refine st_op (ev_nilCheck rfl) rfl rfl rfl ?_
      refine st_op (ev_fieldAddr rfl fa78_0 (o' := 0) rfl) rfl rfl rfl ?_
      obtain ⟨H39, he40, H39n_, hB41, f42⟩ := mem_store (v := .slice A29 L31.length c30) (o := 0) (cs' := [.slice A29 L31.length c30, .bool (z13 != 0)]) 1 rfl rfl size30 hB25 rfl rfl rfl
      refine st_op0 (he40 _ _ _ _ _ _ _ _ _ rfl rfl) rfl rfl ?_
      have hf43 : Fr (fun q => q = p) H23 H39 := Fr.write H39n_ f42
      have H39n : H23.next ≤ H39.next := hf43.1
      try show aw _ _ _ _ _ _
      refine aw_seq ?_
      refine aw_reg ?_
      refine st_op (ev_move rfl) rfl rfl rfl ?_
      refine st_op (ev_assign rfl) rfl rfl rfl ?_
      try show aw _ _ _ _ _ _
      refine aw_ret ?_
      have h44 := Row.fr hr35 hf43 (fun q hq e => ⟨_, e ▸ hB25, show (2 : Nat) ≠ 1 by decide⟩)
      have hres : (Spec.rdT l bad) = (z11, L31, (z13 != 0)) := by unfold Spec.rdT; simp only [hR10]; rw [Spec.drop_all] at hL32; by_cases hz : z13 = 0 <;> simp_all
      exact ⟨.string z11, rfl, A29, c30, by rw [hres]; first | done | rfl | simp, (by rw [hres]; exact h44), (by rw [hres]; exact hc36), (by rw [hres]; exact hB41), (by exact Spec.rdT_bytes bl bad), (by exact Spec.rdT_len bad), (by exact Spec.rdT_size bl bad), (Fr.transG (Fr.transG (Fr.trans (Fr.refl (fun q => q = p) H) (hx3.fr fun _ => False) (fun q hq (e : False) => e.elim)) hf27 (fun q hq hE e => (e))) hf43 (fun q hq hE e => (e)))⟩
    · rw [Bool.not_eq_true] at hc28; refine aw_condF hc28 rfl ?_
      try show aw _ _ _ _ _ _
      replace hc28 : (z13 != 0) = true := by rw [Bool.not_eq_false'] at hc28; exact hc28
      have hc28 : ¬ (z13 = 0) := by simpa using hc28
      refine aw_skip ?_
      try show aw _ _ _ _ _ _
      refine aw_seq ?_
      refine aw_reg ?_
      refine st_op (ev_move rfl) rfl rfl rfl ?_
      refine st_op (ev_assign rfl) rfl rfl rfl ?_
      try show aw _ _ _ _ _ _
      refine aw_ret ?_
      have h45 := Row.ext hl hx3
      have h46 := Row.fr h45 hf27 (fun q hq e => ⟨_, e ▸ h14, show (2 : Nat) ≠ 1 by decide⟩)
      have hres : (Spec.rdT l bad) = (z11, l, (z13 != 0)) := by unfold Spec.rdT; simp only [hR10]; by_cases hz : z13 = 0 <;> simp_all
      exact ⟨.string z11, rfl, lA, lc, by rw [hres]; first | done | rfl | simp, (by rw [hres]; exact h46), (by rw [hres]; exact cl), (by rw [hres]; exact hB25), (by exact Spec.rdT_bytes bl bad), (by exact Spec.rdT_len bad), (by exact Spec.rdT_size bl bad), (Fr.transG (Fr.trans (Fr.refl (fun q => q = p) H) (hx3.fr fun _ => False) (fun q hq (e : False) => e.elim)) hf27 (fun q hq hE e => (e)))⟩
theorem wal_Decode_spec (H : Heap) (bA : Option Addr) (b : List Int) (bc : Nat) (hb : Row H bA bc 1 (b.map u8c)) (cb : b.length ≤ bc) (lb : b.length ≤ 1099511627776) (bb : Spec.Bytes b) : ∃ v H', Spec Try.prog 16 [.slice bA b.length bc] H v H' ∧ ((v = .tuple #[.agg #[.bool ((Spec.decF b).1), .int .i64 ((Spec.decF b).2.1), .int .i64 ((Spec.decF b).2.2.1), .int .i64 ((Spec.decF b).2.2.2.1), .int .i64 ((Spec.decF b).2.2.2.2.1), .int .i64 ((Spec.decF b).2.2.2.2.2.1), .string ((Spec.decF b).2.2.2.2.2.2.1)], .int .i64 ((Spec.decF b).2.2.2.2.2.2.2.1), .int .i64 ((Spec.decF b).2.2.2.2.2.2.2.2)]) ∧ ((Spec.decF b).2.2.2.2.2.2.2.2 = 0 → Spec.mayF (Spec.decF b).1 (Spec.decF b).2.1 (Spec.decF b).2.2.1 (Spec.decF b).2.2.2.1 (Spec.decF b).2.2.2.2.1 (Spec.decF b).2.2.2.2.2.1 (Spec.decF b).2.2.2.2.2.2.1 = true ∧ 6 ≤ (Spec.decF b).2.2.2.2.2.2.2.1 ∧ (Spec.decF b).2.2.2.2.2.2.2.1 ≤ b.length ∧ (Spec.decF b).2.2.2.2.2.2.2.1 ≤ 4020) ∧ (0 ≤ (Spec.decF b).2.2.2.2.2.2.2.2 ∧ (Spec.decF b).2.2.2.2.2.2.2.2 ≤ 3) ∧ ((Spec.decF b).2.2.2.2.2.2.2.2 ≠ 0 → (Spec.decF b).2.2.2.2.2.2.2.1 = 0 ∧ (Spec.decF b) = (false, 0, 0, 0, 0, 0, (⟨#[]⟩ : ByteArray), 0, (Spec.decF b).2.2.2.2.2.2.2.2)) ∧ (Ext H H')) := by
  refine spec_go1 E0_ok 76 (f := 16) Try.func16 rfl rfl rfl ?_
  refine aw_seq ?_
  refine aw_reg ?_
  obtain ⟨b1, H2, he3, b1e, H2n_, hB5, f4⟩ := mem_alloc H zero32
  refine st_op (he3 _ _ _ _ _ _ _) rfl rfl rfl ?_
  have hx6 : Ext H H2 := Ext.new (by omega) H2n_ f4
  have H2n : H.next ≤ H2.next := hx6.1
  refine st_op (ev_assign rfl) rfl rfl rfl ?_
  refine st_op (ev_assign rfl) rfl rfl rfl ?_
  try show aw _ _ _ _ _ _
  refine aw_seq ?_
  refine aw_reg ?_
  refine st_op (ev_move rfl) rfl rfl rfl ?_
  refine st_call rfl rfl rfl ent38 rfl rfl rfl ?_
  have h7 := Row.ext hb hx6
  obtain ⟨_, H9, hs8, A11, c12, hs8v, hm13, hq14, hq15, hq16, hq17, hx10⟩ := frame_Open_spec H2 bA b bc h7 cb (by first | omega | (simp only [List.length_append, List.length_cons, List.length_nil, List.length_map, List.length_set, List.length_replicate, Spec.bytesOf_length]; omega) | (simp; omega)) (by first | assumption | exact Spec.Bytes.nil | exact Spec.bytes_of _ | (repeat' first | assumption | exact Spec.Bytes.nil | exact Spec.bytes_of _ | exact Spec.enc_bytes _ | exact Spec.four_bytes _ | exact Spec.sealF_bytes (by assumption) | apply Spec.Bytes.append | apply Spec.Bytes.cons (by omega) | apply Spec.Bytes.take | apply Spec.Bytes.drop))
  rw [hs8v] at hs8; clear hs8v
  generalize hR19 : (Spec.openF b) = r18 at hs8 hm13 hq14 hq15 hq16 hq17
  obtain ⟨z20, z21, z22, z23⟩ := r18
  dsimp only at hs8 hm13 hq14 hq15 hq16 hq17
  refine ⟨_, H9, hs8, ?_⟩
  have H9n : H2.next ≤ H9.next := hx10.1
  refine st_op (ev_move rfl) rfl rfl rfl ?_
  refine st_op (ev_extract rfl rfl) rfl rfl rfl ?_
  refine st_op (ev_extract rfl rfl) rfl rfl rfl ?_
  refine st_op (ev_extract rfl rfl) rfl rfl rfl ?_
  refine st_op (ev_extract rfl rfl) rfl rfl rfl ?_
  refine st_op (ev_assign rfl) rfl rfl rfl ?_
  refine st_op (ev_assign rfl) rfl rfl rfl ?_
  refine st_op (ev_assign rfl) rfl rfl rfl ?_
  refine st_op (ev_assign rfl) rfl rfl rfl ?_
  try show aw _ _ _ _ _ _
  refine aw_seq ?_
  refine aw_seq ?_
  refine aw_reg ?_
  refine st_op (ev_move rfl) rfl rfl rfl ?_
  refine st_op (ev_int rfl rfl rfl) rfl rfl rfl ?_
  try show aw _ _ _ _ _ _
  by_cases hc24 : (z23 != 0) = true
  · refine aw_condT hc24 rfl ?_
    try show aw _ _ _ _ _ _
    have hc24 : ¬ (z23 = 0) := by simpa using hc24
    refine aw_seq ?_
    refine aw_reg ?_
    refine st_op (ev_build zero32 pl32 (parts := []) rfl (cs := [.bool false, .int .i64 0, .int .i64 0, .int .i64 0, .int .i64 0, .int .i64 0, .string (⟨#[]⟩)]) rfl) rfl rfl rfl ?_
    refine st_op (ev_move rfl) rfl rfl rfl ?_
    have h25 := Ext.blk hx10 (by omega) hB5
    obtain ⟨H26, he27, H26n_, hB28, f29⟩ := mem_store (v := .agg #[.bool false, .int .i64 0, .int .i64 0, .int .i64 0, .int .i64 0, .int .i64 0, .string (⟨#[]⟩)]) (o := 0) (cs' := [.bool false, .int .i64 0, .int .i64 0, .int .i64 0, .int .i64 0, .int .i64 0, .string (⟨#[]⟩)]) 7 rfl rfl size32 h25 rfl rfl rfl
    refine st_op0 (he27 _ _ _ _ _ _ _ _ _ rfl rfl) rfl rfl ?_
    have hf30 : Fr (fun q => q = b1) H9 H26 := Fr.write H26n_ f29
    have H26n : H9.next ≤ H26.next := hf30.1
    refine st_op (ev_assign rfl) rfl rfl rfl ?_
    refine st_op (ev_assign rfl) rfl rfl rfl ?_
    try show aw _ _ _ _ _ _
    refine aw_ret ?_
    have hx31 : Ext H H26 := (Ext.then (Ext.trans hx6 hx10) hf30 (fun q hq e => by omega))
    have hres : (Spec.decF b) = (false, 0, 0, 0, 0, 0, (⟨#[]⟩ : ByteArray), 0, z23) := by simp only [Spec.decF, hR19]; simp_all [Spec.decBad]
    exact ⟨.tuple #[.agg #[.bool false, .int .i64 0, .int .i64 0, .int .i64 0, .int .i64 0, .int .i64 0, .string (⟨#[]⟩)], .int .i64 0, .int .i64 z23], (resA_of (resL_cell rfl (lvar_part (l := [.bool false, .int .i64 0, .int .i64 0, .int .i64 0, .int .i64 0, .int .i64 0, .string (⟨#[]⟩)]) many32 hB28 rfl rfl (by decide)) (resL_tmp rfl (resL_tmp rfl resL_nil))) rfl), by rw [hres], (by exact (Spec.decF_all bb).1), (by exact (Spec.decF_all bb).2.1), (by exact (Spec.decF_all bb).2.2), hx31⟩
  · rw [Bool.not_eq_true] at hc24; refine aw_condF hc24 rfl ?_
    try show aw _ _ _ _ _ _
    have hc24 : (z23 = 0) := by simpa using hc24
    refine aw_skip ?_
    try show aw _ _ _ _ _ _
    refine aw_seq ?_
    refine aw_reg ?_
    refine st_op (ev_move rfl) rfl rfl rfl ?_
    refine st_op (ev_build zero78 pl78 (parts := [(0, .slice A11 z21.length c12)]) rfl (cs := [.slice A11 z21.length c12, .bool false]) rfl) rfl rfl rfl ?_
    obtain ⟨b32, H33, he34, b32e, H33n_, hB36, f35⟩ := mem_box (P := Try.prog) H9 (v := .agg #[.slice A11 z21.length c12, .bool false]) (cs := [.slice A11 z21.length c12, .bool false]) rfl rfl
    refine st_op (he34 _ _ _ _ _ _ _ _ _ rfl) rfl rfl rfl ?_
    have hx37 : Ext H9 H33 := Ext.new (by omega) H33n_ f35
    have H33n : H9.next ≤ H33.next := hx37.1
    refine st_op (ev_assign rfl) rfl rfl rfl ?_
    try show aw _ _ _ _ _ _
    refine aw_seq ?_
    refine aw_reg ?_
    refine st_op (ev_move rfl) rfl rfl rfl ?_
    refine st_op (ev_int rfl rfl rfl) rfl rfl rfl ?_
    refine st_op (ev_build zero32 pl32 (parts := [(0, .bool (z20 == 1))]) rfl (cs := [.bool (z20 == 1), .int .i64 0, .int .i64 0, .int .i64 0, .int .i64 0, .int .i64 0, .string (⟨#[]⟩)]) rfl) rfl rfl rfl ?_
    obtain ⟨b38, H39, he40, b38e, H39n_, hB42, f41⟩ := mem_alloc H33 zero32
    refine st_op (he40 _ _ _ _ _ _ _) rfl rfl rfl ?_
    have hx43 : Ext H33 H39 := Ext.new (by omega) H39n_ f41
    have H39n : H33.next ≤ H39.next := hx43.1
    obtain ⟨H44, he45, H44n_, hB46, f47⟩ := mem_store (v := .agg #[.bool (z20 == 1), .int .i64 0, .int .i64 0, .int .i64 0, .int .i64 0, .int .i64 0, .string (⟨#[]⟩)]) (o := 0) (cs' := [.bool (z20 == 1), .int .i64 0, .int .i64 0, .int .i64 0, .int .i64 0, .int .i64 0, .string (⟨#[]⟩)]) 7 rfl rfl size32 hB42 rfl rfl rfl
    refine st_op0 (he45 _ _ _ _ _ _ _ _ _ rfl rfl) rfl rfl ?_
    have hf48 : Fr (fun q => q = b38) H39 H44 := Fr.write H44n_ f47
    have H44n : H39.next ≤ H44.next := hf48.1
    try show aw _ _ _ _ _ _
    refine aw_seq ?_
    refine aw_seq ?_
    refine aw_reg ?_
    refine st_op (ev_move rfl) rfl rfl rfl ?_
    try show aw _ _ _ _ _ _
    refine aw_block ?_
    refine aw_seq ?_
    refine aw_reg ?_
    refine st_op (ev_int rfl rfl rfl) rfl rfl rfl ?_
    refine st_op (ev_assign rfl) rfl rfl rfl ?_
    try show aw _ _ _ _ _ _
    by_cases hc49 : (z20 == 1) = true
    · refine aw_condT hc49 rfl ?_
      try show aw _ _ _ _ _ _
      have hc49 := eq_of_beq hc49
      refine aw_seq ?_
      refine aw_reg ?_
      refine st_op (ev_move rfl) rfl rfl rfl ?_
      refine st_call rfl rfl rfl ent39 rfl rfl rfl ?_
      have hx51 : Ext H9 H44 := (Ext.then (Ext.trans hx37 hx43) hf48 (fun q hq e => by omega))
      have h50 := My.ext hm13 hx51
      have hx53 : Ext H33 H44 := (Ext.then hx43 hf48 (fun q hq e => by omega))
      have h52 := Ext.blk hx53 (by omega) hB36
      obtain ⟨_, H55, hs54, A57, c58, hs54v, hm59, hk63, hB64, hq60, hq61, hq62, hx56⟩ := wal_rnum_spec H44 A11 z21 c12 (My.row h50) (My.capF h50 (by first | omega | (simp only [List.length_append, List.length_cons, List.length_nil, List.length_map, List.length_set, List.length_replicate, Spec.bytesOf_length]; omega) | (simp; omega))) (by first | omega | (simp only [List.length_append, List.length_cons, List.length_nil, List.length_map, List.length_set, List.length_replicate, Spec.bytesOf_length]; omega) | (simp; omega)) (by first | assumption | exact Spec.Bytes.nil | exact Spec.bytes_of _ | (repeat' first | assumption | exact Spec.Bytes.nil | exact Spec.bytes_of _ | exact Spec.enc_bytes _ | exact Spec.four_bytes _ | exact Spec.sealF_bytes (by assumption) | apply Spec.Bytes.append | apply Spec.Bytes.cons (by omega) | apply Spec.Bytes.take | apply Spec.Bytes.drop)) false b32 (by omega) h52
      rw [hs54v] at hs54; clear hs54v
      generalize hR66 : (Spec.rdN z21 false) = r65 at hs54 hm59 hk63 hB64 hq60 hq61 hq62
      obtain ⟨z67, z68, z69⟩ := r65
      dsimp only at hs54 hm59 hk63 hB64 hq60 hq61 hq62
      refine ⟨_, H55, hs54, ?_⟩
      have H55n : H44.next ≤ H55.next := hx56.1
      refine st_op (ev_fieldAddr rfl fa32_1 (o' := 1) rfl) rfl rfl rfl ?_
      refine st_op (ev_fieldAddr rfl fa23_0 (o' := 1) rfl) rfl rfl rfl ?_
      have h70 := Fr.blk hx56 (by omega) (fun e => (blk_ne hB46 h52 (show (7 : Nat) ≠ 2 by decide) e)) hB46
      obtain ⟨H71, he72, H71n_, hB73, f74⟩ := mem_store (v := .int .i64 z67) (o := 1) (cs' := [.bool (z20 == 1), .int .i64 z67, .int .i64 0, .int .i64 0, .int .i64 0, .int .i64 0, .string (⟨#[]⟩)]) 1 rfl rfl size2 h70 rfl rfl rfl
      refine st_op0 (he72 _ _ _ _ _ _ _ _ _ rfl rfl) rfl rfl ?_
      have hf75 : Fr (fun q => q = b38) H55 H71 := Fr.write H71n_ f74
      have H71n : H55.next ≤ H71.next := hf75.1
      try show aw _ _ _ _ _ _
      refine aw_reg ?_
      refine st_op (ev_move rfl) rfl rfl rfl ?_
      refine st_call rfl rfl rfl ent39 rfl rfl rfl ?_
      have h76 := Row.fr hm59 hf75 (fun q hq e => ⟨_, e ▸ h70, show (7 : Nat) ≠ 1 by decide⟩)
      have h77 := Fr.blk hf75 (by omega) (fun e => (blk_ne hB64 h70 (show (2 : Nat) ≠ 7 by decide) e)) hB64
      obtain ⟨_, H79, hs78, A81, c82, hs78v, hm83, hk87, hB88, hq84, hq85, hq86, hx80⟩ := wal_rnum_spec H71 A57 z68 c58 h76 hk63 (by first | omega | (simp only [List.length_append, List.length_cons, List.length_nil, List.length_map, List.length_set, List.length_replicate, Spec.bytesOf_length]; omega) | (simp; omega)) (by first | assumption | exact Spec.Bytes.nil | exact Spec.bytes_of _ | (repeat' first | assumption | exact Spec.Bytes.nil | exact Spec.bytes_of _ | exact Spec.enc_bytes _ | exact Spec.four_bytes _ | exact Spec.sealF_bytes (by assumption) | apply Spec.Bytes.append | apply Spec.Bytes.cons (by omega) | apply Spec.Bytes.take | apply Spec.Bytes.drop)) z69 b32 (by omega) h77
      rw [hs78v] at hs78; clear hs78v
      generalize hR90 : (Spec.rdN z68 z69) = r89 at hs78 hm83 hk87 hB88 hq84 hq85 hq86
      obtain ⟨z91, z92, z93⟩ := r89
      dsimp only at hs78 hm83 hk87 hB88 hq84 hq85 hq86
      refine ⟨_, H79, hs78, ?_⟩
      have H79n : H71.next ≤ H79.next := hx80.1
      refine st_op (ev_fieldAddr rfl fa32_1 (o' := 1) rfl) rfl rfl rfl ?_
      refine st_op (ev_fieldAddr rfl fa23_1 (o' := 2) rfl) rfl rfl rfl ?_
      have h94 := Fr.blk hx80 (by omega) (fun e => (blk_ne hB73 h77 (show (7 : Nat) ≠ 2 by decide) e)) hB73
      obtain ⟨H95, he96, H95n_, hB97, f98⟩ := mem_store (v := .int .i64 z91) (o := 2) (cs' := [.bool (z20 == 1), .int .i64 z67, .int .i64 z91, .int .i64 0, .int .i64 0, .int .i64 0, .string (⟨#[]⟩)]) 1 rfl rfl size3 h94 rfl rfl rfl
      refine st_op0 (he96 _ _ _ _ _ _ _ _ _ rfl rfl) rfl rfl ?_
      have hf99 : Fr (fun q => q = b38) H79 H95 := Fr.write H95n_ f98
      have H95n : H79.next ≤ H95.next := hf99.1
      try show aw _ _ _ _ _ _
      refine aw_seq ?_
      refine aw_seq ?_
      refine aw_reg ?_
      refine st_op (ev_move rfl) rfl rfl rfl ?_
      refine st_op (ev_int rfl rfl rfl) rfl rfl rfl ?_
      refine st_op (ev_move rfl) rfl rfl rfl ?_
      refine st_bool 59 rfl (fun hb100 => ?_) (fun hb100 => ?_)
      ·
        have hb100 : ¬ (z20 = 1) := by simpa using hb100
        exfalso; omega
      ·
        have hb100 : (z20 = 1) := by simpa using hb100
        refine st_skip rfl rfl rfl ?_
        refine st_skip rfl rfl rfl ?_
        refine st_op (ev_pickF rfl rfl) rfl rfl rfl ?_
        refine st_op (ev_move rfl) rfl rfl rfl ?_
        refine st_op (ev_move rfl) rfl rfl rfl ?_
        refine st_call rfl rfl rfl ent41 rfl rfl rfl ?_
        have h101 := Row.fr hm83 hf99 (fun q hq e => ⟨_, e ▸ h94, show (7 : Nat) ≠ 1 by decide⟩)
        have h102 := Fr.blk hf99 (by omega) (fun e => (blk_ne hB88 h94 (show (2 : Nat) ≠ 7 by decide) e)) hB88
        obtain ⟨_, H104, hs103, hs103v, hx105⟩ := wal_rdone_spec H95 A81 z92 c82 h101 hk87 (by first | omega | (simp only [List.length_append, List.length_cons, List.length_nil, List.length_map, List.length_set, List.length_replicate, Spec.bytesOf_length]; omega) | (simp; omega)) (by first | assumption | exact Spec.Bytes.nil | exact Spec.bytes_of _ | (repeat' first | assumption | exact Spec.Bytes.nil | exact Spec.bytes_of _ | exact Spec.enc_bytes _ | exact Spec.four_bytes _ | exact Spec.sealF_bytes (by assumption) | apply Spec.Bytes.append | apply Spec.Bytes.cons (by omega) | apply Spec.Bytes.take | apply Spec.Bytes.drop)) z93 b32 (by omega) h102
        rw [hs103v] at hs103; clear hs103v
        refine ⟨_, H104, hs103, ?_⟩
        have H104n : H95.next ≤ H104.next := hx105.1
        refine st_op (ev_not rfl) rfl rfl rfl ?_
        refine st_op (ev_pickF rfl rfl) rfl rfl rfl ?_
        refine st_op (ev_move rfl) rfl rfl rfl ?_
        refine st_bool 68 rfl (fun hb106 => ?_) (fun hb106 => ?_)
        ·
          replace hb106 : (!z93 && z92.isEmpty) = false := by rw [Bool.not_eq_true'] at hb106; exact hb106
          refine st_skip rfl rfl rfl ?_
          refine st_skip rfl rfl rfl ?_
          refine st_skip rfl rfl rfl ?_
          refine st_op (ev_pickT rfl rfl) rfl rfl rfl ?_
          try show aw _ _ _ _ _ _
          refine aw_cond (t := true) rfl ?_
          try show aw _ _ _ _ _ _
          refine aw_seq ?_
          refine aw_reg ?_
          refine st_op (ev_build zero32 pl32 (parts := []) rfl (cs := [.bool false, .int .i64 0, .int .i64 0, .int .i64 0, .int .i64 0, .int .i64 0, .string (⟨#[]⟩)]) rfl) rfl rfl rfl ?_
          have hx108 : Ext H2 H104 := (Ext.trans (Ext.then (Ext.then (Ext.then (Ext.then (Ext.then (Ext.trans (Ext.trans hx10 hx37) hx43) hf48 (fun q hq e => by omega)) hx56 (fun q hq e => by omega)) hf75 (fun q hq e => by omega)) hx80 (fun q hq e => by omega)) hf99 (fun q hq e => by omega)) hx105)
          have h107 := Ext.blk hx108 (by omega) hB5
          obtain ⟨H109, he110, H109n_, hB111, f112⟩ := mem_store (v := .agg #[.bool false, .int .i64 0, .int .i64 0, .int .i64 0, .int .i64 0, .int .i64 0, .string (⟨#[]⟩)]) (o := 0) (cs' := [.bool false, .int .i64 0, .int .i64 0, .int .i64 0, .int .i64 0, .int .i64 0, .string (⟨#[]⟩)]) 7 rfl rfl size32 h107 rfl rfl rfl
          refine st_op0 (he110 _ _ _ _ _ _ _ _ _ rfl rfl) rfl rfl ?_
          have hf113 : Fr (fun q => q = b1) H104 H109 := Fr.write H109n_ f112
          have H109n : H104.next ≤ H109.next := hf113.1
          refine st_op (ev_assign rfl) rfl rfl rfl ?_
          refine st_op (ev_assign rfl) rfl rfl rfl ?_
          try show aw _ _ _ _ _ _
          refine aw_ret ?_
          have hx114 : Ext H H109 := (Ext.then (Ext.trans (Ext.then (Ext.then (Ext.then (Ext.then (Ext.then (Ext.trans (Ext.trans (Ext.trans hx6 hx10) hx37) hx43) hf48 (fun q hq e => by omega)) hx56 (fun q hq e => by omega)) hf75 (fun q hq e => by omega)) hx80 (fun q hq e => by omega)) hf99 (fun q hq e => by omega)) hx105) hf113 (fun q hq e => by omega))
          have hres : (Spec.decF b) = (false, 0, 0, 0, 0, 0, (⟨#[]⟩ : ByteArray), 0, 3) := by simp only [Spec.decF, hR19, hR66, hR90]; simp_all [Spec.decBad]
          exact ⟨.tuple #[.agg #[.bool false, .int .i64 0, .int .i64 0, .int .i64 0, .int .i64 0, .int .i64 0, .string (⟨#[]⟩)], .int .i64 0, .int .i64 3], (resA_of (resL_cell rfl (lvar_part (l := [.bool false, .int .i64 0, .int .i64 0, .int .i64 0, .int .i64 0, .int .i64 0, .string (⟨#[]⟩)]) many32 hB111 rfl rfl (by decide)) (resL_tmp rfl (resL_tmp rfl resL_nil))) rfl), by rw [hres], (by exact (Spec.decF_all bb).1), (by exact (Spec.decF_all bb).2.1), (by exact (Spec.decF_all bb).2.2), hx114⟩
        ·
          replace hb106 : (!z93 && z92.isEmpty) = true := by rw [Bool.not_eq_false'] at hb106; exact hb106
          have h115 := Ext.blk hx105 (by omega) hB97
          refine st_op (ev_load rfl (lvar_part (l := [.bool (z20 == 1), .int .i64 z67, .int .i64 z91, .int .i64 0, .int .i64 0, .int .i64 0, .string (⟨#[]⟩)]) many32 h115 rfl rfl (by decide))) rfl rfl rfl ?_
          refine st_call rfl rfl rfl ent14 rfl rfl rfl ?_
          obtain ⟨_, H117, hs116, hs116v, hx118⟩ := wal_May_spec H104 (z20 == 1) z67 z91 (0 : Int) (0 : Int) (0 : Int) (⟨#[]⟩ : ByteArray)
          rw [hs116v] at hs116; clear hs116v
          refine ⟨_, H117, hs116, ?_⟩
          have H117n : H104.next ≤ H117.next := hx118.1
          refine st_op (ev_not rfl) rfl rfl rfl ?_
          refine st_op (ev_pickF rfl rfl) rfl rfl rfl ?_
          try show aw _ _ _ _ _ _
          by_cases hc119 : (!(Spec.mayF (z20 == 1) z67 z91 (0 : Int) (0 : Int) (0 : Int) (⟨#[]⟩ : ByteArray))) = true
          · refine aw_condT hc119 rfl ?_
            try show aw _ _ _ _ _ _
            replace hc119 : (Spec.mayF (z20 == 1) z67 z91 (0 : Int) (0 : Int) (0 : Int) (⟨#[]⟩ : ByteArray)) = false := by rw [Bool.not_eq_true'] at hc119; exact hc119
            refine aw_seq ?_
            refine aw_reg ?_
            refine st_op (ev_build zero32 pl32 (parts := []) rfl (cs := [.bool false, .int .i64 0, .int .i64 0, .int .i64 0, .int .i64 0, .int .i64 0, .string (⟨#[]⟩)]) rfl) rfl rfl rfl ?_
            have hx121 : Ext H2 H117 := (Ext.trans (Ext.trans (Ext.then (Ext.then (Ext.then (Ext.then (Ext.then (Ext.trans (Ext.trans hx10 hx37) hx43) hf48 (fun q hq e => by omega)) hx56 (fun q hq e => by omega)) hf75 (fun q hq e => by omega)) hx80 (fun q hq e => by omega)) hf99 (fun q hq e => by omega)) hx105) hx118)
            have h120 := Ext.blk hx121 (by omega) hB5
            obtain ⟨H122, he123, H122n_, hB124, f125⟩ := mem_store (v := .agg #[.bool false, .int .i64 0, .int .i64 0, .int .i64 0, .int .i64 0, .int .i64 0, .string (⟨#[]⟩)]) (o := 0) (cs' := [.bool false, .int .i64 0, .int .i64 0, .int .i64 0, .int .i64 0, .int .i64 0, .string (⟨#[]⟩)]) 7 rfl rfl size32 h120 rfl rfl rfl
            refine st_op0 (he123 _ _ _ _ _ _ _ _ _ rfl rfl) rfl rfl ?_
            have hf126 : Fr (fun q => q = b1) H117 H122 := Fr.write H122n_ f125
            have H122n : H117.next ≤ H122.next := hf126.1
            refine st_op (ev_assign rfl) rfl rfl rfl ?_
            refine st_op (ev_assign rfl) rfl rfl rfl ?_
            try show aw _ _ _ _ _ _
            refine aw_ret ?_
            have hx127 : Ext H H122 := (Ext.then (Ext.trans (Ext.trans (Ext.then (Ext.then (Ext.then (Ext.then (Ext.then (Ext.trans (Ext.trans (Ext.trans hx6 hx10) hx37) hx43) hf48 (fun q hq e => by omega)) hx56 (fun q hq e => by omega)) hf75 (fun q hq e => by omega)) hx80 (fun q hq e => by omega)) hf99 (fun q hq e => by omega)) hx105) hx118) hf126 (fun q hq e => by omega))
            have hres : (Spec.decF b) = (false, 0, 0, 0, 0, 0, (⟨#[]⟩ : ByteArray), 0, 3) := by simp only [Spec.decF, hR19, hR66, hR90]; simp_all [Spec.decBad]
            exact ⟨.tuple #[.agg #[.bool false, .int .i64 0, .int .i64 0, .int .i64 0, .int .i64 0, .int .i64 0, .string (⟨#[]⟩)], .int .i64 0, .int .i64 3], (resA_of (resL_cell rfl (lvar_part (l := [.bool false, .int .i64 0, .int .i64 0, .int .i64 0, .int .i64 0, .int .i64 0, .string (⟨#[]⟩)]) many32 hB124 rfl rfl (by decide)) (resL_tmp rfl (resL_tmp rfl resL_nil))) rfl), by rw [hres], (by exact (Spec.decF_all bb).1), (by exact (Spec.decF_all bb).2.1), (by exact (Spec.decF_all bb).2.2), hx127⟩
          · rw [Bool.not_eq_true] at hc119; refine aw_condF hc119 rfl ?_
            try show aw _ _ _ _ _ _
            replace hc119 : (Spec.mayF (z20 == 1) z67 z91 (0 : Int) (0 : Int) (0 : Int) (⟨#[]⟩ : ByteArray)) = true := by rw [Bool.not_eq_false'] at hc119; exact hc119
            refine aw_skip ?_
            try show aw _ _ _ _ _ _
            refine aw_seq ?_
            refine aw_reg ?_
            have h128 := Ext.blk hx118 (by omega) h115
            refine st_op (ev_load rfl (lvar_part (l := [.bool (z20 == 1), .int .i64 z67, .int .i64 z91, .int .i64 0, .int .i64 0, .int .i64 0, .string (⟨#[]⟩)]) many32 h128 rfl rfl (by decide))) rfl rfl rfl ?_
            refine st_op (ev_move rfl) rfl rfl rfl ?_
            have hx130 : Ext H2 H117 := (Ext.trans (Ext.trans (Ext.then (Ext.then (Ext.then (Ext.then (Ext.then (Ext.trans (Ext.trans hx10 hx37) hx43) hf48 (fun q hq e => by omega)) hx56 (fun q hq e => by omega)) hf75 (fun q hq e => by omega)) hx80 (fun q hq e => by omega)) hf99 (fun q hq e => by omega)) hx105) hx118)
            have h129 := Ext.blk hx130 (by omega) hB5
            obtain ⟨H131, he132, H131n_, hB133, f134⟩ := mem_store (v := .agg #[.bool (z20 == 1), .int .i64 z67, .int .i64 z91, .int .i64 0, .int .i64 0, .int .i64 0, .string (⟨#[]⟩)]) (o := 0) (cs' := [.bool (z20 == 1), .int .i64 z67, .int .i64 z91, .int .i64 0, .int .i64 0, .int .i64 0, .string (⟨#[]⟩)]) 7 rfl rfl size32 h129 rfl rfl rfl
            refine st_op0 (he132 _ _ _ _ _ _ _ _ _ rfl rfl) rfl rfl ?_
            have hf135 : Fr (fun q => q = b1) H117 H131 := Fr.write H131n_ f134
            have H131n : H117.next ≤ H131.next := hf135.1
            refine st_op (ev_assign rfl) rfl rfl rfl ?_
            refine st_op (ev_assign rfl) rfl rfl rfl ?_
            try show aw _ _ _ _ _ _
            refine aw_ret ?_
            have hx136 : Ext H H131 := (Ext.then (Ext.trans (Ext.trans (Ext.then (Ext.then (Ext.then (Ext.then (Ext.then (Ext.trans (Ext.trans (Ext.trans hx6 hx10) hx37) hx43) hf48 (fun q hq e => by omega)) hx56 (fun q hq e => by omega)) hf75 (fun q hq e => by omega)) hx80 (fun q hq e => by omega)) hf99 (fun q hq e => by omega)) hx105) hx118) hf135 (fun q hq e => by omega))
            have hres : (Spec.decF b) = ((z20 == 1), z67, z91, 0, 0, 0, (⟨#[]⟩ : ByteArray), z22, 0) := by simp only [Spec.decF, hR19, hR66, hR90]; simp_all [Spec.decBad]
            exact ⟨.tuple #[.agg #[.bool (z20 == 1), .int .i64 z67, .int .i64 z91, .int .i64 0, .int .i64 0, .int .i64 0, .string (⟨#[]⟩)], .int .i64 z22, .int .i64 0], (resA_of (resL_cell rfl (lvar_part (l := [.bool (z20 == 1), .int .i64 z67, .int .i64 z91, .int .i64 0, .int .i64 0, .int .i64 0, .string (⟨#[]⟩)]) many32 hB133 rfl rfl (by decide)) (resL_tmp rfl (resL_tmp rfl resL_nil))) rfl), by rw [hres], (by exact (Spec.decF_all bb).1), (by exact (Spec.decF_all bb).2.1), (by exact (Spec.decF_all bb).2.2), hx136⟩
    · rw [Bool.not_eq_true] at hc49; refine aw_condF hc49 rfl ?_
      try show aw _ _ _ _ _ _
      have hc49 := ne_of_beq_false hc49
      refine aw_seq ?_
      refine aw_reg ?_
      refine st_op (ev_int rfl rfl rfl) rfl rfl rfl ?_
      refine st_op (ev_assign rfl) rfl rfl rfl ?_
      try show aw _ _ _ _ _ _
      by_cases hc137 : (z20 == 2) = true
      · refine aw_condT hc137 rfl ?_
        try show aw _ _ _ _ _ _
        have hc137 := eq_of_beq hc137
        refine aw_seq ?_
        refine aw_reg ?_
        refine st_op (ev_move rfl) rfl rfl rfl ?_
        refine st_call rfl rfl rfl ent39 rfl rfl rfl ?_
        have hx139 : Ext H9 H44 := (Ext.then (Ext.trans hx37 hx43) hf48 (fun q hq e => by omega))
        have h138 := My.ext hm13 hx139
        have hx141 : Ext H33 H44 := (Ext.then hx43 hf48 (fun q hq e => by omega))
        have h140 := Ext.blk hx141 (by omega) hB36
        obtain ⟨_, H143, hs142, A145, c146, hs142v, hm147, hk151, hB152, hq148, hq149, hq150, hx144⟩ := wal_rnum_spec H44 A11 z21 c12 (My.row h138) (My.capF h138 (by first | omega | (simp only [List.length_append, List.length_cons, List.length_nil, List.length_map, List.length_set, List.length_replicate, Spec.bytesOf_length]; omega) | (simp; omega))) (by first | omega | (simp only [List.length_append, List.length_cons, List.length_nil, List.length_map, List.length_set, List.length_replicate, Spec.bytesOf_length]; omega) | (simp; omega)) (by first | assumption | exact Spec.Bytes.nil | exact Spec.bytes_of _ | (repeat' first | assumption | exact Spec.Bytes.nil | exact Spec.bytes_of _ | exact Spec.enc_bytes _ | exact Spec.four_bytes _ | exact Spec.sealF_bytes (by assumption) | apply Spec.Bytes.append | apply Spec.Bytes.cons (by omega) | apply Spec.Bytes.take | apply Spec.Bytes.drop)) false b32 (by omega) h140
        rw [hs142v] at hs142; clear hs142v
        generalize hR154 : (Spec.rdN z21 false) = r153 at hs142 hm147 hk151 hB152 hq148 hq149 hq150
        obtain ⟨z155, z156, z157⟩ := r153
        dsimp only at hs142 hm147 hk151 hB152 hq148 hq149 hq150
        refine ⟨_, H143, hs142, ?_⟩
        have H143n : H44.next ≤ H143.next := hx144.1
        refine st_op (ev_fieldAddr rfl fa32_2 (o' := 3) rfl) rfl rfl rfl ?_
        refine st_op (ev_fieldAddr rfl fa25_0 (o' := 3) rfl) rfl rfl rfl ?_
        have h158 := Fr.blk hx144 (by omega) (fun e => (blk_ne hB46 h140 (show (7 : Nat) ≠ 2 by decide) e)) hB46
        obtain ⟨H159, he160, H159n_, hB161, f162⟩ := mem_store (v := .int .i64 z155) (o := 3) (cs' := [.bool (z20 == 1), .int .i64 0, .int .i64 0, .int .i64 z155, .int .i64 0, .int .i64 0, .string (⟨#[]⟩)]) 1 rfl rfl size2 h158 rfl rfl rfl
        refine st_op0 (he160 _ _ _ _ _ _ _ _ _ rfl rfl) rfl rfl ?_
        have hf163 : Fr (fun q => q = b38) H143 H159 := Fr.write H159n_ f162
        have H159n : H143.next ≤ H159.next := hf163.1
        try show aw _ _ _ _ _ _
        refine aw_seq ?_
        refine aw_reg ?_
        refine st_op (ev_move rfl) rfl rfl rfl ?_
        refine st_call rfl rfl rfl ent39 rfl rfl rfl ?_
        have h164 := Row.fr hm147 hf163 (fun q hq e => ⟨_, e ▸ h158, show (7 : Nat) ≠ 1 by decide⟩)
        have h165 := Fr.blk hf163 (by omega) (fun e => (blk_ne hB152 h158 (show (2 : Nat) ≠ 7 by decide) e)) hB152
        obtain ⟨_, H167, hs166, A169, c170, hs166v, hm171, hk175, hB176, hq172, hq173, hq174, hx168⟩ := wal_rnum_spec H159 A145 z156 c146 h164 hk151 (by first | omega | (simp only [List.length_append, List.length_cons, List.length_nil, List.length_map, List.length_set, List.length_replicate, Spec.bytesOf_length]; omega) | (simp; omega)) (by first | assumption | exact Spec.Bytes.nil | exact Spec.bytes_of _ | (repeat' first | assumption | exact Spec.Bytes.nil | exact Spec.bytes_of _ | exact Spec.enc_bytes _ | exact Spec.four_bytes _ | exact Spec.sealF_bytes (by assumption) | apply Spec.Bytes.append | apply Spec.Bytes.cons (by omega) | apply Spec.Bytes.take | apply Spec.Bytes.drop)) z157 b32 (by omega) h165
        rw [hs166v] at hs166; clear hs166v
        generalize hR178 : (Spec.rdN z156 z157) = r177 at hs166 hm171 hk175 hB176 hq172 hq173 hq174
        obtain ⟨z179, z180, z181⟩ := r177
        dsimp only at hs166 hm171 hk175 hB176 hq172 hq173 hq174
        refine ⟨_, H167, hs166, ?_⟩
        have H167n : H159.next ≤ H167.next := hx168.1
        refine st_op (ev_fieldAddr rfl fa32_2 (o' := 3) rfl) rfl rfl rfl ?_
        refine st_op (ev_fieldAddr rfl fa25_1 (o' := 4) rfl) rfl rfl rfl ?_
        have h182 := Fr.blk hx168 (by omega) (fun e => (blk_ne hB161 h165 (show (7 : Nat) ≠ 2 by decide) e)) hB161
        obtain ⟨H183, he184, H183n_, hB185, f186⟩ := mem_store (v := .int .i64 z179) (o := 4) (cs' := [.bool (z20 == 1), .int .i64 0, .int .i64 0, .int .i64 z155, .int .i64 z179, .int .i64 0, .string (⟨#[]⟩)]) 1 rfl rfl size2 h182 rfl rfl rfl
        refine st_op0 (he184 _ _ _ _ _ _ _ _ _ rfl rfl) rfl rfl ?_
        have hf187 : Fr (fun q => q = b38) H167 H183 := Fr.write H183n_ f186
        have H183n : H167.next ≤ H183.next := hf187.1
        try show aw _ _ _ _ _ _
        refine aw_seq ?_
        refine aw_reg ?_
        refine st_op (ev_move rfl) rfl rfl rfl ?_
        refine st_call rfl rfl rfl ent39 rfl rfl rfl ?_
        have h188 := Row.fr hm171 hf187 (fun q hq e => ⟨_, e ▸ h182, show (7 : Nat) ≠ 1 by decide⟩)
        have h189 := Fr.blk hf187 (by omega) (fun e => (blk_ne hB176 h182 (show (2 : Nat) ≠ 7 by decide) e)) hB176
        obtain ⟨_, H191, hs190, A193, c194, hs190v, hm195, hk199, hB200, hq196, hq197, hq198, hx192⟩ := wal_rnum_spec H183 A169 z180 c170 h188 hk175 (by first | omega | (simp only [List.length_append, List.length_cons, List.length_nil, List.length_map, List.length_set, List.length_replicate, Spec.bytesOf_length]; omega) | (simp; omega)) (by first | assumption | exact Spec.Bytes.nil | exact Spec.bytes_of _ | (repeat' first | assumption | exact Spec.Bytes.nil | exact Spec.bytes_of _ | exact Spec.enc_bytes _ | exact Spec.four_bytes _ | exact Spec.sealF_bytes (by assumption) | apply Spec.Bytes.append | apply Spec.Bytes.cons (by omega) | apply Spec.Bytes.take | apply Spec.Bytes.drop)) z181 b32 (by omega) h189
        rw [hs190v] at hs190; clear hs190v
        generalize hR202 : (Spec.rdN z180 z181) = r201 at hs190 hm195 hk199 hB200 hq196 hq197 hq198
        obtain ⟨z203, z204, z205⟩ := r201
        dsimp only at hs190 hm195 hk199 hB200 hq196 hq197 hq198
        refine ⟨_, H191, hs190, ?_⟩
        have H191n : H183.next ≤ H191.next := hx192.1
        refine st_op (ev_fieldAddr rfl fa32_2 (o' := 3) rfl) rfl rfl rfl ?_
        refine st_op (ev_fieldAddr rfl fa25_2 (o' := 5) rfl) rfl rfl rfl ?_
        have h206 := Fr.blk hx192 (by omega) (fun e => (blk_ne hB185 h189 (show (7 : Nat) ≠ 2 by decide) e)) hB185
        obtain ⟨H207, he208, H207n_, hB209, f210⟩ := mem_store (v := .int .i64 z203) (o := 5) (cs' := [.bool (z20 == 1), .int .i64 0, .int .i64 0, .int .i64 z155, .int .i64 z179, .int .i64 z203, .string (⟨#[]⟩)]) 1 rfl rfl size3 h206 rfl rfl rfl
        refine st_op0 (he208 _ _ _ _ _ _ _ _ _ rfl rfl) rfl rfl ?_
        have hf211 : Fr (fun q => q = b38) H191 H207 := Fr.write H207n_ f210
        have H207n : H191.next ≤ H207.next := hf211.1
        try show aw _ _ _ _ _ _
        refine aw_reg ?_
        refine st_op (ev_move rfl) rfl rfl rfl ?_
        refine st_call rfl rfl rfl ent40 rfl rfl rfl ?_
        have h212 := Row.fr hm195 hf211 (fun q hq e => ⟨_, e ▸ h206, show (7 : Nat) ≠ 1 by decide⟩)
        have h213 := Fr.blk hf211 (by omega) (fun e => (blk_ne hB200 h206 (show (2 : Nat) ≠ 7 by decide) e)) hB200
        obtain ⟨_, H215, hs214, A217, c218, hs214v, hm219, hk223, hB224, hq220, hq221, hq222, hx216⟩ := wal_rtext_spec H207 A193 z204 c194 h212 hk199 (by first | omega | (simp only [List.length_append, List.length_cons, List.length_nil, List.length_map, List.length_set, List.length_replicate, Spec.bytesOf_length]; omega) | (simp; omega)) (by first | assumption | exact Spec.Bytes.nil | exact Spec.bytes_of _ | (repeat' first | assumption | exact Spec.Bytes.nil | exact Spec.bytes_of _ | exact Spec.enc_bytes _ | exact Spec.four_bytes _ | exact Spec.sealF_bytes (by assumption) | apply Spec.Bytes.append | apply Spec.Bytes.cons (by omega) | apply Spec.Bytes.take | apply Spec.Bytes.drop)) z205 b32 (by omega) h213
        rw [hs214v] at hs214; clear hs214v
        generalize hR226 : (Spec.rdT z204 z205) = r225 at hs214 hm219 hk223 hB224 hq220 hq221 hq222
        obtain ⟨z227, z228, z229⟩ := r225
        dsimp only at hs214 hm219 hk223 hB224 hq220 hq221 hq222
        refine ⟨_, H215, hs214, ?_⟩
        have H215n : H207.next ≤ H215.next := hx216.1
        refine st_op (ev_fieldAddr rfl fa32_2 (o' := 3) rfl) rfl rfl rfl ?_
        refine st_op (ev_fieldAddr rfl fa25_3 (o' := 6) rfl) rfl rfl rfl ?_
        have h230 := Fr.blk hx216 (by omega) (fun e => (blk_ne hB209 h213 (show (7 : Nat) ≠ 2 by decide) e)) hB209
        obtain ⟨H231, he232, H231n_, hB233, f234⟩ := mem_store (v := .string z227) (o := 6) (cs' := [.bool (z20 == 1), .int .i64 0, .int .i64 0, .int .i64 z155, .int .i64 z179, .int .i64 z203, .string z227]) 1 rfl rfl size9 h230 rfl rfl rfl
        refine st_op0 (he232 _ _ _ _ _ _ _ _ _ rfl rfl) rfl rfl ?_
        have hf235 : Fr (fun q => q = b38) H215 H231 := Fr.write H231n_ f234
        have H231n : H215.next ≤ H231.next := hf235.1
        try show aw _ _ _ _ _ _
        refine aw_seq ?_
        refine aw_seq ?_
        refine aw_reg ?_
        refine st_op (ev_move rfl) rfl rfl rfl ?_
        refine st_op (ev_int rfl rfl rfl) rfl rfl rfl ?_
        refine st_op (ev_move rfl) rfl rfl rfl ?_
        refine st_bool 59 rfl (fun hb236 => ?_) (fun hb236 => ?_)
        ·
          have hb236 : ¬ (z20 = 1) := by simpa using hb236
          refine st_op (ev_move rfl) rfl rfl rfl ?_
          refine st_op (ev_int rfl rfl rfl) rfl rfl rfl ?_
          refine st_op (ev_pickT rfl rfl) rfl rfl rfl ?_
          refine st_op (ev_move rfl) rfl rfl rfl ?_
          refine st_bool 63 rfl (fun hb237 => ?_) (fun hb237 => ?_)
          ·
            have hb237 : ¬ (z20 = 2) := by simpa using hb237
            exfalso; omega
          ·
            have hb237 : (z20 = 2) := by simpa using hb237
            refine st_op (ev_move rfl) rfl rfl rfl ?_
            refine st_call rfl rfl rfl ent41 rfl rfl rfl ?_
            have h238 := Row.fr hm219 hf235 (fun q hq e => ⟨_, e ▸ h230, show (7 : Nat) ≠ 1 by decide⟩)
            have h239 := Fr.blk hf235 (by omega) (fun e => (blk_ne hB224 h230 (show (2 : Nat) ≠ 7 by decide) e)) hB224
            obtain ⟨_, H241, hs240, hs240v, hx242⟩ := wal_rdone_spec H231 A217 z228 c218 h238 hk223 (by first | omega | (simp only [List.length_append, List.length_cons, List.length_nil, List.length_map, List.length_set, List.length_replicate, Spec.bytesOf_length]; omega) | (simp; omega)) (by first | assumption | exact Spec.Bytes.nil | exact Spec.bytes_of _ | (repeat' first | assumption | exact Spec.Bytes.nil | exact Spec.bytes_of _ | exact Spec.enc_bytes _ | exact Spec.four_bytes _ | exact Spec.sealF_bytes (by assumption) | apply Spec.Bytes.append | apply Spec.Bytes.cons (by omega) | apply Spec.Bytes.take | apply Spec.Bytes.drop)) z229 b32 (by omega) h239
            rw [hs240v] at hs240; clear hs240v
            refine ⟨_, H241, hs240, ?_⟩
            have H241n : H231.next ≤ H241.next := hx242.1
            refine st_op (ev_not rfl) rfl rfl rfl ?_
            refine st_op (ev_pickF rfl rfl) rfl rfl rfl ?_
            refine st_op (ev_move rfl) rfl rfl rfl ?_
            refine st_bool 68 rfl (fun hb243 => ?_) (fun hb243 => ?_)
            ·
              replace hb243 : (!z229 && z228.isEmpty) = false := by rw [Bool.not_eq_true'] at hb243; exact hb243
              refine st_skip rfl rfl rfl ?_
              refine st_skip rfl rfl rfl ?_
              refine st_skip rfl rfl rfl ?_
              refine st_op (ev_pickT rfl rfl) rfl rfl rfl ?_
              try show aw _ _ _ _ _ _
              refine aw_cond (t := true) rfl ?_
              try show aw _ _ _ _ _ _
              refine aw_seq ?_
              refine aw_reg ?_
              refine st_op (ev_build zero32 pl32 (parts := []) rfl (cs := [.bool false, .int .i64 0, .int .i64 0, .int .i64 0, .int .i64 0, .int .i64 0, .string (⟨#[]⟩)]) rfl) rfl rfl rfl ?_
              have hx245 : Ext H2 H241 := (Ext.trans (Ext.then (Ext.then (Ext.then (Ext.then (Ext.then (Ext.then (Ext.then (Ext.then (Ext.then (Ext.trans (Ext.trans hx10 hx37) hx43) hf48 (fun q hq e => by omega)) hx144 (fun q hq e => by omega)) hf163 (fun q hq e => by omega)) hx168 (fun q hq e => by omega)) hf187 (fun q hq e => by omega)) hx192 (fun q hq e => by omega)) hf211 (fun q hq e => by omega)) hx216 (fun q hq e => by omega)) hf235 (fun q hq e => by omega)) hx242)
              have h244 := Ext.blk hx245 (by omega) hB5
              obtain ⟨H246, he247, H246n_, hB248, f249⟩ := mem_store (v := .agg #[.bool false, .int .i64 0, .int .i64 0, .int .i64 0, .int .i64 0, .int .i64 0, .string (⟨#[]⟩)]) (o := 0) (cs' := [.bool false, .int .i64 0, .int .i64 0, .int .i64 0, .int .i64 0, .int .i64 0, .string (⟨#[]⟩)]) 7 rfl rfl size32 h244 rfl rfl rfl
              refine st_op0 (he247 _ _ _ _ _ _ _ _ _ rfl rfl) rfl rfl ?_
              have hf250 : Fr (fun q => q = b1) H241 H246 := Fr.write H246n_ f249
              have H246n : H241.next ≤ H246.next := hf250.1
              refine st_op (ev_assign rfl) rfl rfl rfl ?_
              refine st_op (ev_assign rfl) rfl rfl rfl ?_
              try show aw _ _ _ _ _ _
              refine aw_ret ?_
              have hx251 : Ext H H246 := (Ext.then (Ext.trans (Ext.then (Ext.then (Ext.then (Ext.then (Ext.then (Ext.then (Ext.then (Ext.then (Ext.then (Ext.trans (Ext.trans (Ext.trans hx6 hx10) hx37) hx43) hf48 (fun q hq e => by omega)) hx144 (fun q hq e => by omega)) hf163 (fun q hq e => by omega)) hx168 (fun q hq e => by omega)) hf187 (fun q hq e => by omega)) hx192 (fun q hq e => by omega)) hf211 (fun q hq e => by omega)) hx216 (fun q hq e => by omega)) hf235 (fun q hq e => by omega)) hx242) hf250 (fun q hq e => by omega))
              have hres : (Spec.decF b) = (false, 0, 0, 0, 0, 0, (⟨#[]⟩ : ByteArray), 0, 3) := by simp only [Spec.decF, hR19, hR154, hR178, hR202, hR226]; simp_all [Spec.decBad]
              exact ⟨.tuple #[.agg #[.bool false, .int .i64 0, .int .i64 0, .int .i64 0, .int .i64 0, .int .i64 0, .string (⟨#[]⟩)], .int .i64 0, .int .i64 3], (resA_of (resL_cell rfl (lvar_part (l := [.bool false, .int .i64 0, .int .i64 0, .int .i64 0, .int .i64 0, .int .i64 0, .string (⟨#[]⟩)]) many32 hB248 rfl rfl (by decide)) (resL_tmp rfl (resL_tmp rfl resL_nil))) rfl), by rw [hres], (by exact (Spec.decF_all bb).1), (by exact (Spec.decF_all bb).2.1), (by exact (Spec.decF_all bb).2.2), hx251⟩
            ·
              replace hb243 : (!z229 && z228.isEmpty) = true := by rw [Bool.not_eq_false'] at hb243; exact hb243
              have h252 := Ext.blk hx242 (by omega) hB233
              refine st_op (ev_load rfl (lvar_part (l := [.bool (z20 == 1), .int .i64 0, .int .i64 0, .int .i64 z155, .int .i64 z179, .int .i64 z203, .string z227]) many32 h252 rfl rfl (by decide))) rfl rfl rfl ?_
              refine st_call rfl rfl rfl ent14 rfl rfl rfl ?_
              obtain ⟨_, H254, hs253, hs253v, hx255⟩ := wal_May_spec H241 (z20 == 1) (0 : Int) (0 : Int) z155 z179 z203 z227
              rw [hs253v] at hs253; clear hs253v
              refine ⟨_, H254, hs253, ?_⟩
              have H254n : H241.next ≤ H254.next := hx255.1
              refine st_op (ev_not rfl) rfl rfl rfl ?_
              refine st_op (ev_pickF rfl rfl) rfl rfl rfl ?_
              try show aw _ _ _ _ _ _
              by_cases hc256 : (!(Spec.mayF (z20 == 1) (0 : Int) (0 : Int) z155 z179 z203 z227)) = true
              · refine aw_condT hc256 rfl ?_
                try show aw _ _ _ _ _ _
                replace hc256 : (Spec.mayF (z20 == 1) (0 : Int) (0 : Int) z155 z179 z203 z227) = false := by rw [Bool.not_eq_true'] at hc256; exact hc256
                refine aw_seq ?_
                refine aw_reg ?_
                refine st_op (ev_build zero32 pl32 (parts := []) rfl (cs := [.bool false, .int .i64 0, .int .i64 0, .int .i64 0, .int .i64 0, .int .i64 0, .string (⟨#[]⟩)]) rfl) rfl rfl rfl ?_
                have hx258 : Ext H2 H254 := (Ext.trans (Ext.trans (Ext.then (Ext.then (Ext.then (Ext.then (Ext.then (Ext.then (Ext.then (Ext.then (Ext.then (Ext.trans (Ext.trans hx10 hx37) hx43) hf48 (fun q hq e => by omega)) hx144 (fun q hq e => by omega)) hf163 (fun q hq e => by omega)) hx168 (fun q hq e => by omega)) hf187 (fun q hq e => by omega)) hx192 (fun q hq e => by omega)) hf211 (fun q hq e => by omega)) hx216 (fun q hq e => by omega)) hf235 (fun q hq e => by omega)) hx242) hx255)
                have h257 := Ext.blk hx258 (by omega) hB5
                obtain ⟨H259, he260, H259n_, hB261, f262⟩ := mem_store (v := .agg #[.bool false, .int .i64 0, .int .i64 0, .int .i64 0, .int .i64 0, .int .i64 0, .string (⟨#[]⟩)]) (o := 0) (cs' := [.bool false, .int .i64 0, .int .i64 0, .int .i64 0, .int .i64 0, .int .i64 0, .string (⟨#[]⟩)]) 7 rfl rfl size32 h257 rfl rfl rfl
                refine st_op0 (he260 _ _ _ _ _ _ _ _ _ rfl rfl) rfl rfl ?_
                have hf263 : Fr (fun q => q = b1) H254 H259 := Fr.write H259n_ f262
                have H259n : H254.next ≤ H259.next := hf263.1
                refine st_op (ev_assign rfl) rfl rfl rfl ?_
                refine st_op (ev_assign rfl) rfl rfl rfl ?_
                try show aw _ _ _ _ _ _
                refine aw_ret ?_
                have hx264 : Ext H H259 := (Ext.then (Ext.trans (Ext.trans (Ext.then (Ext.then (Ext.then (Ext.then (Ext.then (Ext.then (Ext.then (Ext.then (Ext.then (Ext.trans (Ext.trans (Ext.trans hx6 hx10) hx37) hx43) hf48 (fun q hq e => by omega)) hx144 (fun q hq e => by omega)) hf163 (fun q hq e => by omega)) hx168 (fun q hq e => by omega)) hf187 (fun q hq e => by omega)) hx192 (fun q hq e => by omega)) hf211 (fun q hq e => by omega)) hx216 (fun q hq e => by omega)) hf235 (fun q hq e => by omega)) hx242) hx255) hf263 (fun q hq e => by omega))
                have hres : (Spec.decF b) = (false, 0, 0, 0, 0, 0, (⟨#[]⟩ : ByteArray), 0, 3) := by simp only [Spec.decF, hR19, hR154, hR178, hR202, hR226]; simp_all [Spec.decBad]
                exact ⟨.tuple #[.agg #[.bool false, .int .i64 0, .int .i64 0, .int .i64 0, .int .i64 0, .int .i64 0, .string (⟨#[]⟩)], .int .i64 0, .int .i64 3], (resA_of (resL_cell rfl (lvar_part (l := [.bool false, .int .i64 0, .int .i64 0, .int .i64 0, .int .i64 0, .int .i64 0, .string (⟨#[]⟩)]) many32 hB261 rfl rfl (by decide)) (resL_tmp rfl (resL_tmp rfl resL_nil))) rfl), by rw [hres], (by exact (Spec.decF_all bb).1), (by exact (Spec.decF_all bb).2.1), (by exact (Spec.decF_all bb).2.2), hx264⟩
              · rw [Bool.not_eq_true] at hc256; refine aw_condF hc256 rfl ?_
                try show aw _ _ _ _ _ _
                replace hc256 : (Spec.mayF (z20 == 1) (0 : Int) (0 : Int) z155 z179 z203 z227) = true := by rw [Bool.not_eq_false'] at hc256; exact hc256
                refine aw_skip ?_
                try show aw _ _ _ _ _ _
                refine aw_seq ?_
                refine aw_reg ?_
                have h265 := Ext.blk hx255 (by omega) h252
                refine st_op (ev_load rfl (lvar_part (l := [.bool (z20 == 1), .int .i64 0, .int .i64 0, .int .i64 z155, .int .i64 z179, .int .i64 z203, .string z227]) many32 h265 rfl rfl (by decide))) rfl rfl rfl ?_
                refine st_op (ev_move rfl) rfl rfl rfl ?_
                have hx267 : Ext H2 H254 := (Ext.trans (Ext.trans (Ext.then (Ext.then (Ext.then (Ext.then (Ext.then (Ext.then (Ext.then (Ext.then (Ext.then (Ext.trans (Ext.trans hx10 hx37) hx43) hf48 (fun q hq e => by omega)) hx144 (fun q hq e => by omega)) hf163 (fun q hq e => by omega)) hx168 (fun q hq e => by omega)) hf187 (fun q hq e => by omega)) hx192 (fun q hq e => by omega)) hf211 (fun q hq e => by omega)) hx216 (fun q hq e => by omega)) hf235 (fun q hq e => by omega)) hx242) hx255)
                have h266 := Ext.blk hx267 (by omega) hB5
                obtain ⟨H268, he269, H268n_, hB270, f271⟩ := mem_store (v := .agg #[.bool (z20 == 1), .int .i64 0, .int .i64 0, .int .i64 z155, .int .i64 z179, .int .i64 z203, .string z227]) (o := 0) (cs' := [.bool (z20 == 1), .int .i64 0, .int .i64 0, .int .i64 z155, .int .i64 z179, .int .i64 z203, .string z227]) 7 rfl rfl size32 h266 rfl rfl rfl
                refine st_op0 (he269 _ _ _ _ _ _ _ _ _ rfl rfl) rfl rfl ?_
                have hf272 : Fr (fun q => q = b1) H254 H268 := Fr.write H268n_ f271
                have H268n : H254.next ≤ H268.next := hf272.1
                refine st_op (ev_assign rfl) rfl rfl rfl ?_
                refine st_op (ev_assign rfl) rfl rfl rfl ?_
                try show aw _ _ _ _ _ _
                refine aw_ret ?_
                have hx273 : Ext H H268 := (Ext.then (Ext.trans (Ext.trans (Ext.then (Ext.then (Ext.then (Ext.then (Ext.then (Ext.then (Ext.then (Ext.then (Ext.then (Ext.trans (Ext.trans (Ext.trans hx6 hx10) hx37) hx43) hf48 (fun q hq e => by omega)) hx144 (fun q hq e => by omega)) hf163 (fun q hq e => by omega)) hx168 (fun q hq e => by omega)) hf187 (fun q hq e => by omega)) hx192 (fun q hq e => by omega)) hf211 (fun q hq e => by omega)) hx216 (fun q hq e => by omega)) hf235 (fun q hq e => by omega)) hx242) hx255) hf272 (fun q hq e => by omega))
                have hres : (Spec.decF b) = ((z20 == 1), 0, 0, z155, z179, z203, z227, z22, 0) := by simp only [Spec.decF, hR19, hR154, hR178, hR202, hR226]; simp_all [Spec.decBad]
                exact ⟨.tuple #[.agg #[.bool (z20 == 1), .int .i64 0, .int .i64 0, .int .i64 z155, .int .i64 z179, .int .i64 z203, .string z227], .int .i64 z22, .int .i64 0], (resA_of (resL_cell rfl (lvar_part (l := [.bool (z20 == 1), .int .i64 0, .int .i64 0, .int .i64 z155, .int .i64 z179, .int .i64 z203, .string z227]) many32 hB270 rfl rfl (by decide)) (resL_tmp rfl (resL_tmp rfl resL_nil))) rfl), by rw [hres], (by exact (Spec.decF_all bb).1), (by exact (Spec.decF_all bb).2.1), (by exact (Spec.decF_all bb).2.2), hx273⟩
        ·
          have hb236 : (z20 = 1) := by simpa using hb236
          exfalso; omega
      · rw [Bool.not_eq_true] at hc137; refine aw_condF hc137 rfl ?_
        try show aw _ _ _ _ _ _
        have hc137 := ne_of_beq_false hc137
        refine aw_skip ?_
        try show aw _ _ _ _ _ _
        refine aw_seq ?_
        refine aw_seq ?_
        refine aw_reg ?_
        refine st_op (ev_move rfl) rfl rfl rfl ?_
        refine st_op (ev_int rfl rfl rfl) rfl rfl rfl ?_
        refine st_op (ev_move rfl) rfl rfl rfl ?_
        refine st_bool 59 rfl (fun hb274 => ?_) (fun hb274 => ?_)
        ·
          have hb274 : ¬ (z20 = 1) := by simpa using hb274
          refine st_op (ev_move rfl) rfl rfl rfl ?_
          refine st_op (ev_int rfl rfl rfl) rfl rfl rfl ?_
          refine st_op (ev_pickT rfl rfl) rfl rfl rfl ?_
          refine st_op (ev_move rfl) rfl rfl rfl ?_
          refine st_bool 63 rfl (fun hb275 => ?_) (fun hb275 => ?_)
          ·
            have hb275 : ¬ (z20 = 2) := by simpa using hb275
            refine st_skip rfl rfl rfl ?_
            refine st_skip rfl rfl rfl ?_
            refine st_skip rfl rfl rfl ?_
            refine st_op (ev_pickT rfl rfl) rfl rfl rfl ?_
            refine st_op (ev_move rfl) rfl rfl rfl ?_
            refine st_skip rfl rfl rfl ?_
            refine st_skip rfl rfl rfl ?_
            refine st_skip rfl rfl rfl ?_
            refine st_op (ev_pickT rfl rfl) rfl rfl rfl ?_
            try show aw _ _ _ _ _ _
            refine aw_cond (t := true) rfl ?_
            try show aw _ _ _ _ _ _
            refine aw_seq ?_
            refine aw_reg ?_
            refine st_op (ev_build zero32 pl32 (parts := []) rfl (cs := [.bool false, .int .i64 0, .int .i64 0, .int .i64 0, .int .i64 0, .int .i64 0, .string (⟨#[]⟩)]) rfl) rfl rfl rfl ?_
            have hx277 : Ext H2 H44 := (Ext.then (Ext.trans (Ext.trans hx10 hx37) hx43) hf48 (fun q hq e => by omega))
            have h276 := Ext.blk hx277 (by omega) hB5
            obtain ⟨H278, he279, H278n_, hB280, f281⟩ := mem_store (v := .agg #[.bool false, .int .i64 0, .int .i64 0, .int .i64 0, .int .i64 0, .int .i64 0, .string (⟨#[]⟩)]) (o := 0) (cs' := [.bool false, .int .i64 0, .int .i64 0, .int .i64 0, .int .i64 0, .int .i64 0, .string (⟨#[]⟩)]) 7 rfl rfl size32 h276 rfl rfl rfl
            refine st_op0 (he279 _ _ _ _ _ _ _ _ _ rfl rfl) rfl rfl ?_
            have hf282 : Fr (fun q => q = b1) H44 H278 := Fr.write H278n_ f281
            have H278n : H44.next ≤ H278.next := hf282.1
            refine st_op (ev_assign rfl) rfl rfl rfl ?_
            refine st_op (ev_assign rfl) rfl rfl rfl ?_
            try show aw _ _ _ _ _ _
            refine aw_ret ?_
            have hx283 : Ext H H278 := (Ext.then (Ext.then (Ext.trans (Ext.trans (Ext.trans hx6 hx10) hx37) hx43) hf48 (fun q hq e => by omega)) hf282 (fun q hq e => by omega))
            have hres : (Spec.decF b) = (false, 0, 0, 0, 0, 0, (⟨#[]⟩ : ByteArray), 0, 3) := by simp only [Spec.decF, hR19]; simp_all [Spec.decBad]
            exact ⟨.tuple #[.agg #[.bool false, .int .i64 0, .int .i64 0, .int .i64 0, .int .i64 0, .int .i64 0, .string (⟨#[]⟩)], .int .i64 0, .int .i64 3], (resA_of (resL_cell rfl (lvar_part (l := [.bool false, .int .i64 0, .int .i64 0, .int .i64 0, .int .i64 0, .int .i64 0, .string (⟨#[]⟩)]) many32 hB280 rfl rfl (by decide)) (resL_tmp rfl (resL_tmp rfl resL_nil))) rfl), by rw [hres], (by exact (Spec.decF_all bb).1), (by exact (Spec.decF_all bb).2.1), (by exact (Spec.decF_all bb).2.2), hx283⟩
          ·
            have hb275 : (z20 = 2) := by simpa using hb275
            refine st_op (ev_move rfl) rfl rfl rfl ?_
            refine st_call rfl rfl rfl ent41 rfl rfl rfl ?_
            have hx285 : Ext H9 H44 := (Ext.then (Ext.trans hx37 hx43) hf48 (fun q hq e => by omega))
            have h284 := My.ext hm13 hx285
            have hx287 : Ext H33 H44 := (Ext.then hx43 hf48 (fun q hq e => by omega))
            have h286 := Ext.blk hx287 (by omega) hB36
            obtain ⟨_, H289, hs288, hs288v, hx290⟩ := wal_rdone_spec H44 A11 z21 c12 (My.row h284) (My.capF h284 (by first | omega | (simp only [List.length_append, List.length_cons, List.length_nil, List.length_map, List.length_set, List.length_replicate, Spec.bytesOf_length]; omega) | (simp; omega))) (by first | omega | (simp only [List.length_append, List.length_cons, List.length_nil, List.length_map, List.length_set, List.length_replicate, Spec.bytesOf_length]; omega) | (simp; omega)) (by first | assumption | exact Spec.Bytes.nil | exact Spec.bytes_of _ | (repeat' first | assumption | exact Spec.Bytes.nil | exact Spec.bytes_of _ | exact Spec.enc_bytes _ | exact Spec.four_bytes _ | exact Spec.sealF_bytes (by assumption) | apply Spec.Bytes.append | apply Spec.Bytes.cons (by omega) | apply Spec.Bytes.take | apply Spec.Bytes.drop)) false b32 (by omega) h286
            rw [hs288v] at hs288; clear hs288v
            refine ⟨_, H289, hs288, ?_⟩
            have H289n : H44.next ≤ H289.next := hx290.1
            refine st_op (ev_not rfl) rfl rfl rfl ?_
            refine st_op (ev_pickF rfl rfl) rfl rfl rfl ?_
            refine st_op (ev_move rfl) rfl rfl rfl ?_
            refine st_bool 68 rfl (fun hb291 => ?_) (fun hb291 => ?_)
            ·
              replace hb291 : (!false && z21.isEmpty) = false := by rw [Bool.not_eq_true'] at hb291; exact hb291
              refine st_skip rfl rfl rfl ?_
              refine st_skip rfl rfl rfl ?_
              refine st_skip rfl rfl rfl ?_
              refine st_op (ev_pickT rfl rfl) rfl rfl rfl ?_
              try show aw _ _ _ _ _ _
              refine aw_cond (t := true) rfl ?_
              try show aw _ _ _ _ _ _
              refine aw_seq ?_
              refine aw_reg ?_
              refine st_op (ev_build zero32 pl32 (parts := []) rfl (cs := [.bool false, .int .i64 0, .int .i64 0, .int .i64 0, .int .i64 0, .int .i64 0, .string (⟨#[]⟩)]) rfl) rfl rfl rfl ?_
              have hx293 : Ext H2 H289 := (Ext.trans (Ext.then (Ext.trans (Ext.trans hx10 hx37) hx43) hf48 (fun q hq e => by omega)) hx290)
              have h292 := Ext.blk hx293 (by omega) hB5
              obtain ⟨H294, he295, H294n_, hB296, f297⟩ := mem_store (v := .agg #[.bool false, .int .i64 0, .int .i64 0, .int .i64 0, .int .i64 0, .int .i64 0, .string (⟨#[]⟩)]) (o := 0) (cs' := [.bool false, .int .i64 0, .int .i64 0, .int .i64 0, .int .i64 0, .int .i64 0, .string (⟨#[]⟩)]) 7 rfl rfl size32 h292 rfl rfl rfl
              refine st_op0 (he295 _ _ _ _ _ _ _ _ _ rfl rfl) rfl rfl ?_
              have hf298 : Fr (fun q => q = b1) H289 H294 := Fr.write H294n_ f297
              have H294n : H289.next ≤ H294.next := hf298.1
              refine st_op (ev_assign rfl) rfl rfl rfl ?_
              refine st_op (ev_assign rfl) rfl rfl rfl ?_
              try show aw _ _ _ _ _ _
              refine aw_ret ?_
              have hx299 : Ext H H294 := (Ext.then (Ext.trans (Ext.then (Ext.trans (Ext.trans (Ext.trans hx6 hx10) hx37) hx43) hf48 (fun q hq e => by omega)) hx290) hf298 (fun q hq e => by omega))
              have hres : (Spec.decF b) = (false, 0, 0, 0, 0, 0, (⟨#[]⟩ : ByteArray), 0, 3) := by simp only [Spec.decF, hR19]; simp_all [Spec.decBad]
              exact ⟨.tuple #[.agg #[.bool false, .int .i64 0, .int .i64 0, .int .i64 0, .int .i64 0, .int .i64 0, .string (⟨#[]⟩)], .int .i64 0, .int .i64 3], (resA_of (resL_cell rfl (lvar_part (l := [.bool false, .int .i64 0, .int .i64 0, .int .i64 0, .int .i64 0, .int .i64 0, .string (⟨#[]⟩)]) many32 hB296 rfl rfl (by decide)) (resL_tmp rfl (resL_tmp rfl resL_nil))) rfl), by rw [hres], (by exact (Spec.decF_all bb).1), (by exact (Spec.decF_all bb).2.1), (by exact (Spec.decF_all bb).2.2), hx299⟩
            ·
              replace hb291 : (!false && z21.isEmpty) = true := by rw [Bool.not_eq_false'] at hb291; exact hb291
              have h300 := Ext.blk hx290 (by omega) hB46
              refine st_op (ev_load rfl (lvar_part (l := [.bool (z20 == 1), .int .i64 0, .int .i64 0, .int .i64 0, .int .i64 0, .int .i64 0, .string (⟨#[]⟩)]) many32 h300 rfl rfl (by decide))) rfl rfl rfl ?_
              refine st_call rfl rfl rfl ent14 rfl rfl rfl ?_
              obtain ⟨_, H302, hs301, hs301v, hx303⟩ := wal_May_spec H289 (z20 == 1) (0 : Int) (0 : Int) (0 : Int) (0 : Int) (0 : Int) (⟨#[]⟩ : ByteArray)
              rw [hs301v] at hs301; clear hs301v
              refine ⟨_, H302, hs301, ?_⟩
              have H302n : H289.next ≤ H302.next := hx303.1
              refine st_op (ev_not rfl) rfl rfl rfl ?_
              refine st_op (ev_pickF rfl rfl) rfl rfl rfl ?_
              try show aw _ _ _ _ _ _
              by_cases hc304 : (!(Spec.mayF (z20 == 1) (0 : Int) (0 : Int) (0 : Int) (0 : Int) (0 : Int) (⟨#[]⟩ : ByteArray))) = true
              · refine aw_condT hc304 rfl ?_
                try show aw _ _ _ _ _ _
                replace hc304 : (Spec.mayF (z20 == 1) (0 : Int) (0 : Int) (0 : Int) (0 : Int) (0 : Int) (⟨#[]⟩ : ByteArray)) = false := by rw [Bool.not_eq_true'] at hc304; exact hc304
                refine aw_seq ?_
                refine aw_reg ?_
                refine st_op (ev_build zero32 pl32 (parts := []) rfl (cs := [.bool false, .int .i64 0, .int .i64 0, .int .i64 0, .int .i64 0, .int .i64 0, .string (⟨#[]⟩)]) rfl) rfl rfl rfl ?_
                have hx306 : Ext H2 H302 := (Ext.trans (Ext.trans (Ext.then (Ext.trans (Ext.trans hx10 hx37) hx43) hf48 (fun q hq e => by omega)) hx290) hx303)
                have h305 := Ext.blk hx306 (by omega) hB5
                obtain ⟨H307, he308, H307n_, hB309, f310⟩ := mem_store (v := .agg #[.bool false, .int .i64 0, .int .i64 0, .int .i64 0, .int .i64 0, .int .i64 0, .string (⟨#[]⟩)]) (o := 0) (cs' := [.bool false, .int .i64 0, .int .i64 0, .int .i64 0, .int .i64 0, .int .i64 0, .string (⟨#[]⟩)]) 7 rfl rfl size32 h305 rfl rfl rfl
                refine st_op0 (he308 _ _ _ _ _ _ _ _ _ rfl rfl) rfl rfl ?_
                have hf311 : Fr (fun q => q = b1) H302 H307 := Fr.write H307n_ f310
                have H307n : H302.next ≤ H307.next := hf311.1
                refine st_op (ev_assign rfl) rfl rfl rfl ?_
                refine st_op (ev_assign rfl) rfl rfl rfl ?_
                try show aw _ _ _ _ _ _
                refine aw_ret ?_
                have hx312 : Ext H H307 := (Ext.then (Ext.trans (Ext.trans (Ext.then (Ext.trans (Ext.trans (Ext.trans hx6 hx10) hx37) hx43) hf48 (fun q hq e => by omega)) hx290) hx303) hf311 (fun q hq e => by omega))
                have hres : (Spec.decF b) = (false, 0, 0, 0, 0, 0, (⟨#[]⟩ : ByteArray), 0, 3) := by simp only [Spec.decF, hR19]; simp_all [Spec.decBad]
                exact ⟨.tuple #[.agg #[.bool false, .int .i64 0, .int .i64 0, .int .i64 0, .int .i64 0, .int .i64 0, .string (⟨#[]⟩)], .int .i64 0, .int .i64 3], (resA_of (resL_cell rfl (lvar_part (l := [.bool false, .int .i64 0, .int .i64 0, .int .i64 0, .int .i64 0, .int .i64 0, .string (⟨#[]⟩)]) many32 hB309 rfl rfl (by decide)) (resL_tmp rfl (resL_tmp rfl resL_nil))) rfl), by rw [hres], (by exact (Spec.decF_all bb).1), (by exact (Spec.decF_all bb).2.1), (by exact (Spec.decF_all bb).2.2), hx312⟩
              · rw [Bool.not_eq_true] at hc304; refine aw_condF hc304 rfl ?_
                try show aw _ _ _ _ _ _
                replace hc304 : (Spec.mayF (z20 == 1) (0 : Int) (0 : Int) (0 : Int) (0 : Int) (0 : Int) (⟨#[]⟩ : ByteArray)) = true := by rw [Bool.not_eq_false'] at hc304; exact hc304
                refine aw_skip ?_
                try show aw _ _ _ _ _ _
                refine aw_seq ?_
                refine aw_reg ?_
                have h313 := Ext.blk hx303 (by omega) h300
                refine st_op (ev_load rfl (lvar_part (l := [.bool (z20 == 1), .int .i64 0, .int .i64 0, .int .i64 0, .int .i64 0, .int .i64 0, .string (⟨#[]⟩)]) many32 h313 rfl rfl (by decide))) rfl rfl rfl ?_
                refine st_op (ev_move rfl) rfl rfl rfl ?_
                have hx315 : Ext H2 H302 := (Ext.trans (Ext.trans (Ext.then (Ext.trans (Ext.trans hx10 hx37) hx43) hf48 (fun q hq e => by omega)) hx290) hx303)
                have h314 := Ext.blk hx315 (by omega) hB5
                obtain ⟨H316, he317, H316n_, hB318, f319⟩ := mem_store (v := .agg #[.bool (z20 == 1), .int .i64 0, .int .i64 0, .int .i64 0, .int .i64 0, .int .i64 0, .string (⟨#[]⟩)]) (o := 0) (cs' := [.bool (z20 == 1), .int .i64 0, .int .i64 0, .int .i64 0, .int .i64 0, .int .i64 0, .string (⟨#[]⟩)]) 7 rfl rfl size32 h314 rfl rfl rfl
                refine st_op0 (he317 _ _ _ _ _ _ _ _ _ rfl rfl) rfl rfl ?_
                have hf320 : Fr (fun q => q = b1) H302 H316 := Fr.write H316n_ f319
                have H316n : H302.next ≤ H316.next := hf320.1
                refine st_op (ev_assign rfl) rfl rfl rfl ?_
                refine st_op (ev_assign rfl) rfl rfl rfl ?_
                try show aw _ _ _ _ _ _
                refine aw_ret ?_
                have hx321 : Ext H H316 := (Ext.then (Ext.trans (Ext.trans (Ext.then (Ext.trans (Ext.trans (Ext.trans hx6 hx10) hx37) hx43) hf48 (fun q hq e => by omega)) hx290) hx303) hf320 (fun q hq e => by omega))
                have hres : (Spec.decF b) = ((z20 == 1), 0, 0, 0, 0, 0, (⟨#[]⟩ : ByteArray), z22, 0) := by simp only [Spec.decF, hR19]; simp_all [Spec.decBad]
                exact ⟨.tuple #[.agg #[.bool (z20 == 1), .int .i64 0, .int .i64 0, .int .i64 0, .int .i64 0, .int .i64 0, .string (⟨#[]⟩)], .int .i64 z22, .int .i64 0], (resA_of (resL_cell rfl (lvar_part (l := [.bool (z20 == 1), .int .i64 0, .int .i64 0, .int .i64 0, .int .i64 0, .int .i64 0, .string (⟨#[]⟩)]) many32 hB318 rfl rfl (by decide)) (resL_tmp rfl (resL_tmp rfl resL_nil))) rfl), by rw [hres], (by exact (Spec.decF_all bb).1), (by exact (Spec.decF_all bb).2.1), (by exact (Spec.decF_all bb).2.2), hx321⟩
        ·
          have hb274 : (z20 = 1) := by simpa using hb274
          refine st_skip rfl rfl rfl ?_
          refine st_skip rfl rfl rfl ?_
          refine st_op (ev_pickF rfl rfl) rfl rfl rfl ?_
          refine st_op (ev_move rfl) rfl rfl rfl ?_
          refine st_op (ev_move rfl) rfl rfl rfl ?_
          refine st_call rfl rfl rfl ent41 rfl rfl rfl ?_
          have hx323 : Ext H9 H44 := (Ext.then (Ext.trans hx37 hx43) hf48 (fun q hq e => by omega))
          have h322 := My.ext hm13 hx323
          have hx325 : Ext H33 H44 := (Ext.then hx43 hf48 (fun q hq e => by omega))
          have h324 := Ext.blk hx325 (by omega) hB36
          obtain ⟨_, H327, hs326, hs326v, hx328⟩ := wal_rdone_spec H44 A11 z21 c12 (My.row h322) (My.capF h322 (by first | omega | (simp only [List.length_append, List.length_cons, List.length_nil, List.length_map, List.length_set, List.length_replicate, Spec.bytesOf_length]; omega) | (simp; omega))) (by first | omega | (simp only [List.length_append, List.length_cons, List.length_nil, List.length_map, List.length_set, List.length_replicate, Spec.bytesOf_length]; omega) | (simp; omega)) (by first | assumption | exact Spec.Bytes.nil | exact Spec.bytes_of _ | (repeat' first | assumption | exact Spec.Bytes.nil | exact Spec.bytes_of _ | exact Spec.enc_bytes _ | exact Spec.four_bytes _ | exact Spec.sealF_bytes (by assumption) | apply Spec.Bytes.append | apply Spec.Bytes.cons (by omega) | apply Spec.Bytes.take | apply Spec.Bytes.drop)) false b32 (by omega) h324
          rw [hs326v] at hs326; clear hs326v
          refine ⟨_, H327, hs326, ?_⟩
          have H327n : H44.next ≤ H327.next := hx328.1
          refine st_op (ev_not rfl) rfl rfl rfl ?_
          refine st_op (ev_pickF rfl rfl) rfl rfl rfl ?_
          refine st_op (ev_move rfl) rfl rfl rfl ?_
          refine st_bool 68 rfl (fun hb329 => ?_) (fun hb329 => ?_)
          ·
            replace hb329 : (!false && z21.isEmpty) = false := by rw [Bool.not_eq_true'] at hb329; exact hb329
            refine st_skip rfl rfl rfl ?_
            refine st_skip rfl rfl rfl ?_
            refine st_skip rfl rfl rfl ?_
            refine st_op (ev_pickT rfl rfl) rfl rfl rfl ?_
            try show aw _ _ _ _ _ _
            refine aw_cond (t := true) rfl ?_
            try show aw _ _ _ _ _ _
            refine aw_seq ?_
            refine aw_reg ?_
            refine st_op (ev_build zero32 pl32 (parts := []) rfl (cs := [.bool false, .int .i64 0, .int .i64 0, .int .i64 0, .int .i64 0, .int .i64 0, .string (⟨#[]⟩)]) rfl) rfl rfl rfl ?_
            have hx331 : Ext H2 H327 := (Ext.trans (Ext.then (Ext.trans (Ext.trans hx10 hx37) hx43) hf48 (fun q hq e => by omega)) hx328)
            have h330 := Ext.blk hx331 (by omega) hB5
            obtain ⟨H332, he333, H332n_, hB334, f335⟩ := mem_store (v := .agg #[.bool false, .int .i64 0, .int .i64 0, .int .i64 0, .int .i64 0, .int .i64 0, .string (⟨#[]⟩)]) (o := 0) (cs' := [.bool false, .int .i64 0, .int .i64 0, .int .i64 0, .int .i64 0, .int .i64 0, .string (⟨#[]⟩)]) 7 rfl rfl size32 h330 rfl rfl rfl
            refine st_op0 (he333 _ _ _ _ _ _ _ _ _ rfl rfl) rfl rfl ?_
            have hf336 : Fr (fun q => q = b1) H327 H332 := Fr.write H332n_ f335
            have H332n : H327.next ≤ H332.next := hf336.1
            refine st_op (ev_assign rfl) rfl rfl rfl ?_
            refine st_op (ev_assign rfl) rfl rfl rfl ?_
            try show aw _ _ _ _ _ _
            refine aw_ret ?_
            have hx337 : Ext H H332 := (Ext.then (Ext.trans (Ext.then (Ext.trans (Ext.trans (Ext.trans hx6 hx10) hx37) hx43) hf48 (fun q hq e => by omega)) hx328) hf336 (fun q hq e => by omega))
            have hres : (Spec.decF b) = (false, 0, 0, 0, 0, 0, (⟨#[]⟩ : ByteArray), 0, 3) := by simp only [Spec.decF, hR19]; simp_all [Spec.decBad]
            exact ⟨.tuple #[.agg #[.bool false, .int .i64 0, .int .i64 0, .int .i64 0, .int .i64 0, .int .i64 0, .string (⟨#[]⟩)], .int .i64 0, .int .i64 3], (resA_of (resL_cell rfl (lvar_part (l := [.bool false, .int .i64 0, .int .i64 0, .int .i64 0, .int .i64 0, .int .i64 0, .string (⟨#[]⟩)]) many32 hB334 rfl rfl (by decide)) (resL_tmp rfl (resL_tmp rfl resL_nil))) rfl), by rw [hres], (by exact (Spec.decF_all bb).1), (by exact (Spec.decF_all bb).2.1), (by exact (Spec.decF_all bb).2.2), hx337⟩
          ·
            replace hb329 : (!false && z21.isEmpty) = true := by rw [Bool.not_eq_false'] at hb329; exact hb329
            have h338 := Ext.blk hx328 (by omega) hB46
            refine st_op (ev_load rfl (lvar_part (l := [.bool (z20 == 1), .int .i64 0, .int .i64 0, .int .i64 0, .int .i64 0, .int .i64 0, .string (⟨#[]⟩)]) many32 h338 rfl rfl (by decide))) rfl rfl rfl ?_
            refine st_call rfl rfl rfl ent14 rfl rfl rfl ?_
            obtain ⟨_, H340, hs339, hs339v, hx341⟩ := wal_May_spec H327 (z20 == 1) (0 : Int) (0 : Int) (0 : Int) (0 : Int) (0 : Int) (⟨#[]⟩ : ByteArray)
            rw [hs339v] at hs339; clear hs339v
            refine ⟨_, H340, hs339, ?_⟩
            have H340n : H327.next ≤ H340.next := hx341.1
            refine st_op (ev_not rfl) rfl rfl rfl ?_
            refine st_op (ev_pickF rfl rfl) rfl rfl rfl ?_
            try show aw _ _ _ _ _ _
            by_cases hc342 : (!(Spec.mayF (z20 == 1) (0 : Int) (0 : Int) (0 : Int) (0 : Int) (0 : Int) (⟨#[]⟩ : ByteArray))) = true
            · refine aw_condT hc342 rfl ?_
              try show aw _ _ _ _ _ _
              replace hc342 : (Spec.mayF (z20 == 1) (0 : Int) (0 : Int) (0 : Int) (0 : Int) (0 : Int) (⟨#[]⟩ : ByteArray)) = false := by rw [Bool.not_eq_true'] at hc342; exact hc342
              refine aw_seq ?_
              refine aw_reg ?_
              refine st_op (ev_build zero32 pl32 (parts := []) rfl (cs := [.bool false, .int .i64 0, .int .i64 0, .int .i64 0, .int .i64 0, .int .i64 0, .string (⟨#[]⟩)]) rfl) rfl rfl rfl ?_
              have hx344 : Ext H2 H340 := (Ext.trans (Ext.trans (Ext.then (Ext.trans (Ext.trans hx10 hx37) hx43) hf48 (fun q hq e => by omega)) hx328) hx341)
              have h343 := Ext.blk hx344 (by omega) hB5
              obtain ⟨H345, he346, H345n_, hB347, f348⟩ := mem_store (v := .agg #[.bool false, .int .i64 0, .int .i64 0, .int .i64 0, .int .i64 0, .int .i64 0, .string (⟨#[]⟩)]) (o := 0) (cs' := [.bool false, .int .i64 0, .int .i64 0, .int .i64 0, .int .i64 0, .int .i64 0, .string (⟨#[]⟩)]) 7 rfl rfl size32 h343 rfl rfl rfl
              refine st_op0 (he346 _ _ _ _ _ _ _ _ _ rfl rfl) rfl rfl ?_
              have hf349 : Fr (fun q => q = b1) H340 H345 := Fr.write H345n_ f348
              have H345n : H340.next ≤ H345.next := hf349.1
              refine st_op (ev_assign rfl) rfl rfl rfl ?_
              refine st_op (ev_assign rfl) rfl rfl rfl ?_
              try show aw _ _ _ _ _ _
              refine aw_ret ?_
              have hx350 : Ext H H345 := (Ext.then (Ext.trans (Ext.trans (Ext.then (Ext.trans (Ext.trans (Ext.trans hx6 hx10) hx37) hx43) hf48 (fun q hq e => by omega)) hx328) hx341) hf349 (fun q hq e => by omega))
              have hres : (Spec.decF b) = (false, 0, 0, 0, 0, 0, (⟨#[]⟩ : ByteArray), 0, 3) := by simp only [Spec.decF, hR19]; simp_all [Spec.decBad]
              exact ⟨.tuple #[.agg #[.bool false, .int .i64 0, .int .i64 0, .int .i64 0, .int .i64 0, .int .i64 0, .string (⟨#[]⟩)], .int .i64 0, .int .i64 3], (resA_of (resL_cell rfl (lvar_part (l := [.bool false, .int .i64 0, .int .i64 0, .int .i64 0, .int .i64 0, .int .i64 0, .string (⟨#[]⟩)]) many32 hB347 rfl rfl (by decide)) (resL_tmp rfl (resL_tmp rfl resL_nil))) rfl), by rw [hres], (by exact (Spec.decF_all bb).1), (by exact (Spec.decF_all bb).2.1), (by exact (Spec.decF_all bb).2.2), hx350⟩
            · rw [Bool.not_eq_true] at hc342; refine aw_condF hc342 rfl ?_
              try show aw _ _ _ _ _ _
              replace hc342 : (Spec.mayF (z20 == 1) (0 : Int) (0 : Int) (0 : Int) (0 : Int) (0 : Int) (⟨#[]⟩ : ByteArray)) = true := by rw [Bool.not_eq_false'] at hc342; exact hc342
              refine aw_skip ?_
              try show aw _ _ _ _ _ _
              refine aw_seq ?_
              refine aw_reg ?_
              have h351 := Ext.blk hx341 (by omega) h338
              refine st_op (ev_load rfl (lvar_part (l := [.bool (z20 == 1), .int .i64 0, .int .i64 0, .int .i64 0, .int .i64 0, .int .i64 0, .string (⟨#[]⟩)]) many32 h351 rfl rfl (by decide))) rfl rfl rfl ?_
              refine st_op (ev_move rfl) rfl rfl rfl ?_
              have hx353 : Ext H2 H340 := (Ext.trans (Ext.trans (Ext.then (Ext.trans (Ext.trans hx10 hx37) hx43) hf48 (fun q hq e => by omega)) hx328) hx341)
              have h352 := Ext.blk hx353 (by omega) hB5
              obtain ⟨H354, he355, H354n_, hB356, f357⟩ := mem_store (v := .agg #[.bool (z20 == 1), .int .i64 0, .int .i64 0, .int .i64 0, .int .i64 0, .int .i64 0, .string (⟨#[]⟩)]) (o := 0) (cs' := [.bool (z20 == 1), .int .i64 0, .int .i64 0, .int .i64 0, .int .i64 0, .int .i64 0, .string (⟨#[]⟩)]) 7 rfl rfl size32 h352 rfl rfl rfl
              refine st_op0 (he355 _ _ _ _ _ _ _ _ _ rfl rfl) rfl rfl ?_
              have hf358 : Fr (fun q => q = b1) H340 H354 := Fr.write H354n_ f357
              have H354n : H340.next ≤ H354.next := hf358.1
              refine st_op (ev_assign rfl) rfl rfl rfl ?_
              refine st_op (ev_assign rfl) rfl rfl rfl ?_
              try show aw _ _ _ _ _ _
              refine aw_ret ?_
              have hx359 : Ext H H354 := (Ext.then (Ext.trans (Ext.trans (Ext.then (Ext.trans (Ext.trans (Ext.trans hx6 hx10) hx37) hx43) hf48 (fun q hq e => by omega)) hx328) hx341) hf358 (fun q hq e => by omega))
              have hres : (Spec.decF b) = ((z20 == 1), 0, 0, 0, 0, 0, (⟨#[]⟩ : ByteArray), z22, 0) := by simp only [Spec.decF, hR19]; simp_all [Spec.decBad]
              exact ⟨.tuple #[.agg #[.bool (z20 == 1), .int .i64 0, .int .i64 0, .int .i64 0, .int .i64 0, .int .i64 0, .string (⟨#[]⟩)], .int .i64 z22, .int .i64 0], (resA_of (resL_cell rfl (lvar_part (l := [.bool (z20 == 1), .int .i64 0, .int .i64 0, .int .i64 0, .int .i64 0, .int .i64 0, .string (⟨#[]⟩)]) many32 hB356 rfl rfl (by decide)) (resL_tmp rfl (resL_tmp rfl resL_nil))) rfl), by rw [hres], (by exact (Spec.decF_all bb).1), (by exact (Spec.decF_all bb).2.1), (by exact (Spec.decF_all bb).2.2), hx359⟩
theorem wal_Scan_spec (H : Heap) (bA : Option Addr) (b : List Int) (bc : Nat) (hb : Row H bA bc 1 (b.map u8c)) (cb : b.length ≤ bc) (lb : b.length ≤ 1073741824) (bb : Spec.Bytes b) : ∃ v H', Spec Try.prog 20 [.slice bA b.length bc] H v H' ∧ (∃ rA0 rc0, (v = .tuple #[.slice rA0 (((Spec.scanW b).1).length) rc0, .int .i64 ((Spec.scanW b).2.1), .bool ((Spec.scanW b).2.2)]) ∧ (My H H' rA0 rc0 7 (((Spec.scanW b).1).map Rec.cells)) ∧ (Ext H H')) := by
  refine spec_go1 E0_ok 37 (f := 20) Try.func20 rfl rfl rfl ?_
  refine aw_seq ?_
  refine aw_reg ?_
  refine st_op (ev_assign rfl) rfl rfl rfl ?_
  refine st_op (ev_assign rfl) rfl rfl rfl ?_
  refine st_op (ev_assign rfl) rfl rfl rfl ?_
  try show aw _ _ _ _ _ _
  refine aw_seq ?_
  refine aw_reg ?_
  refine st_op (ev_assign rfl) rfl rfl rfl ?_
  try show aw _ _ _ _ _ _
  refine aw_seq ?_
  refine aw_reg ?_
  refine st_op (ev_assign rfl) rfl rfl rfl ?_
  try show aw _ _ _ _ _ _
  refine aw_seq ?_
  refine aw_block ?_
  have hm3 : My H H none 0 7 (([] : List Rec).map Rec.cells) := .nil
  refine aw_keep [0, 5, 6] (l' := (.cons 0 (.slice bA b.length bc) (.cons 5 (.slice none 0 0) (.cons 6 (.int .i64 0) .nil)))) (by repeat (first | exact Up.done | refine Up.then ?_ | refine Up.inBlock ?_)) rfl ?_
  refine aw_iter (α := Int × Option Addr × Nat × List Rec × Nat × Heap) (fun a => b.length - a.2.2.2.2.1) (fun a => (.cons 0 (.slice bA b.length bc) (.cons 5 (.slice a.2.1 a.2.2.2.1.length a.2.2.1) (.cons 6 (.int .i64 a.1) .nil)))) (fun a => a.2.2.2.2.2) (fun a => (a.1 = (a.2.2.2.2.1 : Int)) ∧ (a.2.2.2.2.1 ≤ b.length) ∧ (a.2.2.2.1.length ≤ a.2.2.2.2.1) ∧ (Spec.scanW b = (a.2.2.2.1 ++ (Spec.scanW (b.drop a.2.2.2.2.1)).1, (a.2.2.2.2.1 : Int) + (Spec.scanW (b.drop a.2.2.2.2.1)).2.1, (Spec.scanW (b.drop a.2.2.2.2.1)).2.2)) ∧ (0 ≤ a.1 ∧ a.1 ≤ 1073741824) ∧ (My H a.2.2.2.2.2 a.2.1 a.2.2.1 7 (a.2.2.2.1.map Rec.cells)) ∧ (Ext H a.2.2.2.2.2)) ((0 : Int), none, 0, ([] : List Rec), 0, H) ⟨(show (0 : Int) = (0 : Int) from rfl), (show 0 ≤ b.length from Nat.zero_le _), (show ([] : List Rec).length ≤ 0 from Nat.le_refl _), (show Spec.scanW b = (([] : List Rec) ++ (Spec.scanW (b.drop 0)).1, (0 : Int) + (Spec.scanW (b.drop 0)).2.1, (Spec.scanW (b.drop 0)).2.2) from (by simp)), (show 0 ≤ (0 : Int) ∧ (0 : Int) ≤ 1073741824 from ⟨by omega, by omega⟩), (show My H H none 0 7 (([] : List Rec).map Rec.cells) from hm3), (show Ext H H from (Ext.refl H))⟩ ?_
  rintro ⟨at_, A, cp, l, p, Hl1⟩ ⟨hp, hpl, hll, hS, hn2, hm4, hxl5⟩ ih6
  replace hp : at_ = (p : Int) := hp
  replace hpl : p ≤ b.length := hpl
  replace hll : l.length ≤ p := hll
  replace hS : Spec.scanW b = (l ++ (Spec.scanW (b.drop p)).1, (p : Int) + (Spec.scanW (b.drop p)).2.1, (Spec.scanW (b.drop p)).2.2) := hS
  replace hn2 : 0 ≤ at_ ∧ at_ ≤ 1073741824 := hn2
  replace hm4 : My H Hl1 A cp 7 (l.map Rec.cells) := hm4
  replace hxl5 : Ext H Hl1 := hxl5
  show aw _ _ _ (RL _ (.cons 0 (.slice bA b.length bc) (.cons 5 (.slice A l.length cp) (.cons 6 (.int .i64 at_) .nil)))) Hl1 _
  have Hl1n : H.next ≤ Hl1.next := hxl5.1
  refine aw_seq ?_
  refine aw_seq ?_
  refine aw_reg ?_
  refine st_op (ev_move rfl) rfl rfl rfl ?_
  refine st_op (ev_move rfl) rfl rfl rfl ?_
  refine st_op (ev_lenSl rfl Try.underlying30) rfl rfl rfl ?_
  refine st_op (ev_int rfl rfl rfl) rfl rfl rfl ?_
  try show aw _ _ _ _ _ _
  by_cases hc7 : (decide (at_ < (b.length : Int))) = true
  · refine aw_condT hc7 rfl ?_
    try show aw _ _ _ _ _ _
    have hc7 := of_decide_eq_true hc7
    refine aw_skip ?_
    try show aw _ _ _ _ _ _
    refine aw_block ?_
    refine aw_seq ?_
    refine aw_reg ?_
    refine st_op (ev_move rfl) rfl rfl rfl ?_
    refine st_op (ev_move rfl) rfl rfl rfl ?_
    have h16 := Row.ext hb hxl5
    obtain ⟨A8, c9, L10, hL11, hl12, hs13, hr14, hc15⟩ := sliceA_typed u8c el30 (by decide) h16 cb (lo := some (.int .i64 at_)) (hi := none) (l := (at_).toNat) (h := b.length) rfl (bound_int (by first | omega | (simp only [List.length_append, List.length_cons, List.length_nil, List.length_map, List.length_set, List.length_replicate, Spec.bytesOf_length]; omega) | (simp; omega)) (by first | omega | (simp only [List.length_append, List.length_cons, List.length_nil, List.length_map, List.length_set, List.length_replicate, Spec.bytesOf_length]; omega) | (simp; omega)) (by first | rfl | omega)) (by first | omega | (simp only [List.length_append, List.length_cons, List.length_nil, List.length_map, List.length_set, List.length_replicate, Spec.bytesOf_length]; omega) | (simp; omega)) (by first | omega | (simp only [List.length_append, List.length_cons, List.length_nil, List.length_map, List.length_set, List.length_replicate, Spec.bytesOf_length]; omega) | (simp; omega))
    refine st_op (ev_slice rfl rfl rfl rfl hs13) rfl rfl rfl ?_
    have hL11b : Spec.Bytes L10 := by rw [hL11]; exact Spec.Bytes.take (Spec.Bytes.drop (by first | assumption | exact Spec.Bytes.nil | exact Spec.bytes_of _ | (repeat' first | assumption | exact Spec.Bytes.nil | exact Spec.bytes_of _ | exact Spec.enc_bytes _ | exact Spec.four_bytes _ | exact Spec.sealF_bytes (by assumption) | apply Spec.Bytes.append | apply Spec.Bytes.cons (by omega) | apply Spec.Bytes.take | apply Spec.Bytes.drop)) _) _
    refine st_call rfl rfl rfl ent16 rfl rfl rfl ?_
    obtain ⟨_, H18, hs17, hs17v, hq20, hq21, hq22, hx19⟩ := wal_Decode_spec Hl1 A8 L10 c9 hr14 hc15 (by first | omega | (simp only [List.length_append, List.length_cons, List.length_nil, List.length_map, List.length_set, List.length_replicate, Spec.bytesOf_length]; omega) | (simp; omega)) (by first | assumption | exact Spec.Bytes.nil | exact Spec.bytes_of _ | (repeat' first | assumption | exact Spec.Bytes.nil | exact Spec.bytes_of _ | exact Spec.enc_bytes _ | exact Spec.four_bytes _ | exact Spec.sealF_bytes (by assumption) | apply Spec.Bytes.append | apply Spec.Bytes.cons (by omega) | apply Spec.Bytes.take | apply Spec.Bytes.drop))
    rw [hs17v] at hs17; clear hs17v
    generalize hR24 : (Spec.decF L10) = r23 at hs17 hq20 hq21 hq22
    obtain ⟨z25, z26, z27, z28, z29, z30, z31, z32, z33⟩ := r23
    dsimp only at hs17 hq20 hq21 hq22
    refine ⟨_, H18, hs17, ?_⟩
    have H18n : Hl1.next ≤ H18.next := hx19.1
    refine st_op (ev_move rfl) rfl rfl rfl ?_
    refine st_op (ev_extract rfl rfl) rfl rfl rfl ?_
    refine st_op (ev_extract rfl rfl) rfl rfl rfl ?_
    refine st_op (ev_extract rfl rfl) rfl rfl rfl ?_
    obtain ⟨b34, H35, he36, b34e, H35n_, hB38, f37⟩ := mem_alloc H18 zero32
    refine st_op (he36 _ _ _ _ _ _ _) rfl rfl rfl ?_
    have hx39 : Ext H18 H35 := Ext.new (by omega) H35n_ f37
    have H35n : H18.next ≤ H35.next := hx39.1
    obtain ⟨H40, he41, H40n_, hB42, f43⟩ := mem_store (v := .agg #[.bool z25, .int .i64 z26, .int .i64 z27, .int .i64 z28, .int .i64 z29, .int .i64 z30, .string z31]) (o := 0) (cs' := [.bool z25, .int .i64 z26, .int .i64 z27, .int .i64 z28, .int .i64 z29, .int .i64 z30, .string z31]) 7 rfl rfl size32 hB38 rfl rfl rfl
    refine st_op0 (he41 _ _ _ _ _ _ _ _ _ rfl rfl) rfl rfl ?_
    have hf44 : Fr (fun q => q = b34) H35 H40 := Fr.write H40n_ f43
    have H40n : H35.next ≤ H40.next := hf44.1
    refine st_op (ev_assign rfl) rfl rfl rfl ?_
    refine st_op (ev_assign rfl) rfl rfl rfl ?_
    try show aw _ _ _ _ _ _
    refine aw_seq ?_
    refine aw_seq ?_
    refine aw_reg ?_
    refine st_op (ev_move rfl) rfl rfl rfl ?_
    refine st_op (ev_int rfl rfl rfl) rfl rfl rfl ?_
    try show aw _ _ _ _ _ _
    by_cases hc45 : (z33 != 0) = true
    · refine aw_condT hc45 rfl ?_
      try show aw _ _ _ _ _ _
      have hc45 : ¬ (z33 = 0) := by simpa using hc45
      refine aw_seq ?_
      refine aw_reg ?_
      refine st_op (ev_move rfl) rfl rfl rfl ?_
      refine st_op (ev_move rfl) rfl rfl rfl ?_
      refine st_op (ev_move rfl) rfl rfl rfl ?_
      refine st_op (ev_int rfl rfl rfl) rfl rfl rfl ?_
      refine st_op (ev_assign rfl) rfl rfl rfl ?_
      refine st_op (ev_assign rfl) rfl rfl rfl ?_
      refine st_op (ev_assign rfl) rfl rfl rfl ?_
      try show aw _ _ _ _ _ _
      refine aw_ret ?_
      have hx47 : Ext Hl1 H40 := (Ext.then (Ext.trans hx19 hx39) hf44 (fun q hq e => by omega))
      have h46 := My.ext hm4 hx47
      have hx48 : Ext H H40 := (Ext.then (Ext.trans (Ext.trans hxl5 hx19) hx39) hf44 (fun q hq e => by omega))
      have hres : (Spec.scanW b) = (l, at_, (z33 == 2)) := by rw [hS, Spec.scanW_bad (l := b.drop p) (by intro h; rw [List.drop_eq_nil_iff] at h; omega) ((congrArg Spec.decF (Spec.drop_at hp hL11).symm).trans hR24) (by omega)]; simp [hp]
      exact ⟨.tuple #[.slice A l.length cp, .int .i64 at_, .bool (z33 == 2)], rfl, A, cp, by rw [hres]; first | done | rfl | simp, (by rw [hres]; exact h46), hx48⟩
    · rw [Bool.not_eq_true] at hc45; refine aw_condF hc45 rfl ?_
      try show aw _ _ _ _ _ _
      have hc45 : (z33 = 0) := by simpa using hc45
      refine aw_skip ?_
      try show aw _ _ _ _ _ _
      refine aw_seq ?_
      refine aw_reg ?_
      refine st_op (ev_move rfl) rfl rfl rfl ?_
      refine st_op (ev_load rfl (lvar_part (l := [.bool z25, .int .i64 z26, .int .i64 z27, .int .i64 z28, .int .i64 z29, .int .i64 z30, .string z31]) many32 hB42 rfl rfl (by decide))) rfl rfl rfl ?_
      obtain ⟨b49, H50, he51, b49e, H50n_, hm53, f52⟩ := mem_lit H40 (xs := [.agg #[.bool z25, .int .i64 z26, .int .i64 z27, .int .i64 z28, .int .i64 z29, .int .i64 z30, .string z31]]) (m := 1) (rows := [[.bool z25, .int .i64 z26, .int .i64 z27, .int .i64 z28, .int .i64 z29, .int .i64 z30, .string z31]]) rfl eok45 (by decide) (by decide) zf32 rfl (allLen rfl) rfl
      replace hm53 : My H40 H50 (some ⟨b49, 0, none⟩) 1 7 ([(⟨z25, (⟨z26, z27⟩ : Hard), (⟨z28, z29, z30, z31⟩ : Entry)⟩ : Rec)].map Rec.cells) := hm53
      refine st_op (he51 _ _ _ _ _ _ _ _ rfl) rfl rfl rfl ?_
      have hx54 : Ext H40 H50 := Ext.new (by omega) H50n_ f52
      have H50n : H40.next ≤ H50.next := hx54.1
      have hx56 : Ext Hl1 H50 := (Ext.trans (Ext.then (Ext.trans hx19 hx39) hf44 (fun q hq e => by omega)) hx54)
      have h55 := My.ext hm4 hx56
      obtain ⟨A57, c58, H59, W60, he61, hm62, hf63⟩ := mem_append (f := Rec.cells) (old := l) (new := [(⟨z25, (⟨z26, z27⟩ : Hard), (⟨z28, z29, z30, z31⟩ : Entry)⟩ : Rec)]) (m := l.length) (mx := 1) (c := cp) (by first | rfl | simp) (by first | rfl | simp) eok45 (by decide) hm4 h55 (by omega) (((My.row hm53)).srcF (by decide) (by first | rfl | simp)) rfl Rec.cells_len Rec.cells_one (by first | omega | (simp only [List.length_append, List.length_cons, List.length_nil, List.length_map, List.length_set, List.length_replicate, Spec.bytesOf_length]; omega) | (simp; omega)) (by first | omega | (simp only [List.length_append, List.length_cons, List.length_nil, List.length_map, List.length_set, List.length_replicate, Spec.bytesOf_length]; omega) | (simp; omega))
      refine st_op (he61 _ _ _ _ _ _ _ _ _ _ rfl rfl isrow45) rfl rfl rfl ?_
      have H59n : H50.next ≤ H59.next := hf63.1
      refine st_op (ev_assign rfl) rfl rfl rfl ?_
      try show aw _ _ _ _ _ _
      refine aw_reg ?_
      refine st_op (ev_move rfl) rfl rfl rfl ?_
      refine st_op (ev_move rfl) rfl rfl rfl ?_
      refine st_op (ev_int64 (c := at_ + z32) rfl rfl rfl (by omega) (by omega)) rfl rfl rfl ?_
      refine st_op (ev_assign rfl) rfl rfl rfl ?_
      try show aw _ _ _ _ _ _
      have hx64 : Ext H H59 := (Ext.then (Ext.trans (Ext.then (Ext.trans (Ext.trans hxl5 hx19) hx39) hf44 (fun q hq e => by omega)) hx54) hf63 (fun q hq e => by omega))
      refine aw_keep [0, 5, 6] (l' := (.cons 0 (.slice bA b.length bc) (.cons 5 (.slice A57 ((l ++ [(⟨z25, (⟨z26, z27⟩ : Hard), (⟨z28, z29, z30, z31⟩ : Entry)⟩ : Rec)]).length) c58) (.cons 6 (.int .i64 (at_ + z32)) .nil)))) (by repeat (first | exact Up.done | refine Up.then ?_ | refine Up.inBlock ?_)) rfl ?_
      exact ih6 (at_ + z32, A57, c58, (l ++ [(⟨z25, (⟨z26, z27⟩ : Hard), (⟨z28, z29, z30, z31⟩ : Entry)⟩ : Rec)]), (p + z32.toNat), H59) ⟨(show (at_ + z32) = ((p + z32.toNat) : Int) from (by omega)), (show (p + z32.toNat) ≤ b.length from (by omega)), (show (l ++ [(⟨z25, (⟨z26, z27⟩ : Hard), (⟨z28, z29, z30, z31⟩ : Entry)⟩ : Rec)]).length ≤ (p + z32.toNat) from (by rw [List.length_append, List.length_singleton]; omega)), (show Spec.scanW b = ((l ++ [(⟨z25, (⟨z26, z27⟩ : Hard), (⟨z28, z29, z30, z31⟩ : Entry)⟩ : Rec)]) ++ (Spec.scanW (b.drop (p + z32.toNat))).1, ((p + z32.toNat) : Int) + (Spec.scanW (b.drop (p + z32.toNat))).2.1, (Spec.scanW (b.drop (p + z32.toNat))).2.2) from (by rw [hS, Spec.scanW_step (l := b.drop p) (by intro h; rw [List.drop_eq_nil_iff] at h; omega) ((congrArg Spec.decF (Spec.drop_at hp hL11).symm).trans hR24) (by omega) (by omega), List.drop_drop]; simp [List.append_assoc, Int.add_assoc, show ((z32.toNat : Nat) : Int) = z32 by omega])), (show 0 ≤ (at_ + z32) ∧ (at_ + z32) ≤ 1073741824 from ⟨by omega, by omega⟩), (show My H H59 A57 c58 7 ((l ++ [(⟨z25, (⟨z26, z27⟩ : Hard), (⟨z28, z29, z30, z31⟩ : Entry)⟩ : Rec)]).map Rec.cells) from hm62), (show Ext H H59 from hx64)⟩ (by simp only; omega)
  · rw [Bool.not_eq_true] at hc7; refine aw_condF hc7 rfl ?_
    try show aw _ _ _ _ _ _
    have hc7 := of_decide_eq_false hc7
    refine aw_exit ?_
    try show aw _ _ _ _ _ _
    refine aw_seq ?_
    refine aw_reg ?_
    refine st_op (ev_move rfl) rfl rfl rfl ?_
    refine st_op (ev_move rfl) rfl rfl rfl ?_
    refine st_op (ev_assign rfl) rfl rfl rfl ?_
    refine st_op (ev_assign rfl) rfl rfl rfl ?_
    refine st_op (ev_assign rfl) rfl rfl rfl ?_
    try show aw _ _ _ _ _ _
    refine aw_ret ?_
    have hres : (Spec.scanW b) = (l, at_, true) := by rw [hS, List.drop_eq_nil_of_le (by omega), Spec.scanW_nil]; simp [hp]
    exact ⟨.tuple #[.slice A l.length cp, .int .i64 at_, .bool true], rfl, A, cp, by rw [hres]; first | done | rfl | simp, (by rw [hres]; exact hm4), hxl5⟩

end Go.AM
