/- Part of a machine of its own for this claim: the program's code over memory without draws. -/
import Derived.Test.YtoamlagpnnmnhabAmPConf
import Derived.Test.YtoamlagpnnmnhabAmD
import Derived.Test.YtoamlagpnnmnhabAmE
import Derived.Test.YtoamlagpnnmnhabProg
import Derived.KernelRfl
set_option linter.unusedVariables false
set_option linter.unusedSimpArgs false
set_option linter.unnecessarySimpa false
set_option linter.unusedVariables false
set_option linter.unusedSimpArgs false
set_option linter.unnecessarySimpa false
namespace Go.AM
open Go Go.Proofs

noncomputable def E0 : TypeId → Bool := eqTy Try.prog
theorem E0_ok : EqOk Try.prog E0 := eqTy_ok
theorem mixed : Try.prog.follows .mixedOrders = true := by kernel_rfl

noncomputable def X0 (f : FuncId) : List Tmp := (bif_ (Nat.ble 26 f) (bif_ (Nat.ble 39 f) (bif_ (Nat.ble 46 f) (bif_ (Nat.ble 49 f) (bif_ (Nat.ble 51 f) (bif_ (Nat.ble 52 f) [0, 2, 3, 4, 5, 6, 7, 8, 9, 13, 41, 53, 59] [0, 2, 3, 4, 5, 6, 7, 14, 18, 25]) (bif_ (Nat.ble 50 f) [0, 2, 3, 4, 5, 6, 7, 8, 9, 10, 11, 12, 21, 31, 37, 43] [0, 2, 3, 4, 5, 9, 20, 25])) (bif_ (Nat.ble 47 f) (bif_ (Nat.ble 48 f) [0, 2] [0, 2]) [0, 1, 4, 5, 7, 10, 11, 12, 13, 20, 21])) (bif_ (Nat.ble 42 f) (bif_ (Nat.ble 44 f) (bif_ (Nat.ble 45 f) [0, 1, 2] [0, 2, 3, 4, 5, 6, 7, 15, 22, 28]) (bif_ (Nat.ble 43 f) [0, 1, 4, 5, 6, 7, 8, 9, 10, 11, 14, 24] [0, 2, 3, 4, 5, 6, 7, 8, 9, 10, 13, 17, 31, 33, 44, 53, 73])) (bif_ (Nat.ble 40 f) (bif_ (Nat.ble 41 f) [0, 2] [0, 2, 3, 4, 5, 30]) [0, 2, 3, 4, 5, 30]))) (bif_ (Nat.ble 32 f) (bif_ (Nat.ble 35 f) (bif_ (Nat.ble 37 f) (bif_ (Nat.ble 38 f) [0, 2, 3, 4, 5, 6, 7, 8, 9, 10, 11, 12, 16, 28, 36, 56, 76] [0, 2]) (bif_ (Nat.ble 36 f) [0, 2, 3, 4, 9, 13] [0, 1, 4, 5, 6, 17])) (bif_ (Nat.ble 33 f) (bif_ (Nat.ble 34 f) [0, 1, 2, 6, 8, 9, 10, 11, 12, 22] [0, 1, 2]) [0, 1, 2, 3, 4])) (bif_ (Nat.ble 29 f) (bif_ (Nat.ble 30 f) (bif_ (Nat.ble 31 f) [0, 1, 2] [0, 1, 4]) [0, 1, 4, 5, 10, 14]) (bif_ (Nat.ble 27 f) (bif_ (Nat.ble 28 f) [0, 1, 4, 5, 6, 17] [0, 1, 4, 8]) [0, 1, 2, 3, 4])))) (bif_ (Nat.ble 13 f) (bif_ (Nat.ble 19 f) (bif_ (Nat.ble 22 f) (bif_ (Nat.ble 24 f) (bif_ (Nat.ble 25 f) [0, 2, 3, 4, 5, 6, 7, 8, 9, 10, 11, 12, 13, 14, 15, 16, 25, 59, 62, 73, 84] [0, 1, 2, 3, 4, 5, 6, 9, 28]) (bif_ (Nat.ble 23 f) [0, 1, 4] [0, 2, 3, 4, 5, 6, 7, 8, 9, 10, 11, 12, 13, 14, 15, 16, 18, 27, 30, 31, 56, 65, 86, 95, 120])) (bif_ (Nat.ble 20 f) (bif_ (Nat.ble 21 f) [0, 2, 3, 4, 5, 6, 7, 8, 9, 13, 23] [0, 2, 3, 4, 5, 6, 7, 8, 9, 13, 23]) [0, 1, 4, 8])) (bif_ (Nat.ble 16 f) (bif_ (Nat.ble 17 f) (bif_ (Nat.ble 18 f) [0, 1, 2] [0, 1, 2, 3, 4]) [0, 2, 3, 4, 5, 6, 7, 8, 9, 10, 19, 28, 29, 39, 72]) (bif_ (Nat.ble 14 f) (bif_ (Nat.ble 15 f) [0, 1, 2, 3, 6, 8] [0, 1, 2, 4]) [0, 1, 2, 4]))) (bif_ (Nat.ble 6 f) (bif_ (Nat.ble 9 f) (bif_ (Nat.ble 11 f) (bif_ (Nat.ble 12 f) [0, 1, 2] [0, 1, 2, 3, 4, 8]) (bif_ (Nat.ble 10 f) [0, 1, 2] [0, 1, 2, 3, 4, 5, 6, 7, 8, 9, 10, 16])) (bif_ (Nat.ble 7 f) (bif_ (Nat.ble 8 f) [0, 2, 3, 4, 5, 6, 7, 8, 9, 10, 13, 19, 24, 38] [0, 1, 2, 3, 8, 9, 10, 11, 12, 13, 16, 22]) [0, 1, 4, 5, 6, 7, 8, 9, 10, 11, 12, 13, 16, 24, 35, 56])) (bif_ (Nat.ble 3 f) (bif_ (Nat.ble 4 f) (bif_ (Nat.ble 5 f) [0, 2, 3, 4, 5, 6, 7, 8, 9, 12] [0, 1, 2, 3, 4, 10, 11, 12, 13, 14, 15, 16, 17, 18, 19, 20, 23, 31, 53, 66, 103, 107, 120]) [0, 1, 2, 4, 5, 6, 7, 8, 9, 10, 13, 21, 44, 46]) []))))

theorem ElemInfo.mk5 : ∃ i, Try.prog.info? 5 = some i ∧ i.size = 1 ∧ i.bytes = 1 ∧ (i.zero.map fun z => z.cells.size) = some 1 := elemInfo (by kernel_rfl)
theorem ElemInfo.mk2 : ∃ i, Try.prog.info? 2 = some i ∧ i.size = 1 ∧ i.bytes = 8 ∧ (i.zero.map fun z => z.cells.size) = some 1 := elemInfo (by kernel_rfl)
theorem zf2 : ∃ i z, Try.prog.info? 2 = some i ∧ i.zero = some z ∧ z.cells.toList.all flat = true := zeroFlat (by kernel_rfl)
theorem zf5 : ∃ i z, Try.prog.info? 5 = some i ∧ i.zero = some z ∧ z.cells.toList.all flat = true := zeroFlat (by kernel_rfl)
theorem el30 : elemIs Try.prog 30 1 = true := by kernel_rfl
theorem el81 : elemIs Try.prog 81 1 = true := by kernel_rfl
theorem ent14 : enters Try.prog 14 = true := by kernel_rfl
theorem ent23 : enters Try.prog 23 = true := by kernel_rfl
theorem ent24 : enters Try.prog 24 = true := by kernel_rfl
theorem ent28 : enters Try.prog 28 = true := by kernel_rfl
theorem ent29 : enters Try.prog 29 = true := by kernel_rfl
theorem ent30 : enters Try.prog 30 = true := by kernel_rfl
theorem ent34 : enters Try.prog 34 = true := by kernel_rfl
theorem ent45 : enters Try.prog 45 = true := by kernel_rfl
theorem ent46 : enters Try.prog 46 = true := by kernel_rfl
theorem ent47 : enters Try.prog 47 = true := by kernel_rfl
theorem ent48 : enters Try.prog 48 = true := by kernel_rfl
theorem ent9 : enters Try.prog 9 = true := by kernel_rfl
theorem eok30 : ElemOk Try.prog 30 5 1 1 := ⟨Try.underlying30, ElemInfo.mk5⟩
theorem eok81 : ElemOk Try.prog 81 2 1 8 := ⟨Try.underlying81, ElemInfo.mk2⟩
theorem eqt23 : E0 23 = true := by kernel_rfl
theorem eqt25 : E0 25 = true := by kernel_rfl
theorem fa23_0 : fieldIs Try.prog 23 0 0 = true := by kernel_rfl
theorem fa23_1 : fieldIs Try.prog 23 1 1 = true := by kernel_rfl
theorem fa25_0 : fieldIs Try.prog 25 0 0 = true := by kernel_rfl
theorem fa25_1 : fieldIs Try.prog 25 1 1 = true := by kernel_rfl
theorem fa25_2 : fieldIs Try.prog 25 2 2 = true := by kernel_rfl
theorem fa25_3 : fieldIs Try.prog 25 3 3 = true := by kernel_rfl
theorem fa32_0 : fieldIs Try.prog 32 0 0 = true := by kernel_rfl
theorem fa32_1 : fieldIs Try.prog 32 1 1 = true := by kernel_rfl
theorem fa32_2 : fieldIs Try.prog 32 2 3 = true := by kernel_rfl
theorem fa56_0 : fieldIs Try.prog 56 0 0 = true := by kernel_rfl
theorem fa56_1 : fieldIs Try.prog 56 1 1 = true := by kernel_rfl
theorem fa56_2 : fieldIs Try.prog 56 2 2 = true := by kernel_rfl
theorem fa56_3 : fieldIs Try.prog 56 3 3 = true := by kernel_rfl
theorem fit23 (a0 : Int) (a1 : Int) : fitAgg Try.prog 23 [.int .i64 a0, .int .i64 a1] = true := by kernel_rfl
theorem fit25 (a0 : Int) (a1 : Int) (a2 : Int) (a3 : ByteArray) : fitAgg Try.prog 25 [.int .i64 a0, .int .i64 a1, .int .i64 a2, .string a3] = true := by kernel_rfl
theorem isbool4 : isBoolT Try.prog 4 = true := by kernel_rfl
theorem isrow30 : isRow Try.prog (some 30) = true := by kernel_rfl
theorem isrow9 : isRow Try.prog (some 9) = true := by kernel_rfl
theorem isstr_9 : isStr Try.prog 9 = true := by kernel_rfl
theorem many23 : manyB Try.prog 23 2 = true := by kernel_rfl
theorem many25 : manyB Try.prog 25 4 = true := by kernel_rfl
theorem many32 : manyB Try.prog 32 7 = true := by kernel_rfl
theorem many56 : manyB Try.prog 56 4 = true := by kernel_rfl
theorem one2 : oneB Try.prog 2 = true := by kernel_rfl
theorem one3 : oneB Try.prog 3 = true := by kernel_rfl
theorem one4 : oneB Try.prog 4 = true := by kernel_rfl
theorem one5 : oneB Try.prog 5 = true := by kernel_rfl
theorem one9 : oneB Try.prog 9 = true := by kernel_rfl
theorem pl23 : placesOf Try.prog 23 = some [(0, 1), (1, 1)] := by kernel_rfl
theorem pl25 : placesOf Try.prog 25 = some [(0, 1), (1, 1), (2, 1), (3, 1)] := by kernel_rfl
theorem pl32 : placesOf Try.prog 32 = some [(0, 1), (1, 2), (3, 4)] := by kernel_rfl
theorem pl56 : placesOf Try.prog 56 = some [(0, 1), (1, 1), (2, 1), (3, 1)] := by kernel_rfl
theorem size32 : sizeIs Try.prog 32 7 = true := by kernel_rfl
theorem size56 : sizeIs Try.prog 56 4 = true := by kernel_rfl
theorem slu8_30 : slU8 Try.prog 30 = true := by kernel_rfl
theorem zero23 : ZeroIs Try.prog 23 [.int .i64 0, .int .i64 0] := ⟨.agg #[.int .i64 0, .int .i64 0], by kernel_rfl, rfl, rfl, rfl⟩
theorem zero25 : ZeroIs Try.prog 25 [.int .i64 0, .int .i64 0, .int .i64 0, .string (⟨#[]⟩)] := ⟨.agg #[.int .i64 0, .int .i64 0, .int .i64 0, .string (⟨#[]⟩)], by kernel_rfl, rfl, rfl, rfl⟩
theorem zero32 : ZeroIs Try.prog 32 [.bool false, .int .i64 0, .int .i64 0, .int .i64 0, .int .i64 0, .int .i64 0, .string (⟨#[]⟩)] := ⟨.agg #[.bool false, .int .i64 0, .int .i64 0, .int .i64 0, .int .i64 0, .int .i64 0, .string (⟨#[]⟩)], by kernel_rfl, rfl, rfl, rfl⟩
theorem zero5 : ZeroIs Try.prog 5 [.int .u8 0] := ⟨.int .u8 0, by kernel_rfl, rfl, rfl, rfl⟩
theorem zero56 : ZeroIs Try.prog 56 [.int .i64 0, .int .i64 0, .string (⟨#[]⟩), .string (⟨#[]⟩)] := ⟨.agg #[.int .i64 0, .int .i64 0, .string (⟨#[]⟩), .string (⟨#[]⟩)], by kernel_rfl, rfl, rfl, rfl⟩
theorem law18_begun_ran : okF (runF Try.prog X0 1000 40 9 [] Hp.nil) = true := by kernel_rfl
theorem law18_begun_spec (H : Heap) : ∃ v H', Spec Try.prog 9 [] H v H' ∧ (v = .bool true ∧ H' = H) := ⟨_, _, okF_any mixed law18_begun_ran H, rfl, rfl⟩
theorem wal_in_spec (H : Heap) (least : Int) (hleast : -9223372036854775808 ≤ least ∧ least ≤ 9223372036854775807) (most : Int) (hmost : -9223372036854775808 ≤ most ∧ most ≤ 9223372036854775807) (lA : Option Addr) (l : List Int) (lc : Nat) (hl : Row H lA lc 1 (l.map i64c)) (cl : l.length ≤ lc) (ll : l.length ≤ 1099511627776) : ∃ v H', Spec Try.prog 34 [.int .i64 least, .int .i64 most, .slice lA l.length lc] H v H' ∧ ((v = .bool (Spec.inF least most l)) ∧ (Ext H H')) := by
  refine spec_go3 E0_ok 24 (f := 34) Try.func34 rfl rfl rfl ?_
  refine aw_seq ?_
  refine aw_reg ?_
  refine st_op (ev_assign rfl) rfl rfl rfl ?_
  try show aw _ _ _ _ _ _
  refine aw_seq ?_
  refine aw_seq ?_
  refine aw_reg ?_
  refine st_op (ev_move rfl) rfl rfl rfl ?_
  refine st_op (ev_lenSl rfl Try.underlying81) rfl rfl rfl ?_
  refine st_op (ev_move rfl) rfl rfl rfl ?_
  try show aw _ _ _ _ _ _
  refine aw_block ?_
  refine aw_keep [0, 1, 9, 10, 11] (l' := (.cons 0 (.int .i64 least) (.cons 1 (.int .i64 most) (.cons 9 (.slice lA l.length lc) (.cons 10 (.int .i64 (l.length : Int)) (.cons 11 (.int .i64 0) .nil)))))) (by repeat (first | exact Up.done | refine Up.then ?_ | refine Up.inBlock ?_)) rfl ?_
  refine aw_iter (α := Nat × Heap) (fun a => l.length - a.1) (fun a => (.cons 0 (.int .i64 least) (.cons 1 (.int .i64 most) (.cons 9 (.slice lA l.length lc) (.cons 10 (.int .i64 (l.length : Int)) (.cons 11 (.int .i64 (a.1 : Int)) .nil)))))) (fun a => a.2) (fun a => (a.1 ≤ l.length) ∧ (Spec.inF least most l = Spec.inF least most (l.drop a.1)) ∧ (Ext H a.2)) (0, H) ⟨(show 0 ≤ l.length from Nat.zero_le _), (show Spec.inF least most l = Spec.inF least most (l.drop 0) from rfl), (show Ext H H from (Ext.refl H))⟩ ?_
  rintro ⟨i, Hl1⟩ ⟨hi, hv, hxl2⟩ ih3
  replace hi : i ≤ l.length := hi
  replace hv : Spec.inF least most l = Spec.inF least most (l.drop i) := hv
  replace hxl2 : Ext H Hl1 := hxl2
  show aw _ _ _ (RL _ (.cons 0 (.int .i64 least) (.cons 1 (.int .i64 most) (.cons 9 (.slice lA l.length lc) (.cons 10 (.int .i64 (l.length : Int)) (.cons 11 (.int .i64 (i : Int)) .nil)))))) Hl1 _
  have Hl1n : H.next ≤ Hl1.next := hxl2.1
  refine aw_seq ?_
  refine aw_reg ?_
  refine st_op (ev_int rfl rfl rfl) rfl rfl rfl ?_
  try show aw _ _ _ _ _ _
  refine aw_seq ?_
  by_cases hc4 : (decide ((i : Int) < (l.length : Int))) = true
  · refine aw_condT hc4 rfl ?_
    try show aw _ _ _ _ _ _
    have hc4 := of_decide_eq_true hc4
    refine aw_skip ?_
    try show aw _ _ _ _ _ _
    refine aw_seq ?_
    refine aw_block ?_
    refine aw_seq ?_
    refine aw_reg ?_
    have h5 := Row.ext hl hxl2
    have hi6 : 0 ≤ ((i : Int) : Int) := by omega
    have hi7 : ((i : Int) : Int) < ((l.length : Nat) : Int) := by first | omega | (simp only [List.length_append, List.length_cons, List.length_nil, List.length_map, List.length_set, List.length_replicate, Spec.bytesOf_length]; omega) | (simp; omega)
    obtain ⟨x8, hx9⟩ : ∃ e, l[i]? = some e := ⟨_, List.getElem?_eq_getElem (by first | omega | (simp only [List.length_append, List.length_cons, List.length_nil, List.length_map, List.length_set, List.length_replicate, Spec.bytesOf_length]; omega) | (simp; omega))⟩
    refine st_op (ev_at rfl rfl h5 (getMap i64c hx9) (by first | rfl | omega | simp) hi6 hi7 el81) rfl rfl rfl ?_
    refine st_op (ev_atL rfl h5 (getMap i64c hx9) one2 rfl) rfl rfl rfl ?_
    refine st_op (ev_assign rfl) rfl rfl rfl ?_
    try show aw _ _ _ _ _ _
    refine aw_seq ?_
    refine aw_reg ?_
    refine st_op (ev_move rfl) rfl rfl rfl ?_
    refine st_op (ev_move rfl) rfl rfl rfl ?_
    refine st_op (ev_int rfl rfl rfl) rfl rfl rfl ?_
    refine st_op (ev_move rfl) rfl rfl rfl ?_
    refine st_bool 18 rfl (fun hb10 => ?_) (fun hb10 => ?_)
    ·
      have hb10 := of_decide_eq_true hb10
      refine st_skip rfl rfl rfl ?_
      refine st_skip rfl rfl rfl ?_
      refine st_skip rfl rfl rfl ?_
      refine st_op (ev_pickT rfl rfl) rfl rfl rfl ?_
      try show aw _ _ _ _ _ _
      refine aw_cond (t := true) rfl ?_
      try show aw _ _ _ _ _ _
      refine aw_seq ?_
      refine aw_reg ?_
      refine st_op (ev_assign rfl) rfl rfl rfl ?_
      try show aw _ _ _ _ _ _
      refine aw_ret ?_
      have hres : (Spec.inF least most l) = false := by rw [hv, drop_at hx9, Spec.inF]; first | (rw [if_pos (by omega)]; done) | (rw [if_neg (by omega), if_pos (by omega)]; done)
      exact ⟨.bool false, rfl, by rw [hres], hxl2⟩
    ·
      have hb10 := of_decide_eq_false hb10
      refine st_op (ev_move rfl) rfl rfl rfl ?_
      refine st_op (ev_move rfl) rfl rfl rfl ?_
      refine st_op (ev_int rfl rfl rfl) rfl rfl rfl ?_
      refine st_op (ev_pickF rfl rfl) rfl rfl rfl ?_
      try show aw _ _ _ _ _ _
      by_cases hc11 : (decide (x8 > most)) = true
      · refine aw_condT hc11 rfl ?_
        try show aw _ _ _ _ _ _
        have hc11 := of_decide_eq_true hc11
        refine aw_seq ?_
        refine aw_reg ?_
        refine st_op (ev_assign rfl) rfl rfl rfl ?_
        try show aw _ _ _ _ _ _
        refine aw_ret ?_
        have hres : (Spec.inF least most l) = false := by rw [hv, drop_at hx9, Spec.inF]; first | (rw [if_pos (by omega)]; done) | (rw [if_neg (by omega), if_pos (by omega)]; done)
        exact ⟨.bool false, rfl, by rw [hres], hxl2⟩
      · rw [Bool.not_eq_true] at hc11; refine aw_condF hc11 rfl ?_
        try show aw _ _ _ _ _ _
        have hc11 := of_decide_eq_false hc11
        refine aw_skip ?_
        try show aw _ _ _ _ _ _
        refine aw_reg ?_
        refine st_op (ev_int64 (c := (i : Int) + 1) rfl rfl rfl (by omega) (by omega)) rfl rfl rfl ?_
        refine st_op (ev_move rfl) rfl rfl rfl ?_
        try show aw _ _ _ _ _ _
        refine aw_keep [0, 1, 9, 10, 11] (l' := (.cons 0 (.int .i64 least) (.cons 1 (.int .i64 most) (.cons 9 (.slice lA l.length lc) (.cons 10 (.int .i64 (l.length : Int)) (.cons 11 (.int .i64 ((i : Int) + 1)) .nil)))))) (by repeat (first | exact Up.done | refine Up.then ?_ | refine Up.inBlock ?_)) rfl ?_
        exact ih3 (i + 1, Hl1) ⟨(show (i + 1) ≤ l.length from (by omega)), (show Spec.inF least most l = Spec.inF least most (l.drop (i + 1)) from (by rw [hv, drop_at hx9, Spec.inF, if_neg (by omega), if_neg (by omega)])), (show Ext H Hl1 from hxl2)⟩ (by simp only; omega)
  · rw [Bool.not_eq_true] at hc4; refine aw_condF hc4 rfl ?_
    try show aw _ _ _ _ _ _
    have hc4 := of_decide_eq_false hc4
    refine aw_exit ?_
    try show aw _ _ _ _ _ _
    refine aw_seq ?_
    refine aw_reg ?_
    refine st_op (ev_assign rfl) rfl rfl rfl ?_
    try show aw _ _ _ _ _ _
    refine aw_ret ?_
    have hres : (Spec.inF least most l) = true := by rw [hv, List.drop_eq_nil_of_le (by omega)]; rfl
    exact ⟨.bool true, rfl, by rw [hres], hxl2⟩
theorem wal_May_spec (H : Heap) (r_hard : Bool) (r_h_term : Int) (r_h_vote : Int) (r_e_index : Int) (r_e_term : Int) (r_e_kind : Int) (r_e_data : ByteArray) : ∃ v H', Spec Try.prog 14 [.agg #[.bool r_hard, .int .i64 r_h_term, .int .i64 r_h_vote, .int .i64 r_e_index, .int .i64 r_e_term, .int .i64 r_e_kind, .string r_e_data]] H v H' ∧ ((v = .bool (Spec.mayF r_hard r_h_term r_h_vote r_e_index r_e_term r_e_kind r_e_data)) ∧ (Ext H H')) := by
  refine spec_go1 E0_ok 61 (f := 14) Try.func14 rfl rfl rfl ?_
  refine aw_seq ?_
  refine aw_reg ?_
  obtain ⟨b1, H2, he3, b1e, H2n_, hB5, f4⟩ := mem_box (P := Try.prog) H (v := .agg #[.bool r_hard, .int .i64 r_h_term, .int .i64 r_h_vote, .int .i64 r_e_index, .int .i64 r_e_term, .int .i64 r_e_kind, .string r_e_data]) (cs := [.bool r_hard, .int .i64 r_h_term, .int .i64 r_h_vote, .int .i64 r_e_index, .int .i64 r_e_term, .int .i64 r_e_kind, .string r_e_data]) rfl rfl
  refine st_op (he3 _ _ _ _ _ _ _ _ _ rfl) rfl rfl rfl ?_
  have hx6 : Ext H H2 := Ext.new (by omega) H2n_ f4
  have H2n : H.next ≤ H2.next := hx6.1
  refine st_op (ev_assign rfl) rfl rfl rfl ?_
  try show aw _ _ _ _ _ _
  refine aw_seq ?_
  refine aw_seq ?_
  refine aw_reg ?_
  refine st_op (ev_fieldAddr rfl fa32_0 (o' := 0) rfl) rfl rfl rfl ?_
  refine st_op (ev_load rfl (lvar_one one4 hB5 rfl)) rfl rfl rfl ?_
  try show aw _ _ _ _ _ _
  by_cases hc7 : r_hard = true
  · refine aw_condT hc7 rfl ?_
    try show aw _ _ _ _ _ _
    refine aw_seq ?_
    refine aw_reg ?_
    refine st_op (ev_fieldAddr rfl fa32_1 (o' := 1) rfl) rfl rfl rfl ?_
    refine st_op (ev_fieldAddr rfl fa23_0 (o' := 1) rfl) rfl rfl rfl ?_
    refine st_op (ev_load rfl (lvar_one one2 hB5 rfl)) rfl rfl rfl ?_
    obtain ⟨b8, H9, he10, b8e, H9n_, hm12, f11⟩ := mem_lit H2 (xs := [.int .i64 r_h_term]) (m := 1) (rows := [[.int .i64 r_h_term]]) rfl eok81 (by decide) (by decide) zf2 rfl (allLen rfl) rfl
    replace hm12 : My H2 H9 (some ⟨b8, 0, none⟩) 1 1 ([r_h_term].map i64c) := hm12
    refine st_op (he10 _ _ _ _ _ _ _ _ rfl) rfl rfl rfl ?_
    have hx13 : Ext H2 H9 := Ext.new (by omega) H9n_ f11
    have H9n : H2.next ≤ H9.next := hx13.1
    refine st_call rfl rfl rfl ent34 rfl rfl rfl ?_
    obtain ⟨_, H15, hs14, hs14v, hx16⟩ := wal_in_spec H9 0 (by decide) 1099511627776 (by decide) (some ⟨b8, 0, none⟩) ([r_h_term]) 1 (My.row hm12) (My.capF hm12 (by first | omega | (simp only [List.length_append, List.length_cons, List.length_nil, List.length_map, List.length_set, List.length_replicate, Spec.bytesOf_length]; omega) | (simp; omega))) (by first | omega | (simp only [List.length_append, List.length_cons, List.length_nil, List.length_map, List.length_set, List.length_replicate, Spec.bytesOf_length]; omega) | (simp; omega))
    rw [hs14v] at hs14; clear hs14v
    refine ⟨_, H15, hs14, ?_⟩
    have H15n : H9.next ≤ H15.next := hx16.1
    refine st_op (ev_move rfl) rfl rfl rfl ?_
    refine st_bool 10 rfl (fun hb17 => ?_) (fun hb17 => ?_)
    ·
      have hb17m := Spec.inF_one hb17
      refine st_op (ev_fieldAddr rfl fa32_1 (o' := 1) rfl) rfl rfl rfl ?_
      refine st_op (ev_fieldAddr rfl fa23_1 (o' := 2) rfl) rfl rfl rfl ?_
      have hx19 : Ext H2 H15 := (Ext.trans hx13 hx16)
      have h18 := Ext.blk hx19 (by omega) hB5
      refine st_op (ev_load rfl (lvar_one one3 h18 rfl)) rfl rfl rfl ?_
      refine st_op (ev_int rfl rfl rfl) rfl rfl rfl ?_
      refine st_op (ev_pickT rfl rfl) rfl rfl rfl ?_
      refine st_op (ev_move rfl) rfl rfl rfl ?_
      refine st_bool 16 rfl (fun hb20 => ?_) (fun hb20 => ?_)
      ·
        have hb20 := of_decide_eq_true hb20
        refine st_op (ev_fieldAddr rfl fa32_1 (o' := 1) rfl) rfl rfl rfl ?_
        refine st_op (ev_fieldAddr rfl fa23_1 (o' := 2) rfl) rfl rfl rfl ?_
        refine st_op (ev_load rfl (lvar_one one3 h18 rfl)) rfl rfl rfl ?_
        refine st_op (ev_int rfl rfl rfl) rfl rfl rfl ?_
        refine st_op (ev_pickT rfl rfl) rfl rfl rfl ?_
        refine st_op (ev_move rfl) rfl rfl rfl ?_
        refine st_bool 22 rfl (fun hb21 => ?_) (fun hb21 => ?_)
        ·
          have hb21 := of_decide_eq_true hb21
          refine st_op (ev_fieldAddr rfl fa32_2 (o' := 3) rfl) rfl rfl rfl ?_
          refine st_op (ev_load rfl (lvar_part (l := [.int .i64 r_e_index, .int .i64 r_e_term, .int .i64 r_e_kind, .string r_e_data]) many25 h18 rfl rfl (by decide))) rfl rfl rfl ?_
          refine st_op (ev_build zero25 pl25 (parts := []) rfl (cs := [.int .i64 0, .int .i64 0, .int .i64 0, .string (⟨#[]⟩)]) rfl) rfl rfl rfl ?_
          obtain ⟨q22, hq23, hi24⟩ : ∃ q, bin.eqCells [.int .i64 r_e_index, .int .i64 r_e_term, .int .i64 r_e_kind, .string r_e_data] [.int .i64 0, .int .i64 0, .int .i64 0, .string (⟨#[]⟩)] = some q ∧ (q = true ↔ r_e_index = 0 ∧ r_e_term = 0 ∧ r_e_kind = 0 ∧ r_e_data = (⟨#[]⟩ : ByteArray)) := ⟨_, rfl, by simp [Bool.and_eq_true, ba_beq]⟩
          refine st_op (ev_agg rfl rfl (by rw [eqt25, show fitAgg Try.prog 25 (#[.int .i64 r_e_index, .int .i64 r_e_term, .int .i64 r_e_kind, .string r_e_data] : Array Value).toList = true from fit25 r_e_index r_e_term r_e_kind r_e_data]; rfl) hq23 rfl) rfl rfl rfl ?_
          refine st_op (ev_pickT rfl rfl) rfl rfl rfl ?_
          refine st_op (ev_assign rfl) rfl rfl rfl ?_
          try show aw _ _ _ _ _ _
          refine aw_ret ?_
          have hx25 : Ext H H15 := (Ext.trans (Ext.trans hx6 hx13) hx16)
          have hres : (Spec.mayF r_hard r_h_term r_h_vote r_e_index r_e_term r_e_kind r_e_data) = q22 := by rw [Bool.eq_iff_iff]; simp only [Spec.mayF]; (try simp_all [Spec.ba_empty]) <;> (try (intros; omega))
          exact ⟨.bool q22, rfl, by rw [hres], hx25⟩
        ·
          have hb21 := of_decide_eq_false hb21
          refine st_skip rfl rfl rfl ?_
          refine st_skip rfl rfl rfl ?_
          refine st_skip rfl rfl rfl ?_
          refine st_skip rfl rfl rfl ?_
          refine st_op (ev_pickF rfl rfl) rfl rfl rfl ?_
          refine st_op (ev_assign rfl) rfl rfl rfl ?_
          try show aw _ _ _ _ _ _
          refine aw_ret ?_
          have hx26 : Ext H H15 := (Ext.trans (Ext.trans hx6 hx13) hx16)
          have hres : (Spec.mayF r_hard r_h_term r_h_vote r_e_index r_e_term r_e_kind r_e_data) = false := by rw [Bool.eq_iff_iff]; simp only [Spec.mayF]; (try simp_all [Spec.ba_empty]) <;> (try (intros; omega))
          exact ⟨.bool false, rfl, by rw [hres], hx26⟩
      ·
        have hb20 := of_decide_eq_false hb20
        refine st_skip rfl rfl rfl ?_
        refine st_skip rfl rfl rfl ?_
        refine st_skip rfl rfl rfl ?_
        refine st_skip rfl rfl rfl ?_
        refine st_op (ev_pickF rfl rfl) rfl rfl rfl ?_
        refine st_op (ev_move rfl) rfl rfl rfl ?_
        refine st_skip rfl rfl rfl ?_
        refine st_skip rfl rfl rfl ?_
        refine st_skip rfl rfl rfl ?_
        refine st_skip rfl rfl rfl ?_
        refine st_op (ev_pickF rfl rfl) rfl rfl rfl ?_
        refine st_op (ev_assign rfl) rfl rfl rfl ?_
        try show aw _ _ _ _ _ _
        refine aw_ret ?_
        have hx27 : Ext H H15 := (Ext.trans (Ext.trans hx6 hx13) hx16)
        have hres : (Spec.mayF r_hard r_h_term r_h_vote r_e_index r_e_term r_e_kind r_e_data) = false := by rw [Bool.eq_iff_iff]; simp only [Spec.mayF]; (try simp_all [Spec.ba_empty]) <;> (try (intros; omega))
        exact ⟨.bool false, rfl, by rw [hres], hx27⟩
    ·
      have hb17m := Spec.inF_oneN hb17
      refine st_skip rfl rfl rfl ?_
      refine st_skip rfl rfl rfl ?_
      refine st_skip rfl rfl rfl ?_
      refine st_skip rfl rfl rfl ?_
      refine st_op (ev_pickF rfl rfl) rfl rfl rfl ?_
      refine st_op (ev_move rfl) rfl rfl rfl ?_
      refine st_skip rfl rfl rfl ?_
      refine st_skip rfl rfl rfl ?_
      refine st_skip rfl rfl rfl ?_
      refine st_skip rfl rfl rfl ?_
      refine st_op (ev_pickF rfl rfl) rfl rfl rfl ?_
      refine st_op (ev_move rfl) rfl rfl rfl ?_
      refine st_skip rfl rfl rfl ?_
      refine st_skip rfl rfl rfl ?_
      refine st_skip rfl rfl rfl ?_
      refine st_skip rfl rfl rfl ?_
      refine st_op (ev_pickF rfl rfl) rfl rfl rfl ?_
      refine st_op (ev_assign rfl) rfl rfl rfl ?_
      try show aw _ _ _ _ _ _
      refine aw_ret ?_
      have hx28 : Ext H H15 := (Ext.trans (Ext.trans hx6 hx13) hx16)
      have hres : (Spec.mayF r_hard r_h_term r_h_vote r_e_index r_e_term r_e_kind r_e_data) = false := by rw [Bool.eq_iff_iff]; simp only [Spec.mayF]; (try simp_all [Spec.ba_empty]) <;> (try (intros; omega))
      exact ⟨.bool false, rfl, by rw [hres], hx28⟩
  · rw [Bool.not_eq_true] at hc7; refine aw_condF hc7 rfl ?_
    try show aw _ _ _ _ _ _
    refine aw_skip ?_
    try show aw _ _ _ _ _ _
    refine aw_seq ?_
    refine aw_reg ?_
    refine st_op (ev_fieldAddr rfl fa32_1 (o' := 1) rfl) rfl rfl rfl ?_
    refine st_op (ev_load rfl (lvar_part (l := [.int .i64 r_h_term, .int .i64 r_h_vote]) many23 hB5 rfl rfl (by decide))) rfl rfl rfl ?_
    refine st_op (ev_build zero23 pl23 (parts := []) rfl (cs := [.int .i64 0, .int .i64 0]) rfl) rfl rfl rfl ?_
    obtain ⟨q29, hq30, hi31⟩ : ∃ q, bin.eqCells [.int .i64 r_h_term, .int .i64 r_h_vote] [.int .i64 0, .int .i64 0] = some q ∧ (q = true ↔ r_h_term = 0 ∧ r_h_vote = 0) := ⟨_, rfl, by simp [Bool.and_eq_true, ba_beq]⟩
    refine st_op (ev_agg rfl rfl (by rw [eqt23, show fitAgg Try.prog 23 (#[.int .i64 r_h_term, .int .i64 r_h_vote] : Array Value).toList = true from fit23 r_h_term r_h_vote]; rfl) hq30 rfl) rfl rfl rfl ?_
    refine st_op (ev_move rfl) rfl rfl rfl ?_
    refine st_bool 32 rfl (fun hb32 => ?_) (fun hb32 => ?_)
    ·
      have hb32E := hi31.1 hb32
      refine st_op (ev_fieldAddr rfl fa32_2 (o' := 3) rfl) rfl rfl rfl ?_
      refine st_op (ev_fieldAddr rfl fa25_0 (o' := 3) rfl) rfl rfl rfl ?_
      refine st_op (ev_load rfl (lvar_one one2 hB5 rfl)) rfl rfl rfl ?_
      refine st_op (ev_fieldAddr rfl fa32_2 (o' := 3) rfl) rfl rfl rfl ?_
      refine st_op (ev_fieldAddr rfl fa25_1 (o' := 4) rfl) rfl rfl rfl ?_
      refine st_op (ev_load rfl (lvar_one one2 hB5 rfl)) rfl rfl rfl ?_
      obtain ⟨b33, H34, he35, b33e, H34n_, hm37, f36⟩ := mem_lit H2 (xs := [.int .i64 r_e_index, .int .i64 r_e_term]) (m := 2) (rows := [[.int .i64 r_e_index], [.int .i64 r_e_term]]) rfl eok81 (by decide) (by decide) zf2 rfl (allLen rfl) rfl
      replace hm37 : My H2 H34 (some ⟨b33, 0, none⟩) 2 1 ([r_e_index, r_e_term].map i64c) := hm37
      refine st_op (he35 _ _ _ _ _ _ _ _ rfl) rfl rfl rfl ?_
      have hx38 : Ext H2 H34 := Ext.new (by omega) H34n_ f36
      have H34n : H2.next ≤ H34.next := hx38.1
      refine st_call rfl rfl rfl ent34 rfl rfl rfl ?_
      obtain ⟨_, H40, hs39, hs39v, hx41⟩ := wal_in_spec H34 1 (by decide) 1099511627776 (by decide) (some ⟨b33, 0, none⟩) ([r_e_index, r_e_term]) 2 (My.row hm37) (My.capF hm37 (by first | omega | (simp only [List.length_append, List.length_cons, List.length_nil, List.length_map, List.length_set, List.length_replicate, Spec.bytesOf_length]; omega) | (simp; omega))) (by first | omega | (simp only [List.length_append, List.length_cons, List.length_nil, List.length_map, List.length_set, List.length_replicate, Spec.bytesOf_length]; omega) | (simp; omega))
      rw [hs39v] at hs39; clear hs39v
      refine ⟨_, H40, hs39, ?_⟩
      have H40n : H34.next ≤ H40.next := hx41.1
      refine st_op (ev_pickT rfl rfl) rfl rfl rfl ?_
      refine st_op (ev_move rfl) rfl rfl rfl ?_
      refine st_bool 42 rfl (fun hb42 => ?_) (fun hb42 => ?_)
      ·
        have hb42m := Spec.inF_two hb42
        refine st_op (ev_fieldAddr rfl fa32_2 (o' := 3) rfl) rfl rfl rfl ?_
        refine st_op (ev_fieldAddr rfl fa25_2 (o' := 5) rfl) rfl rfl rfl ?_
        have hx44 : Ext H2 H40 := (Ext.trans hx38 hx41)
        have h43 := Ext.blk hx44 (by omega) hB5
        refine st_op (ev_load rfl (lvar_one one3 h43 rfl)) rfl rfl rfl ?_
        refine st_op (ev_int rfl rfl rfl) rfl rfl rfl ?_
        refine st_op (ev_pickT rfl rfl) rfl rfl rfl ?_
        refine st_op (ev_move rfl) rfl rfl rfl ?_
        refine st_bool 48 rfl (fun hb45 => ?_) (fun hb45 => ?_)
        ·
          have hb45 := of_decide_eq_true hb45
          refine st_op (ev_fieldAddr rfl fa32_2 (o' := 3) rfl) rfl rfl rfl ?_
          refine st_op (ev_fieldAddr rfl fa25_2 (o' := 5) rfl) rfl rfl rfl ?_
          refine st_op (ev_load rfl (lvar_one one3 h43 rfl)) rfl rfl rfl ?_
          refine st_op (ev_int rfl rfl rfl) rfl rfl rfl ?_
          refine st_op (ev_pickT rfl rfl) rfl rfl rfl ?_
          refine st_op (ev_move rfl) rfl rfl rfl ?_
          refine st_bool 54 rfl (fun hb46 => ?_) (fun hb46 => ?_)
          ·
            have hb46 := of_decide_eq_true hb46
            refine st_op (ev_fieldAddr rfl fa32_2 (o' := 3) rfl) rfl rfl rfl ?_
            refine st_op (ev_fieldAddr rfl fa25_3 (o' := 6) rfl) rfl rfl rfl ?_
            refine st_op (ev_load rfl (lvar_one one9 h43 rfl)) rfl rfl rfl ?_
            refine st_op (ev_lenStr rfl Try.underlying9) rfl rfl rfl ?_
            refine st_op (ev_int rfl rfl rfl) rfl rfl rfl ?_
            refine st_op (ev_pickT rfl rfl) rfl rfl rfl ?_
            refine st_op (ev_assign rfl) rfl rfl rfl ?_
            try show aw _ _ _ _ _ _
            refine aw_ret ?_
            have hx47 : Ext H H40 := (Ext.trans (Ext.trans hx6 hx38) hx41)
            have hres : (Spec.mayF r_hard r_h_term r_h_vote r_e_index r_e_term r_e_kind r_e_data) = (decide (((r_e_data).size : Int) ≤ 2500)) := by rw [Bool.eq_iff_iff]; simp only [Spec.mayF]; (try simp_all [Spec.ba_empty]) <;> (try (intros; omega))
            exact ⟨.bool (decide (((r_e_data).size : Int) ≤ 2500)), rfl, by rw [hres], hx47⟩
          ·
            have hb46 := of_decide_eq_false hb46
            refine st_skip rfl rfl rfl ?_
            refine st_skip rfl rfl rfl ?_
            refine st_skip rfl rfl rfl ?_
            refine st_skip rfl rfl rfl ?_
            refine st_skip rfl rfl rfl ?_
            refine st_op (ev_pickF rfl rfl) rfl rfl rfl ?_
            refine st_op (ev_assign rfl) rfl rfl rfl ?_
            try show aw _ _ _ _ _ _
            refine aw_ret ?_
            have hx48 : Ext H H40 := (Ext.trans (Ext.trans hx6 hx38) hx41)
            have hres : (Spec.mayF r_hard r_h_term r_h_vote r_e_index r_e_term r_e_kind r_e_data) = false := by rw [Bool.eq_iff_iff]; simp only [Spec.mayF]; (try simp_all [Spec.ba_empty]) <;> (try (intros; omega))
            exact ⟨.bool false, rfl, by rw [hres], hx48⟩
        ·
          have hb45 := of_decide_eq_false hb45
          refine st_skip rfl rfl rfl ?_
          refine st_skip rfl rfl rfl ?_
          refine st_skip rfl rfl rfl ?_
          refine st_skip rfl rfl rfl ?_
          refine st_op (ev_pickF rfl rfl) rfl rfl rfl ?_
          refine st_op (ev_move rfl) rfl rfl rfl ?_
          refine st_skip rfl rfl rfl ?_
          refine st_skip rfl rfl rfl ?_
          refine st_skip rfl rfl rfl ?_
          refine st_skip rfl rfl rfl ?_
          refine st_skip rfl rfl rfl ?_
          refine st_op (ev_pickF rfl rfl) rfl rfl rfl ?_
          refine st_op (ev_assign rfl) rfl rfl rfl ?_
          try show aw _ _ _ _ _ _
          refine aw_ret ?_
          have hx49 : Ext H H40 := (Ext.trans (Ext.trans hx6 hx38) hx41)
          have hres : (Spec.mayF r_hard r_h_term r_h_vote r_e_index r_e_term r_e_kind r_e_data) = false := by rw [Bool.eq_iff_iff]; simp only [Spec.mayF]; (try simp_all [Spec.ba_empty]) <;> (try (intros; omega))
          exact ⟨.bool false, rfl, by rw [hres], hx49⟩
      ·
        have hb42m := Spec.inF_twoN hb42
        refine st_skip rfl rfl rfl ?_
        refine st_skip rfl rfl rfl ?_
        refine st_skip rfl rfl rfl ?_
        refine st_skip rfl rfl rfl ?_
        refine st_op (ev_pickF rfl rfl) rfl rfl rfl ?_
        refine st_op (ev_move rfl) rfl rfl rfl ?_
        refine st_skip rfl rfl rfl ?_
        refine st_skip rfl rfl rfl ?_
        refine st_skip rfl rfl rfl ?_
        refine st_skip rfl rfl rfl ?_
        refine st_op (ev_pickF rfl rfl) rfl rfl rfl ?_
        refine st_op (ev_move rfl) rfl rfl rfl ?_
        refine st_skip rfl rfl rfl ?_
        refine st_skip rfl rfl rfl ?_
        refine st_skip rfl rfl rfl ?_
        refine st_skip rfl rfl rfl ?_
        refine st_skip rfl rfl rfl ?_
        refine st_op (ev_pickF rfl rfl) rfl rfl rfl ?_
        refine st_op (ev_assign rfl) rfl rfl rfl ?_
        try show aw _ _ _ _ _ _
        refine aw_ret ?_
        have hx50 : Ext H H40 := (Ext.trans (Ext.trans hx6 hx38) hx41)
        have hres : (Spec.mayF r_hard r_h_term r_h_vote r_e_index r_e_term r_e_kind r_e_data) = false := by rw [Bool.eq_iff_iff]; simp only [Spec.mayF]; (try simp_all [Spec.ba_empty]) <;> (try (intros; omega))
        exact ⟨.bool false, rfl, by rw [hres], hx50⟩
    ·
      have hb32E : ¬ (r_h_term = 0 ∧ r_h_vote = 0) := fun e => absurd (hi31.2 e) (by rw [hb32]; decide)
      refine st_skip rfl rfl rfl ?_
      refine st_skip rfl rfl rfl ?_
      refine st_skip rfl rfl rfl ?_
      refine st_skip rfl rfl rfl ?_
      refine st_skip rfl rfl rfl ?_
      refine st_skip rfl rfl rfl ?_
      refine st_skip rfl rfl rfl ?_
      refine st_skip rfl rfl rfl ?_
      refine st_op (ev_pickF rfl rfl) rfl rfl rfl ?_
      refine st_op (ev_move rfl) rfl rfl rfl ?_
      refine st_skip rfl rfl rfl ?_
      refine st_skip rfl rfl rfl ?_
      refine st_skip rfl rfl rfl ?_
      refine st_skip rfl rfl rfl ?_
      refine st_op (ev_pickF rfl rfl) rfl rfl rfl ?_
      refine st_op (ev_move rfl) rfl rfl rfl ?_
      refine st_skip rfl rfl rfl ?_
      refine st_skip rfl rfl rfl ?_
      refine st_skip rfl rfl rfl ?_
      refine st_skip rfl rfl rfl ?_
      refine st_op (ev_pickF rfl rfl) rfl rfl rfl ?_
      refine st_op (ev_move rfl) rfl rfl rfl ?_
      refine st_skip rfl rfl rfl ?_
      refine st_skip rfl rfl rfl ?_
      refine st_skip rfl rfl rfl ?_
      refine st_skip rfl rfl rfl ?_
      refine st_skip rfl rfl rfl ?_
      refine st_op (ev_pickF rfl rfl) rfl rfl rfl ?_
      refine st_op (ev_assign rfl) rfl rfl rfl ?_
      try show aw _ _ _ _ _ _
      refine aw_ret ?_
      have hres : (Spec.mayF r_hard r_h_term r_h_vote r_e_index r_e_term r_e_kind r_e_data) = false := by rw [Bool.eq_iff_iff]; simp only [Spec.mayF]; (try simp_all [Spec.ba_empty]) <;> (try (intros; omega))
      exact ⟨.bool false, rfl, by rw [hres], hx6⟩
theorem law18_num_spec (H : Heap) (n : Int) (least : Int) : ∃ v H', Spec Try.prog 23 [.int .i64 n, .int .i64 least] H v H' ∧ ((v = .bool (decide (least ≤ n ∧ n ≤ 1099511627776))) ∧ (Ext H H')) := by
  refine spec_go2 E0_ok 12 (f := 23) Try.func23 rfl rfl rfl ?_
  refine aw_seq ?_
  refine aw_reg ?_
  refine st_op (ev_assign rfl) rfl rfl rfl ?_
  try show aw _ _ _ _ _ _
  refine aw_seq ?_
  refine aw_reg ?_
  refine st_op (ev_move rfl) rfl rfl rfl ?_
  refine st_op (ev_move rfl) rfl rfl rfl ?_
  refine st_op (ev_int rfl rfl rfl) rfl rfl rfl ?_
  refine st_op (ev_move rfl) rfl rfl rfl ?_
  refine st_bool 8 rfl (fun hb1 => ?_) (fun hb1 => ?_)
  ·
    have hb1 := of_decide_eq_true hb1
    refine st_op (ev_move rfl) rfl rfl rfl ?_
    refine st_op (ev_int rfl rfl rfl) rfl rfl rfl ?_
    refine st_op (ev_pickT rfl rfl) rfl rfl rfl ?_
    refine st_op (ev_assign rfl) rfl rfl rfl ?_
    try show aw _ _ _ _ _ _
    refine aw_ret ?_
    have hres : (decide (least ≤ n ∧ n ≤ 1099511627776)) = (decide (n ≤ 1099511627776)) := by rw [Bool.eq_iff_iff]; simp only [decide_eq_true_eq, Bool.false_eq_true, iff_false]; omega
    exact ⟨.bool (decide (n ≤ 1099511627776)), rfl, by rw [hres], (Ext.refl H)⟩
  ·
    have hb1 := of_decide_eq_false hb1
    refine st_skip rfl rfl rfl ?_
    refine st_skip rfl rfl rfl ?_
    refine st_op (ev_pickF rfl rfl) rfl rfl rfl ?_
    refine st_op (ev_assign rfl) rfl rfl rfl ?_
    try show aw _ _ _ _ _ _
    refine aw_ret ?_
    have hres : (decide (least ≤ n ∧ n ≤ 1099511627776)) = false := by rw [Bool.eq_iff_iff]; simp only [decide_eq_true_eq, Bool.false_eq_true, iff_false]; omega
    exact ⟨.bool false, rfl, by rw [hres], (Ext.refl H)⟩
theorem wal_may_spec (H : Heap) (s_index : Int) (s_term : Int) (s_conf : ByteArray) (s_data : ByteArray) : ∃ v H', Spec Try.prog 45 [.agg #[.int .i64 s_index, .int .i64 s_term, .string s_conf, .string s_data]] H v H' ∧ ((v = .bool (Spec.mayS s_index s_term s_conf s_data)) ∧ (Ext H H')) := by
  refine spec_go1 E0_ok 21 (f := 45) Try.func45 rfl rfl rfl ?_
  refine aw_seq ?_
  refine aw_reg ?_
  obtain ⟨b1, H2, he3, b1e, H2n_, hB5, f4⟩ := mem_box (P := Try.prog) H (v := .agg #[.int .i64 s_index, .int .i64 s_term, .string s_conf, .string s_data]) (cs := [.int .i64 s_index, .int .i64 s_term, .string s_conf, .string s_data]) rfl rfl
  refine st_op (he3 _ _ _ _ _ _ _ _ _ rfl) rfl rfl rfl ?_
  have hx6 : Ext H H2 := Ext.new (by omega) H2n_ f4
  have H2n : H.next ≤ H2.next := hx6.1
  refine st_op (ev_assign rfl) rfl rfl rfl ?_
  try show aw _ _ _ _ _ _
  refine aw_seq ?_
  refine aw_reg ?_
  refine st_op (ev_fieldAddr rfl fa56_0 (o' := 0) rfl) rfl rfl rfl ?_
  refine st_op (ev_load rfl (lvar_one one2 hB5 rfl)) rfl rfl rfl ?_
  refine st_op (ev_fieldAddr rfl fa56_1 (o' := 1) rfl) rfl rfl rfl ?_
  refine st_op (ev_load rfl (lvar_one one2 hB5 rfl)) rfl rfl rfl ?_
  obtain ⟨b7, H8, he9, b7e, H8n_, hm11, f10⟩ := mem_lit H2 (xs := [.int .i64 s_index, .int .i64 s_term]) (m := 2) (rows := [[.int .i64 s_index], [.int .i64 s_term]]) rfl eok81 (by decide) (by decide) zf2 rfl (allLen rfl) rfl
  replace hm11 : My H2 H8 (some ⟨b7, 0, none⟩) 2 1 ([s_index, s_term].map i64c) := hm11
  refine st_op (he9 _ _ _ _ _ _ _ _ rfl) rfl rfl rfl ?_
  have hx12 : Ext H2 H8 := Ext.new (by omega) H8n_ f10
  have H8n : H2.next ≤ H8.next := hx12.1
  refine st_call rfl rfl rfl ent34 rfl rfl rfl ?_
  obtain ⟨_, H14, hs13, hs13v, hx15⟩ := wal_in_spec H8 0 (by decide) 1099511627776 (by decide) (some ⟨b7, 0, none⟩) ([s_index, s_term]) 2 (My.row hm11) (My.capF hm11 (by first | omega | (simp only [List.length_append, List.length_cons, List.length_nil, List.length_map, List.length_set, List.length_replicate, Spec.bytesOf_length]; omega) | (simp; omega))) (by first | omega | (simp only [List.length_append, List.length_cons, List.length_nil, List.length_map, List.length_set, List.length_replicate, Spec.bytesOf_length]; omega) | (simp; omega))
  rw [hs13v] at hs13; clear hs13v
  refine ⟨_, H14, hs13, ?_⟩
  have H14n : H8.next ≤ H14.next := hx15.1
  refine st_op (ev_move rfl) rfl rfl rfl ?_
  refine st_bool 9 rfl (fun hb16 => ?_) (fun hb16 => ?_)
  ·
    have hb16m := Spec.inF_two hb16
    refine st_op (ev_fieldAddr rfl fa56_2 (o' := 2) rfl) rfl rfl rfl ?_
    have hx18 : Ext H2 H14 := (Ext.trans hx12 hx15)
    have h17 := Ext.blk hx18 (by omega) hB5
    refine st_op (ev_load rfl (lvar_one one9 h17 rfl)) rfl rfl rfl ?_
    refine st_op (ev_lenStr rfl Try.underlying9) rfl rfl rfl ?_
    refine st_op (ev_int rfl rfl rfl) rfl rfl rfl ?_
    refine st_op (ev_pickT rfl rfl) rfl rfl rfl ?_
    refine st_op (ev_move rfl) rfl rfl rfl ?_
    refine st_bool 15 rfl (fun hb19 => ?_) (fun hb19 => ?_)
    ·
      have hb19 := of_decide_eq_true hb19
      refine st_op (ev_fieldAddr rfl fa56_3 (o' := 3) rfl) rfl rfl rfl ?_
      refine st_op (ev_load rfl (lvar_one one9 h17 rfl)) rfl rfl rfl ?_
      refine st_op (ev_lenStr rfl Try.underlying9) rfl rfl rfl ?_
      refine st_op (ev_int rfl rfl rfl) rfl rfl rfl ?_
      refine st_op (ev_pickT rfl rfl) rfl rfl rfl ?_
      refine st_op (ev_assign rfl) rfl rfl rfl ?_
      try show aw _ _ _ _ _ _
      refine aw_ret ?_
      have hx20 : Ext H H14 := (Ext.trans (Ext.trans hx6 hx12) hx15)
      have hres : (Spec.mayS s_index s_term s_conf s_data) = (decide (((s_data).size : Int) ≤ 200000)) := by simp only [Spec.mayS]; (try simp_all) <;> (try (intros; omega))
      exact ⟨.bool (decide (((s_data).size : Int) ≤ 200000)), rfl, by rw [hres], hx20⟩
    ·
      have hb19 := of_decide_eq_false hb19
      refine st_skip rfl rfl rfl ?_
      refine st_skip rfl rfl rfl ?_
      refine st_skip rfl rfl rfl ?_
      refine st_skip rfl rfl rfl ?_
      refine st_op (ev_pickF rfl rfl) rfl rfl rfl ?_
      refine st_op (ev_assign rfl) rfl rfl rfl ?_
      try show aw _ _ _ _ _ _
      refine aw_ret ?_
      have hx21 : Ext H H14 := (Ext.trans (Ext.trans hx6 hx12) hx15)
      have hres : (Spec.mayS s_index s_term s_conf s_data) = false := by simp only [Spec.mayS]; (try simp_all) <;> (try (intros; omega))
      exact ⟨.bool false, rfl, by rw [hres], hx21⟩
  ·
    have hb16m := Spec.inF_twoN hb16
    refine st_skip rfl rfl rfl ?_
    refine st_skip rfl rfl rfl ?_
    refine st_skip rfl rfl rfl ?_
    refine st_skip rfl rfl rfl ?_
    refine st_op (ev_pickF rfl rfl) rfl rfl rfl ?_
    refine st_op (ev_move rfl) rfl rfl rfl ?_
    refine st_skip rfl rfl rfl ?_
    refine st_skip rfl rfl rfl ?_
    refine st_skip rfl rfl rfl ?_
    refine st_skip rfl rfl rfl ?_
    refine st_op (ev_pickF rfl rfl) rfl rfl rfl ?_
    refine st_op (ev_assign rfl) rfl rfl rfl ?_
    try show aw _ _ _ _ _ _
    refine aw_ret ?_
    have hx22 : Ext H H14 := (Ext.trans (Ext.trans hx6 hx12) hx15)
    have hres : (Spec.mayS s_index s_term s_conf s_data) = false := by simp only [Spec.mayS]; (try simp_all) <;> (try (intros; omega))
    exact ⟨.bool false, rfl, by rw [hres], hx22⟩
theorem num_Put_spec (H : Heap) (bH : Heap) (bA : Option Addr) (b : List Int) (bc : Nat) (hb : My bH H bA bc 1 (b.map u8c)) (nb : bH.next ≤ H.next) (lb : b.length ≤ 1099511627756) (n : Int) (hn : -9223372036854775808 ≤ n ∧ n ≤ 9223372036854775807) : ∃ v H', Spec Try.prog 29 [.slice bA b.length bc, .int .i64 n] H v H' ∧ (∃ rA0 rc0, (v = .slice rA0 ((b ++ Spec.enc (Spec.zig n)).length) rc0) ∧ (My bH H' rA0 rc0 1 ((b ++ Spec.enc (Spec.zig n)).map u8c)) ∧ ((Spec.enc (Spec.zig n)).length ≤ 10) ∧ (Fr (fun q => (bH.next ≤ q ∧ q < H.next)) H H')) := by
  refine spec_go2 E0_ok 28 (f := 29) Try.func29 rfl rfl rfl ?_
  refine aw_seq ?_
  refine aw_reg ?_
  refine st_op (ev_assign rfl) rfl rfl rfl ?_
  try show aw _ _ _ _ _ _
  refine aw_seq ?_
  refine aw_reg ?_
  refine st_op (ev_move rfl) rfl rfl rfl ?_
  have hw1 : 0 ≤ (IntKind.u64.wrap n) ∧ (IntKind.u64.wrap n) ≤ 18446744073709551615 := wrapU64 _
  refine st_op (ev_convInt Try.underlying2 Try.underlying91 rfl) rfl rfl rfl ?_
  have hw2 : 0 ≤ (Spec.shl .u64 (IntKind.u64.wrap n) 1) ∧ (Spec.shl .u64 (IntKind.u64.wrap n) 1) ≤ 18446744073709551615 := wrapU64 _
  refine st_op (ev_shlV rfl rfl (by omega)) rfl rfl rfl ?_
  refine st_op (ev_assign rfl) rfl rfl rfl ?_
  try show aw _ _ _ _ _ _
  refine aw_seq ?_
  refine aw_seq ?_
  refine aw_reg ?_
  refine st_op (ev_move rfl) rfl rfl rfl ?_
  refine st_op (ev_int rfl rfl rfl) rfl rfl rfl ?_
  try show aw _ _ _ _ _ _
  by_cases hc3 : (decide (n < 0)) = true
  · refine aw_condT hc3 rfl ?_
    try show aw _ _ _ _ _ _
    have hc3 := of_decide_eq_true hc3
    refine aw_reg ?_
    refine st_op (ev_move rfl) rfl rfl rfl ?_
    have hw4 : 0 ≤ (Go.bits .xor .u64 (IntKind.max .u64) (Spec.shl .u64 (IntKind.u64.wrap n) 1)) ∧ (Go.bits .xor .u64 (IntKind.max .u64) (Spec.shl .u64 (IntKind.u64.wrap n) 1)) ≤ 18446744073709551615 := bitsU64 _ _ _
    refine st_op (ev_comU rfl rfl) rfl rfl rfl ?_
    refine st_op (ev_assign rfl) rfl rfl rfl ?_
    try show aw _ _ _ _ _ _
    refine aw_seq ?_
    refine aw_block ?_
    have hz5 : (Go.bits .xor .u64 (IntKind.max .u64) (Spec.shl .u64 (IntKind.u64.wrap n) 1)) = ((Spec.zig n : Nat) : Int) := by first | (rw [shl1_u64]; (try rw [Spec.not_u64 (by omega) (by omega)]); unfold Spec.zig; split <;> omega) | (simp only [Spec.wrap_u64]; (try rw [Spec.not_u64 (by omega) (by omega)]); unfold Spec.zig; split <;> omega)
    have hz5l := Spec.zig_lt hn.1 hn.2
    refine aw_keep [0, 5] (l' := (.cons 0 (.slice bA b.length bc) (.cons 5 (.int .u64 (Go.bits .xor .u64 (IntKind.max .u64) (Spec.shl .u64 (IntKind.u64.wrap n) 1))) .nil))) (by repeat (first | exact Up.done | refine Up.then ?_ | refine Up.inBlock ?_)) rfl ?_
    refine aw_iter (α := Int × Option Addr × Nat × List Int × Nat × Heap) (fun a => a.2.2.2.2.1) (fun a => (.cons 0 (.slice a.2.1 a.2.2.2.1.length a.2.2.1) (.cons 5 (.int .u64 a.1) .nil))) (fun a => a.2.2.2.2.2) (fun a => (a.1 = (a.2.2.2.2.1 : Int)) ∧ (a.2.2.2.1 ++ Spec.enc a.2.2.2.2.1 = b ++ Spec.enc (Spec.zig n)) ∧ (a.2.2.2.2.1 < 18446744073709551616) ∧ (a.2.2.2.1.length + (Spec.enc a.2.2.2.2.1).length ≤ 1099511627770) ∧ (0 ≤ a.1 ∧ a.1 ≤ 18446744073709551615) ∧ (My bH a.2.2.2.2.2 a.2.1 a.2.2.1 1 (a.2.2.2.1.map u8c)) ∧ (Fr (fun q => (bH.next ≤ q ∧ q < H.next)) H a.2.2.2.2.2)) ((Go.bits .xor .u64 (IntKind.max .u64) (Spec.shl .u64 (IntKind.u64.wrap n) 1)), bA, bc, b, (Spec.zig n), H) ⟨(show (Go.bits .xor .u64 (IntKind.max .u64) (Spec.shl .u64 (IntKind.u64.wrap n) 1)) = ((Spec.zig n) : Int) from hz5), (show b ++ Spec.enc (Spec.zig n) = b ++ Spec.enc (Spec.zig n) from rfl), (show (Spec.zig n) < 18446744073709551616 from hz5l), (show b.length + (Spec.enc (Spec.zig n)).length ≤ 1099511627770 from (by have := Spec.enc_len10 hz5l; simp; omega)), (show 0 ≤ (Go.bits .xor .u64 (IntKind.max .u64) (Spec.shl .u64 (IntKind.u64.wrap n) 1)) ∧ (Go.bits .xor .u64 (IntKind.max .u64) (Spec.shl .u64 (IntKind.u64.wrap n) 1)) ≤ 18446744073709551615 from ⟨by omega, by omega⟩), (show My bH H bA bc 1 (b.map u8c) from hb), (show Fr (fun q => (bH.next ≤ q ∧ q < H.next)) H H from (Fr.refl _ H))⟩ ?_
    rintro ⟨v, A, cp, l, u, Hl6⟩ ⟨hv, hl, hu, hL, hn7, hm8, hxl9⟩ ih10
    replace hv : v = (u : Int) := hv
    replace hl : l ++ Spec.enc u = b ++ Spec.enc (Spec.zig n) := hl
    replace hu : u < 18446744073709551616 := hu
    replace hL : l.length + (Spec.enc u).length ≤ 1099511627770 := hL
    replace hn7 : 0 ≤ v ∧ v ≤ 18446744073709551615 := hn7
    replace hm8 : My bH Hl6 A cp 1 (l.map u8c) := hm8
    replace hxl9 : Fr (fun q => (bH.next ≤ q ∧ q < H.next)) H Hl6 := hxl9
    show aw _ _ _ (RL _ (.cons 0 (.slice A l.length cp) (.cons 5 (.int .u64 v) .nil))) Hl6 _
    have Hl6n : H.next ≤ Hl6.next := hxl9.1
    have hpos := Spec.enc_pos u
    refine aw_seq ?_
    refine aw_seq ?_
    refine aw_reg ?_
    refine st_op (ev_move rfl) rfl rfl rfl ?_
    refine st_op (ev_int rfl rfl rfl) rfl rfl rfl ?_
    try show aw _ _ _ _ _ _
    by_cases hc11 : (decide (v > 127)) = true
    · refine aw_condT hc11 rfl ?_
      try show aw _ _ _ _ _ _
      have hc11 := of_decide_eq_true hc11
      refine aw_skip ?_
      try show aw _ _ _ _ _ _
      refine aw_block ?_
      refine aw_seq ?_
      refine aw_reg ?_
      refine st_op (ev_move rfl) rfl rfl rfl ?_
      refine st_op (ev_move rfl) rfl rfl rfl ?_
      have hw12 : 0 ≤ (IntKind.u8.wrap v) ∧ (IntKind.u8.wrap v) ≤ 255 := wrapU8 _
      refine st_op (ev_convInt Try.underlying91 Try.underlying5 rfl) rfl rfl rfl ?_
      have hw13 : 0 ≤ (Go.bits .or .u8 (IntKind.u8.wrap v) 128) ∧ (Go.bits .or .u8 (IntKind.u8.wrap v) 128) ≤ 255 := bitsU8 _ _ _
      refine st_op (ev_bits rfl rfl rfl) rfl rfl rfl ?_
      obtain ⟨b14, H15, he16, b14e, H15n_, hm18, f17⟩ := mem_lit Hl6 (xs := [.int .u8 (Go.bits .or .u8 (IntKind.u8.wrap v) 128)]) (m := 1) (rows := [[.int .u8 (Go.bits .or .u8 (IntKind.u8.wrap v) 128)]]) rfl eok30 (by decide) (by decide) zf5 rfl (allLen rfl) rfl
      replace hm18 : My Hl6 H15 (some ⟨b14, 0, none⟩) 1 1 ([(Go.bits .or .u8 (IntKind.u8.wrap v) 128)].map u8c) := hm18
      refine st_op (he16 _ _ _ _ _ _ _ _ rfl) rfl rfl rfl ?_
      have hx19 : Ext Hl6 H15 := Ext.new (by omega) H15n_ f17
      have H15n : Hl6.next ≤ H15.next := hx19.1
      have h20 := My.ext hm8 hx19
      obtain ⟨A21, c22, H23, W24, he25, hm26, hf27⟩ := mem_append (f := u8c) (old := l) (new := [(Go.bits .or .u8 (IntKind.u8.wrap v) 128)]) (m := l.length) (mx := 1) (c := cp) (by first | rfl | simp) (by first | rfl | simp) eok30 (by decide) hm8 h20 (by omega) (((My.row hm18)).srcF (by decide) (by first | rfl | simp)) rfl u8c_len u8c_one (by first | omega | (simp only [List.length_append, List.length_cons, List.length_nil, List.length_map, List.length_set, List.length_replicate, Spec.bytesOf_length]; omega) | (simp; omega)) (by first | omega | (simp only [List.length_append, List.length_cons, List.length_nil, List.length_map, List.length_set, List.length_replicate, Spec.bytesOf_length]; omega) | (simp; omega))
      refine st_op (he25 _ _ _ _ _ _ _ _ _ _ rfl rfl isrow30) rfl rfl rfl ?_
      have H23n : H15.next ≤ H23.next := hf27.1
      refine st_op (ev_assign rfl) rfl rfl rfl ?_
      try show aw _ _ _ _ _ _
      refine aw_reg ?_
      refine st_op (ev_move rfl) rfl rfl rfl ?_
      refine st_op (ev_shr (a := v) (c := 128) rfl rfl (by decide) (by decide)) rfl rfl rfl ?_
      refine st_op (ev_assign rfl) rfl rfl rfl ?_
      try show aw _ _ _ _ _ _
      refine aw_keep [0, 5] (l' := (.cons 0 (.slice A21 ((l ++ [(Go.bits .or .u8 (IntKind.u8.wrap v) 128)]).length) c22) (.cons 5 (.int .u64 (v / 128)) .nil))) (by repeat (first | exact Up.done | refine Up.then ?_ | refine Up.inBlock ?_)) rfl ?_
      exact ih10 ((v / 128), A21, c22, (l ++ [(Go.bits .or .u8 (IntKind.u8.wrap v) 128)]), (u / 128), H23) ⟨(show (v / 128) = ((u / 128) : Int) from (by subst hv; omega)), (show (l ++ [(Go.bits .or .u8 (IntKind.u8.wrap v) 128)]) ++ Spec.enc (u / 128) = b ++ Spec.enc (Spec.zig n) from (by rw [← hl, Spec.enc_step (u := u) (by omega), List.append_assoc]; congr 2; subst hv; rw [List.cons_append, List.nil_append]; congr 1 <;> first | (rw [IntKind.wrap_u8, Spec.or128 (by omega) (by omega)]; omega) | (rw [IntKind.wrap_u8]; omega) | omega)), (show (u / 128) < 18446744073709551616 from (by omega)), (show (l ++ [(Go.bits .or .u8 (IntKind.u8.wrap v) 128)]).length + (Spec.enc (u / 128)).length ≤ 1099511627770 from (by rw [Spec.enc_step (u := u) (by omega), List.length_cons] at hL; rw [List.length_append, List.length_singleton]; omega)), (show 0 ≤ (v / 128) ∧ (v / 128) ≤ 18446744073709551615 from ⟨by omega, by omega⟩), (show My bH H23 A21 c22 1 ((l ++ [(Go.bits .or .u8 (IntKind.u8.wrap v) 128)]).map u8c) from hm26), (show Fr (fun q => (bH.next ≤ q ∧ q < H.next)) H H23 from (Fr.trans (Fr.trans (Fr.trans (Fr.refl (fun q => (bH.next ≤ q ∧ q < H.next)) H) hxl9 (fun q hq (e : (bH.next ≤ q ∧ q < H.next)) => show (bH.next ≤ q ∧ q < H.next) from by omega)) (hx19.fr fun _ => False) (fun q hq (e : False) => e.elim)) hf27 (fun q hq (e : (bH.next ≤ q ∧ q < Hl6.next)) => show (bH.next ≤ q ∧ q < H.next) from by omega)))⟩ (by simp only; omega)
    · rw [Bool.not_eq_true] at hc11; refine aw_condF hc11 rfl ?_
      try show aw _ _ _ _ _ _
      have hc11 := of_decide_eq_false hc11
      refine aw_exit ?_
      try show aw _ _ _ _ _ _
      refine aw_seq ?_
      refine aw_reg ?_
      refine st_op (ev_move rfl) rfl rfl rfl ?_
      refine st_op (ev_move rfl) rfl rfl rfl ?_
      refine st_op (ev_convI Try.underlying91 Try.underlying5 rfl (wrU8 (by omega) (by omega))) rfl rfl rfl ?_
      obtain ⟨b28, H29, he30, b28e, H29n_, hm32, f31⟩ := mem_lit Hl6 (xs := [.int .u8 v]) (m := 1) (rows := [[.int .u8 v]]) rfl eok30 (by decide) (by decide) zf5 rfl (allLen rfl) rfl
      replace hm32 : My Hl6 H29 (some ⟨b28, 0, none⟩) 1 1 ([v].map u8c) := hm32
      refine st_op (he30 _ _ _ _ _ _ _ _ rfl) rfl rfl rfl ?_
      have hx33 : Ext Hl6 H29 := Ext.new (by omega) H29n_ f31
      have H29n : Hl6.next ≤ H29.next := hx33.1
      have h34 := My.ext hm8 hx33
      obtain ⟨A35, c36, H37, W38, he39, hm40, hf41⟩ := mem_append (f := u8c) (old := l) (new := [v]) (m := l.length) (mx := 1) (c := cp) (by first | rfl | simp) (by first | rfl | simp) eok30 (by decide) hm8 h34 (by omega) (((My.row hm32)).srcF (by decide) (by first | rfl | simp)) rfl u8c_len u8c_one (by first | omega | (simp only [List.length_append, List.length_cons, List.length_nil, List.length_map, List.length_set, List.length_replicate, Spec.bytesOf_length]; omega) | (simp; omega)) (by first | omega | (simp only [List.length_append, List.length_cons, List.length_nil, List.length_map, List.length_set, List.length_replicate, Spec.bytesOf_length]; omega) | (simp; omega))
      refine st_op (he39 _ _ _ _ _ _ _ _ _ _ rfl rfl isrow30) rfl rfl rfl ?_
      have H37n : H29.next ≤ H37.next := hf41.1
      refine st_op (ev_assign rfl) rfl rfl rfl ?_
      try show aw _ _ _ _ _ _
      refine aw_ret ?_
      have hres : (b ++ Spec.enc (Spec.zig n)) = (l ++ [v]) := by rw [← hl, Spec.enc_small (u := u) (by omega)]; congr 2; subst hv; first | done | omega | (rw [IntKind.wrap_u8]; omega)
      exact ⟨.slice A35 ((l ++ [v]).length) c36, rfl, A35, c36, by rw [hres]; first | done | rfl | simp, (by rw [hres]; exact hm40), (by exact Spec.zig_i64 hn), (Fr.trans (Fr.trans (Fr.trans (Fr.refl (fun q => (bH.next ≤ q ∧ q < H.next)) H) hxl9 (fun q hq (e : (bH.next ≤ q ∧ q < H.next)) => show (bH.next ≤ q ∧ q < H.next) from by omega)) (hx33.fr fun _ => False) (fun q hq (e : False) => e.elim)) hf41 (fun q hq (e : (bH.next ≤ q ∧ q < Hl6.next)) => show (bH.next ≤ q ∧ q < H.next) from by omega))⟩
  · rw [Bool.not_eq_true] at hc3; refine aw_condF hc3 rfl ?_
    try show aw _ _ _ _ _ _
    have hc3 := of_decide_eq_false hc3
    refine aw_skip ?_
    try show aw _ _ _ _ _ _
    refine aw_seq ?_
    refine aw_block ?_
    have hz42 : (Spec.shl .u64 (IntKind.u64.wrap n) 1) = ((Spec.zig n : Nat) : Int) := by first | (rw [shl1_u64]; (try rw [Spec.not_u64 (by omega) (by omega)]); unfold Spec.zig; split <;> omega) | (simp only [Spec.wrap_u64]; (try rw [Spec.not_u64 (by omega) (by omega)]); unfold Spec.zig; split <;> omega)
    have hz42l := Spec.zig_lt hn.1 hn.2
    refine aw_keep [0, 5] (l' := (.cons 0 (.slice bA b.length bc) (.cons 5 (.int .u64 (Spec.shl .u64 (IntKind.u64.wrap n) 1)) .nil))) (by repeat (first | exact Up.done | refine Up.then ?_ | refine Up.inBlock ?_)) rfl ?_
    refine aw_iter (α := Int × Option Addr × Nat × List Int × Nat × Heap) (fun a => a.2.2.2.2.1) (fun a => (.cons 0 (.slice a.2.1 a.2.2.2.1.length a.2.2.1) (.cons 5 (.int .u64 a.1) .nil))) (fun a => a.2.2.2.2.2) (fun a => (a.1 = (a.2.2.2.2.1 : Int)) ∧ (a.2.2.2.1 ++ Spec.enc a.2.2.2.2.1 = b ++ Spec.enc (Spec.zig n)) ∧ (a.2.2.2.2.1 < 18446744073709551616) ∧ (a.2.2.2.1.length + (Spec.enc a.2.2.2.2.1).length ≤ 1099511627770) ∧ (0 ≤ a.1 ∧ a.1 ≤ 18446744073709551615) ∧ (My bH a.2.2.2.2.2 a.2.1 a.2.2.1 1 (a.2.2.2.1.map u8c)) ∧ (Fr (fun q => (bH.next ≤ q ∧ q < H.next)) H a.2.2.2.2.2)) ((Spec.shl .u64 (IntKind.u64.wrap n) 1), bA, bc, b, (Spec.zig n), H) ⟨(show (Spec.shl .u64 (IntKind.u64.wrap n) 1) = ((Spec.zig n) : Int) from hz42), (show b ++ Spec.enc (Spec.zig n) = b ++ Spec.enc (Spec.zig n) from rfl), (show (Spec.zig n) < 18446744073709551616 from hz42l), (show b.length + (Spec.enc (Spec.zig n)).length ≤ 1099511627770 from (by have := Spec.enc_len10 hz42l; simp; omega)), (show 0 ≤ (Spec.shl .u64 (IntKind.u64.wrap n) 1) ∧ (Spec.shl .u64 (IntKind.u64.wrap n) 1) ≤ 18446744073709551615 from ⟨by omega, by omega⟩), (show My bH H bA bc 1 (b.map u8c) from hb), (show Fr (fun q => (bH.next ≤ q ∧ q < H.next)) H H from (Fr.refl _ H))⟩ ?_
    rintro ⟨v, A, cp, l, u, Hl43⟩ ⟨hv, hl, hu, hL, hn44, hm45, hxl46⟩ ih47
    replace hv : v = (u : Int) := hv
    replace hl : l ++ Spec.enc u = b ++ Spec.enc (Spec.zig n) := hl
    replace hu : u < 18446744073709551616 := hu
    replace hL : l.length + (Spec.enc u).length ≤ 1099511627770 := hL
    replace hn44 : 0 ≤ v ∧ v ≤ 18446744073709551615 := hn44
    replace hm45 : My bH Hl43 A cp 1 (l.map u8c) := hm45
    replace hxl46 : Fr (fun q => (bH.next ≤ q ∧ q < H.next)) H Hl43 := hxl46
    show aw _ _ _ (RL _ (.cons 0 (.slice A l.length cp) (.cons 5 (.int .u64 v) .nil))) Hl43 _
    have Hl43n : H.next ≤ Hl43.next := hxl46.1
    have hpos := Spec.enc_pos u
    refine aw_seq ?_
    refine aw_seq ?_
    refine aw_reg ?_
    refine st_op (ev_move rfl) rfl rfl rfl ?_
    refine st_op (ev_int rfl rfl rfl) rfl rfl rfl ?_
    try show aw _ _ _ _ _ _
    by_cases hc48 : (decide (v > 127)) = true
    · refine aw_condT hc48 rfl ?_
      try show aw _ _ _ _ _ _
      have hc48 := of_decide_eq_true hc48
      refine aw_skip ?_
      try show aw _ _ _ _ _ _
      refine aw_block ?_
      refine aw_seq ?_
      refine aw_reg ?_
      refine st_op (ev_move rfl) rfl rfl rfl ?_
      refine st_op (ev_move rfl) rfl rfl rfl ?_
      have hw49 : 0 ≤ (IntKind.u8.wrap v) ∧ (IntKind.u8.wrap v) ≤ 255 := wrapU8 _
      refine st_op (ev_convInt Try.underlying91 Try.underlying5 rfl) rfl rfl rfl ?_
      have hw50 : 0 ≤ (Go.bits .or .u8 (IntKind.u8.wrap v) 128) ∧ (Go.bits .or .u8 (IntKind.u8.wrap v) 128) ≤ 255 := bitsU8 _ _ _
      refine st_op (ev_bits rfl rfl rfl) rfl rfl rfl ?_
      obtain ⟨b51, H52, he53, b51e, H52n_, hm55, f54⟩ := mem_lit Hl43 (xs := [.int .u8 (Go.bits .or .u8 (IntKind.u8.wrap v) 128)]) (m := 1) (rows := [[.int .u8 (Go.bits .or .u8 (IntKind.u8.wrap v) 128)]]) rfl eok30 (by decide) (by decide) zf5 rfl (allLen rfl) rfl
      replace hm55 : My Hl43 H52 (some ⟨b51, 0, none⟩) 1 1 ([(Go.bits .or .u8 (IntKind.u8.wrap v) 128)].map u8c) := hm55
      refine st_op (he53 _ _ _ _ _ _ _ _ rfl) rfl rfl rfl ?_
      have hx56 : Ext Hl43 H52 := Ext.new (by omega) H52n_ f54
      have H52n : Hl43.next ≤ H52.next := hx56.1
      have h57 := My.ext hm45 hx56
      obtain ⟨A58, c59, H60, W61, he62, hm63, hf64⟩ := mem_append (f := u8c) (old := l) (new := [(Go.bits .or .u8 (IntKind.u8.wrap v) 128)]) (m := l.length) (mx := 1) (c := cp) (by first | rfl | simp) (by first | rfl | simp) eok30 (by decide) hm45 h57 (by omega) (((My.row hm55)).srcF (by decide) (by first | rfl | simp)) rfl u8c_len u8c_one (by first | omega | (simp only [List.length_append, List.length_cons, List.length_nil, List.length_map, List.length_set, List.length_replicate, Spec.bytesOf_length]; omega) | (simp; omega)) (by first | omega | (simp only [List.length_append, List.length_cons, List.length_nil, List.length_map, List.length_set, List.length_replicate, Spec.bytesOf_length]; omega) | (simp; omega))
      refine st_op (he62 _ _ _ _ _ _ _ _ _ _ rfl rfl isrow30) rfl rfl rfl ?_
      have H60n : H52.next ≤ H60.next := hf64.1
      refine st_op (ev_assign rfl) rfl rfl rfl ?_
      try show aw _ _ _ _ _ _
      refine aw_reg ?_
      refine st_op (ev_move rfl) rfl rfl rfl ?_
      refine st_op (ev_shr (a := v) (c := 128) rfl rfl (by decide) (by decide)) rfl rfl rfl ?_
      refine st_op (ev_assign rfl) rfl rfl rfl ?_
      try show aw _ _ _ _ _ _
      refine aw_keep [0, 5] (l' := (.cons 0 (.slice A58 ((l ++ [(Go.bits .or .u8 (IntKind.u8.wrap v) 128)]).length) c59) (.cons 5 (.int .u64 (v / 128)) .nil))) (by repeat (first | exact Up.done | refine Up.then ?_ | refine Up.inBlock ?_)) rfl ?_
      exact ih47 ((v / 128), A58, c59, (l ++ [(Go.bits .or .u8 (IntKind.u8.wrap v) 128)]), (u / 128), H60) ⟨(show (v / 128) = ((u / 128) : Int) from (by subst hv; omega)), (show (l ++ [(Go.bits .or .u8 (IntKind.u8.wrap v) 128)]) ++ Spec.enc (u / 128) = b ++ Spec.enc (Spec.zig n) from (by rw [← hl, Spec.enc_step (u := u) (by omega), List.append_assoc]; congr 2; subst hv; rw [List.cons_append, List.nil_append]; congr 1 <;> first | (rw [IntKind.wrap_u8, Spec.or128 (by omega) (by omega)]; omega) | (rw [IntKind.wrap_u8]; omega) | omega)), (show (u / 128) < 18446744073709551616 from (by omega)), (show (l ++ [(Go.bits .or .u8 (IntKind.u8.wrap v) 128)]).length + (Spec.enc (u / 128)).length ≤ 1099511627770 from (by rw [Spec.enc_step (u := u) (by omega), List.length_cons] at hL; rw [List.length_append, List.length_singleton]; omega)), (show 0 ≤ (v / 128) ∧ (v / 128) ≤ 18446744073709551615 from ⟨by omega, by omega⟩), (show My bH H60 A58 c59 1 ((l ++ [(Go.bits .or .u8 (IntKind.u8.wrap v) 128)]).map u8c) from hm63), (show Fr (fun q => (bH.next ≤ q ∧ q < H.next)) H H60 from (Fr.trans (Fr.trans (Fr.trans (Fr.refl (fun q => (bH.next ≤ q ∧ q < H.next)) H) hxl46 (fun q hq (e : (bH.next ≤ q ∧ q < H.next)) => show (bH.next ≤ q ∧ q < H.next) from by omega)) (hx56.fr fun _ => False) (fun q hq (e : False) => e.elim)) hf64 (fun q hq (e : (bH.next ≤ q ∧ q < Hl43.next)) => show (bH.next ≤ q ∧ q < H.next) from by omega)))⟩ (by simp only; omega)
    · rw [Bool.not_eq_true] at hc48; refine aw_condF hc48 rfl ?_
      try show aw _ _ _ _ _ _
      have hc48 := of_decide_eq_false hc48
      refine aw_exit ?_
      try show aw _ _ _ _ _ _
      refine aw_seq ?_
      refine aw_reg ?_
      refine st_op (ev_move rfl) rfl rfl rfl ?_
      refine st_op (ev_move rfl) rfl rfl rfl ?_
      refine st_op (ev_convI Try.underlying91 Try.underlying5 rfl (wrU8 (by omega) (by omega))) rfl rfl rfl ?_
      obtain ⟨b65, H66, he67, b65e, H66n_, hm69, f68⟩ := mem_lit Hl43 (xs := [.int .u8 v]) (m := 1) (rows := [[.int .u8 v]]) rfl eok30 (by decide) (by decide) zf5 rfl (allLen rfl) rfl
      replace hm69 : My Hl43 H66 (some ⟨b65, 0, none⟩) 1 1 ([v].map u8c) := hm69
      refine st_op (he67 _ _ _ _ _ _ _ _ rfl) rfl rfl rfl ?_
      have hx70 : Ext Hl43 H66 := Ext.new (by omega) H66n_ f68
      have H66n : Hl43.next ≤ H66.next := hx70.1
      have h71 := My.ext hm45 hx70
      obtain ⟨A72, c73, H74, W75, he76, hm77, hf78⟩ := mem_append (f := u8c) (old := l) (new := [v]) (m := l.length) (mx := 1) (c := cp) (by first | rfl | simp) (by first | rfl | simp) eok30 (by decide) hm45 h71 (by omega) (((My.row hm69)).srcF (by decide) (by first | rfl | simp)) rfl u8c_len u8c_one (by first | omega | (simp only [List.length_append, List.length_cons, List.length_nil, List.length_map, List.length_set, List.length_replicate, Spec.bytesOf_length]; omega) | (simp; omega)) (by first | omega | (simp only [List.length_append, List.length_cons, List.length_nil, List.length_map, List.length_set, List.length_replicate, Spec.bytesOf_length]; omega) | (simp; omega))
      refine st_op (he76 _ _ _ _ _ _ _ _ _ _ rfl rfl isrow30) rfl rfl rfl ?_
      have H74n : H66.next ≤ H74.next := hf78.1
      refine st_op (ev_assign rfl) rfl rfl rfl ?_
      try show aw _ _ _ _ _ _
      refine aw_ret ?_
      have hres : (b ++ Spec.enc (Spec.zig n)) = (l ++ [v]) := by rw [← hl, Spec.enc_small (u := u) (by omega)]; congr 2; subst hv; first | done | omega | (rw [IntKind.wrap_u8]; omega)
      exact ⟨.slice A72 ((l ++ [v]).length) c73, rfl, A72, c73, by rw [hres]; first | done | rfl | simp, (by rw [hres]; exact hm77), (by exact Spec.zig_i64 hn), (Fr.trans (Fr.trans (Fr.trans (Fr.refl (fun q => (bH.next ≤ q ∧ q < H.next)) H) hxl46 (fun q hq (e : (bH.next ≤ q ∧ q < H.next)) => show (bH.next ≤ q ∧ q < H.next) from by omega)) (hx70.fr fun _ => False) (fun q hq (e : False) => e.elim)) hf78 (fun q hq (e : (bH.next ≤ q ∧ q < Hl43.next)) => show (bH.next ≤ q ∧ q < H.next) from by omega))⟩
theorem num_PutText_spec (H : Heap) (bH : Heap) (bA : Option Addr) (b : List Int) (bc : Nat) (hb : My bH H bA bc 1 (b.map u8c)) (nb : bH.next ≤ H.next) (lb : b.length ≤ 824633720832) (s : ByteArray) (hs : s.size ≤ 137438953472) : ∃ v H', Spec Try.prog 30 [.slice bA b.length bc, .string s] H v H' ∧ (∃ rA0 rc0, (v = .slice rA0 ((b ++ Spec.enc (Spec.zig (s.size : Int)) ++ Spec.bytesOf s).length) rc0) ∧ (My bH H' rA0 rc0 1 ((b ++ Spec.enc (Spec.zig (s.size : Int)) ++ Spec.bytesOf s).map u8c)) ∧ ((Spec.enc (Spec.zig (s.size : Int))).length ≤ 10) ∧ (Fr (fun q => (bH.next ≤ q ∧ q < H.next)) H H')) := by
  refine spec_go2 E0_ok 11 (f := 30) Try.func30 rfl rfl rfl ?_
  refine aw_seq ?_
  refine aw_reg ?_
  refine st_op (ev_assign rfl) rfl rfl rfl ?_
  try show aw _ _ _ _ _ _
  refine aw_seq ?_
  refine aw_reg ?_
  refine st_op (ev_move rfl) rfl rfl rfl ?_
  refine st_op (ev_move rfl) rfl rfl rfl ?_
  refine st_op (ev_lenStr rfl Try.underlying9) rfl rfl rfl ?_
  refine st_call rfl rfl rfl ent29 rfl rfl rfl ?_
  obtain ⟨_, H2, hs1, A4, c5, hs1v, hm6, hq7, hx3⟩ := num_Put_spec H bH bA b bc hb (by omega) (by first | omega | (simp only [List.length_append, List.length_cons, List.length_nil, List.length_map, List.length_set, List.length_replicate, Spec.bytesOf_length]; omega) | (simp; omega)) ((s).size : Int) ⟨by omega, by omega⟩
  rw [hs1v] at hs1; clear hs1v
  refine ⟨_, H2, hs1, ?_⟩
  have H2n : H.next ≤ H2.next := hx3.1
  refine st_op (ev_move rfl) rfl rfl rfl ?_
  obtain ⟨A8, c9, H10, W11, he12, hm13, hf14⟩ := mem_append (f := u8c) (old := (b ++ Spec.enc (Spec.zig ((s).size : Int)))) (new := (Spec.bytesOf s)) (m := (b ++ Spec.enc (Spec.zig ((s).size : Int))).length) (mx := (Spec.bytesOf s).length) (c := c5) (by first | rfl | simp) (by first | rfl | simp) eok30 (by decide) hm6 hm6 (by omega) (str_src s) (by simp [lenA, Spec.bytesOf_length]) u8c_len u8c_one (by first | omega | (simp only [List.length_append, List.length_cons, List.length_nil, List.length_map, List.length_set, List.length_replicate, Spec.bytesOf_length]; omega) | (simp; omega)) (by first | omega | (simp only [List.length_append, List.length_cons, List.length_nil, List.length_map, List.length_set, List.length_replicate, Spec.bytesOf_length]; omega) | (simp; omega))
  refine st_op (he12 _ _ _ _ _ _ _ _ _ _ rfl rfl isrow9) rfl rfl rfl ?_
  have H10n : H2.next ≤ H10.next := hf14.1
  refine st_op (ev_assign rfl) rfl rfl rfl ?_
  try show aw _ _ _ _ _ _
  refine aw_ret ?_
  have hres : (b ++ Spec.enc (Spec.zig (s.size : Int)) ++ Spec.bytesOf s) = ((b ++ Spec.enc (Spec.zig ((s).size : Int))) ++ (Spec.bytesOf s)) := by rfl
  exact ⟨.slice A8 (((b ++ Spec.enc (Spec.zig ((s).size : Int))) ++ (Spec.bytesOf s)).length) c9, rfl, A8, c9, by rw [hres]; first | done | rfl | simp, (by rw [hres]; exact hm13), (by exact Spec.zig_i64 ⟨by omega, by omega⟩), (Fr.trans (Fr.trans (Fr.refl (fun q => (bH.next ≤ q ∧ q < H.next)) H) hx3 (fun q hq (e : (bH.next ≤ q ∧ q < H.next)) => show (bH.next ≤ q ∧ q < H.next) from by omega)) hf14 (fun q hq (e : (bH.next ≤ q ∧ q < H2.next)) => show (bH.next ≤ q ∧ q < H.next) from by omega))⟩
theorem crc_More_spec (H : Heap) (s : Int) (hs : 0 ≤ s ∧ s ≤ 4294967295) (bA : Option Addr) (b : List Int) (bc : Nat) (hb : Row H bA bc 1 (b.map u8c)) (cb : b.length ≤ bc) (lb : b.length ≤ 1099511627776) (bb : Spec.Bytes b) : ∃ v H', Spec Try.prog 46 [.int .u32 s, .slice bA b.length bc] H v H' ∧ ((v = .int .u32 ((Spec.crcMore s.toNat b : Nat) : Int)) ∧ (0 ≤ ((Spec.crcMore s.toNat b : Nat) : Int) ∧ ((Spec.crcMore s.toNat b : Nat) : Int) ≤ 4294967295) ∧ (Ext H H')) := by
  refine spec_go2 E0_ok 33 (f := 46) Try.func46 rfl rfl rfl ?_
  refine aw_seq ?_
  refine aw_reg ?_
  refine st_op (ev_assign rfl) rfl rfl rfl ?_
  try show aw _ _ _ _ _ _
  refine aw_seq ?_
  refine aw_reg ?_
  refine st_op (ev_move rfl) rfl rfl rfl ?_
  have hw1 : 0 ≤ (Go.bits .xor .u32 (IntKind.max .u32) s) ∧ (Go.bits .xor .u32 (IntKind.max .u32) s) ≤ 4294967295 := bitsU32 _ _ _
  refine st_op (ev_comU rfl rfl) rfl rfl rfl ?_
  refine st_op (ev_assign rfl) rfl rfl rfl ?_
  try show aw _ _ _ _ _ _
  refine aw_seq ?_
  refine aw_seq ?_
  refine aw_reg ?_
  refine st_op (ev_move rfl) rfl rfl rfl ?_
  refine st_op (ev_lenSl rfl Try.underlying30) rfl rfl rfl ?_
  refine st_op (ev_move rfl) rfl rfl rfl ?_
  try show aw _ _ _ _ _ _
  refine aw_block ?_
  refine aw_keep [5, 10, 11, 12] (l' := (.cons 5 (.int .u32 (Go.bits .xor .u32 (IntKind.max .u32) s)) (.cons 10 (.slice bA b.length bc) (.cons 11 (.int .i64 (b.length : Int)) (.cons 12 (.int .i64 0) .nil))))) (by repeat (first | exact Up.done | refine Up.then ?_ | refine Up.inBlock ?_)) rfl ?_
  refine aw_iter (α := Nat × Int × Heap) (fun a => b.length - a.1) (fun a => (.cons 5 (.int .u32 a.2.1) (.cons 10 (.slice bA b.length bc) (.cons 11 (.int .i64 (b.length : Int)) (.cons 12 (.int .i64 (a.1 : Int)) .nil))))) (fun a => a.2.2) (fun a => (a.1 ≤ b.length) ∧ (Spec.crcRun (4294967295 - s.toNat) b = Spec.crcRun a.2.1.toNat (b.drop a.1)) ∧ (0 ≤ a.2.1 ∧ a.2.1 ≤ 4294967295) ∧ (Ext H a.2.2)) (0, (Go.bits .xor .u32 (IntKind.max .u32) s), H) ⟨(show 0 ≤ b.length from Nat.zero_le _), (show Spec.crcRun (4294967295 - s.toNat) b = Spec.crcRun (Go.bits .xor .u32 (IntKind.max .u32) s).toNat (b.drop 0) from (by first | rfl | (rw [Spec.not_u32 hs.1 (by omega), List.drop_zero]; congr 1; omega))), (show 0 ≤ (Go.bits .xor .u32 (IntKind.max .u32) s) ∧ (Go.bits .xor .u32 (IntKind.max .u32) s) ≤ 4294967295 from ⟨by omega, by omega⟩), (show Ext H H from (Ext.refl H))⟩ ?_
  rintro ⟨i, x, Hl2⟩ ⟨hi, hx, hn3, hxl4⟩ ih5
  replace hi : i ≤ b.length := hi
  replace hx : Spec.crcRun (4294967295 - s.toNat) b = Spec.crcRun x.toNat (b.drop i) := hx
  replace hn3 : 0 ≤ x ∧ x ≤ 4294967295 := hn3
  replace hxl4 : Ext H Hl2 := hxl4
  show aw _ _ _ (RL _ (.cons 5 (.int .u32 x) (.cons 10 (.slice bA b.length bc) (.cons 11 (.int .i64 (b.length : Int)) (.cons 12 (.int .i64 (i : Int)) .nil))))) Hl2 _
  have Hl2n : H.next ≤ Hl2.next := hxl4.1
  refine aw_seq ?_
  refine aw_reg ?_
  refine st_op (ev_int rfl rfl rfl) rfl rfl rfl ?_
  try show aw _ _ _ _ _ _
  refine aw_seq ?_
  by_cases hc6 : (decide ((i : Int) < (b.length : Int))) = true
  · refine aw_condT hc6 rfl ?_
    try show aw _ _ _ _ _ _
    have hc6 := of_decide_eq_true hc6
    refine aw_skip ?_
    try show aw _ _ _ _ _ _
    refine aw_seq ?_
    refine aw_block ?_
    refine aw_seq ?_
    refine aw_reg ?_
    have h7 := Row.ext hb hxl4
    have hi8 : 0 ≤ ((i : Int) : Int) := by omega
    have hi9 : ((i : Int) : Int) < ((b.length : Nat) : Int) := by first | omega | (simp only [List.length_append, List.length_cons, List.length_nil, List.length_map, List.length_set, List.length_replicate, Spec.bytesOf_length]; omega) | (simp; omega)
    obtain ⟨x10, hx11⟩ : ∃ e, b[i]? = some e := ⟨_, List.getElem?_eq_getElem (by first | omega | (simp only [List.length_append, List.length_cons, List.length_nil, List.length_map, List.length_set, List.length_replicate, Spec.bytesOf_length]; omega) | (simp; omega))⟩
    have x10b : 0 ≤ x10 ∧ x10 < 256 := ((by first | assumption | exact Spec.Bytes.nil | exact Spec.bytes_of _ | (repeat' first | assumption | exact Spec.Bytes.nil | exact Spec.bytes_of _ | exact Spec.enc_bytes _ | exact Spec.four_bytes _ | exact Spec.sealF_bytes (by assumption) | apply Spec.Bytes.append | apply Spec.Bytes.cons (by omega) | apply Spec.Bytes.take | apply Spec.Bytes.drop)) : Spec.Bytes b) _ (List.mem_of_getElem? hx11)
    refine st_op (ev_at rfl rfl h7 (getMap u8c hx11) (by first | rfl | omega | simp) hi8 hi9 el30) rfl rfl rfl ?_
    refine st_op (ev_atL rfl h7 (getMap u8c hx11) one5 rfl) rfl rfl rfl ?_
    refine st_op (ev_assign rfl) rfl rfl rfl ?_
    try show aw _ _ _ _ _ _
    refine aw_seq ?_
    refine aw_reg ?_
    refine st_op (ev_move rfl) rfl rfl rfl ?_
    refine st_op (ev_move rfl) rfl rfl rfl ?_
    refine st_op (ev_convI Try.underlying5 Try.underlying87 rfl (wrU32 (by omega) (by omega))) rfl rfl rfl ?_
    have hw12 : 0 ≤ (Go.bits .xor .u32 x x10) ∧ (Go.bits .xor .u32 x x10) ≤ 4294967295 := bitsU32 _ _ _
    refine st_op (ev_bits rfl rfl rfl) rfl rfl rfl ?_
    refine st_op (ev_assign rfl) rfl rfl rfl ?_
    try show aw _ _ _ _ _ _
    refine aw_seq ?_
    refine aw_reg ?_
    refine st_op (ev_move rfl) rfl rfl rfl ?_
    try show aw _ _ _ _ _ _
    refine aw_block ?_
    refine aw_keep [5, 10, 11, 12, 20] (l' := (.cons 5 (.int .u32 (Go.bits .xor .u32 x x10)) (.cons 10 (.slice bA b.length bc) (.cons 11 (.int .i64 (b.length : Int)) (.cons 12 (.int .i64 (i : Int)) (.cons 20 (.int .i64 0) .nil)))))) (by repeat (first | exact Up.done | refine Up.then ?_ | refine Up.inBlock ?_)) rfl ?_
    refine aw_iter (α := Nat × Int × Heap) (fun a => 8 - a.1) (fun a => (.cons 5 (.int .u32 a.2.1) (.cons 10 (.slice bA b.length bc) (.cons 11 (.int .i64 (b.length : Int)) (.cons 12 (.int .i64 (i : Int)) (.cons 20 (.int .i64 (a.1 : Int)) .nil)))))) (fun a => a.2.2) (fun a => (a.1 ≤ 8) ∧ (Spec.crcSteps 8 (Go.bits .xor .u32 x x10).toNat = Spec.crcSteps (8 - a.1) a.2.1.toNat) ∧ (0 ≤ a.2.1 ∧ a.2.1 ≤ 4294967295) ∧ (Ext Hl2 a.2.2)) (0, (Go.bits .xor .u32 x x10), Hl2) ⟨(show 0 ≤ 8 from (by decide)), (show Spec.crcSteps 8 (Go.bits .xor .u32 x x10).toNat = Spec.crcSteps (8 - 0) (Go.bits .xor .u32 x x10).toNat from rfl), (show 0 ≤ (Go.bits .xor .u32 x x10) ∧ (Go.bits .xor .u32 x x10) ≤ 4294967295 from ⟨by omega, by omega⟩), (show Ext Hl2 Hl2 from (Ext.refl Hl2))⟩ ?_
    rintro ⟨j, y, Hl13⟩ ⟨hj, hy, hn14, hxl15⟩ ih16
    replace hj : j ≤ 8 := hj
    replace hy : Spec.crcSteps 8 (Go.bits .xor .u32 x x10).toNat = Spec.crcSteps (8 - j) y.toNat := hy
    replace hn14 : 0 ≤ y ∧ y ≤ 4294967295 := hn14
    replace hxl15 : Ext Hl2 Hl13 := hxl15
    show aw _ _ _ (RL _ (.cons 5 (.int .u32 y) (.cons 10 (.slice bA b.length bc) (.cons 11 (.int .i64 (b.length : Int)) (.cons 12 (.int .i64 (i : Int)) (.cons 20 (.int .i64 (j : Int)) .nil)))))) Hl13 _
    have Hl13n : Hl2.next ≤ Hl13.next := hxl15.1
    have hn : 0 ≤ y ∧ y ≤ 4294967295 := by omega
    refine aw_seq ?_
    refine aw_reg ?_
    refine st_op (ev_int rfl rfl rfl) rfl rfl rfl ?_
    try show aw _ _ _ _ _ _
    refine aw_seq ?_
    by_cases hc17 : (decide ((j : Int) < 8)) = true
    · refine aw_condT hc17 rfl ?_
      try show aw _ _ _ _ _ _
      have hc17 := of_decide_eq_true hc17
      refine aw_skip ?_
      try show aw _ _ _ _ _ _
      refine aw_seq ?_
      refine aw_block ?_
      refine aw_reg ?_
      refine st_op (ev_move rfl) rfl rfl rfl ?_
      refine st_op (ev_shr (a := y) (c := 2) rfl rfl (by decide) (by decide)) rfl rfl rfl ?_
      refine st_op (ev_move rfl) rfl rfl rfl ?_
      have hw18 : 0 ≤ (Go.bits .and .u32 y 1) ∧ (Go.bits .and .u32 y 1) ≤ 4294967295 := bitsU32 _ _ _
      refine st_op (ev_bits rfl rfl rfl) rfl rfl rfl ?_
      have hw19 : 0 ≤ (IntKind.u32.wrap (0 - (Go.bits .and .u32 y 1))) ∧ (IntKind.u32.wrap (0 - (Go.bits .and .u32 y 1))) ≤ 4294967295 := wrapU32 _
      refine st_op (ev_neg rfl) rfl rfl rfl ?_
      have hw20 : 0 ≤ (Go.bits .and .u32 3988292384 (IntKind.u32.wrap (0 - (Go.bits .and .u32 y 1)))) ∧ (Go.bits .and .u32 3988292384 (IntKind.u32.wrap (0 - (Go.bits .and .u32 y 1)))) ≤ 4294967295 := bitsU32 _ _ _
      refine st_op (ev_bits rfl rfl rfl) rfl rfl rfl ?_
      have hw21 : 0 ≤ (Go.bits .xor .u32 (y / 2) (Go.bits .and .u32 3988292384 (IntKind.u32.wrap (0 - (Go.bits .and .u32 y 1))))) ∧ (Go.bits .xor .u32 (y / 2) (Go.bits .and .u32 3988292384 (IntKind.u32.wrap (0 - (Go.bits .and .u32 y 1))))) ≤ 4294967295 := bitsU32 _ _ _
      refine st_op (ev_bits rfl rfl rfl) rfl rfl rfl ?_
      refine st_op (ev_assign rfl) rfl rfl rfl ?_
      try show aw _ _ _ _ _ _
      refine aw_reg ?_
      refine st_op (ev_int64 (c := (j : Int) + 1) rfl rfl rfl (by omega) (by omega)) rfl rfl rfl ?_
      refine st_op (ev_move rfl) rfl rfl rfl ?_
      try show aw _ _ _ _ _ _
      refine aw_keep [5, 10, 11, 12, 20] (l' := (.cons 5 (.int .u32 (Go.bits .xor .u32 (y / 2) (Go.bits .and .u32 3988292384 (IntKind.u32.wrap (0 - (Go.bits .and .u32 y 1)))))) (.cons 10 (.slice bA b.length bc) (.cons 11 (.int .i64 (b.length : Int)) (.cons 12 (.int .i64 (i : Int)) (.cons 20 (.int .i64 ((j : Int) + 1)) .nil)))))) (by repeat (first | exact Up.done | refine Up.then ?_ | refine Up.inBlock ?_)) rfl ?_
      exact ih16 (j + 1, (Go.bits .xor .u32 (y / 2) (Go.bits .and .u32 3988292384 (IntKind.u32.wrap (0 - (Go.bits .and .u32 y 1))))), Hl13) ⟨(show (j + 1) ≤ 8 from (by omega)), (show Spec.crcSteps 8 (Go.bits .xor .u32 x x10).toNat = Spec.crcSteps (8 - (j + 1)) (Go.bits .xor .u32 (y / 2) (Go.bits .and .u32 3988292384 (IntKind.u32.wrap (0 - (Go.bits .and .u32 y 1))))).toNat from (by rw [hy, show 8 - j = (8 - (j + 1)) + 1 by omega]; show Spec.crcSteps (8 - (j + 1)) (Spec.crcStep y.toNat) = _; congr 1; rw [Spec.crc_one hn]; rfl)), (show 0 ≤ (Go.bits .xor .u32 (y / 2) (Go.bits .and .u32 3988292384 (IntKind.u32.wrap (0 - (Go.bits .and .u32 y 1))))) ∧ (Go.bits .xor .u32 (y / 2) (Go.bits .and .u32 3988292384 (IntKind.u32.wrap (0 - (Go.bits .and .u32 y 1))))) ≤ 4294967295 from ⟨by omega, by omega⟩), (show Ext Hl2 Hl13 from hxl15)⟩ (by simp only; omega)
    · rw [Bool.not_eq_true] at hc17; refine aw_condF hc17 rfl ?_
      try show aw _ _ _ _ _ _
      have hc17 := of_decide_eq_false hc17
      refine aw_exit ?_
      try show aw _ _ _ _ _ _
      refine aw_reg ?_
      refine st_op (ev_int64 (c := (i : Int) + 1) rfl rfl rfl (by omega) (by omega)) rfl rfl rfl ?_
      refine st_op (ev_move rfl) rfl rfl rfl ?_
      try show aw _ _ _ _ _ _
      have hx22 : Ext H Hl13 := (Ext.trans hxl4 hxl15)
      refine aw_keep [5, 10, 11, 12] (l' := (.cons 5 (.int .u32 y) (.cons 10 (.slice bA b.length bc) (.cons 11 (.int .i64 (b.length : Int)) (.cons 12 (.int .i64 ((i : Int) + 1)) .nil))))) (by repeat (first | exact Up.done | refine Up.then ?_ | refine Up.inBlock ?_)) rfl ?_
      exact ih5 (i + 1, y, Hl13) ⟨(show (i + 1) ≤ b.length from (by omega)), (show Spec.crcRun (4294967295 - s.toNat) b = Spec.crcRun y.toNat (b.drop (i + 1)) from (by rw [hx, drop_at hx11, Spec.crc_more (by omega) x10b, hy, show 8 - j = 0 by omega]; rfl)), (show 0 ≤ y ∧ y ≤ 4294967295 from ⟨by omega, by omega⟩), (show Ext H Hl13 from hx22)⟩ (by simp only; omega)
  · rw [Bool.not_eq_true] at hc6; refine aw_condF hc6 rfl ?_
    try show aw _ _ _ _ _ _
    have hc6 := of_decide_eq_false hc6
    refine aw_exit ?_
    try show aw _ _ _ _ _ _
    refine aw_seq ?_
    refine aw_reg ?_
    refine st_op (ev_move rfl) rfl rfl rfl ?_
    have hw23 : 0 ≤ (Go.bits .xor .u32 (IntKind.max .u32) x) ∧ (Go.bits .xor .u32 (IntKind.max .u32) x) ≤ 4294967295 := bitsU32 _ _ _
    refine st_op (ev_comU rfl rfl) rfl rfl rfl ?_
    refine st_op (ev_assign rfl) rfl rfl rfl ?_
    try show aw _ _ _ _ _ _
    refine aw_ret ?_
    have hres : ((Spec.crcMore s.toNat b : Nat) : Int) = (Go.bits .xor .u32 (IntKind.max .u32) x) := by exact Spec.crc_fin hs (by omega) (by rw [hx, List.drop_eq_nil_of_le (by omega)]; rfl)
    exact ⟨.int .u32 (Go.bits .xor .u32 (IntKind.max .u32) x), rfl, by rw [hres], (by exact ⟨by omega, by have := Spec.crcMore_lt s.toNat b; omega⟩), hxl4⟩
theorem crc_Sum_spec (H : Heap) (bA : Option Addr) (b : List Int) (bc : Nat) (hb : Row H bA bc 1 (b.map u8c)) (cb : b.length ≤ bc) (lb : b.length ≤ 1099511627776) (bb : Spec.Bytes b) : ∃ v H', Spec Try.prog 47 [.slice bA b.length bc] H v H' ∧ ((v = .int .u32 ((Spec.crcMore 0 b : Nat) : Int)) ∧ (0 ≤ ((Spec.crcMore 0 b : Nat) : Int) ∧ ((Spec.crcMore 0 b : Nat) : Int) ≤ 4294967295) ∧ (Ext H H')) := by
  refine spec_go1 E0_ok 5 (f := 47) Try.func47 rfl rfl rfl ?_
  refine aw_seq ?_
  refine aw_reg ?_
  refine st_op (ev_assign rfl) rfl rfl rfl ?_
  try show aw _ _ _ _ _ _
  refine aw_seq ?_
  refine aw_reg ?_
  refine st_op (ev_move rfl) rfl rfl rfl ?_
  refine st_call rfl rfl rfl ent46 rfl rfl rfl ?_
  obtain ⟨_, H2, hs1, hs1v, hq4, hx3⟩ := crc_More_spec H 0 (by decide) bA b bc hb cb (by first | omega | (simp only [List.length_append, List.length_cons, List.length_nil, List.length_map, List.length_set, List.length_replicate, Spec.bytesOf_length]; omega) | (simp; omega)) (by first | assumption | exact Spec.Bytes.nil | exact Spec.bytes_of _ | (repeat' first | assumption | exact Spec.Bytes.nil | exact Spec.bytes_of _ | exact Spec.enc_bytes _ | exact Spec.four_bytes _ | exact Spec.sealF_bytes (by assumption) | apply Spec.Bytes.append | apply Spec.Bytes.cons (by omega) | apply Spec.Bytes.take | apply Spec.Bytes.drop))
  rw [hs1v] at hs1; clear hs1v
  refine ⟨_, H2, hs1, ?_⟩
  have H2n : H.next ≤ H2.next := hx3.1
  refine st_op (ev_assign rfl) rfl rfl rfl ?_
  try show aw _ _ _ _ _ _
  refine aw_ret ?_
  have hres : ((Spec.crcMore 0 b : Nat) : Int) = ((Spec.crcMore (0 : Int).toNat b : Nat) : Int) := by rfl
  exact ⟨.int .u32 ((Spec.crcMore (0 : Int).toNat b : Nat) : Int), rfl, by rw [hres], (by exact ⟨by omega, by have := Spec.crcMore_lt 0 b; omega⟩), hx3⟩
theorem num_Four_spec (H : Heap) (s : Int) (hs : 0 ≤ s ∧ s ≤ 4294967295) : ∃ v H', Spec Try.prog 48 [.int .u32 s] H v H' ∧ (∃ rA0 rc0, (v = .slice rA0 ((Spec.four s.toNat).length) rc0) ∧ (My H H' rA0 rc0 1 ((Spec.four s.toNat).map u8c)) ∧ (((Spec.four s.toNat)).length = 4) ∧ (Ext H H')) := by
  refine spec_go1 E0_ok 15 (f := 48) Try.func48 rfl rfl rfl ?_
  refine aw_seq ?_
  refine aw_reg ?_
  refine st_op (ev_assign rfl) rfl rfl rfl ?_
  try show aw _ _ _ _ _ _
  refine aw_seq ?_
  refine aw_reg ?_
  refine st_op (ev_move rfl) rfl rfl rfl ?_
  refine st_op (ev_shr (a := s) (c := 16777216) rfl rfl (by decide) (by decide)) rfl rfl rfl ?_
  refine st_op (ev_convI Try.underlying87 Try.underlying5 rfl (wrU8 (by omega) (by omega))) rfl rfl rfl ?_
  refine st_op (ev_move rfl) rfl rfl rfl ?_
  refine st_op (ev_shr (a := s) (c := 65536) rfl rfl (by decide) (by decide)) rfl rfl rfl ?_
  have hw1 : 0 ≤ (IntKind.u8.wrap (s / 65536)) ∧ (IntKind.u8.wrap (s / 65536)) ≤ 255 := wrapU8 _
  refine st_op (ev_convInt Try.underlying87 Try.underlying5 rfl) rfl rfl rfl ?_
  refine st_op (ev_move rfl) rfl rfl rfl ?_
  refine st_op (ev_shr (a := s) (c := 256) rfl rfl (by decide) (by decide)) rfl rfl rfl ?_
  have hw2 : 0 ≤ (IntKind.u8.wrap (s / 256)) ∧ (IntKind.u8.wrap (s / 256)) ≤ 255 := wrapU8 _
  refine st_op (ev_convInt Try.underlying87 Try.underlying5 rfl) rfl rfl rfl ?_
  refine st_op (ev_move rfl) rfl rfl rfl ?_
  have hw3 : 0 ≤ (IntKind.u8.wrap s) ∧ (IntKind.u8.wrap s) ≤ 255 := wrapU8 _
  refine st_op (ev_convInt Try.underlying87 Try.underlying5 rfl) rfl rfl rfl ?_
  obtain ⟨b4, H5, he6, b4e, H5n_, hm8, f7⟩ := mem_lit H (xs := [.int .u8 (s / 16777216), .int .u8 (IntKind.u8.wrap (s / 65536)), .int .u8 (IntKind.u8.wrap (s / 256)), .int .u8 (IntKind.u8.wrap s)]) (m := 4) (rows := [[.int .u8 (s / 16777216)], [.int .u8 (IntKind.u8.wrap (s / 65536))], [.int .u8 (IntKind.u8.wrap (s / 256))], [.int .u8 (IntKind.u8.wrap s)]]) rfl eok30 (by decide) (by decide) zf5 rfl (allLen rfl) rfl
  replace hm8 : My H H5 (some ⟨b4, 0, none⟩) 4 1 ([(s / 16777216), (IntKind.u8.wrap (s / 65536)), (IntKind.u8.wrap (s / 256)), (IntKind.u8.wrap s)].map u8c) := hm8
  refine st_op (he6 _ _ _ _ _ _ _ _ rfl) rfl rfl rfl ?_
  have hx9 : Ext H H5 := Ext.new (by omega) H5n_ f7
  have H5n : H.next ≤ H5.next := hx9.1
  refine st_op (ev_assign rfl) rfl rfl rfl ?_
  try show aw _ _ _ _ _ _
  refine aw_ret ?_
  have hres : (Spec.four s.toNat) = [(s / 16777216), (IntKind.u8.wrap (s / 65536)), (IntKind.u8.wrap (s / 256)), (IntKind.u8.wrap s)] := by rw [← Spec.four_is, show ((s.toNat : Nat) : Int) = s from Int.toNat_of_nonneg hs.1, IntKind.wrap_u8, IntKind.wrap_u8, IntKind.wrap_u8, show s / 16777216 % 256 = s / 16777216 by omega]
  exact ⟨.slice (some ⟨b4, 0, none⟩) 4 4, rfl, (some ⟨b4, 0, none⟩), 4, by rw [hres]; first | done | rfl | simp, (by rw [hres]; exact hm8), (by rfl), hx9⟩
theorem frame_Seal_spec (H : Heap) (kind : Int) (hkind : -9223372036854775808 ≤ kind ∧ kind ≤ 9223372036854775807) (bA : Option Addr) (b : List Int) (bc : Nat) (hb : Row H bA bc 1 (b.map u8c)) (cb : b.length ≤ bc) (lb : b.length ≤ 1099511627776) (bb : Spec.Bytes b) : ∃ v H', Spec Try.prog 28 [.int .i64 kind, .slice bA b.length bc] H v H' ∧ (∃ rA0 rc0, (v = .slice rA0 ((Spec.sealF kind b).length) rc0) ∧ (My H H' rA0 rc0 1 ((Spec.sealF kind b).map u8c)) ∧ (((Spec.sealF kind b)).length ≤ 4007) ∧ (Spec.Bytes (Spec.sealF kind b)) ∧ (Ext H H')) := by
  refine spec_go2 E0_ok 34 (f := 28) Try.func28 rfl rfl rfl ?_
  refine aw_seq ?_
  refine aw_reg ?_
  refine st_op (ev_assign rfl) rfl rfl rfl ?_
  try show aw _ _ _ _ _ _
  refine aw_seq ?_
  refine aw_seq ?_
  refine aw_reg ?_
  refine st_op (ev_move rfl) rfl rfl rfl ?_
  refine st_op (ev_int rfl rfl rfl) rfl rfl rfl ?_
  refine st_op (ev_move rfl) rfl rfl rfl ?_
  refine st_bool 9 rfl (fun hb1 => ?_) (fun hb1 => ?_)
  ·
    have hb1 := of_decide_eq_true hb1
    refine st_skip rfl rfl rfl ?_
    refine st_skip rfl rfl rfl ?_
    refine st_op (ev_pickT rfl rfl) rfl rfl rfl ?_
    refine st_op (ev_move rfl) rfl rfl rfl ?_
    refine st_skip rfl rfl rfl ?_
    refine st_skip rfl rfl rfl ?_
    refine st_skip rfl rfl rfl ?_
    refine st_op (ev_pickT rfl rfl) rfl rfl rfl ?_
    try show aw _ _ _ _ _ _
    refine aw_cond (t := true) rfl ?_
    try show aw _ _ _ _ _ _
    refine aw_seq ?_
    refine aw_reg ?_
    refine st_op (ev_assign rfl) rfl rfl rfl ?_
    try show aw _ _ _ _ _ _
    refine aw_ret ?_
    have hm2 : My H H none 0 1 (([] : List Int).map u8c) := .nil
    have hres : (Spec.sealF kind b) = ([] : List Int) := by unfold Spec.sealF; rw [if_pos (by omega)]
    exact ⟨.slice none 0 0, rfl, none, 0, by rw [hres]; first | done | rfl | simp, (by rw [hres]; exact hm2), (by exact Spec.sealF_len), (by exact Spec.sealF_bytes bb), (Ext.refl H)⟩
  ·
    have hb1 := of_decide_eq_false hb1
    refine st_op (ev_move rfl) rfl rfl rfl ?_
    refine st_op (ev_int rfl rfl rfl) rfl rfl rfl ?_
    refine st_op (ev_pickF rfl rfl) rfl rfl rfl ?_
    refine st_op (ev_move rfl) rfl rfl rfl ?_
    refine st_bool 13 rfl (fun hb3 => ?_) (fun hb3 => ?_)
    ·
      have hb3 := of_decide_eq_true hb3
      refine st_skip rfl rfl rfl ?_
      refine st_skip rfl rfl rfl ?_
      refine st_skip rfl rfl rfl ?_
      refine st_op (ev_pickT rfl rfl) rfl rfl rfl ?_
      try show aw _ _ _ _ _ _
      refine aw_cond (t := true) rfl ?_
      try show aw _ _ _ _ _ _
      refine aw_seq ?_
      refine aw_reg ?_
      refine st_op (ev_assign rfl) rfl rfl rfl ?_
      try show aw _ _ _ _ _ _
      refine aw_ret ?_
      have hm4 : My H H none 0 1 (([] : List Int).map u8c) := .nil
      have hres : (Spec.sealF kind b) = ([] : List Int) := by unfold Spec.sealF; rw [if_pos (by omega)]
      exact ⟨.slice none 0 0, rfl, none, 0, by rw [hres]; first | done | rfl | simp, (by rw [hres]; exact hm4), (by exact Spec.sealF_len), (by exact Spec.sealF_bytes bb), (Ext.refl H)⟩
    ·
      have hb3 := of_decide_eq_false hb3
      refine st_op (ev_move rfl) rfl rfl rfl ?_
      refine st_op (ev_lenSl rfl Try.underlying30) rfl rfl rfl ?_
      refine st_op (ev_int rfl rfl rfl) rfl rfl rfl ?_
      refine st_op (ev_pickF rfl rfl) rfl rfl rfl ?_
      try show aw _ _ _ _ _ _
      by_cases hc5 : (decide ((b.length : Int) > 4000)) = true
      · refine aw_condT hc5 rfl ?_
        try show aw _ _ _ _ _ _
        have hc5 := of_decide_eq_true hc5
        refine aw_seq ?_
        refine aw_reg ?_
        refine st_op (ev_assign rfl) rfl rfl rfl ?_
        try show aw _ _ _ _ _ _
        refine aw_ret ?_
        have hm6 : My H H none 0 1 (([] : List Int).map u8c) := .nil
        have hres : (Spec.sealF kind b) = ([] : List Int) := by unfold Spec.sealF; rw [if_pos (by omega)]
        exact ⟨.slice none 0 0, rfl, none, 0, by rw [hres]; first | done | rfl | simp, (by rw [hres]; exact hm6), (by exact Spec.sealF_len), (by exact Spec.sealF_bytes bb), (Ext.refl H)⟩
      · rw [Bool.not_eq_true] at hc5; refine aw_condF hc5 rfl ?_
        try show aw _ _ _ _ _ _
        have hc5 := of_decide_eq_false hc5
        refine aw_skip ?_
        try show aw _ _ _ _ _ _
        refine aw_seq ?_
        refine aw_reg ?_
        refine st_op (ev_move rfl) rfl rfl rfl ?_
        refine st_op (ev_convI Try.underlying3 Try.underlying5 rfl (wrU8 (by omega) (by omega))) rfl rfl rfl ?_
        obtain ⟨b7, H8, he9, b7e, H8n_, hm11, f10⟩ := mem_lit H (xs := [.int .u8 kind]) (m := 1) (rows := [[.int .u8 kind]]) rfl eok30 (by decide) (by decide) zf5 rfl (allLen rfl) rfl
        replace hm11 : My H H8 (some ⟨b7, 0, none⟩) 1 1 ([kind].map u8c) := hm11
        refine st_op (he9 _ _ _ _ _ _ _ _ rfl) rfl rfl rfl ?_
        have hx12 : Ext H H8 := Ext.new (by omega) H8n_ f10
        have H8n : H.next ≤ H8.next := hx12.1
        refine st_op (ev_move rfl) rfl rfl rfl ?_
        refine st_op (ev_lenSl rfl Try.underlying30) rfl rfl rfl ?_
        refine st_call rfl rfl rfl ent29 rfl rfl rfl ?_
        obtain ⟨_, H14, hs13, A16, c17, hs13v, hm18, hq19, hx15⟩ := num_Put_spec H8 H (some ⟨b7, 0, none⟩) ([kind]) 1 hm11 (by omega) (by first | omega | (simp only [List.length_append, List.length_cons, List.length_nil, List.length_map, List.length_set, List.length_replicate, Spec.bytesOf_length]; omega) | (simp; omega)) (b.length : Int) ⟨by omega, by omega⟩
        rw [hs13v] at hs13; clear hs13v
        refine ⟨_, H14, hs13, ?_⟩
        have H14n : H8.next ≤ H14.next := hx15.1
        refine st_op (ev_assign rfl) rfl rfl rfl ?_
        try show aw _ _ _ _ _ _
        refine aw_seq ?_
        refine aw_reg ?_
        refine st_op (ev_move rfl) rfl rfl rfl ?_
        refine st_call rfl rfl rfl ent47 rfl rfl rfl ?_
        obtain ⟨_, H21, hs20, hs20v, hq23, hx22⟩ := crc_Sum_spec H14 A16 (([kind]) ++ Spec.enc (Spec.zig (b.length : Int))) c17 (My.row hm18) (My.capF hm18 (by first | omega | (simp only [List.length_append, List.length_cons, List.length_nil, List.length_map, List.length_set, List.length_replicate, Spec.bytesOf_length]; omega) | (simp; omega))) (by first | omega | (simp only [List.length_append, List.length_cons, List.length_nil, List.length_map, List.length_set, List.length_replicate, Spec.bytesOf_length]; omega) | (simp; omega)) (by first | assumption | exact Spec.Bytes.nil | exact Spec.bytes_of _ | (repeat' first | assumption | exact Spec.Bytes.nil | exact Spec.bytes_of _ | exact Spec.enc_bytes _ | exact Spec.four_bytes _ | exact Spec.sealF_bytes (by assumption) | apply Spec.Bytes.append | apply Spec.Bytes.cons (by omega) | apply Spec.Bytes.take | apply Spec.Bytes.drop))
        rw [hs20v] at hs20; clear hs20v
        refine ⟨_, H21, hs20, ?_⟩
        have H21n : H14.next ≤ H21.next := hx22.1
        refine st_op (ev_move rfl) rfl rfl rfl ?_
        refine st_call rfl rfl rfl ent46 rfl rfl rfl ?_
        have hx25 : Ext H H21 := (Ext.trans (Ext.then hx12 hx15 (fun q hq (e : (H.next ≤ q ∧ q < H8.next)) => by omega)) hx22)
        have h24 := Row.ext hb hx25
        obtain ⟨_, H27, hs26, hs26v, hq29, hx28⟩ := crc_More_spec H21 ((Spec.crcMore 0 (([kind]) ++ Spec.enc (Spec.zig (b.length : Int))) : Nat) : Int) ⟨by omega, by omega⟩ bA b bc h24 cb (by first | omega | (simp only [List.length_append, List.length_cons, List.length_nil, List.length_map, List.length_set, List.length_replicate, Spec.bytesOf_length]; omega) | (simp; omega)) (by first | assumption | exact Spec.Bytes.nil | exact Spec.bytes_of _ | (repeat' first | assumption | exact Spec.Bytes.nil | exact Spec.bytes_of _ | exact Spec.enc_bytes _ | exact Spec.four_bytes _ | exact Spec.sealF_bytes (by assumption) | apply Spec.Bytes.append | apply Spec.Bytes.cons (by omega) | apply Spec.Bytes.take | apply Spec.Bytes.drop))
        rw [hs26v] at hs26; clear hs26v
        refine ⟨_, H27, hs26, ?_⟩
        have H27n : H21.next ≤ H27.next := hx28.1
        refine st_op (ev_assign rfl) rfl rfl rfl ?_
        try show aw _ _ _ _ _ _
        refine aw_seq ?_
        refine aw_reg ?_
        refine st_op (ev_move rfl) rfl rfl rfl ?_
        refine st_op (ev_move rfl) rfl rfl rfl ?_
        refine st_call rfl rfl rfl ent48 rfl rfl rfl ?_
        obtain ⟨_, H31, hs30, A33, c34, hs30v, hm35, hq36, hx32⟩ := num_Four_spec H27 ((Spec.crcMore ((Spec.crcMore 0 (([kind]) ++ Spec.enc (Spec.zig (b.length : Int))) : Nat) : Int).toNat b : Nat) : Int) ⟨by omega, by omega⟩
        rw [hs30v] at hs30; clear hs30v
        refine ⟨_, H31, hs30, ?_⟩
        have H31n : H27.next ≤ H31.next := hx32.1
        have hx38 : Ext H14 H31 := (Ext.trans (Ext.trans hx22 hx28) hx32)
        have h37 := My.ext hm18 hx38
        obtain ⟨A39, c40, H41, W42, he43, hm44, hf45⟩ := mem_append (f := u8c) (old := (([kind]) ++ Spec.enc (Spec.zig (b.length : Int)))) (new := (Spec.four ((Spec.crcMore ((Spec.crcMore 0 (([kind]) ++ Spec.enc (Spec.zig (b.length : Int))) : Nat) : Int).toNat b : Nat) : Int).toNat)) (m := (([kind]) ++ Spec.enc (Spec.zig (b.length : Int))).length) (mx := (Spec.four ((Spec.crcMore ((Spec.crcMore 0 (([kind]) ++ Spec.enc (Spec.zig (b.length : Int))) : Nat) : Int).toNat b : Nat) : Int).toNat).length) (c := c17) (by first | rfl | simp) (by first | rfl | simp) eok30 (by decide) hm18 h37 (by omega) (((My.row hm35)).srcF (by decide) (by first | rfl | simp)) rfl u8c_len u8c_one (by first | omega | (simp only [List.length_append, List.length_cons, List.length_nil, List.length_map, List.length_set, List.length_replicate, Spec.bytesOf_length]; omega) | (simp; omega)) (by first | omega | (simp only [List.length_append, List.length_cons, List.length_nil, List.length_map, List.length_set, List.length_replicate, Spec.bytesOf_length]; omega) | (simp; omega))
        refine st_op (he43 _ _ _ _ _ _ _ _ _ _ rfl rfl isrow30) rfl rfl rfl ?_
        have H41n : H31.next ≤ H41.next := hf45.1
        refine st_op (ev_move rfl) rfl rfl rfl ?_
        have hx47 : Ext H H41 := (Ext.then (Ext.trans (Ext.trans hx25 hx28) hx32) hf45 (fun q hq (e : (H.next ≤ q ∧ q < H14.next)) => by omega))
        have h46 := Row.ext hb hx47
        obtain ⟨A48, c49, H50, W51, he52, hm53, hf54⟩ := mem_append (f := u8c) (old := ((([kind]) ++ Spec.enc (Spec.zig (b.length : Int))) ++ (Spec.four ((Spec.crcMore ((Spec.crcMore 0 (([kind]) ++ Spec.enc (Spec.zig (b.length : Int))) : Nat) : Int).toNat b : Nat) : Int).toNat))) (new := b) (m := ((([kind]) ++ Spec.enc (Spec.zig (b.length : Int))) ++ (Spec.four ((Spec.crcMore ((Spec.crcMore 0 (([kind]) ++ Spec.enc (Spec.zig (b.length : Int))) : Nat) : Int).toNat b : Nat) : Int).toNat)).length) (mx := b.length) (c := c40) (by first | rfl | simp) (by first | rfl | simp) eok30 (by decide) hm44 hm44 (by omega) ((h46).srcF (by decide) (by first | rfl | simp)) rfl u8c_len u8c_one (by first | omega | (simp only [List.length_append, List.length_cons, List.length_nil, List.length_map, List.length_set, List.length_replicate, Spec.bytesOf_length]; omega) | (simp; omega)) (by first | omega | (simp only [List.length_append, List.length_cons, List.length_nil, List.length_map, List.length_set, List.length_replicate, Spec.bytesOf_length]; omega) | (simp; omega))
        refine st_op (he52 _ _ _ _ _ _ _ _ _ _ rfl rfl isrow30) rfl rfl rfl ?_
        have H50n : H41.next ≤ H50.next := hf54.1
        refine st_op (ev_assign rfl) rfl rfl rfl ?_
        try show aw _ _ _ _ _ _
        refine aw_ret ?_
        have hx55 : Ext H H50 := (Ext.then hx47 hf54 (fun q hq (e : (H.next ≤ q ∧ q < H41.next)) => by omega))
        have hres : (Spec.sealF kind b) = (((([kind]) ++ Spec.enc (Spec.zig (b.length : Int))) ++ (Spec.four ((Spec.crcMore ((Spec.crcMore 0 (([kind]) ++ Spec.enc (Spec.zig (b.length : Int))) : Nat) : Int).toNat b : Nat) : Int).toNat)) ++ b) := by unfold Spec.sealF; rw [if_neg (by omega)]; exact (Spec.seal_is (by omega)).symm
        exact ⟨.slice A48 ((((([kind]) ++ Spec.enc (Spec.zig (b.length : Int))) ++ (Spec.four ((Spec.crcMore ((Spec.crcMore 0 (([kind]) ++ Spec.enc (Spec.zig (b.length : Int))) : Nat) : Int).toNat b : Nat) : Int).toNat)) ++ b).length) c49, rfl, A48, c49, by rw [hres]; first | done | rfl | simp, (by rw [hres]; exact hm53), (by exact Spec.sealF_len), (by exact Spec.sealF_bytes bb), hx55⟩
theorem wal_PutSnap_spec (H : Heap) (s_index : Int) (s_term : Int) (s_conf : ByteArray) (s_data : ByteArray) : ∃ v H', Spec Try.prog 24 [.agg #[.int .i64 s_index, .int .i64 s_term, .string s_conf, .string s_data]] H v H' ∧ (∃ rA0 rc0, (v = .slice rA0 ((Spec.snapF s_index s_term s_conf s_data).length) rc0) ∧ (My H H' rA0 rc0 1 ((Spec.snapF s_index s_term s_conf s_data).map u8c)) ∧ (Spec.Bytes (Spec.snapF s_index s_term s_conf s_data)) ∧ (((Spec.snapF s_index s_term s_conf s_data)).length ≤ 1700000) ∧ (rA0 = none ↔ Spec.mayS s_index s_term s_conf s_data = false) ∧ (Ext H H')) := by
  refine spec_go1 E0_ok 43 (f := 24) Try.func24 rfl rfl rfl ?_
  refine aw_seq ?_
  refine aw_reg ?_
  obtain ⟨b1, H2, he3, b1e, H2n_, hB5, f4⟩ := mem_box (P := Try.prog) H (v := .agg #[.int .i64 s_index, .int .i64 s_term, .string s_conf, .string s_data]) (cs := [.int .i64 s_index, .int .i64 s_term, .string s_conf, .string s_data]) rfl rfl
  refine st_op (he3 _ _ _ _ _ _ _ _ _ rfl) rfl rfl rfl ?_
  have hx6 : Ext H H2 := Ext.new (by omega) H2n_ f4
  have H2n : H.next ≤ H2.next := hx6.1
  refine st_op (ev_assign rfl) rfl rfl rfl ?_
  try show aw _ _ _ _ _ _
  refine aw_seq ?_
  refine aw_seq ?_
  refine aw_reg ?_
  refine st_op (ev_load rfl (lvar_part (l := [.int .i64 s_index, .int .i64 s_term, .string s_conf, .string s_data]) many56 hB5 rfl rfl (by decide))) rfl rfl rfl ?_
  refine st_call rfl rfl rfl ent45 rfl rfl rfl ?_
  obtain ⟨_, H8, hs7, hs7v, hx9⟩ := wal_may_spec H2 s_index s_term s_conf s_data
  rw [hs7v] at hs7; clear hs7v
  refine ⟨_, H8, hs7, ?_⟩
  have H8n : H2.next ≤ H8.next := hx9.1
  refine st_op (ev_not rfl) rfl rfl rfl ?_
  try show aw _ _ _ _ _ _
  by_cases hc10 : (!(Spec.mayS s_index s_term s_conf s_data)) = true
  · refine aw_condT hc10 rfl ?_
    try show aw _ _ _ _ _ _
    replace hc10 : (Spec.mayS s_index s_term s_conf s_data) = false := by rw [Bool.not_eq_true'] at hc10; exact hc10
    refine aw_seq ?_
    refine aw_reg ?_
    refine st_op (ev_assign rfl) rfl rfl rfl ?_
    try show aw _ _ _ _ _ _
    refine aw_ret ?_
    have hm11 : My H8 H8 none 0 1 (([] : List Int).map u8c) := .nil
    have hx12 : Ext H H8 := (Ext.trans hx6 hx9)
    have hres : (Spec.snapF s_index s_term s_conf s_data) = ([] : List Int) := by unfold Spec.snapF; rw [if_neg (by simp_all)]
    exact ⟨.slice none 0 0, rfl, none, 0, by rw [hres]; first | done | rfl | simp, (by rw [hres]; exact (My.older hm11 (by omega))), (by exact Spec.snapF_bytes _ _ _ _), (by exact Spec.snapF_len _ _ _ _), (by exact ⟨fun _ => by simp_all, fun _ => rfl⟩), hx12⟩
  · rw [Bool.not_eq_true] at hc10; refine aw_condF hc10 rfl ?_
    try show aw _ _ _ _ _ _
    replace hc10 : (Spec.mayS s_index s_term s_conf s_data) = true := by rw [Bool.not_eq_false'] at hc10; exact hc10
    have hc10m := Spec.mayS_says hc10
    refine aw_skip ?_
    try show aw _ _ _ _ _ _
    refine aw_seq ?_
    refine aw_marks (fun b => b < H8.next) [(false, false), (false, false), (false, true), (false, false), (true, false), (false, true), (false, false), (true, false), (false, false), (false, false)] mixed (by kernel_rfl) (by kernel_rfl) ?_
    refine sm_op (ev_fieldAddr rfl fa56_0 (o' := 0) rfl) rfl rfl rfl ?_
    have h13 := Ext.blk hx9 (by omega) hB5
    refine sm_op (ev_load rfl (lvar_one one2 h13 rfl)) rfl rfl rfl ?_
    refine sm_call rfl rfl rfl ent29 rfl rfl rfl ?_
    have hm14 : My H8 H8 none 0 1 (([] : List Int).map u8c) := .nil
    obtain ⟨_, H16, hs15, A18, c19, hs15v, hm20, hq21, hx17⟩ := num_Put_spec H8 H8 none ([] : List Int) 0 hm14 (by omega) (by first | omega | (simp only [List.length_append, List.length_cons, List.length_nil, List.length_map, List.length_set, List.length_replicate, Spec.bytesOf_length]; omega) | (simp; omega)) s_index ⟨by omega, by omega⟩
    rw [hs15v] at hs15; clear hs15v
    refine ⟨_, H16, hs15, (fun _ b hb => hx17.2 b (by omega) (fun (e : (H8.next ≤ b ∧ b < H8.next)) => by omega)), ?_⟩
    have H16n : H8.next ≤ H16.next := hx17.1
    refine sm_op (ev_fieldAddr rfl fa56_1 (o' := 1) rfl) rfl rfl rfl ?_
    have hx23 : Ext H8 H16 := (Ext.then (Ext.refl H8) hx17 (fun q hq (e : (H8.next ≤ q ∧ q < H8.next)) => by omega))
    have h22 := Ext.blk hx23 (by omega) h13
    refine sm_read (ev_load rfl (lvar_one one2 h22 rfl)) rfl rfl rfl (fun b hb => by cases hb; dsimp only; omega) ?_
    refine sm_call rfl rfl rfl ent29 rfl rfl rfl ?_
    obtain ⟨_, H25, hs24, A27, c28, hs24v, hm29, hq30, hx26⟩ := num_Put_spec H16 H8 A18 (([] : List Int) ++ Spec.enc (Spec.zig s_index)) c19 hm20 (by omega) (by first | omega | (simp only [List.length_append, List.length_cons, List.length_nil, List.length_map, List.length_set, List.length_replicate, Spec.bytesOf_length]; omega) | (simp; omega)) s_term ⟨by omega, by omega⟩
    rw [hs24v] at hs24; clear hs24v
    refine ⟨_, H25, hs24, (fun _ b hb => hx26.2 b (by omega) (fun (e : (H8.next ≤ b ∧ b < H16.next)) => by omega)), ?_⟩
    have H25n : H16.next ≤ H25.next := hx26.1
    refine sm_op (ev_fieldAddr rfl fa56_2 (o' := 2) rfl) rfl rfl rfl ?_
    have hx32 : Ext H8 H25 := (Ext.then hx23 hx26 (fun q hq (e : (H8.next ≤ q ∧ q < H16.next)) => by omega))
    have h31 := Ext.blk hx32 (by omega) h13
    refine sm_read (ev_load rfl (lvar_one one9 h31 rfl)) rfl rfl rfl (fun b hb => by cases hb; dsimp only; omega) ?_
    refine sm_call rfl rfl rfl ent30 rfl rfl rfl ?_
    obtain ⟨_, H34, hs33, A36, c37, hs33v, hm38, hq39, hx35⟩ := num_PutText_spec H25 H8 A27 ((([] : List Int) ++ Spec.enc (Spec.zig s_index)) ++ Spec.enc (Spec.zig s_term)) c28 hm29 (by omega) (by first | omega | (simp only [List.length_append, List.length_cons, List.length_nil, List.length_map, List.length_set, List.length_replicate, Spec.bytesOf_length]; omega) | (simp; omega)) s_conf (by omega)
    rw [hs33v] at hs33; clear hs33v
    refine ⟨_, H34, hs33, (fun _ b hb => hx35.2 b (by omega) (fun (e : (H8.next ≤ b ∧ b < H25.next)) => by omega)), ?_⟩
    have H34n : H25.next ≤ H34.next := hx35.1
    refine sm_op (ev_assign rfl) rfl rfl rfl ?_
    try show aw _ _ _ _ _ _
    refine aw_seq ?_
    refine aw_reg ?_
    refine st_op (ev_move rfl) rfl rfl rfl ?_
    refine st_op (ev_fieldAddr rfl fa56_3 (o' := 3) rfl) rfl rfl rfl ?_
    have hx41 : Ext H8 H34 := (Ext.then hx32 hx35 (fun q hq (e : (H8.next ≤ q ∧ q < H25.next)) => by omega))
    have h40 := Ext.blk hx41 (by omega) h13
    refine st_op (ev_load rfl (lvar_one one9 h40 rfl)) rfl rfl rfl ?_
    refine st_op (ev_lenStr rfl Try.underlying9) rfl rfl rfl ?_
    refine st_call rfl rfl rfl ent29 rfl rfl rfl ?_
    obtain ⟨_, H43, hs42, A45, c46, hs42v, hm47, hq48, hx44⟩ := num_Put_spec H34 H8 A36 (((([] : List Int) ++ Spec.enc (Spec.zig s_index)) ++ Spec.enc (Spec.zig s_term)) ++ Spec.enc (Spec.zig (s_conf.size : Int)) ++ Spec.bytesOf s_conf) c37 hm38 (by omega) (by first | omega | (simp only [List.length_append, List.length_cons, List.length_nil, List.length_map, List.length_set, List.length_replicate, Spec.bytesOf_length]; omega) | (simp; omega)) ((s_data).size : Int) ⟨by omega, by omega⟩
    rw [hs42v] at hs42; clear hs42v
    refine ⟨_, H43, hs42, ?_⟩
    have H43n : H34.next ≤ H43.next := hx44.1
    refine st_call rfl rfl rfl ent28 rfl rfl rfl ?_
    obtain ⟨_, H50, hs49, A52, c53, hs49v, hm54, hq55, hq56, hx51⟩ := frame_Seal_spec H43 3 (by decide) A45 ((((([] : List Int) ++ Spec.enc (Spec.zig s_index)) ++ Spec.enc (Spec.zig s_term)) ++ Spec.enc (Spec.zig (s_conf.size : Int)) ++ Spec.bytesOf s_conf) ++ Spec.enc (Spec.zig ((s_data).size : Int))) c46 (My.row hm47) (My.capF hm47 (by first | omega | (simp only [List.length_append, List.length_cons, List.length_nil, List.length_map, List.length_set, List.length_replicate, Spec.bytesOf_length]; omega) | (simp; omega))) (by first | omega | (simp only [List.length_append, List.length_cons, List.length_nil, List.length_map, List.length_set, List.length_replicate, Spec.bytesOf_length]; omega) | (simp; omega)) (by first | assumption | exact Spec.Bytes.nil | exact Spec.bytes_of _ | (repeat' first | assumption | exact Spec.Bytes.nil | exact Spec.bytes_of _ | exact Spec.enc_bytes _ | exact Spec.four_bytes _ | exact Spec.sealF_bytes (by assumption) | apply Spec.Bytes.append | apply Spec.Bytes.cons (by omega) | apply Spec.Bytes.take | apply Spec.Bytes.drop))
    rw [hs49v] at hs49; clear hs49v
    refine ⟨_, H50, hs49, ?_⟩
    have H50n : H43.next ≤ H50.next := hx51.1
    refine st_op (ev_assign rfl) rfl rfl rfl ?_
    try show aw _ _ _ _ _ _
    refine aw_seq ?_
    refine aw_seq ?_
    refine aw_reg ?_
    refine st_op (ev_fieldAddr rfl fa56_3 (o' := 3) rfl) rfl rfl rfl ?_
    have hx58 : Ext H8 H50 := (Ext.trans (Ext.then hx41 hx44 (fun q hq (e : (H8.next ≤ q ∧ q < H34.next)) => by omega)) hx51)
    have h57 := Ext.blk hx58 (by omega) h13
    refine st_op (ev_load rfl (lvar_one one9 h57 rfl)) rfl rfl rfl ?_
    refine st_op (ev_assign rfl) rfl rfl rfl ?_
    try show aw _ _ _ _ _ _
    refine aw_block ?_
    refine aw_keep [4, 5] (l' := (.cons 4 (.slice A52 ((Spec.sealF (3 : Int) ((((([] : List Int) ++ Spec.enc (Spec.zig s_index)) ++ Spec.enc (Spec.zig s_term)) ++ Spec.enc (Spec.zig (s_conf.size : Int)) ++ Spec.bytesOf s_conf) ++ Spec.enc (Spec.zig ((s_data).size : Int)))).length) c53) (.cons 5 (.string s_data) .nil))) (by repeat (first | exact Up.done | refine Up.then ?_ | refine Up.inBlock ?_)) rfl ?_
    refine aw_iter (α := ByteArray × Option Addr × Nat × List Int × Heap) (fun a => a.1.size) (fun a => (.cons 4 (.slice a.2.1 a.2.2.2.1.length a.2.2.1) (.cons 5 (.string a.1) .nil))) (fun a => a.2.2.2.2) (fun a => ((Spec.sealF (3 : Int) ((((([] : List Int) ++ Spec.enc (Spec.zig s_index)) ++ Spec.enc (Spec.zig s_term)) ++ Spec.enc (Spec.zig (s_conf.size : Int)) ++ Spec.bytesOf s_conf) ++ Spec.enc (Spec.zig ((s_data).size : Int)))) ++ Spec.partsF (Spec.bytesOf s_data) = a.2.2.2.1 ++ Spec.partsF (Spec.bytesOf a.1)) ∧ (a.1.size ≤ 200000) ∧ (a.2.2.2.1.length + 10000 * a.1.size ≤ 4100000000) ∧ (My H43 a.2.2.2.2 a.2.1 a.2.2.1 1 (a.2.2.2.1.map u8c)) ∧ (Fr (fun q => (H43.next ≤ q ∧ q < H50.next)) H50 a.2.2.2.2)) (s_data, A52, c53, (Spec.sealF (3 : Int) ((((([] : List Int) ++ Spec.enc (Spec.zig s_index)) ++ Spec.enc (Spec.zig s_term)) ++ Spec.enc (Spec.zig (s_conf.size : Int)) ++ Spec.bytesOf s_conf) ++ Spec.enc (Spec.zig ((s_data).size : Int)))), H50) ⟨(show (Spec.sealF (3 : Int) ((((([] : List Int) ++ Spec.enc (Spec.zig s_index)) ++ Spec.enc (Spec.zig s_term)) ++ Spec.enc (Spec.zig (s_conf.size : Int)) ++ Spec.bytesOf s_conf) ++ Spec.enc (Spec.zig ((s_data).size : Int)))) ++ Spec.partsF (Spec.bytesOf s_data) = (Spec.sealF (3 : Int) ((((([] : List Int) ++ Spec.enc (Spec.zig s_index)) ++ Spec.enc (Spec.zig s_term)) ++ Spec.enc (Spec.zig (s_conf.size : Int)) ++ Spec.bytesOf s_conf) ++ Spec.enc (Spec.zig ((s_data).size : Int)))) ++ Spec.partsF (Spec.bytesOf s_data) from rfl), (show s_data.size ≤ 200000 from (by omega)), (show (Spec.sealF (3 : Int) ((((([] : List Int) ++ Spec.enc (Spec.zig s_index)) ++ Spec.enc (Spec.zig s_term)) ++ Spec.enc (Spec.zig (s_conf.size : Int)) ++ Spec.bytesOf s_conf) ++ Spec.enc (Spec.zig ((s_data).size : Int)))).length + 10000 * s_data.size ≤ 4100000000 from (by have : (Spec.sealF (3 : Int) ((((([] : List Int) ++ Spec.enc (Spec.zig s_index)) ++ Spec.enc (Spec.zig s_term)) ++ Spec.enc (Spec.zig (s_conf.size : Int)) ++ Spec.bytesOf s_conf) ++ Spec.enc (Spec.zig ((s_data).size : Int)))).length ≤ 4007 := Spec.sealF_len; omega)), (show My H43 H50 A52 c53 1 ((Spec.sealF (3 : Int) ((((([] : List Int) ++ Spec.enc (Spec.zig s_index)) ++ Spec.enc (Spec.zig s_term)) ++ Spec.enc (Spec.zig (s_conf.size : Int)) ++ Spec.bytesOf s_conf) ++ Spec.enc (Spec.zig ((s_data).size : Int)))).map u8c) from hm54), (show Fr (fun q => (H43.next ≤ q ∧ q < H50.next)) H50 H50 from (Fr.refl _ H50))⟩ ?_
    rintro ⟨rest, A, cp, out, Hl59⟩ ⟨hS, hsz, hL, hm60, hxl61⟩ ih62
    replace hS : (Spec.sealF (3 : Int) ((((([] : List Int) ++ Spec.enc (Spec.zig s_index)) ++ Spec.enc (Spec.zig s_term)) ++ Spec.enc (Spec.zig (s_conf.size : Int)) ++ Spec.bytesOf s_conf) ++ Spec.enc (Spec.zig ((s_data).size : Int)))) ++ Spec.partsF (Spec.bytesOf s_data) = out ++ Spec.partsF (Spec.bytesOf rest) := hS
    replace hsz : rest.size ≤ 200000 := hsz
    replace hL : out.length + 10000 * rest.size ≤ 4100000000 := hL
    replace hm60 : My H43 Hl59 A cp 1 (out.map u8c) := hm60
    replace hxl61 : Fr (fun q => (H43.next ≤ q ∧ q < H50.next)) H50 Hl59 := hxl61
    show aw _ _ _ (RL _ (.cons 4 (.slice A out.length cp) (.cons 5 (.string rest) .nil))) Hl59 _
    have Hl59n : H50.next ≤ Hl59.next := hxl61.1
    refine aw_seq ?_
    refine aw_seq ?_
    refine aw_reg ?_
    refine st_op (ev_move rfl) rfl rfl rfl ?_
    refine st_op (ev_str rfl rfl rfl) rfl rfl rfl ?_
    try show aw _ _ _ _ _ _
    by_cases hc63 : (!((rest).toList == (⟨#[]⟩ : ByteArray).toList)) = true
    · refine aw_condT hc63 rfl ?_
      try show aw _ _ _ _ _ _
      replace hc63 : ((rest).toList == (⟨#[]⟩ : ByteArray).toList) = false := by rw [Bool.not_eq_true'] at hc63; exact hc63
      have hc63 := ne_of_beq_false hc63
      refine aw_skip ?_
      try show aw _ _ _ _ _ _
      refine aw_block ?_
      refine aw_seq ?_
      refine aw_reg ?_
      refine st_op (ev_move rfl) rfl rfl rfl ?_
      refine st_op (ev_lenStr rfl Try.underlying9) rfl rfl rfl ?_
      obtain ⟨z64, hz65, hz66⟩ : ∃ z, (if 3000 < ((rest).size : Int) then 3000 else ((rest).size : Int)) = z ∧ (((rest).size : Int) ≥ z ∧ 3000 ≥ z ∧ (z = ((rest).size : Int) ∨ z = 3000)) := ⟨_, rfl, by split <;> omega⟩
      refine st_op (ev_minE hz65 rfl rfl) rfl rfl rfl ?_
      have hP := Spec.parts_next (s := rest) (z := z64) (by assumption) hz65.symm
      refine st_op (ev_assign rfl) rfl rfl rfl ?_
      try show aw _ _ _ _ _ _
      refine aw_seq ?_
      refine aw_reg ?_
      refine st_op (ev_move rfl) rfl rfl rfl ?_
      refine st_op (ev_move rfl) rfl rfl rfl ?_
      refine st_op (ev_move rfl) rfl rfl rfl ?_
      refine st_op (ev_slStr Try.underlying9 rfl rfl rfl (bound_int (by omega) (by omega) rfl) rfl) rfl rfl rfl ?_
      obtain ⟨A67, c68, H69, he70, hm71, hx72⟩ := mem_bytes Hl59 ((rest).extract 0 ((z64).toNat)) slu8_30 isstr_9 (by omega)
      refine st_op (he70 _ _ _ _ _ _ _ _ rfl) rfl rfl rfl ?_
      have H69n : Hl59.next ≤ H69.next := hx72.1
      refine st_call rfl rfl rfl ent28 rfl rfl rfl ?_
      obtain ⟨_, H74, hs73, A76, c77, hs73v, hm78, hq79, hq80, hx75⟩ := frame_Seal_spec H69 4 (by decide) A67 (Spec.bytesOf ((rest).extract 0 ((z64).toNat))) c68 (My.row hm71) (My.capF hm71 (by first | omega | (simp only [List.length_append, List.length_cons, List.length_nil, List.length_map, List.length_set, List.length_replicate, Spec.bytesOf_length]; omega) | (simp; omega))) (by first | omega | (simp only [List.length_append, List.length_cons, List.length_nil, List.length_map, List.length_set, List.length_replicate, Spec.bytesOf_length]; omega) | (simp; omega)) (by first | assumption | exact Spec.Bytes.nil | exact Spec.bytes_of _ | (repeat' first | assumption | exact Spec.Bytes.nil | exact Spec.bytes_of _ | exact Spec.enc_bytes _ | exact Spec.four_bytes _ | exact Spec.sealF_bytes (by assumption) | apply Spec.Bytes.append | apply Spec.Bytes.cons (by omega) | apply Spec.Bytes.take | apply Spec.Bytes.drop))
      rw [hs73v] at hs73; clear hs73v
      refine ⟨_, H74, hs73, ?_⟩
      have H74n : H69.next ≤ H74.next := hx75.1
      have hx82 : Ext Hl59 H74 := (Ext.trans hx72 hx75)
      have h81 := My.ext hm60 hx82
      obtain ⟨A83, c84, H85, W86, he87, hm88, hf89⟩ := mem_append (f := u8c) (old := out) (new := (Spec.sealF (4 : Int) (Spec.bytesOf ((rest).extract 0 ((z64).toNat))))) (m := out.length) (mx := (Spec.sealF (4 : Int) (Spec.bytesOf ((rest).extract 0 ((z64).toNat)))).length) (c := cp) (by first | rfl | simp) (by first | rfl | simp) eok30 (by decide) hm60 h81 (by omega) (((My.row hm78)).srcF (by decide) (by first | rfl | simp)) rfl u8c_len u8c_one (by first | omega | (simp only [List.length_append, List.length_cons, List.length_nil, List.length_map, List.length_set, List.length_replicate, Spec.bytesOf_length]; omega) | (simp; omega)) (by first | omega | (simp only [List.length_append, List.length_cons, List.length_nil, List.length_map, List.length_set, List.length_replicate, Spec.bytesOf_length]; omega) | (simp; omega))
      refine st_op (he87 _ _ _ _ _ _ _ _ _ _ rfl rfl isrow30) rfl rfl rfl ?_
      have H85n : H74.next ≤ H85.next := hf89.1
      refine st_op (ev_assign rfl) rfl rfl rfl ?_
      try show aw _ _ _ _ _ _
      refine aw_reg ?_
      refine st_op (ev_move rfl) rfl rfl rfl ?_
      refine st_op (ev_move rfl) rfl rfl rfl ?_
      refine st_op (ev_slStr Try.underlying9 rfl rfl rfl rfl (bound_int (by omega) (by omega) rfl)) rfl rfl rfl ?_
      refine st_op (ev_assign rfl) rfl rfl rfl ?_
      try show aw _ _ _ _ _ _
      refine aw_keep [4, 5] (l' := (.cons 4 (.slice A83 ((out ++ (Spec.sealF (4 : Int) (Spec.bytesOf ((rest).extract 0 ((z64).toNat))))).length) c84) (.cons 5 (.string ((rest).extract (z64).toNat ((rest).size))) .nil))) (by repeat (first | exact Up.done | refine Up.then ?_ | refine Up.inBlock ?_)) rfl ?_
      exact ih62 (((rest).extract (z64).toNat ((rest).size)), A83, c84, (out ++ (Spec.sealF (4 : Int) (Spec.bytesOf ((rest).extract 0 ((z64).toNat))))), H85) ⟨(show (Spec.sealF (3 : Int) ((((([] : List Int) ++ Spec.enc (Spec.zig s_index)) ++ Spec.enc (Spec.zig s_term)) ++ Spec.enc (Spec.zig (s_conf.size : Int)) ++ Spec.bytesOf s_conf) ++ Spec.enc (Spec.zig ((s_data).size : Int)))) ++ Spec.partsF (Spec.bytesOf s_data) = (out ++ (Spec.sealF (4 : Int) (Spec.bytesOf ((rest).extract 0 ((z64).toNat))))) ++ Spec.partsF (Spec.bytesOf ((rest).extract (z64).toNat ((rest).size))) from (by rw [hS, hP.2.1, List.append_assoc])), (show ((rest).extract (z64).toNat ((rest).size)).size ≤ 200000 from (by omega)), (show (out ++ (Spec.sealF (4 : Int) (Spec.bytesOf ((rest).extract 0 ((z64).toNat))))).length + 10000 * ((rest).extract (z64).toNat ((rest).size)).size ≤ 4100000000 from (by rw [List.length_append]; have := @Spec.sealF_len 4 (Spec.bytesOf (rest.extract 0 z64.toNat)); have := hP.2.2.2; omega)), (show My H43 H85 A83 c84 1 ((out ++ (Spec.sealF (4 : Int) (Spec.bytesOf ((rest).extract 0 ((z64).toNat))))).map u8c) from hm88), (show Fr (fun q => (H43.next ≤ q ∧ q < H50.next)) H50 H85 from (Fr.trans (Fr.trans (Fr.trans (Fr.trans (Fr.refl (fun q => (H43.next ≤ q ∧ q < H50.next)) H50) hxl61 (fun q hq (e : (H43.next ≤ q ∧ q < H50.next)) => show (H43.next ≤ q ∧ q < H50.next) from by omega)) (hx72.fr fun _ => False) (fun q hq (e : False) => e.elim)) (hx75.fr fun _ => False) (fun q hq (e : False) => e.elim)) hf89 (fun q hq (e : (H43.next ≤ q ∧ q < Hl59.next)) => show (H43.next ≤ q ∧ q < H50.next) from by omega)))⟩ (by simp only; omega)
    · rw [Bool.not_eq_true] at hc63; refine aw_condF hc63 rfl ?_
      try show aw _ _ _ _ _ _
      replace hc63 : ((rest).toList == (⟨#[]⟩ : ByteArray).toList) = true := by rw [Bool.not_eq_false'] at hc63; exact hc63
      have hc63 := eq_of_beq hc63
      refine aw_exit ?_
      try show aw _ _ _ _ _ _
      refine aw_seq ?_
      refine aw_reg ?_
      refine st_op (ev_move rfl) rfl rfl rfl ?_
      refine st_op (ev_assign rfl) rfl rfl rfl ?_
      try show aw _ _ _ _ _ _
      refine aw_ret ?_
      have hx90 : Ext H Hl59 := (Ext.then (Ext.trans (Ext.then (Ext.then (Ext.then (Ext.then (Ext.trans hx6 hx9) hx17 (fun q hq (e : (H8.next ≤ q ∧ q < H8.next)) => by omega)) hx26 (fun q hq (e : (H8.next ≤ q ∧ q < H16.next)) => by omega)) hx35 (fun q hq (e : (H8.next ≤ q ∧ q < H25.next)) => by omega)) hx44 (fun q hq (e : (H8.next ≤ q ∧ q < H34.next)) => by omega)) hx51) hxl61 (fun q hq (e : (H43.next ≤ q ∧ q < H50.next)) => by omega))
      have hres : (Spec.snapF s_index s_term s_conf s_data) = out := by rw [Spec.snap_head (by assumption)]; exact hS.trans (by rw [show rest = ⟨#[]⟩ from Spec.toList_inj (by assumption)]; simp [Spec.bytesOf, Spec.partsF_nil])
      exact ⟨.slice A out.length cp, rfl, A, cp, by rw [hres]; first | done | rfl | simp, (by rw [hres]; exact (My.older hm60 (by omega))), (by exact Spec.snapF_bytes _ _ _ _), (by exact Spec.snapF_len _ _ _ _), (by exact ⟨fun h => absurd h (My.neF hm60 (by have := Spec.snapF_pos hc10; rw [hres] at this; omega)), fun h => Bool.noConfusion (h.symm.trans hc10)⟩), hx90⟩
theorem law_WalEnds_spec (H : Heap) (index : Int) (hindex : -9223372036854775808 ≤ index ∧ index ≤ 9223372036854775807) (term : Int) (hterm : -9223372036854775808 ≤ term ∧ term ≤ 9223372036854775807) (vote : Int) (hvote : -9223372036854775808 ≤ vote ∧ vote ≤ 9223372036854775807) (size : Int) (hsize : -9223372036854775808 ≤ size ∧ size ≤ 9223372036854775807) : ∃ v H', Spec Try.prog 7 [.int .i64 index, .int .i64 term, .int .i64 vote, .int .i64 size] H v H' ∧ ((v = .bool true) ∧ (Ext H H')) := by
  refine spec_go4 E0_ok 83 (f := 7) Try.func7 rfl rfl rfl ?_
  refine aw_seq ?_
  refine aw_reg ?_
  refine st_op (ev_assign rfl) rfl rfl rfl ?_
  try show aw _ _ _ _ _ _
  refine aw_seq ?_
  refine aw_reg ?_
  refine st_call rfl rfl rfl ent9 rfl rfl rfl ?_
  obtain ⟨_, H2, hs1, hs1v, hx3⟩ := law18_begun_spec H 
  rw [hs1v] at hs1; clear hs1v
  rw [hx3] at hs1; clear hx3
  refine ⟨_, H, hs1, ?_⟩
  refine st_op (ev_assign rfl) rfl rfl rfl ?_
  try show aw _ _ _ _ _ _
  refine aw_seq ?_
  refine aw_seq ?_
  refine aw_reg ?_
  refine st_op (ev_move rfl) rfl rfl rfl ?_
  refine st_op (ev_not rfl) rfl rfl rfl ?_
  try show aw _ _ _ _ _ _
  refine aw_cond (t := false) rfl ?_
  try show aw _ _ _ _ _ _
  refine aw_skip ?_
  try show aw _ _ _ _ _ _
  refine aw_seq ?_
  refine aw_seq ?_
  refine aw_reg ?_
  refine st_op (ev_move rfl) rfl rfl rfl ?_
  refine st_op (ev_int rfl rfl rfl) rfl rfl rfl ?_
  refine st_op (ev_move rfl) rfl rfl rfl ?_
  refine st_bool 19 rfl (fun hb4 => ?_) (fun hb4 => ?_)
  ·
    have hb4 := of_decide_eq_true hb4
    refine st_skip rfl rfl rfl ?_
    refine st_skip rfl rfl rfl ?_
    refine st_op (ev_pickT rfl rfl) rfl rfl rfl ?_
    try show aw _ _ _ _ _ _
    refine aw_cond (t := true) rfl ?_
    try show aw _ _ _ _ _ _
    refine aw_seq ?_
    refine aw_reg ?_
    refine st_op (ev_assign rfl) rfl rfl rfl ?_
    try show aw _ _ _ _ _ _
    refine aw_ret ?_
    have hres : true = true := by rfl
    exact ⟨.bool true, rfl, by rw [hres], (Ext.refl H)⟩
  ·
    have hb4 := of_decide_eq_false hb4
    refine st_op (ev_move rfl) rfl rfl rfl ?_
    refine st_op (ev_int rfl rfl rfl) rfl rfl rfl ?_
    refine st_op (ev_pickF rfl rfl) rfl rfl rfl ?_
    try show aw _ _ _ _ _ _
    by_cases hc5 : (decide (size > 2600)) = true
    · refine aw_condT hc5 rfl ?_
      try show aw _ _ _ _ _ _
      have hc5 := of_decide_eq_true hc5
      refine aw_seq ?_
      refine aw_reg ?_
      refine st_op (ev_assign rfl) rfl rfl rfl ?_
      try show aw _ _ _ _ _ _
      refine aw_ret ?_
      have hres : true = true := by rfl
      exact ⟨.bool true, rfl, by rw [hres], (Ext.refl H)⟩
    · rw [Bool.not_eq_true] at hc5; refine aw_condF hc5 rfl ?_
      try show aw _ _ _ _ _ _
      have hc5 := of_decide_eq_false hc5
      refine aw_skip ?_
      try show aw _ _ _ _ _ _
      refine aw_seq ?_
      refine aw_reg ?_
      refine st_op (ev_move rfl) rfl rfl rfl ?_
      refine st_op (ev_move rfl) rfl rfl rfl ?_
      refine st_op (ev_move rfl) rfl rfl rfl ?_
      obtain ⟨A6, H7, he8, hm9, hx10⟩ := mem_make1 (k1 := .i64) (k2 := .i64) (n := size) (f := u8c) (e0 := 0) H eok30 zero5 rfl (by omega) (by omega) (by omega)
      refine st_op (he8 _ _ _ _ _ _ _ _ _ rfl rfl) rfl rfl rfl ?_
      have H7n : H.next ≤ H7.next := hx10.1
      refine st_op (ev_strOf (l := (List.replicate (size).toNat 0)) (A := A6) (c := (size).toNat) slu8_30 isstr_9 rfl (My.anil hm9) (My.row hm9)) rfl rfl rfl ?_
      refine st_op (ev_build zero25 pl25 (parts := [(0, .int .i64 index), (1, .int .i64 term), (2, .int .i64 2), (3, .string (strOfNums (List.replicate (size).toNat 0)))]) rfl (cs := [.int .i64 index, .int .i64 term, .int .i64 2, .string (strOfNums (List.replicate (size).toNat 0))]) rfl) rfl rfl rfl ?_
      refine st_op (ev_build zero32 pl32 (parts := [(2, .agg #[.int .i64 index, .int .i64 term, .int .i64 2, .string (strOfNums (List.replicate (size).toNat 0))])]) rfl (cs := [.bool false, .int .i64 0, .int .i64 0, .int .i64 index, .int .i64 term, .int .i64 2, .string (strOfNums (List.replicate (size).toNat 0))]) rfl) rfl rfl rfl ?_
      obtain ⟨b11, H12, he13, b11e, H12n_, hB15, f14⟩ := mem_alloc H7 zero32
      refine st_op (he13 _ _ _ _ _ _ _) rfl rfl rfl ?_
      have hx16 : Ext H7 H12 := Ext.new (by omega) H12n_ f14
      have H12n : H7.next ≤ H12.next := hx16.1
      obtain ⟨H17, he18, H17n_, hB19, f20⟩ := mem_store (v := .agg #[.bool false, .int .i64 0, .int .i64 0, .int .i64 index, .int .i64 term, .int .i64 2, .string (strOfNums (List.replicate (size).toNat 0))]) (o := 0) (cs' := [.bool false, .int .i64 0, .int .i64 0, .int .i64 index, .int .i64 term, .int .i64 2, .string (strOfNums (List.replicate (size).toNat 0))]) 7 rfl rfl size32 hB15 rfl rfl rfl
      refine st_op0 (he18 _ _ _ _ _ _ _ _ _ rfl rfl) rfl rfl ?_
      have hf21 : Fr (fun q => q = b11) H12 H17 := Fr.write H17n_ f20
      have H17n : H12.next ≤ H17.next := hf21.1
      try show aw _ _ _ _ _ _
      refine aw_seq ?_
      refine aw_reg ?_
      refine st_op (ev_move rfl) rfl rfl rfl ?_
      refine st_op (ev_move rfl) rfl rfl rfl ?_
      refine st_op (ev_build zero23 pl23 (parts := [(0, .int .i64 term), (1, .int .i64 vote)]) rfl (cs := [.int .i64 term, .int .i64 vote]) rfl) rfl rfl rfl ?_
      refine st_op (ev_build zero32 pl32 (parts := [(0, .bool true), (1, .agg #[.int .i64 term, .int .i64 vote])]) rfl (cs := [.bool true, .int .i64 term, .int .i64 vote, .int .i64 0, .int .i64 0, .int .i64 0, .string (⟨#[]⟩)]) rfl) rfl rfl rfl ?_
      obtain ⟨b22, H23, he24, b22e, H23n_, hB26, f25⟩ := mem_alloc H17 zero32
      refine st_op (he24 _ _ _ _ _ _ _) rfl rfl rfl ?_
      have hx27 : Ext H17 H23 := Ext.new (by omega) H23n_ f25
      have H23n : H17.next ≤ H23.next := hx27.1
      obtain ⟨H28, he29, H28n_, hB30, f31⟩ := mem_store (v := .agg #[.bool true, .int .i64 term, .int .i64 vote, .int .i64 0, .int .i64 0, .int .i64 0, .string (⟨#[]⟩)]) (o := 0) (cs' := [.bool true, .int .i64 term, .int .i64 vote, .int .i64 0, .int .i64 0, .int .i64 0, .string (⟨#[]⟩)]) 7 rfl rfl size32 hB26 rfl rfl rfl
      refine st_op0 (he29 _ _ _ _ _ _ _ _ _ rfl rfl) rfl rfl ?_
      have hf32 : Fr (fun q => q = b22) H23 H28 := Fr.write H28n_ f31
      have H28n : H23.next ≤ H28.next := hf32.1
      try show aw _ _ _ _ _ _
      refine aw_seq ?_
      refine aw_reg ?_
      refine st_op (ev_move rfl) rfl rfl rfl ?_
      refine st_op (ev_move rfl) rfl rfl rfl ?_
      refine st_op (ev_build zero56 pl56 (parts := [(0, .int .i64 index), (1, .int .i64 term)]) rfl (cs := [.int .i64 index, .int .i64 term, .string (⟨#[]⟩), .string (⟨#[]⟩)]) rfl) rfl rfl rfl ?_
      obtain ⟨b33, H34, he35, b33e, H34n_, hB37, f36⟩ := mem_alloc H28 zero56
      refine st_op (he35 _ _ _ _ _ _ _) rfl rfl rfl ?_
      have hx38 : Ext H28 H34 := Ext.new (by omega) H34n_ f36
      have H34n : H28.next ≤ H34.next := hx38.1
      obtain ⟨H39, he40, H39n_, hB41, f42⟩ := mem_store (v := .agg #[.int .i64 index, .int .i64 term, .string (⟨#[]⟩), .string (⟨#[]⟩)]) (o := 0) (cs' := [.int .i64 index, .int .i64 term, .string (⟨#[]⟩), .string (⟨#[]⟩)]) 4 rfl rfl size56 hB37 rfl rfl rfl
      refine st_op0 (he40 _ _ _ _ _ _ _ _ _ rfl rfl) rfl rfl ?_
      have hf43 : Fr (fun q => q = b33) H34 H39 := Fr.write H39n_ f42
      have H39n : H34.next ≤ H39.next := hf43.1
      try show aw _ _ _ _ _ _
      refine aw_seq ?_
      refine aw_reg ?_
      refine st_op (ev_assign rfl) rfl rfl rfl ?_
      try show aw _ _ _ _ _ _
      refine aw_seq ?_
      refine aw_reg ?_
      have hx45 : Ext H17 H39 := (Ext.then (Ext.trans (Ext.then hx27 hf32 (fun q hq (e : q = b22) => by omega)) hx38) hf43 (fun q hq (e : q = b33) => by omega))
      have h44 := Ext.blk hx45 (by omega) hB19
      refine st_op (ev_load rfl (lvar_part (l := [.bool false, .int .i64 0, .int .i64 0, .int .i64 index, .int .i64 term, .int .i64 2, .string (strOfNums (List.replicate (size).toNat 0))]) many32 h44 rfl rfl (by decide))) rfl rfl rfl ?_
      refine st_call rfl rfl rfl ent14 rfl rfl rfl ?_
      obtain ⟨_, H47, hs46, hs46v, hx48⟩ := wal_May_spec H39 false (0 : Int) (0 : Int) index term (2 : Int) (strOfNums (List.replicate (size).toNat 0))
      rw [hs46v] at hs46; clear hs46v
      refine ⟨_, H47, hs46, ?_⟩
      have H47n : H39.next ≤ H47.next := hx48.1
      refine st_op (ev_move rfl) rfl rfl rfl ?_
      refine st_op (ev_move rfl) rfl rfl rfl ?_
      refine st_callv rfl rfl rfl rfl rfl ent23 rfl rfl rfl ?_
      obtain ⟨_, H50, hs49, hs49v, hx51⟩ := law18_num_spec H47 index (1 : Int)
      rw [hs49v] at hs49; clear hs49v
      refine ⟨_, H50, hs49, ?_⟩
      have H50n : H47.next ≤ H50.next := hx51.1
      refine st_op (ev_move rfl) rfl rfl rfl ?_
      refine st_bool 42 rfl (fun hb52 => ?_) (fun hb52 => ?_)
      ·
        have hb52 := of_decide_eq_true hb52
        refine st_op (ev_move rfl) rfl rfl rfl ?_
        refine st_op (ev_move rfl) rfl rfl rfl ?_
        refine st_callv rfl rfl rfl rfl rfl ent23 rfl rfl rfl ?_
        obtain ⟨_, H54, hs53, hs53v, hx55⟩ := law18_num_spec H50 term (1 : Int)
        rw [hs53v] at hs53; clear hs53v
        refine ⟨_, H54, hs53, ?_⟩
        have H54n : H50.next ≤ H54.next := hx55.1
        refine st_op (ev_pickT rfl rfl) rfl rfl rfl ?_
        refine st_op (ev_move rfl) rfl rfl rfl ?_
        refine st_bool 47 rfl (fun hb56 => ?_) (fun hb56 => ?_)
        ·
          have hb56 := of_decide_eq_true hb56
          refine st_op (ev_move rfl) rfl rfl rfl ?_
          refine st_op (ev_int rfl rfl rfl) rfl rfl rfl ?_
          refine st_op (ev_pickT rfl rfl) rfl rfl rfl ?_
          refine st_op (ev_eqBool isbool4 rfl rfl) rfl rfl rfl ?_
          refine st_op (ev_move rfl) rfl rfl rfl ?_
          refine st_bool 52 rfl (fun hb57 => ?_) (fun hb57 => ?_)
          ·
            have hb57 := eq_of_beq hb57
            have hx59 : Ext H28 H54 := (Ext.trans (Ext.trans (Ext.trans (Ext.then hx38 hf43 (fun q hq (e : q = b33) => by omega)) hx48) hx51) hx55)
            have h58 := Ext.blk hx59 (by omega) hB30
            refine st_op (ev_load rfl (lvar_part (l := [.bool true, .int .i64 term, .int .i64 vote, .int .i64 0, .int .i64 0, .int .i64 0, .string (⟨#[]⟩)]) many32 h58 rfl rfl (by decide))) rfl rfl rfl ?_
            refine st_call rfl rfl rfl ent14 rfl rfl rfl ?_
            obtain ⟨_, H61, hs60, hs60v, hx62⟩ := wal_May_spec H54 true term vote (0 : Int) (0 : Int) (0 : Int) (⟨#[]⟩ : ByteArray)
            rw [hs60v] at hs60; clear hs60v
            refine ⟨_, H61, hs60, ?_⟩
            have H61n : H54.next ≤ H61.next := hx62.1
            refine st_op (ev_move rfl) rfl rfl rfl ?_
            refine st_op (ev_move rfl) rfl rfl rfl ?_
            refine st_callv rfl rfl rfl rfl rfl ent23 rfl rfl rfl ?_
            obtain ⟨_, H64, hs63, hs63v, hx65⟩ := law18_num_spec H61 term (0 : Int)
            rw [hs63v] at hs63; clear hs63v
            refine ⟨_, H64, hs63, ?_⟩
            have H64n : H61.next ≤ H64.next := hx65.1
            refine st_op (ev_move rfl) rfl rfl rfl ?_
            refine st_bool 58 rfl (fun hb66 => ?_) (fun hb66 => ?_)
            ·
              have hb66 := of_decide_eq_true hb66
              refine st_op (ev_move rfl) rfl rfl rfl ?_
              refine st_op (ev_int rfl rfl rfl) rfl rfl rfl ?_
              refine st_op (ev_pickT rfl rfl) rfl rfl rfl ?_
              refine st_op (ev_move rfl) rfl rfl rfl ?_
              refine st_bool 62 rfl (fun hb67 => ?_) (fun hb67 => ?_)
              ·
                have hb67 := of_decide_eq_true hb67
                refine st_op (ev_move rfl) rfl rfl rfl ?_
                refine st_op (ev_int rfl rfl rfl) rfl rfl rfl ?_
                refine st_op (ev_pickT rfl rfl) rfl rfl rfl ?_
                refine st_op (ev_eqBool isbool4 rfl rfl) rfl rfl rfl ?_
                refine st_op (ev_pickT rfl rfl) rfl rfl rfl ?_
                refine st_op (ev_move rfl) rfl rfl rfl ?_
                refine st_bool 68 rfl (fun hb68 => ?_) (fun hb68 => ?_)
                ·
                  have hb68 := eq_of_beq hb68
                  have hx70 : Ext H39 H64 := (Ext.trans (Ext.trans (Ext.trans (Ext.trans hx48 hx51) hx55) hx62) hx65)
                  have h69 := Ext.blk hx70 (by omega) hB41
                  refine st_op (ev_load rfl (lvar_part (l := [.int .i64 index, .int .i64 term, .string (⟨#[]⟩), .string (⟨#[]⟩)]) many56 h69 rfl rfl (by decide))) rfl rfl rfl ?_
                  refine st_call rfl rfl rfl ent24 rfl rfl rfl ?_
                  obtain ⟨_, H72, hs71, A74, c75, hs71v, hm76, hq77, hq78, hq79, hx73⟩ := wal_PutSnap_spec H64 index term (⟨#[]⟩ : ByteArray) (⟨#[]⟩ : ByteArray)
                  rw [hs71v] at hs71; clear hs71v
                  refine ⟨_, H72, hs71, ?_⟩
                  have H72n : H64.next ≤ H72.next := hx73.1
                  refine st_op (ev_lenSl rfl Try.underlying30) rfl rfl rfl ?_
                  refine st_op (ev_int rfl rfl rfl) rfl rfl rfl ?_
                  refine st_op (ev_move rfl) rfl rfl rfl ?_
                  refine st_op (ev_move rfl) rfl rfl rfl ?_
                  refine st_callv rfl rfl rfl rfl rfl ent23 rfl rfl rfl ?_
                  obtain ⟨_, H81, hs80, hs80v, hx82⟩ := law18_num_spec H72 index (0 : Int)
                  rw [hs80v] at hs80; clear hs80v
                  refine ⟨_, H81, hs80, ?_⟩
                  have H81n : H72.next ≤ H81.next := hx82.1
                  refine st_op (ev_move rfl) rfl rfl rfl ?_
                  refine st_bool 76 rfl (fun hb83 => ?_) (fun hb83 => ?_)
                  ·
                    have hb83 := of_decide_eq_true hb83
                    refine st_op (ev_move rfl) rfl rfl rfl ?_
                    refine st_op (ev_move rfl) rfl rfl rfl ?_
                    refine st_callv rfl rfl rfl rfl rfl ent23 rfl rfl rfl ?_
                    obtain ⟨_, H85, hs84, hs84v, hx86⟩ := law18_num_spec H81 term (0 : Int)
                    rw [hs84v] at hs84; clear hs84v
                    refine ⟨_, H85, hs84, ?_⟩
                    have H85n : H81.next ≤ H85.next := hx86.1
                    refine st_op (ev_pickT rfl rfl) rfl rfl rfl ?_
                    refine st_op (ev_eqBool isbool4 rfl rfl) rfl rfl rfl ?_
                    refine st_op (ev_pickT rfl rfl) rfl rfl rfl ?_
                    refine st_op (ev_assign rfl) rfl rfl rfl ?_
                    try show aw _ _ _ _ _ _
                    refine aw_ret ?_
                    have hx87 : Ext H H85 := (Ext.trans (Ext.trans (Ext.trans (Ext.trans (Ext.trans (Ext.trans (Ext.trans (Ext.trans (Ext.then (Ext.trans (Ext.then (Ext.trans (Ext.then (Ext.trans hx10 hx16) hf21 (fun q hq (e : q = b11) => by omega)) hx27) hf32 (fun q hq (e : q = b22) => by omega)) hx38) hf43 (fun q hq (e : q = b33) => by omega)) hx48) hx51) hx55) hx62) hx65) hx73) hx82) hx86)
                    have hres : true = ((decide (((Spec.snapF index term (⟨#[]⟩ : ByteArray) (⟨#[]⟩ : ByteArray)).length : Int) > 0)) == (decide ((0 : Int) ≤ term ∧ term ≤ 1099511627776))) := by symm; rw [beq_iff_eq]; have hz0 : (⟨#[]⟩ : ByteArray).size = 0 := rfl; rw [Spec.snapF_len_eq, Spec.mayS_eq]; first | exact decide_eq_true (by omega) | exact decide_eq_false (by omega) | exact decide_eq_decide.2 (by omega)
                    exact ⟨.bool ((decide (((Spec.snapF index term (⟨#[]⟩ : ByteArray) (⟨#[]⟩ : ByteArray)).length : Int) > 0)) == (decide ((0 : Int) ≤ term ∧ term ≤ 1099511627776))), rfl, by rw [hres], hx87⟩
                  ·
                    have hb83 := of_decide_eq_false hb83
                    refine st_skip rfl rfl rfl ?_
                    refine st_skip rfl rfl rfl ?_
                    refine st_skip rfl rfl rfl ?_
                    refine st_op (ev_pickF rfl rfl) rfl rfl rfl ?_
                    refine st_op (ev_eqBool isbool4 rfl rfl) rfl rfl rfl ?_
                    refine st_op (ev_pickT rfl rfl) rfl rfl rfl ?_
                    refine st_op (ev_assign rfl) rfl rfl rfl ?_
                    try show aw _ _ _ _ _ _
                    refine aw_ret ?_
                    have hx88 : Ext H H81 := (Ext.trans (Ext.trans (Ext.trans (Ext.trans (Ext.trans (Ext.trans (Ext.trans (Ext.then (Ext.trans (Ext.then (Ext.trans (Ext.then (Ext.trans hx10 hx16) hf21 (fun q hq (e : q = b11) => by omega)) hx27) hf32 (fun q hq (e : q = b22) => by omega)) hx38) hf43 (fun q hq (e : q = b33) => by omega)) hx48) hx51) hx55) hx62) hx65) hx73) hx82)
                    have hres : true = ((decide (((Spec.snapF index term (⟨#[]⟩ : ByteArray) (⟨#[]⟩ : ByteArray)).length : Int) > 0)) == false) := by symm; rw [beq_iff_eq]; have hz0 : (⟨#[]⟩ : ByteArray).size = 0 := rfl; rw [Spec.snapF_len_eq, Spec.mayS_eq]; first | exact decide_eq_true (by omega) | exact decide_eq_false (by omega) | exact decide_eq_decide.2 (by omega)
                    exact ⟨.bool ((decide (((Spec.snapF index term (⟨#[]⟩ : ByteArray) (⟨#[]⟩ : ByteArray)).length : Int) > 0)) == false), rfl, by rw [hres], hx88⟩
                ·
                  have hb68 := ne_of_beq_false hb68
                  exfalso; have hz0 : (⟨#[]⟩ : ByteArray).size = 0 := rfl; have hzs := strOfNums_size (List.replicate size.toNat 0); rw [List.length_replicate] at hzs; exact hb68 (by rw [Spec.mayH_eq]; first | exact decide_eq_true (by omega) | exact decide_eq_false (by omega) | exact decide_eq_decide.2 (by omega))
              ·
                have hb67 := of_decide_eq_false hb67
                refine st_skip rfl rfl rfl ?_
                refine st_skip rfl rfl rfl ?_
                refine st_op (ev_pickF rfl rfl) rfl rfl rfl ?_
                refine st_op (ev_eqBool isbool4 rfl rfl) rfl rfl rfl ?_
                refine st_op (ev_pickT rfl rfl) rfl rfl rfl ?_
                refine st_op (ev_move rfl) rfl rfl rfl ?_
                refine st_bool 68 rfl (fun hb89 => ?_) (fun hb89 => ?_)
                ·
                  have hb89 := eq_of_beq hb89
                  have hx91 : Ext H39 H64 := (Ext.trans (Ext.trans (Ext.trans (Ext.trans hx48 hx51) hx55) hx62) hx65)
                  have h90 := Ext.blk hx91 (by omega) hB41
                  refine st_op (ev_load rfl (lvar_part (l := [.int .i64 index, .int .i64 term, .string (⟨#[]⟩), .string (⟨#[]⟩)]) many56 h90 rfl rfl (by decide))) rfl rfl rfl ?_
                  refine st_call rfl rfl rfl ent24 rfl rfl rfl ?_
                  obtain ⟨_, H93, hs92, A95, c96, hs92v, hm97, hq98, hq99, hq100, hx94⟩ := wal_PutSnap_spec H64 index term (⟨#[]⟩ : ByteArray) (⟨#[]⟩ : ByteArray)
                  rw [hs92v] at hs92; clear hs92v
                  refine ⟨_, H93, hs92, ?_⟩
                  have H93n : H64.next ≤ H93.next := hx94.1
                  refine st_op (ev_lenSl rfl Try.underlying30) rfl rfl rfl ?_
                  refine st_op (ev_int rfl rfl rfl) rfl rfl rfl ?_
                  refine st_op (ev_move rfl) rfl rfl rfl ?_
                  refine st_op (ev_move rfl) rfl rfl rfl ?_
                  refine st_callv rfl rfl rfl rfl rfl ent23 rfl rfl rfl ?_
                  obtain ⟨_, H102, hs101, hs101v, hx103⟩ := law18_num_spec H93 index (0 : Int)
                  rw [hs101v] at hs101; clear hs101v
                  refine ⟨_, H102, hs101, ?_⟩
                  have H102n : H93.next ≤ H102.next := hx103.1
                  refine st_op (ev_move rfl) rfl rfl rfl ?_
                  refine st_bool 76 rfl (fun hb104 => ?_) (fun hb104 => ?_)
                  ·
                    have hb104 := of_decide_eq_true hb104
                    refine st_op (ev_move rfl) rfl rfl rfl ?_
                    refine st_op (ev_move rfl) rfl rfl rfl ?_
                    refine st_callv rfl rfl rfl rfl rfl ent23 rfl rfl rfl ?_
                    obtain ⟨_, H106, hs105, hs105v, hx107⟩ := law18_num_spec H102 term (0 : Int)
                    rw [hs105v] at hs105; clear hs105v
                    refine ⟨_, H106, hs105, ?_⟩
                    have H106n : H102.next ≤ H106.next := hx107.1
                    refine st_op (ev_pickT rfl rfl) rfl rfl rfl ?_
                    refine st_op (ev_eqBool isbool4 rfl rfl) rfl rfl rfl ?_
                    refine st_op (ev_pickT rfl rfl) rfl rfl rfl ?_
                    refine st_op (ev_assign rfl) rfl rfl rfl ?_
                    try show aw _ _ _ _ _ _
                    refine aw_ret ?_
                    have hx108 : Ext H H106 := (Ext.trans (Ext.trans (Ext.trans (Ext.trans (Ext.trans (Ext.trans (Ext.trans (Ext.trans (Ext.then (Ext.trans (Ext.then (Ext.trans (Ext.then (Ext.trans hx10 hx16) hf21 (fun q hq (e : q = b11) => by omega)) hx27) hf32 (fun q hq (e : q = b22) => by omega)) hx38) hf43 (fun q hq (e : q = b33) => by omega)) hx48) hx51) hx55) hx62) hx65) hx94) hx103) hx107)
                    have hres : true = ((decide (((Spec.snapF index term (⟨#[]⟩ : ByteArray) (⟨#[]⟩ : ByteArray)).length : Int) > 0)) == (decide ((0 : Int) ≤ term ∧ term ≤ 1099511627776))) := by symm; rw [beq_iff_eq]; have hz0 : (⟨#[]⟩ : ByteArray).size = 0 := rfl; rw [Spec.snapF_len_eq, Spec.mayS_eq]; first | exact decide_eq_true (by omega) | exact decide_eq_false (by omega) | exact decide_eq_decide.2 (by omega)
                    exact ⟨.bool ((decide (((Spec.snapF index term (⟨#[]⟩ : ByteArray) (⟨#[]⟩ : ByteArray)).length : Int) > 0)) == (decide ((0 : Int) ≤ term ∧ term ≤ 1099511627776))), rfl, by rw [hres], hx108⟩
                  ·
                    have hb104 := of_decide_eq_false hb104
                    refine st_skip rfl rfl rfl ?_
                    refine st_skip rfl rfl rfl ?_
                    refine st_skip rfl rfl rfl ?_
                    refine st_op (ev_pickF rfl rfl) rfl rfl rfl ?_
                    refine st_op (ev_eqBool isbool4 rfl rfl) rfl rfl rfl ?_
                    refine st_op (ev_pickT rfl rfl) rfl rfl rfl ?_
                    refine st_op (ev_assign rfl) rfl rfl rfl ?_
                    try show aw _ _ _ _ _ _
                    refine aw_ret ?_
                    have hx109 : Ext H H102 := (Ext.trans (Ext.trans (Ext.trans (Ext.trans (Ext.trans (Ext.trans (Ext.trans (Ext.then (Ext.trans (Ext.then (Ext.trans (Ext.then (Ext.trans hx10 hx16) hf21 (fun q hq (e : q = b11) => by omega)) hx27) hf32 (fun q hq (e : q = b22) => by omega)) hx38) hf43 (fun q hq (e : q = b33) => by omega)) hx48) hx51) hx55) hx62) hx65) hx94) hx103)
                    have hres : true = ((decide (((Spec.snapF index term (⟨#[]⟩ : ByteArray) (⟨#[]⟩ : ByteArray)).length : Int) > 0)) == false) := by symm; rw [beq_iff_eq]; have hz0 : (⟨#[]⟩ : ByteArray).size = 0 := rfl; rw [Spec.snapF_len_eq, Spec.mayS_eq]; first | exact decide_eq_true (by omega) | exact decide_eq_false (by omega) | exact decide_eq_decide.2 (by omega)
                    exact ⟨.bool ((decide (((Spec.snapF index term (⟨#[]⟩ : ByteArray) (⟨#[]⟩ : ByteArray)).length : Int) > 0)) == false), rfl, by rw [hres], hx109⟩
                ·
                  have hb89 := ne_of_beq_false hb89
                  exfalso; have hz0 : (⟨#[]⟩ : ByteArray).size = 0 := rfl; have hzs := strOfNums_size (List.replicate size.toNat 0); rw [List.length_replicate] at hzs; exact hb89 (by rw [Spec.mayH_eq]; first | exact decide_eq_true (by omega) | exact decide_eq_false (by omega) | exact decide_eq_decide.2 (by omega))
            ·
              have hb66 := of_decide_eq_false hb66
              refine st_skip rfl rfl rfl ?_
              refine st_skip rfl rfl rfl ?_
              refine st_op (ev_pickF rfl rfl) rfl rfl rfl ?_
              refine st_op (ev_move rfl) rfl rfl rfl ?_
              refine st_skip rfl rfl rfl ?_
              refine st_skip rfl rfl rfl ?_
              refine st_op (ev_pickF rfl rfl) rfl rfl rfl ?_
              refine st_op (ev_eqBool isbool4 rfl rfl) rfl rfl rfl ?_
              refine st_op (ev_pickT rfl rfl) rfl rfl rfl ?_
              refine st_op (ev_move rfl) rfl rfl rfl ?_
              refine st_bool 68 rfl (fun hb110 => ?_) (fun hb110 => ?_)
              ·
                have hb110 := eq_of_beq hb110
                have hx112 : Ext H39 H64 := (Ext.trans (Ext.trans (Ext.trans (Ext.trans hx48 hx51) hx55) hx62) hx65)
                have h111 := Ext.blk hx112 (by omega) hB41
                refine st_op (ev_load rfl (lvar_part (l := [.int .i64 index, .int .i64 term, .string (⟨#[]⟩), .string (⟨#[]⟩)]) many56 h111 rfl rfl (by decide))) rfl rfl rfl ?_
                refine st_call rfl rfl rfl ent24 rfl rfl rfl ?_
                obtain ⟨_, H114, hs113, A116, c117, hs113v, hm118, hq119, hq120, hq121, hx115⟩ := wal_PutSnap_spec H64 index term (⟨#[]⟩ : ByteArray) (⟨#[]⟩ : ByteArray)
                rw [hs113v] at hs113; clear hs113v
                refine ⟨_, H114, hs113, ?_⟩
                have H114n : H64.next ≤ H114.next := hx115.1
                refine st_op (ev_lenSl rfl Try.underlying30) rfl rfl rfl ?_
                refine st_op (ev_int rfl rfl rfl) rfl rfl rfl ?_
                refine st_op (ev_move rfl) rfl rfl rfl ?_
                refine st_op (ev_move rfl) rfl rfl rfl ?_
                refine st_callv rfl rfl rfl rfl rfl ent23 rfl rfl rfl ?_
                obtain ⟨_, H123, hs122, hs122v, hx124⟩ := law18_num_spec H114 index (0 : Int)
                rw [hs122v] at hs122; clear hs122v
                refine ⟨_, H123, hs122, ?_⟩
                have H123n : H114.next ≤ H123.next := hx124.1
                refine st_op (ev_move rfl) rfl rfl rfl ?_
                refine st_bool 76 rfl (fun hb125 => ?_) (fun hb125 => ?_)
                ·
                  have hb125 := of_decide_eq_true hb125
                  refine st_op (ev_move rfl) rfl rfl rfl ?_
                  refine st_op (ev_move rfl) rfl rfl rfl ?_
                  refine st_callv rfl rfl rfl rfl rfl ent23 rfl rfl rfl ?_
                  obtain ⟨_, H127, hs126, hs126v, hx128⟩ := law18_num_spec H123 term (0 : Int)
                  rw [hs126v] at hs126; clear hs126v
                  refine ⟨_, H127, hs126, ?_⟩
                  have H127n : H123.next ≤ H127.next := hx128.1
                  refine st_op (ev_pickT rfl rfl) rfl rfl rfl ?_
                  refine st_op (ev_eqBool isbool4 rfl rfl) rfl rfl rfl ?_
                  refine st_op (ev_pickT rfl rfl) rfl rfl rfl ?_
                  refine st_op (ev_assign rfl) rfl rfl rfl ?_
                  try show aw _ _ _ _ _ _
                  refine aw_ret ?_
                  have hx129 : Ext H H127 := (Ext.trans (Ext.trans (Ext.trans (Ext.trans (Ext.trans (Ext.trans (Ext.trans (Ext.trans (Ext.then (Ext.trans (Ext.then (Ext.trans (Ext.then (Ext.trans hx10 hx16) hf21 (fun q hq (e : q = b11) => by omega)) hx27) hf32 (fun q hq (e : q = b22) => by omega)) hx38) hf43 (fun q hq (e : q = b33) => by omega)) hx48) hx51) hx55) hx62) hx65) hx115) hx124) hx128)
                  have hres : true = ((decide (((Spec.snapF index term (⟨#[]⟩ : ByteArray) (⟨#[]⟩ : ByteArray)).length : Int) > 0)) == (decide ((0 : Int) ≤ term ∧ term ≤ 1099511627776))) := by symm; rw [beq_iff_eq]; have hz0 : (⟨#[]⟩ : ByteArray).size = 0 := rfl; rw [Spec.snapF_len_eq, Spec.mayS_eq]; first | exact decide_eq_true (by omega) | exact decide_eq_false (by omega) | exact decide_eq_decide.2 (by omega)
                  exact ⟨.bool ((decide (((Spec.snapF index term (⟨#[]⟩ : ByteArray) (⟨#[]⟩ : ByteArray)).length : Int) > 0)) == (decide ((0 : Int) ≤ term ∧ term ≤ 1099511627776))), rfl, by rw [hres], hx129⟩
                ·
                  have hb125 := of_decide_eq_false hb125
                  refine st_skip rfl rfl rfl ?_
                  refine st_skip rfl rfl rfl ?_
                  refine st_skip rfl rfl rfl ?_
                  refine st_op (ev_pickF rfl rfl) rfl rfl rfl ?_
                  refine st_op (ev_eqBool isbool4 rfl rfl) rfl rfl rfl ?_
                  refine st_op (ev_pickT rfl rfl) rfl rfl rfl ?_
                  refine st_op (ev_assign rfl) rfl rfl rfl ?_
                  try show aw _ _ _ _ _ _
                  refine aw_ret ?_
                  have hx130 : Ext H H123 := (Ext.trans (Ext.trans (Ext.trans (Ext.trans (Ext.trans (Ext.trans (Ext.trans (Ext.then (Ext.trans (Ext.then (Ext.trans (Ext.then (Ext.trans hx10 hx16) hf21 (fun q hq (e : q = b11) => by omega)) hx27) hf32 (fun q hq (e : q = b22) => by omega)) hx38) hf43 (fun q hq (e : q = b33) => by omega)) hx48) hx51) hx55) hx62) hx65) hx115) hx124)
                  have hres : true = ((decide (((Spec.snapF index term (⟨#[]⟩ : ByteArray) (⟨#[]⟩ : ByteArray)).length : Int) > 0)) == false) := by symm; rw [beq_iff_eq]; have hz0 : (⟨#[]⟩ : ByteArray).size = 0 := rfl; rw [Spec.snapF_len_eq, Spec.mayS_eq]; first | exact decide_eq_true (by omega) | exact decide_eq_false (by omega) | exact decide_eq_decide.2 (by omega)
                  exact ⟨.bool ((decide (((Spec.snapF index term (⟨#[]⟩ : ByteArray) (⟨#[]⟩ : ByteArray)).length : Int) > 0)) == false), rfl, by rw [hres], hx130⟩
              ·
                have hb110 := ne_of_beq_false hb110
                exfalso; have hz0 : (⟨#[]⟩ : ByteArray).size = 0 := rfl; have hzs := strOfNums_size (List.replicate size.toNat 0); rw [List.length_replicate] at hzs; exact hb110 (by rw [Spec.mayH_eq]; first | exact decide_eq_true (by omega) | exact decide_eq_false (by omega) | exact decide_eq_decide.2 (by omega))
          ·
            have hb57 := ne_of_beq_false hb57
            exfalso; have hz0 : (⟨#[]⟩ : ByteArray).size = 0 := rfl; have hzs := strOfNums_size (List.replicate size.toNat 0); rw [List.length_replicate] at hzs; exact hb57 (by rw [Spec.mayE_eq]; first | exact decide_eq_true (by omega) | exact decide_eq_false (by omega) | exact decide_eq_decide.2 (by omega))
        ·
          have hb56 := of_decide_eq_false hb56
          refine st_skip rfl rfl rfl ?_
          refine st_skip rfl rfl rfl ?_
          refine st_op (ev_pickF rfl rfl) rfl rfl rfl ?_
          refine st_op (ev_eqBool isbool4 rfl rfl) rfl rfl rfl ?_
          refine st_op (ev_move rfl) rfl rfl rfl ?_
          refine st_bool 52 rfl (fun hb131 => ?_) (fun hb131 => ?_)
          ·
            have hb131 := eq_of_beq hb131
            have hx133 : Ext H28 H54 := (Ext.trans (Ext.trans (Ext.trans (Ext.then hx38 hf43 (fun q hq (e : q = b33) => by omega)) hx48) hx51) hx55)
            have h132 := Ext.blk hx133 (by omega) hB30
            refine st_op (ev_load rfl (lvar_part (l := [.bool true, .int .i64 term, .int .i64 vote, .int .i64 0, .int .i64 0, .int .i64 0, .string (⟨#[]⟩)]) many32 h132 rfl rfl (by decide))) rfl rfl rfl ?_
            refine st_call rfl rfl rfl ent14 rfl rfl rfl ?_
            obtain ⟨_, H135, hs134, hs134v, hx136⟩ := wal_May_spec H54 true term vote (0 : Int) (0 : Int) (0 : Int) (⟨#[]⟩ : ByteArray)
            rw [hs134v] at hs134; clear hs134v
            refine ⟨_, H135, hs134, ?_⟩
            have H135n : H54.next ≤ H135.next := hx136.1
            refine st_op (ev_move rfl) rfl rfl rfl ?_
            refine st_op (ev_move rfl) rfl rfl rfl ?_
            refine st_callv rfl rfl rfl rfl rfl ent23 rfl rfl rfl ?_
            obtain ⟨_, H138, hs137, hs137v, hx139⟩ := law18_num_spec H135 term (0 : Int)
            rw [hs137v] at hs137; clear hs137v
            refine ⟨_, H138, hs137, ?_⟩
            have H138n : H135.next ≤ H138.next := hx139.1
            refine st_op (ev_move rfl) rfl rfl rfl ?_
            refine st_bool 58 rfl (fun hb140 => ?_) (fun hb140 => ?_)
            ·
              have hb140 := of_decide_eq_true hb140
              refine st_op (ev_move rfl) rfl rfl rfl ?_
              refine st_op (ev_int rfl rfl rfl) rfl rfl rfl ?_
              refine st_op (ev_pickT rfl rfl) rfl rfl rfl ?_
              refine st_op (ev_move rfl) rfl rfl rfl ?_
              refine st_bool 62 rfl (fun hb141 => ?_) (fun hb141 => ?_)
              ·
                have hb141 := of_decide_eq_true hb141
                refine st_op (ev_move rfl) rfl rfl rfl ?_
                refine st_op (ev_int rfl rfl rfl) rfl rfl rfl ?_
                refine st_op (ev_pickT rfl rfl) rfl rfl rfl ?_
                refine st_op (ev_eqBool isbool4 rfl rfl) rfl rfl rfl ?_
                refine st_op (ev_pickT rfl rfl) rfl rfl rfl ?_
                refine st_op (ev_move rfl) rfl rfl rfl ?_
                refine st_bool 68 rfl (fun hb142 => ?_) (fun hb142 => ?_)
                ·
                  have hb142 := eq_of_beq hb142
                  have hx144 : Ext H39 H138 := (Ext.trans (Ext.trans (Ext.trans (Ext.trans hx48 hx51) hx55) hx136) hx139)
                  have h143 := Ext.blk hx144 (by omega) hB41
                  refine st_op (ev_load rfl (lvar_part (l := [.int .i64 index, .int .i64 term, .string (⟨#[]⟩), .string (⟨#[]⟩)]) many56 h143 rfl rfl (by decide))) rfl rfl rfl ?_
                  refine st_call rfl rfl rfl ent24 rfl rfl rfl ?_
                  obtain ⟨_, H146, hs145, A148, c149, hs145v, hm150, hq151, hq152, hq153, hx147⟩ := wal_PutSnap_spec H138 index term (⟨#[]⟩ : ByteArray) (⟨#[]⟩ : ByteArray)
                  rw [hs145v] at hs145; clear hs145v
                  refine ⟨_, H146, hs145, ?_⟩
                  have H146n : H138.next ≤ H146.next := hx147.1
                  refine st_op (ev_lenSl rfl Try.underlying30) rfl rfl rfl ?_
                  refine st_op (ev_int rfl rfl rfl) rfl rfl rfl ?_
                  refine st_op (ev_move rfl) rfl rfl rfl ?_
                  refine st_op (ev_move rfl) rfl rfl rfl ?_
                  refine st_callv rfl rfl rfl rfl rfl ent23 rfl rfl rfl ?_
                  obtain ⟨_, H155, hs154, hs154v, hx156⟩ := law18_num_spec H146 index (0 : Int)
                  rw [hs154v] at hs154; clear hs154v
                  refine ⟨_, H155, hs154, ?_⟩
                  have H155n : H146.next ≤ H155.next := hx156.1
                  refine st_op (ev_move rfl) rfl rfl rfl ?_
                  refine st_bool 76 rfl (fun hb157 => ?_) (fun hb157 => ?_)
                  ·
                    have hb157 := of_decide_eq_true hb157
                    refine st_op (ev_move rfl) rfl rfl rfl ?_
                    refine st_op (ev_move rfl) rfl rfl rfl ?_
                    refine st_callv rfl rfl rfl rfl rfl ent23 rfl rfl rfl ?_
                    obtain ⟨_, H159, hs158, hs158v, hx160⟩ := law18_num_spec H155 term (0 : Int)
                    rw [hs158v] at hs158; clear hs158v
                    refine ⟨_, H159, hs158, ?_⟩
                    have H159n : H155.next ≤ H159.next := hx160.1
                    refine st_op (ev_pickT rfl rfl) rfl rfl rfl ?_
                    refine st_op (ev_eqBool isbool4 rfl rfl) rfl rfl rfl ?_
                    refine st_op (ev_pickT rfl rfl) rfl rfl rfl ?_
                    refine st_op (ev_assign rfl) rfl rfl rfl ?_
                    try show aw _ _ _ _ _ _
                    refine aw_ret ?_
                    have hx161 : Ext H H159 := (Ext.trans (Ext.trans (Ext.trans (Ext.trans (Ext.trans (Ext.trans (Ext.trans (Ext.trans (Ext.then (Ext.trans (Ext.then (Ext.trans (Ext.then (Ext.trans hx10 hx16) hf21 (fun q hq (e : q = b11) => by omega)) hx27) hf32 (fun q hq (e : q = b22) => by omega)) hx38) hf43 (fun q hq (e : q = b33) => by omega)) hx48) hx51) hx55) hx136) hx139) hx147) hx156) hx160)
                    have hres : true = ((decide (((Spec.snapF index term (⟨#[]⟩ : ByteArray) (⟨#[]⟩ : ByteArray)).length : Int) > 0)) == (decide ((0 : Int) ≤ term ∧ term ≤ 1099511627776))) := by symm; rw [beq_iff_eq]; have hz0 : (⟨#[]⟩ : ByteArray).size = 0 := rfl; rw [Spec.snapF_len_eq, Spec.mayS_eq]; first | exact decide_eq_true (by omega) | exact decide_eq_false (by omega) | exact decide_eq_decide.2 (by omega)
                    exact ⟨.bool ((decide (((Spec.snapF index term (⟨#[]⟩ : ByteArray) (⟨#[]⟩ : ByteArray)).length : Int) > 0)) == (decide ((0 : Int) ≤ term ∧ term ≤ 1099511627776))), rfl, by rw [hres], hx161⟩
                  ·
                    have hb157 := of_decide_eq_false hb157
                    refine st_skip rfl rfl rfl ?_
                    refine st_skip rfl rfl rfl ?_
                    refine st_skip rfl rfl rfl ?_
                    refine st_op (ev_pickF rfl rfl) rfl rfl rfl ?_
                    refine st_op (ev_eqBool isbool4 rfl rfl) rfl rfl rfl ?_
                    refine st_op (ev_pickT rfl rfl) rfl rfl rfl ?_
                    refine st_op (ev_assign rfl) rfl rfl rfl ?_
                    try show aw _ _ _ _ _ _
                    refine aw_ret ?_
                    have hx162 : Ext H H155 := (Ext.trans (Ext.trans (Ext.trans (Ext.trans (Ext.trans (Ext.trans (Ext.trans (Ext.then (Ext.trans (Ext.then (Ext.trans (Ext.then (Ext.trans hx10 hx16) hf21 (fun q hq (e : q = b11) => by omega)) hx27) hf32 (fun q hq (e : q = b22) => by omega)) hx38) hf43 (fun q hq (e : q = b33) => by omega)) hx48) hx51) hx55) hx136) hx139) hx147) hx156)
                    have hres : true = ((decide (((Spec.snapF index term (⟨#[]⟩ : ByteArray) (⟨#[]⟩ : ByteArray)).length : Int) > 0)) == false) := by symm; rw [beq_iff_eq]; have hz0 : (⟨#[]⟩ : ByteArray).size = 0 := rfl; rw [Spec.snapF_len_eq, Spec.mayS_eq]; first | exact decide_eq_true (by omega) | exact decide_eq_false (by omega) | exact decide_eq_decide.2 (by omega)
                    exact ⟨.bool ((decide (((Spec.snapF index term (⟨#[]⟩ : ByteArray) (⟨#[]⟩ : ByteArray)).length : Int) > 0)) == false), rfl, by rw [hres], hx162⟩
                ·
                  have hb142 := ne_of_beq_false hb142
                  exfalso; have hz0 : (⟨#[]⟩ : ByteArray).size = 0 := rfl; have hzs := strOfNums_size (List.replicate size.toNat 0); rw [List.length_replicate] at hzs; exact hb142 (by rw [Spec.mayH_eq]; first | exact decide_eq_true (by omega) | exact decide_eq_false (by omega) | exact decide_eq_decide.2 (by omega))
              ·
                have hb141 := of_decide_eq_false hb141
                refine st_skip rfl rfl rfl ?_
                refine st_skip rfl rfl rfl ?_
                refine st_op (ev_pickF rfl rfl) rfl rfl rfl ?_
                refine st_op (ev_eqBool isbool4 rfl rfl) rfl rfl rfl ?_
                refine st_op (ev_pickT rfl rfl) rfl rfl rfl ?_
                refine st_op (ev_move rfl) rfl rfl rfl ?_
                refine st_bool 68 rfl (fun hb163 => ?_) (fun hb163 => ?_)
                ·
                  have hb163 := eq_of_beq hb163
                  have hx165 : Ext H39 H138 := (Ext.trans (Ext.trans (Ext.trans (Ext.trans hx48 hx51) hx55) hx136) hx139)
                  have h164 := Ext.blk hx165 (by omega) hB41
                  refine st_op (ev_load rfl (lvar_part (l := [.int .i64 index, .int .i64 term, .string (⟨#[]⟩), .string (⟨#[]⟩)]) many56 h164 rfl rfl (by decide))) rfl rfl rfl ?_
                  refine st_call rfl rfl rfl ent24 rfl rfl rfl ?_
                  obtain ⟨_, H167, hs166, A169, c170, hs166v, hm171, hq172, hq173, hq174, hx168⟩ := wal_PutSnap_spec H138 index term (⟨#[]⟩ : ByteArray) (⟨#[]⟩ : ByteArray)
                  rw [hs166v] at hs166; clear hs166v
                  refine ⟨_, H167, hs166, ?_⟩
                  have H167n : H138.next ≤ H167.next := hx168.1
                  refine st_op (ev_lenSl rfl Try.underlying30) rfl rfl rfl ?_
                  refine st_op (ev_int rfl rfl rfl) rfl rfl rfl ?_
                  refine st_op (ev_move rfl) rfl rfl rfl ?_
                  refine st_op (ev_move rfl) rfl rfl rfl ?_
                  refine st_callv rfl rfl rfl rfl rfl ent23 rfl rfl rfl ?_
                  obtain ⟨_, H176, hs175, hs175v, hx177⟩ := law18_num_spec H167 index (0 : Int)
                  rw [hs175v] at hs175; clear hs175v
                  refine ⟨_, H176, hs175, ?_⟩
                  have H176n : H167.next ≤ H176.next := hx177.1
                  refine st_op (ev_move rfl) rfl rfl rfl ?_
                  refine st_bool 76 rfl (fun hb178 => ?_) (fun hb178 => ?_)
                  ·
                    have hb178 := of_decide_eq_true hb178
                    refine st_op (ev_move rfl) rfl rfl rfl ?_
                    refine st_op (ev_move rfl) rfl rfl rfl ?_
                    refine st_callv rfl rfl rfl rfl rfl ent23 rfl rfl rfl ?_
                    obtain ⟨_, H180, hs179, hs179v, hx181⟩ := law18_num_spec H176 term (0 : Int)
                    rw [hs179v] at hs179; clear hs179v
                    refine ⟨_, H180, hs179, ?_⟩
                    have H180n : H176.next ≤ H180.next := hx181.1
                    refine st_op (ev_pickT rfl rfl) rfl rfl rfl ?_
                    refine st_op (ev_eqBool isbool4 rfl rfl) rfl rfl rfl ?_
                    refine st_op (ev_pickT rfl rfl) rfl rfl rfl ?_
                    refine st_op (ev_assign rfl) rfl rfl rfl ?_
                    try show aw _ _ _ _ _ _
                    refine aw_ret ?_
                    have hx182 : Ext H H180 := (Ext.trans (Ext.trans (Ext.trans (Ext.trans (Ext.trans (Ext.trans (Ext.trans (Ext.trans (Ext.then (Ext.trans (Ext.then (Ext.trans (Ext.then (Ext.trans hx10 hx16) hf21 (fun q hq (e : q = b11) => by omega)) hx27) hf32 (fun q hq (e : q = b22) => by omega)) hx38) hf43 (fun q hq (e : q = b33) => by omega)) hx48) hx51) hx55) hx136) hx139) hx168) hx177) hx181)
                    have hres : true = ((decide (((Spec.snapF index term (⟨#[]⟩ : ByteArray) (⟨#[]⟩ : ByteArray)).length : Int) > 0)) == (decide ((0 : Int) ≤ term ∧ term ≤ 1099511627776))) := by symm; rw [beq_iff_eq]; have hz0 : (⟨#[]⟩ : ByteArray).size = 0 := rfl; rw [Spec.snapF_len_eq, Spec.mayS_eq]; first | exact decide_eq_true (by omega) | exact decide_eq_false (by omega) | exact decide_eq_decide.2 (by omega)
                    exact ⟨.bool ((decide (((Spec.snapF index term (⟨#[]⟩ : ByteArray) (⟨#[]⟩ : ByteArray)).length : Int) > 0)) == (decide ((0 : Int) ≤ term ∧ term ≤ 1099511627776))), rfl, by rw [hres], hx182⟩
                  ·
                    have hb178 := of_decide_eq_false hb178
                    refine st_skip rfl rfl rfl ?_
                    refine st_skip rfl rfl rfl ?_
                    refine st_skip rfl rfl rfl ?_
                    refine st_op (ev_pickF rfl rfl) rfl rfl rfl ?_
                    refine st_op (ev_eqBool isbool4 rfl rfl) rfl rfl rfl ?_
                    refine st_op (ev_pickT rfl rfl) rfl rfl rfl ?_
                    refine st_op (ev_assign rfl) rfl rfl rfl ?_
                    try show aw _ _ _ _ _ _
                    refine aw_ret ?_
                    have hx183 : Ext H H176 := (Ext.trans (Ext.trans (Ext.trans (Ext.trans (Ext.trans (Ext.trans (Ext.trans (Ext.then (Ext.trans (Ext.then (Ext.trans (Ext.then (Ext.trans hx10 hx16) hf21 (fun q hq (e : q = b11) => by omega)) hx27) hf32 (fun q hq (e : q = b22) => by omega)) hx38) hf43 (fun q hq (e : q = b33) => by omega)) hx48) hx51) hx55) hx136) hx139) hx168) hx177)
                    have hres : true = ((decide (((Spec.snapF index term (⟨#[]⟩ : ByteArray) (⟨#[]⟩ : ByteArray)).length : Int) > 0)) == false) := by symm; rw [beq_iff_eq]; have hz0 : (⟨#[]⟩ : ByteArray).size = 0 := rfl; rw [Spec.snapF_len_eq, Spec.mayS_eq]; first | exact decide_eq_true (by omega) | exact decide_eq_false (by omega) | exact decide_eq_decide.2 (by omega)
                    exact ⟨.bool ((decide (((Spec.snapF index term (⟨#[]⟩ : ByteArray) (⟨#[]⟩ : ByteArray)).length : Int) > 0)) == false), rfl, by rw [hres], hx183⟩
                ·
                  have hb163 := ne_of_beq_false hb163
                  exfalso; have hz0 : (⟨#[]⟩ : ByteArray).size = 0 := rfl; have hzs := strOfNums_size (List.replicate size.toNat 0); rw [List.length_replicate] at hzs; exact hb163 (by rw [Spec.mayH_eq]; first | exact decide_eq_true (by omega) | exact decide_eq_false (by omega) | exact decide_eq_decide.2 (by omega))
            ·
              have hb140 := of_decide_eq_false hb140
              refine st_skip rfl rfl rfl ?_
              refine st_skip rfl rfl rfl ?_
              refine st_op (ev_pickF rfl rfl) rfl rfl rfl ?_
              refine st_op (ev_move rfl) rfl rfl rfl ?_
              refine st_skip rfl rfl rfl ?_
              refine st_skip rfl rfl rfl ?_
              refine st_op (ev_pickF rfl rfl) rfl rfl rfl ?_
              refine st_op (ev_eqBool isbool4 rfl rfl) rfl rfl rfl ?_
              refine st_op (ev_pickT rfl rfl) rfl rfl rfl ?_
              refine st_op (ev_move rfl) rfl rfl rfl ?_
              refine st_bool 68 rfl (fun hb184 => ?_) (fun hb184 => ?_)
              ·
                have hb184 := eq_of_beq hb184
                have hx186 : Ext H39 H138 := (Ext.trans (Ext.trans (Ext.trans (Ext.trans hx48 hx51) hx55) hx136) hx139)
                have h185 := Ext.blk hx186 (by omega) hB41
                refine st_op (ev_load rfl (lvar_part (l := [.int .i64 index, .int .i64 term, .string (⟨#[]⟩), .string (⟨#[]⟩)]) many56 h185 rfl rfl (by decide))) rfl rfl rfl ?_
                refine st_call rfl rfl rfl ent24 rfl rfl rfl ?_
                obtain ⟨_, H188, hs187, A190, c191, hs187v, hm192, hq193, hq194, hq195, hx189⟩ := wal_PutSnap_spec H138 index term (⟨#[]⟩ : ByteArray) (⟨#[]⟩ : ByteArray)
                rw [hs187v] at hs187; clear hs187v
                refine ⟨_, H188, hs187, ?_⟩
                have H188n : H138.next ≤ H188.next := hx189.1
                refine st_op (ev_lenSl rfl Try.underlying30) rfl rfl rfl ?_
                refine st_op (ev_int rfl rfl rfl) rfl rfl rfl ?_
                refine st_op (ev_move rfl) rfl rfl rfl ?_
                refine st_op (ev_move rfl) rfl rfl rfl ?_
                refine st_callv rfl rfl rfl rfl rfl ent23 rfl rfl rfl ?_
                obtain ⟨_, H197, hs196, hs196v, hx198⟩ := law18_num_spec H188 index (0 : Int)
                rw [hs196v] at hs196; clear hs196v
                refine ⟨_, H197, hs196, ?_⟩
                have H197n : H188.next ≤ H197.next := hx198.1
                refine st_op (ev_move rfl) rfl rfl rfl ?_
                refine st_bool 76 rfl (fun hb199 => ?_) (fun hb199 => ?_)
                ·
                  have hb199 := of_decide_eq_true hb199
                  refine st_op (ev_move rfl) rfl rfl rfl ?_
                  refine st_op (ev_move rfl) rfl rfl rfl ?_
                  refine st_callv rfl rfl rfl rfl rfl ent23 rfl rfl rfl ?_
                  obtain ⟨_, H201, hs200, hs200v, hx202⟩ := law18_num_spec H197 term (0 : Int)
                  rw [hs200v] at hs200; clear hs200v
                  refine ⟨_, H201, hs200, ?_⟩
                  have H201n : H197.next ≤ H201.next := hx202.1
                  refine st_op (ev_pickT rfl rfl) rfl rfl rfl ?_
                  refine st_op (ev_eqBool isbool4 rfl rfl) rfl rfl rfl ?_
                  refine st_op (ev_pickT rfl rfl) rfl rfl rfl ?_
                  refine st_op (ev_assign rfl) rfl rfl rfl ?_
                  try show aw _ _ _ _ _ _
                  refine aw_ret ?_
                  have hx203 : Ext H H201 := (Ext.trans (Ext.trans (Ext.trans (Ext.trans (Ext.trans (Ext.trans (Ext.trans (Ext.trans (Ext.then (Ext.trans (Ext.then (Ext.trans (Ext.then (Ext.trans hx10 hx16) hf21 (fun q hq (e : q = b11) => by omega)) hx27) hf32 (fun q hq (e : q = b22) => by omega)) hx38) hf43 (fun q hq (e : q = b33) => by omega)) hx48) hx51) hx55) hx136) hx139) hx189) hx198) hx202)
                  have hres : true = ((decide (((Spec.snapF index term (⟨#[]⟩ : ByteArray) (⟨#[]⟩ : ByteArray)).length : Int) > 0)) == (decide ((0 : Int) ≤ term ∧ term ≤ 1099511627776))) := by symm; rw [beq_iff_eq]; have hz0 : (⟨#[]⟩ : ByteArray).size = 0 := rfl; rw [Spec.snapF_len_eq, Spec.mayS_eq]; first | exact decide_eq_true (by omega) | exact decide_eq_false (by omega) | exact decide_eq_decide.2 (by omega)
                  exact ⟨.bool ((decide (((Spec.snapF index term (⟨#[]⟩ : ByteArray) (⟨#[]⟩ : ByteArray)).length : Int) > 0)) == (decide ((0 : Int) ≤ term ∧ term ≤ 1099511627776))), rfl, by rw [hres], hx203⟩
                ·
                  have hb199 := of_decide_eq_false hb199
                  refine st_skip rfl rfl rfl ?_
                  refine st_skip rfl rfl rfl ?_
                  refine st_skip rfl rfl rfl ?_
                  refine st_op (ev_pickF rfl rfl) rfl rfl rfl ?_
                  refine st_op (ev_eqBool isbool4 rfl rfl) rfl rfl rfl ?_
                  refine st_op (ev_pickT rfl rfl) rfl rfl rfl ?_
                  refine st_op (ev_assign rfl) rfl rfl rfl ?_
                  try show aw _ _ _ _ _ _
                  refine aw_ret ?_
                  have hx204 : Ext H H197 := (Ext.trans (Ext.trans (Ext.trans (Ext.trans (Ext.trans (Ext.trans (Ext.trans (Ext.then (Ext.trans (Ext.then (Ext.trans (Ext.then (Ext.trans hx10 hx16) hf21 (fun q hq (e : q = b11) => by omega)) hx27) hf32 (fun q hq (e : q = b22) => by omega)) hx38) hf43 (fun q hq (e : q = b33) => by omega)) hx48) hx51) hx55) hx136) hx139) hx189) hx198)
                  have hres : true = ((decide (((Spec.snapF index term (⟨#[]⟩ : ByteArray) (⟨#[]⟩ : ByteArray)).length : Int) > 0)) == false) := by symm; rw [beq_iff_eq]; have hz0 : (⟨#[]⟩ : ByteArray).size = 0 := rfl; rw [Spec.snapF_len_eq, Spec.mayS_eq]; first | exact decide_eq_true (by omega) | exact decide_eq_false (by omega) | exact decide_eq_decide.2 (by omega)
                  exact ⟨.bool ((decide (((Spec.snapF index term (⟨#[]⟩ : ByteArray) (⟨#[]⟩ : ByteArray)).length : Int) > 0)) == false), rfl, by rw [hres], hx204⟩
              ·
                have hb184 := ne_of_beq_false hb184
                exfalso; have hz0 : (⟨#[]⟩ : ByteArray).size = 0 := rfl; have hzs := strOfNums_size (List.replicate size.toNat 0); rw [List.length_replicate] at hzs; exact hb184 (by rw [Spec.mayH_eq]; first | exact decide_eq_true (by omega) | exact decide_eq_false (by omega) | exact decide_eq_decide.2 (by omega))
          ·
            have hb131 := ne_of_beq_false hb131
            exfalso; have hz0 : (⟨#[]⟩ : ByteArray).size = 0 := rfl; have hzs := strOfNums_size (List.replicate size.toNat 0); rw [List.length_replicate] at hzs; exact hb131 (by rw [Spec.mayE_eq]; first | exact decide_eq_true (by omega) | exact decide_eq_false (by omega) | exact decide_eq_decide.2 (by omega))
      ·
        have hb52 := of_decide_eq_false hb52
        refine st_skip rfl rfl rfl ?_
        refine st_skip rfl rfl rfl ?_
        refine st_skip rfl rfl rfl ?_
        refine st_op (ev_pickF rfl rfl) rfl rfl rfl ?_
        refine st_op (ev_move rfl) rfl rfl rfl ?_
        refine st_skip rfl rfl rfl ?_
        refine st_skip rfl rfl rfl ?_
        refine st_op (ev_pickF rfl rfl) rfl rfl rfl ?_
        refine st_op (ev_eqBool isbool4 rfl rfl) rfl rfl rfl ?_
        refine st_op (ev_move rfl) rfl rfl rfl ?_
        refine st_bool 52 rfl (fun hb205 => ?_) (fun hb205 => ?_)
        ·
          have hb205 := eq_of_beq hb205
          have hx207 : Ext H28 H50 := (Ext.trans (Ext.trans (Ext.then hx38 hf43 (fun q hq (e : q = b33) => by omega)) hx48) hx51)
          have h206 := Ext.blk hx207 (by omega) hB30
          refine st_op (ev_load rfl (lvar_part (l := [.bool true, .int .i64 term, .int .i64 vote, .int .i64 0, .int .i64 0, .int .i64 0, .string (⟨#[]⟩)]) many32 h206 rfl rfl (by decide))) rfl rfl rfl ?_
          refine st_call rfl rfl rfl ent14 rfl rfl rfl ?_
          obtain ⟨_, H209, hs208, hs208v, hx210⟩ := wal_May_spec H50 true term vote (0 : Int) (0 : Int) (0 : Int) (⟨#[]⟩ : ByteArray)
          rw [hs208v] at hs208; clear hs208v
          refine ⟨_, H209, hs208, ?_⟩
          have H209n : H50.next ≤ H209.next := hx210.1
          refine st_op (ev_move rfl) rfl rfl rfl ?_
          refine st_op (ev_move rfl) rfl rfl rfl ?_
          refine st_callv rfl rfl rfl rfl rfl ent23 rfl rfl rfl ?_
          obtain ⟨_, H212, hs211, hs211v, hx213⟩ := law18_num_spec H209 term (0 : Int)
          rw [hs211v] at hs211; clear hs211v
          refine ⟨_, H212, hs211, ?_⟩
          have H212n : H209.next ≤ H212.next := hx213.1
          refine st_op (ev_move rfl) rfl rfl rfl ?_
          refine st_bool 58 rfl (fun hb214 => ?_) (fun hb214 => ?_)
          ·
            have hb214 := of_decide_eq_true hb214
            refine st_op (ev_move rfl) rfl rfl rfl ?_
            refine st_op (ev_int rfl rfl rfl) rfl rfl rfl ?_
            refine st_op (ev_pickT rfl rfl) rfl rfl rfl ?_
            refine st_op (ev_move rfl) rfl rfl rfl ?_
            refine st_bool 62 rfl (fun hb215 => ?_) (fun hb215 => ?_)
            ·
              have hb215 := of_decide_eq_true hb215
              refine st_op (ev_move rfl) rfl rfl rfl ?_
              refine st_op (ev_int rfl rfl rfl) rfl rfl rfl ?_
              refine st_op (ev_pickT rfl rfl) rfl rfl rfl ?_
              refine st_op (ev_eqBool isbool4 rfl rfl) rfl rfl rfl ?_
              refine st_op (ev_pickT rfl rfl) rfl rfl rfl ?_
              refine st_op (ev_move rfl) rfl rfl rfl ?_
              refine st_bool 68 rfl (fun hb216 => ?_) (fun hb216 => ?_)
              ·
                have hb216 := eq_of_beq hb216
                have hx218 : Ext H39 H212 := (Ext.trans (Ext.trans (Ext.trans hx48 hx51) hx210) hx213)
                have h217 := Ext.blk hx218 (by omega) hB41
                refine st_op (ev_load rfl (lvar_part (l := [.int .i64 index, .int .i64 term, .string (⟨#[]⟩), .string (⟨#[]⟩)]) many56 h217 rfl rfl (by decide))) rfl rfl rfl ?_
                refine st_call rfl rfl rfl ent24 rfl rfl rfl ?_
                obtain ⟨_, H220, hs219, A222, c223, hs219v, hm224, hq225, hq226, hq227, hx221⟩ := wal_PutSnap_spec H212 index term (⟨#[]⟩ : ByteArray) (⟨#[]⟩ : ByteArray)
                rw [hs219v] at hs219; clear hs219v
                refine ⟨_, H220, hs219, ?_⟩
                have H220n : H212.next ≤ H220.next := hx221.1
                refine st_op (ev_lenSl rfl Try.underlying30) rfl rfl rfl ?_
                refine st_op (ev_int rfl rfl rfl) rfl rfl rfl ?_
                refine st_op (ev_move rfl) rfl rfl rfl ?_
                refine st_op (ev_move rfl) rfl rfl rfl ?_
                refine st_callv rfl rfl rfl rfl rfl ent23 rfl rfl rfl ?_
                obtain ⟨_, H229, hs228, hs228v, hx230⟩ := law18_num_spec H220 index (0 : Int)
                rw [hs228v] at hs228; clear hs228v
                refine ⟨_, H229, hs228, ?_⟩
                have H229n : H220.next ≤ H229.next := hx230.1
                refine st_op (ev_move rfl) rfl rfl rfl ?_
                refine st_bool 76 rfl (fun hb231 => ?_) (fun hb231 => ?_)
                ·
                  have hb231 := of_decide_eq_true hb231
                  refine st_op (ev_move rfl) rfl rfl rfl ?_
                  refine st_op (ev_move rfl) rfl rfl rfl ?_
                  refine st_callv rfl rfl rfl rfl rfl ent23 rfl rfl rfl ?_
                  obtain ⟨_, H233, hs232, hs232v, hx234⟩ := law18_num_spec H229 term (0 : Int)
                  rw [hs232v] at hs232; clear hs232v
                  refine ⟨_, H233, hs232, ?_⟩
                  have H233n : H229.next ≤ H233.next := hx234.1
                  refine st_op (ev_pickT rfl rfl) rfl rfl rfl ?_
                  refine st_op (ev_eqBool isbool4 rfl rfl) rfl rfl rfl ?_
                  refine st_op (ev_pickT rfl rfl) rfl rfl rfl ?_
                  refine st_op (ev_assign rfl) rfl rfl rfl ?_
                  try show aw _ _ _ _ _ _
                  refine aw_ret ?_
                  have hx235 : Ext H H233 := (Ext.trans (Ext.trans (Ext.trans (Ext.trans (Ext.trans (Ext.trans (Ext.trans (Ext.then (Ext.trans (Ext.then (Ext.trans (Ext.then (Ext.trans hx10 hx16) hf21 (fun q hq (e : q = b11) => by omega)) hx27) hf32 (fun q hq (e : q = b22) => by omega)) hx38) hf43 (fun q hq (e : q = b33) => by omega)) hx48) hx51) hx210) hx213) hx221) hx230) hx234)
                  have hres : true = ((decide (((Spec.snapF index term (⟨#[]⟩ : ByteArray) (⟨#[]⟩ : ByteArray)).length : Int) > 0)) == (decide ((0 : Int) ≤ term ∧ term ≤ 1099511627776))) := by symm; rw [beq_iff_eq]; have hz0 : (⟨#[]⟩ : ByteArray).size = 0 := rfl; rw [Spec.snapF_len_eq, Spec.mayS_eq]; first | exact decide_eq_true (by omega) | exact decide_eq_false (by omega) | exact decide_eq_decide.2 (by omega)
                  exact ⟨.bool ((decide (((Spec.snapF index term (⟨#[]⟩ : ByteArray) (⟨#[]⟩ : ByteArray)).length : Int) > 0)) == (decide ((0 : Int) ≤ term ∧ term ≤ 1099511627776))), rfl, by rw [hres], hx235⟩
                ·
                  have hb231 := of_decide_eq_false hb231
                  refine st_skip rfl rfl rfl ?_
                  refine st_skip rfl rfl rfl ?_
                  refine st_skip rfl rfl rfl ?_
                  refine st_op (ev_pickF rfl rfl) rfl rfl rfl ?_
                  refine st_op (ev_eqBool isbool4 rfl rfl) rfl rfl rfl ?_
                  refine st_op (ev_pickT rfl rfl) rfl rfl rfl ?_
                  refine st_op (ev_assign rfl) rfl rfl rfl ?_
                  try show aw _ _ _ _ _ _
                  refine aw_ret ?_
                  have hx236 : Ext H H229 := (Ext.trans (Ext.trans (Ext.trans (Ext.trans (Ext.trans (Ext.trans (Ext.then (Ext.trans (Ext.then (Ext.trans (Ext.then (Ext.trans hx10 hx16) hf21 (fun q hq (e : q = b11) => by omega)) hx27) hf32 (fun q hq (e : q = b22) => by omega)) hx38) hf43 (fun q hq (e : q = b33) => by omega)) hx48) hx51) hx210) hx213) hx221) hx230)
                  have hres : true = ((decide (((Spec.snapF index term (⟨#[]⟩ : ByteArray) (⟨#[]⟩ : ByteArray)).length : Int) > 0)) == false) := by symm; rw [beq_iff_eq]; have hz0 : (⟨#[]⟩ : ByteArray).size = 0 := rfl; rw [Spec.snapF_len_eq, Spec.mayS_eq]; first | exact decide_eq_true (by omega) | exact decide_eq_false (by omega) | exact decide_eq_decide.2 (by omega)
                  exact ⟨.bool ((decide (((Spec.snapF index term (⟨#[]⟩ : ByteArray) (⟨#[]⟩ : ByteArray)).length : Int) > 0)) == false), rfl, by rw [hres], hx236⟩
              ·
                have hb216 := ne_of_beq_false hb216
                exfalso; have hz0 : (⟨#[]⟩ : ByteArray).size = 0 := rfl; have hzs := strOfNums_size (List.replicate size.toNat 0); rw [List.length_replicate] at hzs; exact hb216 (by rw [Spec.mayH_eq]; first | exact decide_eq_true (by omega) | exact decide_eq_false (by omega) | exact decide_eq_decide.2 (by omega))
            ·
              have hb215 := of_decide_eq_false hb215
              refine st_skip rfl rfl rfl ?_
              refine st_skip rfl rfl rfl ?_
              refine st_op (ev_pickF rfl rfl) rfl rfl rfl ?_
              refine st_op (ev_eqBool isbool4 rfl rfl) rfl rfl rfl ?_
              refine st_op (ev_pickT rfl rfl) rfl rfl rfl ?_
              refine st_op (ev_move rfl) rfl rfl rfl ?_
              refine st_bool 68 rfl (fun hb237 => ?_) (fun hb237 => ?_)
              ·
                have hb237 := eq_of_beq hb237
                have hx239 : Ext H39 H212 := (Ext.trans (Ext.trans (Ext.trans hx48 hx51) hx210) hx213)
                have h238 := Ext.blk hx239 (by omega) hB41
                refine st_op (ev_load rfl (lvar_part (l := [.int .i64 index, .int .i64 term, .string (⟨#[]⟩), .string (⟨#[]⟩)]) many56 h238 rfl rfl (by decide))) rfl rfl rfl ?_
                refine st_call rfl rfl rfl ent24 rfl rfl rfl ?_
                obtain ⟨_, H241, hs240, A243, c244, hs240v, hm245, hq246, hq247, hq248, hx242⟩ := wal_PutSnap_spec H212 index term (⟨#[]⟩ : ByteArray) (⟨#[]⟩ : ByteArray)
                rw [hs240v] at hs240; clear hs240v
                refine ⟨_, H241, hs240, ?_⟩
                have H241n : H212.next ≤ H241.next := hx242.1
                refine st_op (ev_lenSl rfl Try.underlying30) rfl rfl rfl ?_
                refine st_op (ev_int rfl rfl rfl) rfl rfl rfl ?_
                refine st_op (ev_move rfl) rfl rfl rfl ?_
                refine st_op (ev_move rfl) rfl rfl rfl ?_
                refine st_callv rfl rfl rfl rfl rfl ent23 rfl rfl rfl ?_
                obtain ⟨_, H250, hs249, hs249v, hx251⟩ := law18_num_spec H241 index (0 : Int)
                rw [hs249v] at hs249; clear hs249v
                refine ⟨_, H250, hs249, ?_⟩
                have H250n : H241.next ≤ H250.next := hx251.1
                refine st_op (ev_move rfl) rfl rfl rfl ?_
                refine st_bool 76 rfl (fun hb252 => ?_) (fun hb252 => ?_)
                ·
                  have hb252 := of_decide_eq_true hb252
                  refine st_op (ev_move rfl) rfl rfl rfl ?_
                  refine st_op (ev_move rfl) rfl rfl rfl ?_
                  refine st_callv rfl rfl rfl rfl rfl ent23 rfl rfl rfl ?_
                  obtain ⟨_, H254, hs253, hs253v, hx255⟩ := law18_num_spec H250 term (0 : Int)
                  rw [hs253v] at hs253; clear hs253v
                  refine ⟨_, H254, hs253, ?_⟩
                  have H254n : H250.next ≤ H254.next := hx255.1
                  refine st_op (ev_pickT rfl rfl) rfl rfl rfl ?_
                  refine st_op (ev_eqBool isbool4 rfl rfl) rfl rfl rfl ?_
                  refine st_op (ev_pickT rfl rfl) rfl rfl rfl ?_
                  refine st_op (ev_assign rfl) rfl rfl rfl ?_
                  try show aw _ _ _ _ _ _
                  refine aw_ret ?_
                  have hx256 : Ext H H254 := (Ext.trans (Ext.trans (Ext.trans (Ext.trans (Ext.trans (Ext.trans (Ext.trans (Ext.then (Ext.trans (Ext.then (Ext.trans (Ext.then (Ext.trans hx10 hx16) hf21 (fun q hq (e : q = b11) => by omega)) hx27) hf32 (fun q hq (e : q = b22) => by omega)) hx38) hf43 (fun q hq (e : q = b33) => by omega)) hx48) hx51) hx210) hx213) hx242) hx251) hx255)
                  have hres : true = ((decide (((Spec.snapF index term (⟨#[]⟩ : ByteArray) (⟨#[]⟩ : ByteArray)).length : Int) > 0)) == (decide ((0 : Int) ≤ term ∧ term ≤ 1099511627776))) := by symm; rw [beq_iff_eq]; have hz0 : (⟨#[]⟩ : ByteArray).size = 0 := rfl; rw [Spec.snapF_len_eq, Spec.mayS_eq]; first | exact decide_eq_true (by omega) | exact decide_eq_false (by omega) | exact decide_eq_decide.2 (by omega)
                  exact ⟨.bool ((decide (((Spec.snapF index term (⟨#[]⟩ : ByteArray) (⟨#[]⟩ : ByteArray)).length : Int) > 0)) == (decide ((0 : Int) ≤ term ∧ term ≤ 1099511627776))), rfl, by rw [hres], hx256⟩
                ·
                  have hb252 := of_decide_eq_false hb252
                  refine st_skip rfl rfl rfl ?_
                  refine st_skip rfl rfl rfl ?_
                  refine st_skip rfl rfl rfl ?_
                  refine st_op (ev_pickF rfl rfl) rfl rfl rfl ?_
                  refine st_op (ev_eqBool isbool4 rfl rfl) rfl rfl rfl ?_
                  refine st_op (ev_pickT rfl rfl) rfl rfl rfl ?_
                  refine st_op (ev_assign rfl) rfl rfl rfl ?_
                  try show aw _ _ _ _ _ _
                  refine aw_ret ?_
                  have hx257 : Ext H H250 := (Ext.trans (Ext.trans (Ext.trans (Ext.trans (Ext.trans (Ext.trans (Ext.then (Ext.trans (Ext.then (Ext.trans (Ext.then (Ext.trans hx10 hx16) hf21 (fun q hq (e : q = b11) => by omega)) hx27) hf32 (fun q hq (e : q = b22) => by omega)) hx38) hf43 (fun q hq (e : q = b33) => by omega)) hx48) hx51) hx210) hx213) hx242) hx251)
                  have hres : true = ((decide (((Spec.snapF index term (⟨#[]⟩ : ByteArray) (⟨#[]⟩ : ByteArray)).length : Int) > 0)) == false) := by symm; rw [beq_iff_eq]; have hz0 : (⟨#[]⟩ : ByteArray).size = 0 := rfl; rw [Spec.snapF_len_eq, Spec.mayS_eq]; first | exact decide_eq_true (by omega) | exact decide_eq_false (by omega) | exact decide_eq_decide.2 (by omega)
                  exact ⟨.bool ((decide (((Spec.snapF index term (⟨#[]⟩ : ByteArray) (⟨#[]⟩ : ByteArray)).length : Int) > 0)) == false), rfl, by rw [hres], hx257⟩
              ·
                have hb237 := ne_of_beq_false hb237
                exfalso; have hz0 : (⟨#[]⟩ : ByteArray).size = 0 := rfl; have hzs := strOfNums_size (List.replicate size.toNat 0); rw [List.length_replicate] at hzs; exact hb237 (by rw [Spec.mayH_eq]; first | exact decide_eq_true (by omega) | exact decide_eq_false (by omega) | exact decide_eq_decide.2 (by omega))
          ·
            have hb214 := of_decide_eq_false hb214
            refine st_skip rfl rfl rfl ?_
            refine st_skip rfl rfl rfl ?_
            refine st_op (ev_pickF rfl rfl) rfl rfl rfl ?_
            refine st_op (ev_move rfl) rfl rfl rfl ?_
            refine st_skip rfl rfl rfl ?_
            refine st_skip rfl rfl rfl ?_
            refine st_op (ev_pickF rfl rfl) rfl rfl rfl ?_
            refine st_op (ev_eqBool isbool4 rfl rfl) rfl rfl rfl ?_
            refine st_op (ev_pickT rfl rfl) rfl rfl rfl ?_
            refine st_op (ev_move rfl) rfl rfl rfl ?_
            refine st_bool 68 rfl (fun hb258 => ?_) (fun hb258 => ?_)
            ·
              have hb258 := eq_of_beq hb258
              have hx260 : Ext H39 H212 := (Ext.trans (Ext.trans (Ext.trans hx48 hx51) hx210) hx213)
              have h259 := Ext.blk hx260 (by omega) hB41
              refine st_op (ev_load rfl (lvar_part (l := [.int .i64 index, .int .i64 term, .string (⟨#[]⟩), .string (⟨#[]⟩)]) many56 h259 rfl rfl (by decide))) rfl rfl rfl ?_
              refine st_call rfl rfl rfl ent24 rfl rfl rfl ?_
              obtain ⟨_, H262, hs261, A264, c265, hs261v, hm266, hq267, hq268, hq269, hx263⟩ := wal_PutSnap_spec H212 index term (⟨#[]⟩ : ByteArray) (⟨#[]⟩ : ByteArray)
              rw [hs261v] at hs261; clear hs261v
              refine ⟨_, H262, hs261, ?_⟩
              have H262n : H212.next ≤ H262.next := hx263.1
              refine st_op (ev_lenSl rfl Try.underlying30) rfl rfl rfl ?_
              refine st_op (ev_int rfl rfl rfl) rfl rfl rfl ?_
              refine st_op (ev_move rfl) rfl rfl rfl ?_
              refine st_op (ev_move rfl) rfl rfl rfl ?_
              refine st_callv rfl rfl rfl rfl rfl ent23 rfl rfl rfl ?_
              obtain ⟨_, H271, hs270, hs270v, hx272⟩ := law18_num_spec H262 index (0 : Int)
              rw [hs270v] at hs270; clear hs270v
              refine ⟨_, H271, hs270, ?_⟩
              have H271n : H262.next ≤ H271.next := hx272.1
              refine st_op (ev_move rfl) rfl rfl rfl ?_
              refine st_bool 76 rfl (fun hb273 => ?_) (fun hb273 => ?_)
              ·
                have hb273 := of_decide_eq_true hb273
                refine st_op (ev_move rfl) rfl rfl rfl ?_
                refine st_op (ev_move rfl) rfl rfl rfl ?_
                refine st_callv rfl rfl rfl rfl rfl ent23 rfl rfl rfl ?_
                obtain ⟨_, H275, hs274, hs274v, hx276⟩ := law18_num_spec H271 term (0 : Int)
                rw [hs274v] at hs274; clear hs274v
                refine ⟨_, H275, hs274, ?_⟩
                have H275n : H271.next ≤ H275.next := hx276.1
                refine st_op (ev_pickT rfl rfl) rfl rfl rfl ?_
                refine st_op (ev_eqBool isbool4 rfl rfl) rfl rfl rfl ?_
                refine st_op (ev_pickT rfl rfl) rfl rfl rfl ?_
                refine st_op (ev_assign rfl) rfl rfl rfl ?_
                try show aw _ _ _ _ _ _
                refine aw_ret ?_
                have hx277 : Ext H H275 := (Ext.trans (Ext.trans (Ext.trans (Ext.trans (Ext.trans (Ext.trans (Ext.trans (Ext.then (Ext.trans (Ext.then (Ext.trans (Ext.then (Ext.trans hx10 hx16) hf21 (fun q hq (e : q = b11) => by omega)) hx27) hf32 (fun q hq (e : q = b22) => by omega)) hx38) hf43 (fun q hq (e : q = b33) => by omega)) hx48) hx51) hx210) hx213) hx263) hx272) hx276)
                have hres : true = ((decide (((Spec.snapF index term (⟨#[]⟩ : ByteArray) (⟨#[]⟩ : ByteArray)).length : Int) > 0)) == (decide ((0 : Int) ≤ term ∧ term ≤ 1099511627776))) := by symm; rw [beq_iff_eq]; have hz0 : (⟨#[]⟩ : ByteArray).size = 0 := rfl; rw [Spec.snapF_len_eq, Spec.mayS_eq]; first | exact decide_eq_true (by omega) | exact decide_eq_false (by omega) | exact decide_eq_decide.2 (by omega)
                exact ⟨.bool ((decide (((Spec.snapF index term (⟨#[]⟩ : ByteArray) (⟨#[]⟩ : ByteArray)).length : Int) > 0)) == (decide ((0 : Int) ≤ term ∧ term ≤ 1099511627776))), rfl, by rw [hres], hx277⟩
              ·
                have hb273 := of_decide_eq_false hb273
                refine st_skip rfl rfl rfl ?_
                refine st_skip rfl rfl rfl ?_
                refine st_skip rfl rfl rfl ?_
                refine st_op (ev_pickF rfl rfl) rfl rfl rfl ?_
                refine st_op (ev_eqBool isbool4 rfl rfl) rfl rfl rfl ?_
                refine st_op (ev_pickT rfl rfl) rfl rfl rfl ?_
                refine st_op (ev_assign rfl) rfl rfl rfl ?_
                try show aw _ _ _ _ _ _
                refine aw_ret ?_
                have hx278 : Ext H H271 := (Ext.trans (Ext.trans (Ext.trans (Ext.trans (Ext.trans (Ext.trans (Ext.then (Ext.trans (Ext.then (Ext.trans (Ext.then (Ext.trans hx10 hx16) hf21 (fun q hq (e : q = b11) => by omega)) hx27) hf32 (fun q hq (e : q = b22) => by omega)) hx38) hf43 (fun q hq (e : q = b33) => by omega)) hx48) hx51) hx210) hx213) hx263) hx272)
                have hres : true = ((decide (((Spec.snapF index term (⟨#[]⟩ : ByteArray) (⟨#[]⟩ : ByteArray)).length : Int) > 0)) == false) := by symm; rw [beq_iff_eq]; have hz0 : (⟨#[]⟩ : ByteArray).size = 0 := rfl; rw [Spec.snapF_len_eq, Spec.mayS_eq]; first | exact decide_eq_true (by omega) | exact decide_eq_false (by omega) | exact decide_eq_decide.2 (by omega)
                exact ⟨.bool ((decide (((Spec.snapF index term (⟨#[]⟩ : ByteArray) (⟨#[]⟩ : ByteArray)).length : Int) > 0)) == false), rfl, by rw [hres], hx278⟩
            ·
              have hb258 := ne_of_beq_false hb258
              exfalso; have hz0 : (⟨#[]⟩ : ByteArray).size = 0 := rfl; have hzs := strOfNums_size (List.replicate size.toNat 0); rw [List.length_replicate] at hzs; exact hb258 (by rw [Spec.mayH_eq]; first | exact decide_eq_true (by omega) | exact decide_eq_false (by omega) | exact decide_eq_decide.2 (by omega))
        ·
          have hb205 := ne_of_beq_false hb205
          exfalso; have hz0 : (⟨#[]⟩ : ByteArray).size = 0 := rfl; have hzs := strOfNums_size (List.replicate size.toNat 0); rw [List.length_replicate] at hzs; exact hb205 (by rw [Spec.mayE_eq]; first | exact decide_eq_true (by omega) | exact decide_eq_false (by omega) | exact decide_eq_decide.2 (by omega))

end Go.AM
