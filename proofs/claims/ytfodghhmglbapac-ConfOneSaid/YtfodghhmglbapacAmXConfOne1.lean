/- Part of a machine of its own for this claim: the program's code over memory without draws. -/
import Derived.Test.YtfodghhmglbapacAmPCf3
import Derived.Test.YtfodghhmglbapacAmD
import Derived.Test.YtfodghhmglbapacAmE
import Derived.Test.YtfodghhmglbapacProg
import Derived.KernelRfl
set_option linter.unusedVariables false
set_option linter.unusedSimpArgs false
set_option linter.unnecessarySimpa false
set_option linter.unusedVariables false
set_option linter.unusedSimpArgs false
set_option linter.unnecessarySimpa false
namespace Go.AM
open Go Go.Proofs

noncomputable def E0 : TypeId → Bool := eqTy Try.prog
theorem E0_ok : EqOk Try.prog E0 := eqTy_ok
theorem mixed : Try.prog.follows .mixedOrders = true := by kernel_rfl

noncomputable def X0 (f : FuncId) : List Tmp := (bif_ (Nat.ble 29 f) (bif_ (Nat.ble 44 f) (bif_ (Nat.ble 51 f) (bif_ (Nat.ble 55 f) (bif_ (Nat.ble 57 f) (bif_ (Nat.ble 58 f) [0, 1, 2, 3, 8, 9, 18] [0, 1, 2, 3, 8, 9, 18]) (bif_ (Nat.ble 56 f) [0, 2] [0, 1, 2, 3, 4, 10])) (bif_ (Nat.ble 53 f) (bif_ (Nat.ble 54 f) [0, 1, 2, 6] [0, 1, 2, 3, 8, 9, 16, 36, 52]) (bif_ (Nat.ble 52 f) [0, 2] [0, 1, 2, 3, 4, 10]))) (bif_ (Nat.ble 47 f) (bif_ (Nat.ble 49 f) (bif_ (Nat.ble 50 f) [0, 1, 2, 6] [0, 2]) (bif_ (Nat.ble 48 f) [0, 2] [0, 1, 2, 3, 8, 9, 16, 36, 52])) (bif_ (Nat.ble 45 f) (bif_ (Nat.ble 46 f) [0, 1, 2, 3, 8, 9, 10, 11, 43, 60, 65, 112, 129, 134] [0, 1, 2, 3, 8, 9, 10, 43, 59, 64]) [0, 1, 4]))) (bif_ (Nat.ble 36 f) (bif_ (Nat.ble 40 f) (bif_ (Nat.ble 42 f) (bif_ (Nat.ble 43 f) [0, 1, 2, 6, 7, 8, 9, 10, 14, 32, 37, 41, 61, 65, 78, 98, 103, 116] [0, 1, 2, 6, 7, 13]) (bif_ (Nat.ble 41 f) [0, 1, 2, 6, 7, 8, 9, 10, 11, 12, 32, 34, 49, 51, 54] [0, 1, 2, 6, 7, 8, 9, 10, 15, 33, 43])) (bif_ (Nat.ble 38 f) (bif_ (Nat.ble 39 f) [0, 1, 2, 6, 7, 8, 9, 10, 19, 30] [0, 1, 2, 6, 7, 12, 30]) (bif_ (Nat.ble 37 f) [0, 2, 4, 8, 14] [0, 2, 4, 8]))) (bif_ (Nat.ble 32 f) (bif_ (Nat.ble 34 f) (bif_ (Nat.ble 35 f) [0, 1, 2, 3, 8, 9, 10, 11, 43, 60, 65, 112, 129, 134] [0, 1, 2, 3, 8, 9, 10, 43, 59, 64]) (bif_ (Nat.ble 33 f) [0, 1, 4] [0, 1, 2, 6, 7, 8, 9, 10, 14, 32, 37, 41, 61, 65, 78, 98, 103, 116])) (bif_ (Nat.ble 30 f) (bif_ (Nat.ble 31 f) [0, 1, 2, 6, 7, 13] [0, 1, 2, 6, 7, 8, 9, 10, 11, 12, 32, 34, 49, 51, 54]) [0, 1, 2, 6, 7, 8, 9, 10, 15, 33, 43])))) (bif_ (Nat.ble 14 f) (bif_ (Nat.ble 21 f) (bif_ (Nat.ble 25 f) (bif_ (Nat.ble 27 f) (bif_ (Nat.ble 28 f) [0, 1, 2, 6, 7, 8, 9, 10, 19, 30] [0, 1, 2, 6, 7, 12, 30]) (bif_ (Nat.ble 26 f) [0, 1, 2, 3, 8, 9, 10, 11, 12, 13, 14, 15, 16, 17, 18, 23, 29, 35, 50, 68, 72, 87, 113] [0, 1, 4, 5, 7, 8, 9, 16])) (bif_ (Nat.ble 23 f) (bif_ (Nat.ble 24 f) [0, 1, 4, 5, 7, 8, 9, 16] [0, 2]) (bif_ (Nat.ble 22 f) [0, 1, 2, 3, 8, 9, 10, 11, 12, 13, 14, 15, 16, 17, 18, 23, 29, 35, 50, 68, 72, 87, 113] [0, 2]))) (bif_ (Nat.ble 17 f) (bif_ (Nat.ble 19 f) (bif_ (Nat.ble 20 f) [0, 1, 3] [0, 1, 4, 5, 6, 7, 12, 19, 29]) (bif_ (Nat.ble 18 f) [0, 1, 4] [0, 2])) (bif_ (Nat.ble 15 f) (bif_ (Nat.ble 16 f) [0, 2, 4] [0, 1, 4, 5, 7, 8, 11, 12, 13, 14, 15, 21]) [0, 1, 4, 5, 7, 8, 9, 10, 11, 16]))) (bif_ (Nat.ble 7 f) (bif_ (Nat.ble 10 f) (bif_ (Nat.ble 12 f) (bif_ (Nat.ble 13 f) [0, 2, 3, 5, 8, 9, 10, 11, 12] [0, 2, 3, 4, 5, 7, 8, 9, 22]) (bif_ (Nat.ble 11 f) [0, 1, 4, 5, 6, 8, 17] [0, 1, 4, 5, 10, 14, 25])) (bif_ (Nat.ble 8 f) (bif_ (Nat.ble 9 f) [0, 1, 3, 4, 5, 6, 24] [0, 1, 4]) [0, 1, 4, 5, 6, 21])) (bif_ (Nat.ble 3 f) (bif_ (Nat.ble 5 f) (bif_ (Nat.ble 6 f) [0, 2, 3, 4, 5, 6, 7, 8, 30] [0, 2, 3, 4, 6, 14]) (bif_ (Nat.ble 4 f) [0, 1, 2, 3, 4] [0, 1, 4, 5, 6, 7, 8, 9, 10, 13, 18, 34])) []))))

theorem ElemInfo.mk3 : ∃ i, Try.prog.info? 3 = some i ∧ i.size = 1 ∧ i.bytes = 8 ∧ (i.zero.map fun z => z.cells.size) = some 1 := elemInfo (by kernel_rfl)
theorem zf3 : ∃ i z, Try.prog.info? 3 = some i ∧ i.zero = some z ∧ z.cells.toList.all flat = true := zeroFlat (by kernel_rfl)
theorem el23 : elemIs Try.prog 23 1 = true := by kernel_rfl
theorem ent10 : enters Try.prog 10 = true := by kernel_rfl
theorem ent11 : enters Try.prog 11 = true := by kernel_rfl
theorem ent16 : enters Try.prog 16 = true := by kernel_rfl
theorem ent17 : enters Try.prog 17 = true := by kernel_rfl
theorem ent18 : enters Try.prog 18 = true := by kernel_rfl
theorem ent19 : enters Try.prog 19 = true := by kernel_rfl
theorem ent20 : enters Try.prog 20 = true := by kernel_rfl
theorem ent22 : enters Try.prog 22 = true := by kernel_rfl
theorem ent23 : enters Try.prog 23 = true := by kernel_rfl
theorem ent24 : enters Try.prog 24 = true := by kernel_rfl
theorem ent25 : enters Try.prog 25 = true := by kernel_rfl
theorem ent27 : enters Try.prog 27 = true := by kernel_rfl
theorem ent33 : enters Try.prog 33 = true := by kernel_rfl
theorem ent4 : enters Try.prog 4 = true := by kernel_rfl
theorem ent5 : enters Try.prog 5 = true := by kernel_rfl
theorem ent52 : enters Try.prog 52 = true := by kernel_rfl
theorem ent6 : enters Try.prog 6 = true := by kernel_rfl
theorem ent7 : enters Try.prog 7 = true := by kernel_rfl
theorem ent8 : enters Try.prog 8 = true := by kernel_rfl
theorem ent9 : enters Try.prog 9 = true := by kernel_rfl
theorem eok23 : ElemOk Try.prog 23 3 1 8 := ⟨Try.underlying23, ElemInfo.mk3⟩
theorem isbool4 : isBoolT Try.prog 4 = true := by kernel_rfl
theorem isrow23 : isRow Try.prog (some 23) = true := by kernel_rfl
theorem one3 : oneB Try.prog 3 = true := by kernel_rfl
theorem size3 : sizeIs Try.prog 3 1 = true := by kernel_rfl
theorem zero3 : ZeroIs Try.prog 3 [.int .i64 0] := ⟨.int .i64 0, by kernel_rfl, rfl, rfl, rfl⟩
theorem law20_begun_ran : okF (runF Try.prog X0 1000 40 4 [] Hp.nil) = true := by kernel_rfl
theorem law20_begun_spec (H : Heap) : ∃ v H', Spec Try.prog 4 [] H v H' ∧ (v = .bool true ∧ H' = H) := ⟨_, _, okF_any mixed law20_begun_ran H, rfl, rfl⟩
theorem law20_set_spec (H : Heap) (bits : Int) (hbits : -9223372036854775808 ≤ bits ∧ bits ≤ 9223372036854775807) : ∃ v H', Spec Try.prog 5 [.int .i64 bits] H v H' ∧ (∃ rA0 rc0, (v = .slice rA0 ((Spec.setN (fun (j : Nat) => Int.tmod (Spec.shr .i64 bits (j : Int)) 2 ≠ 0) 7).length) rc0) ∧ (My H H' rA0 rc0 1 ((Spec.setN (fun (j : Nat) => Int.tmod (Spec.shr .i64 bits (j : Int)) 2 ≠ 0) 7).map i64c)) ∧ (((Spec.setN (fun (j : Nat) => Int.tmod (Spec.shr .i64 bits (j : Int)) 2 ≠ 0) 7)).length ≤ 7) ∧ (Ext H H')) := by
  refine spec_go1 E0_ok 21 (f := 5) Try.func5 rfl rfl rfl ?_
  refine aw_seq ?_
  refine aw_reg ?_
  refine st_op (ev_assign rfl) rfl rfl rfl ?_
  try show aw _ _ _ _ _ _
  refine aw_seq ?_
  refine aw_reg ?_
  refine st_op (ev_assign rfl) rfl rfl rfl ?_
  try show aw _ _ _ _ _ _
  refine aw_seq ?_
  refine aw_seq ?_
  refine aw_reg ?_
  refine st_op (ev_assign rfl) rfl rfl rfl ?_
  try show aw _ _ _ _ _ _
  refine aw_block ?_
  have hm2 : My H H none 0 1 (([] : List Int).map i64c) := .nil
  refine aw_keep [0, 3, 4] (l' := (.cons 0 (.int .i64 bits) (.cons 3 (.slice none 0 0) (.cons 4 (.int .i64 0) .nil)))) (by repeat (first | exact Up.done | refine Up.then ?_ | refine Up.inBlock ?_)) rfl ?_
  refine aw_iter (α := Nat × Option Addr × Nat × List Int × Heap) (fun a => 7 - a.1) (fun a => (.cons 0 (.int .i64 bits) (.cons 3 (.slice a.2.1 a.2.2.2.1.length a.2.2.1) (.cons 4 (.int .i64 (a.1 : Int)) .nil)))) (fun a => a.2.2.2.2) (fun a => (a.1 ≤ 7) ∧ (a.2.2.2.1 = Spec.setN (fun (j : Nat) => Int.tmod (Spec.shr .i64 bits (j : Int)) 2 ≠ 0) a.1) ∧ (a.2.2.2.1.length ≤ a.1) ∧ (My H a.2.2.2.2 a.2.1 a.2.2.1 1 (a.2.2.2.1.map i64c)) ∧ (Ext H a.2.2.2.2)) (0, none, 0, ([] : List Int), H) ⟨(show 0 ≤ 7 from Nat.zero_le _), (show ([] : List Int) = Spec.setN (fun (j : Nat) => Int.tmod (Spec.shr .i64 bits (j : Int)) 2 ≠ 0) 0 from rfl), (show ([] : List Int).length ≤ 0 from Nat.le_refl _), (show My H H none 0 1 (([] : List Int).map i64c) from hm2), (show Ext H H from (Ext.refl H))⟩ ?_
  rintro ⟨i, A, cp, l, Hl1⟩ ⟨hi, hv, hll, hm3, hxl4⟩ ih5
  replace hi : i ≤ 7 := hi
  replace hv : l = Spec.setN (fun (j : Nat) => Int.tmod (Spec.shr .i64 bits (j : Int)) 2 ≠ 0) i := hv
  replace hll : l.length ≤ i := hll
  replace hm3 : My H Hl1 A cp 1 (l.map i64c) := hm3
  replace hxl4 : Ext H Hl1 := hxl4
  show aw _ _ _ (RL _ (.cons 0 (.int .i64 bits) (.cons 3 (.slice A l.length cp) (.cons 4 (.int .i64 (i : Int)) .nil)))) Hl1 _
  have Hl1n : H.next ≤ Hl1.next := hxl4.1
  refine aw_seq ?_
  refine aw_seq ?_
  refine aw_reg ?_
  refine st_op (ev_move rfl) rfl rfl rfl ?_
  refine st_op (ev_int rfl rfl rfl) rfl rfl rfl ?_
  try show aw _ _ _ _ _ _
  by_cases hc6 : (decide ((i : Int) < 7)) = true
  · refine aw_condT hc6 rfl ?_
    try show aw _ _ _ _ _ _
    have hc6 := of_decide_eq_true hc6
    refine aw_skip ?_
    try show aw _ _ _ _ _ _
    refine aw_seq ?_
    refine aw_block ?_
    refine aw_seq ?_
    refine aw_reg ?_
    refine st_op (ev_move rfl) rfl rfl rfl ?_
    refine st_op (ev_move rfl) rfl rfl rfl ?_
    refine st_op (ev_convI Try.underlying3 Try.underlying35 rfl (wrU64 (by omega) (by omega))) rfl rfl rfl ?_
    have hw7 : -9223372036854775808 ≤ (Spec.shr .i64 bits (i : Int)) ∧ (Spec.shr .i64 bits (i : Int)) ≤ 9223372036854775807 := Spec.shr_rng (by omega) (by decide) (by decide)
    refine st_op (ev_shrV rfl rfl (by omega)) rfl rfl rfl ?_
    have ht8 : -2 < Int.tmod (Spec.shr .i64 bits (i : Int)) 2 ∧ Int.tmod (Spec.shr .i64 bits (i : Int)) 2 < 2 := tmod_bd (Spec.shr .i64 bits (i : Int)) (by decide)
    refine st_op (ev_rem (b := 2) rfl rfl (by decide)) rfl rfl rfl ?_
    refine st_op (ev_int rfl rfl rfl) rfl rfl rfl ?_
    try show aw _ _ _ _ _ _
    by_cases hc9 : ((Int.tmod (Spec.shr .i64 bits (i : Int)) 2) != 0) = true
    · refine aw_condT hc9 rfl ?_
      try show aw _ _ _ _ _ _
      have hc9 : ¬ ((Int.tmod (Spec.shr .i64 bits (i : Int)) 2) = 0) := by simpa using hc9
      refine aw_reg ?_
      refine st_op (ev_move rfl) rfl rfl rfl ?_
      refine st_op (ev_move rfl) rfl rfl rfl ?_
      refine st_op (ev_int64 (c := (i : Int) + 1) rfl rfl rfl (by omega) (by omega)) rfl rfl rfl ?_
      obtain ⟨b10, H11, he12, b10e, H11n_, hm14, f13⟩ := mem_lit Hl1 (xs := ([.int .i64 ((i : Int) + 1)] : List Value)) (m := 1) (rows := [[.int .i64 ((i : Int) + 1)]]) rfl eok23 (by decide) (by decide) zf3 rfl (allLen rfl) rfl
      replace hm14 : My Hl1 H11 (some ⟨b10, 0, none⟩) 1 1 ([(i : Int) + 1].map i64c) := hm14
      refine st_op (he12 _ _ _ _ _ _ _ _ rfl) rfl rfl rfl ?_
      have hx15 : Ext Hl1 H11 := Ext.new (by omega) H11n_ f13
      have H11n : Hl1.next ≤ H11.next := hx15.1
      have h16 := My.ext hm3 hx15
      obtain ⟨A17, c18, H19, W20, he21, hm22, hf23⟩ := mem_append (f := i64c) (old := l) (new := [(i : Int) + 1]) (m := l.length) (mx := 1) (c := cp) (by first | rfl | simp) (by first | rfl | simp) eok23 (by decide) hm3 h16 (by omega) (((My.row hm14)).srcF (by decide) (by first | rfl | simp)) rfl i64c_len i64c_one (by first | omega | (simp only [List.length_append, List.length_cons, List.length_nil, List.length_map, List.length_set, List.length_replicate, Spec.bytesOf_length]; omega) | (simp; omega)) (by first | omega | (simp only [List.length_append, List.length_cons, List.length_nil, List.length_map, List.length_set, List.length_replicate, Spec.bytesOf_length]; omega) | (simp; omega))
      refine st_op (he21 _ _ _ _ _ _ _ _ _ _ rfl rfl isrow23) rfl rfl rfl ?_
      have H19n : H11.next ≤ H19.next := hf23.1
      have hl24 : (l ++ [(i : Int) + 1]).length = l.length + 1 := by simp
      refine st_op (ev_assign rfl) rfl rfl rfl ?_
      try show aw _ _ _ _ _ _
      refine aw_reg ?_
      refine st_op (ev_move rfl) rfl rfl rfl ?_
      refine st_op (ev_int64 (c := (i : Int) + 1) rfl rfl rfl (by omega) (by omega)) rfl rfl rfl ?_
      refine st_op (ev_assign rfl) rfl rfl rfl ?_
      try show aw _ _ _ _ _ _
      have hx25 : Ext H H19 := (Ext.then (Ext.trans hxl4 hx15) hf23 (fun q hq e => by omega))
      refine aw_keep [0, 3, 4] (l' := (.cons 0 (.int .i64 bits) (.cons 3 (.slice A17 ((l ++ [(i : Int) + 1]).length) c18) (.cons 4 (.int .i64 ((i : Int) + 1)) .nil)))) (by repeat (first | exact Up.done | refine Up.then ?_ | refine Up.inBlock ?_)) rfl ?_
      exact ih5 (i + 1, A17, c18, (l ++ [(i : Int) + 1]), H19) ⟨(show (i + 1) ≤ 7 from (by omega)), (show (l ++ [(i : Int) + 1]) = Spec.setN (fun (j : Nat) => Int.tmod (Spec.shr .i64 bits (j : Int)) 2 ≠ 0) (i + 1) from (by rw [Spec.setN, ← hv]; first | rw [if_pos (by assumption)] | (rw [if_neg (fun h => h (by assumption)), List.append_nil]))), (show (l ++ [(i : Int) + 1]).length ≤ (i + 1) from (by first | omega | (rw [List.length_append]; simp; omega))), (show My H H19 A17 c18 1 ((l ++ [(i : Int) + 1]).map i64c) from hm22), (show Ext H H19 from hx25)⟩ (by simp only; omega)
    · rw [Bool.not_eq_true] at hc9; refine aw_condF hc9 rfl ?_
      try show aw _ _ _ _ _ _
      have hc9 : ((Int.tmod (Spec.shr .i64 bits (i : Int)) 2) = 0) := by simpa using hc9
      refine aw_skip ?_
      try show aw _ _ _ _ _ _
      refine aw_reg ?_
      refine st_op (ev_move rfl) rfl rfl rfl ?_
      refine st_op (ev_int64 (c := (i : Int) + 1) rfl rfl rfl (by omega) (by omega)) rfl rfl rfl ?_
      refine st_op (ev_assign rfl) rfl rfl rfl ?_
      try show aw _ _ _ _ _ _
      refine aw_keep [0, 3, 4] (l' := (.cons 0 (.int .i64 bits) (.cons 3 (.slice A l.length cp) (.cons 4 (.int .i64 ((i : Int) + 1)) .nil)))) (by repeat (first | exact Up.done | refine Up.then ?_ | refine Up.inBlock ?_)) rfl ?_
      exact ih5 (i + 1, A, cp, l, Hl1) ⟨(show (i + 1) ≤ 7 from (by omega)), (show l = Spec.setN (fun (j : Nat) => Int.tmod (Spec.shr .i64 bits (j : Int)) 2 ≠ 0) (i + 1) from (by rw [Spec.setN, ← hv]; first | rw [if_pos (by assumption)] | (rw [if_neg (fun h => h (by assumption)), List.append_nil]))), (show l.length ≤ (i + 1) from (by first | omega | (rw [List.length_append]; simp; omega))), (show My H Hl1 A cp 1 (l.map i64c) from hm3), (show Ext H Hl1 from hxl4)⟩ (by simp only; omega)
  · rw [Bool.not_eq_true] at hc6; refine aw_condF hc6 rfl ?_
    try show aw _ _ _ _ _ _
    have hc6 := of_decide_eq_false hc6
    refine aw_exit ?_
    try show aw _ _ _ _ _ _
    refine aw_seq ?_
    refine aw_reg ?_
    refine st_op (ev_move rfl) rfl rfl rfl ?_
    refine st_op (ev_assign rfl) rfl rfl rfl ?_
    try show aw _ _ _ _ _ _
    refine aw_ret ?_
    have hres : (Spec.setN (fun (j : Nat) => Int.tmod (Spec.shr .i64 bits (j : Int)) 2 ≠ 0) 7) = l := by rw [hv, show i = 7 by omega]
    exact ⟨.slice A l.length cp, rfl, A, cp, by rw [hres]; first | done | rfl | simp, (by rw [hres]; exact hm3), (by rw [hres]; omega), hxl4⟩
theorem conf_May_spec (H : Heap) (lA : Option Addr) (l : List Int) (lc : Nat) (hl : Row H lA lc 1 (l.map i64c)) (cl : l.length ≤ lc) (ll : l.length ≤ 274877906944) : ∃ v H', Spec Try.prog 6 [.slice lA l.length lc] H v H' ∧ ((v = .bool (Spec.mayC l)) ∧ (Ext H H')) := by
  refine spec_go1 E0_ok 35 (f := 6) Try.func6 rfl rfl rfl ?_
  refine aw_seq ?_
  refine aw_reg ?_
  refine st_op (ev_assign rfl) rfl rfl rfl ?_
  try show aw _ _ _ _ _ _
  refine aw_seq ?_
  refine aw_seq ?_
  refine aw_reg ?_
  refine st_op (ev_move rfl) rfl rfl rfl ?_
  refine st_op (ev_lenSl rfl Try.underlying23) rfl rfl rfl ?_
  refine st_op (ev_move rfl) rfl rfl rfl ?_
  try show aw _ _ _ _ _ _
  refine aw_block ?_
  refine aw_keep [0, 5, 6, 7] (l' := (.cons 0 (.slice lA l.length lc) (.cons 5 (.slice lA l.length lc) (.cons 6 (.int .i64 (l.length : Int)) (.cons 7 (.int .i64 0) .nil))))) (by repeat (first | exact Up.done | refine Up.then ?_ | refine Up.inBlock ?_)) rfl ?_
  refine aw_iter (α := Nat × Int × Heap) (fun a => l.length - a.1) (fun a => (.cons 0 (.slice lA l.length lc) (.cons 5 (.slice lA l.length lc) (.cons 6 (.int .i64 (l.length : Int)) (.cons 7 (.int .i64 (a.1 : Int)) .nil))))) (fun a => a.2.2) (fun a => (a.1 ≤ l.length) ∧ (Spec.upF 0 l = Spec.upF a.2.1 (l.drop a.1)) ∧ ((a.1 = 0 → a.2.1 = 0) ∧ (0 < a.1 → l[a.1 - 1]? = some a.2.1)) ∧ (Ext H a.2.2)) (0, (0 : Int), H) ⟨(show 0 ≤ l.length from Nat.zero_le _), (show Spec.upF 0 l = Spec.upF (0 : Int) (l.drop 0) from rfl), (show (0 = 0 → (0 : Int) = 0) ∧ (0 < 0 → l[0 - 1]? = some (0 : Int)) from ⟨fun _ => rfl, fun h => absurd h (by decide)⟩), (show Ext H H from (Ext.refl H))⟩ ?_
  rintro ⟨i, pv, Hl1⟩ ⟨hi, hv, hpv, hxl2⟩ ih3
  replace hi : i ≤ l.length := hi
  replace hv : Spec.upF 0 l = Spec.upF pv (l.drop i) := hv
  replace hpv : (i = 0 → pv = 0) ∧ (0 < i → l[i - 1]? = some pv) := hpv
  replace hxl2 : Ext H Hl1 := hxl2
  show aw _ _ _ (RL _ (.cons 0 (.slice lA l.length lc) (.cons 5 (.slice lA l.length lc) (.cons 6 (.int .i64 (l.length : Int)) (.cons 7 (.int .i64 (i : Int)) .nil))))) Hl1 _
  have Hl1n : H.next ≤ Hl1.next := hxl2.1
  refine aw_seq ?_
  refine aw_reg ?_
  refine st_op (ev_int rfl rfl rfl) rfl rfl rfl ?_
  try show aw _ _ _ _ _ _
  refine aw_seq ?_
  by_cases hc4 : (decide ((i : Int) < (l.length : Int))) = true
  · refine aw_condT hc4 rfl ?_
    try show aw _ _ _ _ _ _
    have hc4 := of_decide_eq_true hc4
    refine aw_skip ?_
    try show aw _ _ _ _ _ _
    refine aw_seq ?_
    refine aw_block ?_
    refine aw_seq ?_
    refine aw_reg ?_
    refine st_op (ev_move rfl) rfl rfl rfl ?_
    have h5 := Row.ext hl hxl2
    have hi6 : 0 ≤ ((i : Int) : Int) := by omega
    have hi7 : ((i : Int) : Int) < ((l.length : Nat) : Int) := by first | omega | (simp only [List.length_append, List.length_cons, List.length_nil, List.length_map, List.length_set, List.length_replicate, Spec.bytesOf_length]; omega) | (simp; omega)
    obtain ⟨x8, hx9⟩ : ∃ e, l[i]? = some e := ⟨_, List.getElem?_eq_getElem (by first | omega | (simp only [List.length_append, List.length_cons, List.length_nil, List.length_map, List.length_set, List.length_replicate, Spec.bytesOf_length]; omega) | (simp; omega))⟩
    refine st_op (ev_at rfl rfl h5 (getMap i64c hx9) (by first | rfl | omega | simp) hi6 hi7 el23) rfl rfl rfl ?_
    refine st_op (ev_atL rfl h5 (getMap i64c hx9) one3 rfl) rfl rfl rfl ?_
    refine st_op (ev_assign rfl) rfl rfl rfl ?_
    refine st_op (ev_assign rfl) rfl rfl rfl ?_
    try show aw _ _ _ _ _ _
    refine aw_seq ?_
    refine aw_reg ?_
    refine st_op (ev_move rfl) rfl rfl rfl ?_
    refine st_op (ev_int rfl rfl rfl) rfl rfl rfl ?_
    refine st_op (ev_move rfl) rfl rfl rfl ?_
    refine st_bool 14 rfl (fun hb10 => ?_) (fun hb10 => ?_)
    ·
      have hb10 := of_decide_eq_true hb10
      refine st_skip rfl rfl rfl ?_
      refine st_skip rfl rfl rfl ?_
      refine st_op (ev_pickT rfl rfl) rfl rfl rfl ?_
      refine st_op (ev_move rfl) rfl rfl rfl ?_
      refine st_skip rfl rfl rfl ?_
      refine st_skip rfl rfl rfl ?_
      refine st_skip rfl rfl rfl ?_
      refine st_skip rfl rfl rfl ?_
      refine st_skip rfl rfl rfl ?_
      refine st_skip rfl rfl rfl ?_
      refine st_skip rfl rfl rfl ?_
      refine st_skip rfl rfl rfl ?_
      refine st_skip rfl rfl rfl ?_
      refine st_skip rfl rfl rfl ?_
      refine st_skip rfl rfl rfl ?_
      refine st_op (ev_pickT rfl rfl) rfl rfl rfl ?_
      try show aw _ _ _ _ _ _
      refine aw_cond (t := true) rfl ?_
      try show aw _ _ _ _ _ _
      refine aw_seq ?_
      refine aw_reg ?_
      refine st_op (ev_assign rfl) rfl rfl rfl ?_
      try show aw _ _ _ _ _ _
      refine aw_ret ?_
      have hres : (Spec.mayC l) = false := by unfold Spec.mayC; rw [hv, drop_at hx9, Spec.upF, if_pos (by omega)]; rfl
      exact ⟨.bool false, rfl, by rw [hres], hxl2⟩
    ·
      have hb10 := of_decide_eq_false hb10
      refine st_op (ev_move rfl) rfl rfl rfl ?_
      refine st_op (ev_int rfl rfl rfl) rfl rfl rfl ?_
      refine st_op (ev_pickF rfl rfl) rfl rfl rfl ?_
      refine st_op (ev_move rfl) rfl rfl rfl ?_
      refine st_bool 18 rfl (fun hb11 => ?_) (fun hb11 => ?_)
      ·
        have hb11 := of_decide_eq_true hb11
        refine st_skip rfl rfl rfl ?_
        refine st_skip rfl rfl rfl ?_
        refine st_skip rfl rfl rfl ?_
        refine st_skip rfl rfl rfl ?_
        refine st_skip rfl rfl rfl ?_
        refine st_skip rfl rfl rfl ?_
        refine st_skip rfl rfl rfl ?_
        refine st_skip rfl rfl rfl ?_
        refine st_skip rfl rfl rfl ?_
        refine st_skip rfl rfl rfl ?_
        refine st_skip rfl rfl rfl ?_
        refine st_op (ev_pickT rfl rfl) rfl rfl rfl ?_
        try show aw _ _ _ _ _ _
        refine aw_cond (t := true) rfl ?_
        try show aw _ _ _ _ _ _
        refine aw_seq ?_
        refine aw_reg ?_
        refine st_op (ev_assign rfl) rfl rfl rfl ?_
        try show aw _ _ _ _ _ _
        refine aw_ret ?_
        have hres : (Spec.mayC l) = false := by unfold Spec.mayC; rw [hv, drop_at hx9, Spec.upF, if_pos (by omega)]; rfl
        exact ⟨.bool false, rfl, by rw [hres], hxl2⟩
      ·
        have hb11 := of_decide_eq_false hb11
        refine st_op (ev_move rfl) rfl rfl rfl ?_
        refine st_op (ev_int rfl rfl rfl) rfl rfl rfl ?_
        refine st_op (ev_move rfl) rfl rfl rfl ?_
        refine st_bool 21 rfl (fun hb12 => ?_) (fun hb12 => ?_)
        ·
          have hb12 := of_decide_eq_true hb12
          refine st_op (ev_move rfl) rfl rfl rfl ?_
          refine st_op (ev_move rfl) rfl rfl rfl ?_
          refine st_op (ev_int64 (c := (i : Int) - 1) rfl rfl rfl (by omega) (by omega)) rfl rfl rfl ?_
          have hi13 : 0 ≤ ((i : Int) - 1 : Int) := by omega
          have hi14 : ((i : Int) - 1 : Int) < ((l.length : Nat) : Int) := by first | omega | (simp only [List.length_append, List.length_cons, List.length_nil, List.length_map, List.length_set, List.length_replicate, Spec.bytesOf_length]; omega) | (simp; omega)
          obtain ⟨x15, hx16⟩ : ∃ e, l[(((i : Int) - 1)).toNat]? = some e := ⟨_, List.getElem?_eq_getElem (by first | omega | (simp only [List.length_append, List.length_cons, List.length_nil, List.length_map, List.length_set, List.length_replicate, Spec.bytesOf_length]; omega) | (simp; omega))⟩
          have x15p : x15 = pv := by have q := hpv.2 (by omega); rw [show (((((i : Int) - 1)).toNat) : Nat) = i - 1 by omega] at hx16; rw [hx16] at q; cases q; rfl
          refine st_op (ev_at rfl rfl h5 (getMap i64c hx16) (by first | rfl | omega | simp) hi13 hi14 el23) rfl rfl rfl ?_
          refine st_op (ev_atL rfl h5 (getMap i64c hx16) one3 rfl) rfl rfl rfl ?_
          refine st_op (ev_move rfl) rfl rfl rfl ?_
          refine st_op (ev_int rfl rfl rfl) rfl rfl rfl ?_
          refine st_op (ev_pickT rfl rfl) rfl rfl rfl ?_
          refine st_op (ev_pickF rfl rfl) rfl rfl rfl ?_
          try show aw _ _ _ _ _ _
          by_cases hc17 : (decide (x15 ≥ x8)) = true
          · refine aw_condT hc17 rfl ?_
            try show aw _ _ _ _ _ _
            have hc17 := of_decide_eq_true hc17
            refine aw_seq ?_
            refine aw_reg ?_
            refine st_op (ev_assign rfl) rfl rfl rfl ?_
            try show aw _ _ _ _ _ _
            refine aw_ret ?_
            have hres : (Spec.mayC l) = false := by unfold Spec.mayC; rw [hv, drop_at hx9, Spec.upF, if_pos (by omega)]; rfl
            exact ⟨.bool false, rfl, by rw [hres], hxl2⟩
          · rw [Bool.not_eq_true] at hc17; refine aw_condF hc17 rfl ?_
            try show aw _ _ _ _ _ _
            have hc17 := of_decide_eq_false hc17
            refine aw_skip ?_
            try show aw _ _ _ _ _ _
            refine aw_reg ?_
            refine st_op (ev_int64 (c := (i : Int) + 1) rfl rfl rfl (by omega) (by omega)) rfl rfl rfl ?_
            refine st_op (ev_move rfl) rfl rfl rfl ?_
            try show aw _ _ _ _ _ _
            refine aw_keep [0, 5, 6, 7] (l' := (.cons 0 (.slice lA l.length lc) (.cons 5 (.slice lA l.length lc) (.cons 6 (.int .i64 (l.length : Int)) (.cons 7 (.int .i64 ((i : Int) + 1)) .nil))))) (by repeat (first | exact Up.done | refine Up.then ?_ | refine Up.inBlock ?_)) rfl ?_
            exact ih3 (i + 1, x8, Hl1) ⟨(show (i + 1) ≤ l.length from (by omega)), (show Spec.upF 0 l = Spec.upF x8 (l.drop (i + 1)) from (by rw [hv, drop_at hx9, Spec.upF, if_neg (by omega)])), (show ((i + 1) = 0 → x8 = 0) ∧ (0 < (i + 1) → l[(i + 1) - 1]? = some x8) from ⟨fun h => absurd h (by omega), fun _ => by rw [Nat.add_sub_cancel]; exact hx9⟩), (show Ext H Hl1 from hxl2)⟩ (by simp only; omega)
        ·
          have hb12 := of_decide_eq_false hb12
          refine st_skip rfl rfl rfl ?_
          refine st_skip rfl rfl rfl ?_
          refine st_skip rfl rfl rfl ?_
          refine st_skip rfl rfl rfl ?_
          refine st_skip rfl rfl rfl ?_
          refine st_skip rfl rfl rfl ?_
          refine st_skip rfl rfl rfl ?_
          refine st_op (ev_pickF rfl rfl) rfl rfl rfl ?_
          refine st_op (ev_pickF rfl rfl) rfl rfl rfl ?_
          try show aw _ _ _ _ _ _
          refine aw_cond (t := false) rfl ?_
          try show aw _ _ _ _ _ _
          refine aw_skip ?_
          try show aw _ _ _ _ _ _
          refine aw_reg ?_
          refine st_op (ev_int64 (c := (i : Int) + 1) rfl rfl rfl (by omega) (by omega)) rfl rfl rfl ?_
          refine st_op (ev_move rfl) rfl rfl rfl ?_
          try show aw _ _ _ _ _ _
          refine aw_keep [0, 5, 6, 7] (l' := (.cons 0 (.slice lA l.length lc) (.cons 5 (.slice lA l.length lc) (.cons 6 (.int .i64 (l.length : Int)) (.cons 7 (.int .i64 ((i : Int) + 1)) .nil))))) (by repeat (first | exact Up.done | refine Up.then ?_ | refine Up.inBlock ?_)) rfl ?_
          exact ih3 (i + 1, x8, Hl1) ⟨(show (i + 1) ≤ l.length from (by omega)), (show Spec.upF 0 l = Spec.upF x8 (l.drop (i + 1)) from (by rw [hv, drop_at hx9, Spec.upF, if_neg (by have := hpv.1 (by omega); omega)])), (show ((i + 1) = 0 → x8 = 0) ∧ (0 < (i + 1) → l[(i + 1) - 1]? = some x8) from ⟨fun h => absurd h (by omega), fun _ => by rw [Nat.add_sub_cancel]; exact hx9⟩), (show Ext H Hl1 from hxl2)⟩ (by simp only; omega)
  · rw [Bool.not_eq_true] at hc4; refine aw_condF hc4 rfl ?_
    try show aw _ _ _ _ _ _
    have hc4 := of_decide_eq_false hc4
    refine aw_exit ?_
    try show aw _ _ _ _ _ _
    refine aw_seq ?_
    refine aw_reg ?_
    refine st_op (ev_move rfl) rfl rfl rfl ?_
    refine st_op (ev_lenSl rfl Try.underlying23) rfl rfl rfl ?_
    refine st_op (ev_int rfl rfl rfl) rfl rfl rfl ?_
    refine st_op (ev_assign rfl) rfl rfl rfl ?_
    try show aw _ _ _ _ _ _
    refine aw_ret ?_
    have hres : (Spec.mayC l) = (decide ((l.length : Int) > 0)) := by unfold Spec.mayC; rw [hv, List.drop_eq_nil_of_le (by omega)]; simp [Spec.upF]
    exact ⟨.bool (decide ((l.length : Int) > 0)), rfl, by rw [hres], hxl2⟩
theorem sl_Clone_spec (H : Heap) (lA : Option Addr) (l : List Int) (lc : Nat) (hl : Row H lA lc 1 (l.map i64c)) (cl : l.length ≤ lc) (ll : l.length ≤ 137438953472) : ∃ v H', Spec Try.prog 16 [.slice lA l.length lc] H v H' ∧ (∃ rA0 rc0, (v = .slice rA0 l.length rc0) ∧ (My H H' rA0 rc0 1 (l.map i64c)) ∧ (Ext H H')) := by
  refine spec_go1 E0_ok 8 (f := 16) Try.func16 rfl rfl rfl ?_
  refine aw_seq ?_
  refine aw_reg ?_
  refine st_op (ev_assign rfl) rfl rfl rfl ?_
  try show aw _ _ _ _ _ _
  refine aw_seq ?_
  refine aw_seq ?_
  refine aw_reg ?_
  refine st_op (ev_move rfl) rfl rfl rfl ?_
  refine st_op (ev_nilSl rfl rfl Try.underlying23) rfl rfl rfl ?_
  try show aw _ _ _ _ _ _
  by_cases hc1 : (Option.isNone lA) = true
  · refine aw_condT hc1 rfl ?_
    try show aw _ _ _ _ _ _
    refine aw_seq ?_
    refine aw_reg ?_
    refine st_op (ev_assign rfl) rfl rfl rfl ?_
    try show aw _ _ _ _ _ _
    refine aw_ret ?_
    have hm2 : My H H none 0 1 (([] : List Int).map i64c) := .nil
    have hres : l = ([] : List Int) := by exact Row.isNone hl (by assumption)
    exact ⟨.slice none 0 0, rfl, none, 0, by rw [hres]; first | done | rfl | simp, (by rw [hres]; exact hm2), (Ext.refl H)⟩
  · rw [Bool.not_eq_true] at hc1; refine aw_condF hc1 rfl ?_
    try show aw _ _ _ _ _ _
    refine aw_skip ?_
    try show aw _ _ _ _ _ _
    refine aw_seq ?_
    refine aw_reg ?_
    obtain ⟨b3, H4, he5, b3e, H4n_, hm7, f6⟩ := mem_lit H (xs := ([] : List Value)) (m := 0) (rows := ([] : List (List Value))) rfl eok23 (by decide) (by decide) zf3 rfl (allLen rfl) rfl
    replace hm7 : My H H4 (some ⟨b3, 0, none⟩) 0 1 (([] : List Int).map i64c) := hm7
    refine st_op (he5 _ _ _ _ _ _ _ _ rfl) rfl rfl rfl ?_
    have hx8 : Ext H H4 := Ext.new (by omega) H4n_ f6
    have H4n : H.next ≤ H4.next := hx8.1
    refine st_op (ev_move rfl) rfl rfl rfl ?_
    have h9 := Row.ext hl hx8
    obtain ⟨A10, c11, H12, W13, he14, hm15, hf16⟩ := mem_append (f := i64c) (old := ([] : List Int)) (new := l) (m := 0) (mx := l.length) (c := 0) (by first | rfl | simp) (by first | rfl | simp) eok23 (by decide) hm7 hm7 (by omega) ((h9).srcF (by decide) (by first | rfl | simp)) rfl i64c_len i64c_one (by first | omega | (simp only [List.length_append, List.length_cons, List.length_nil, List.length_map, List.length_set, List.length_replicate, Spec.bytesOf_length]; omega) | (simp; omega)) (by first | omega | (simp only [List.length_append, List.length_cons, List.length_nil, List.length_map, List.length_set, List.length_replicate, Spec.bytesOf_length]; omega) | (simp; omega))
    refine st_op (he14 _ _ _ _ _ _ _ _ _ _ rfl rfl isrow23) rfl rfl rfl ?_
    have H12n : H4.next ≤ H12.next := hf16.1
    rw [List.nil_append] at hm15
    refine st_op (ev_assign rfl) rfl rfl rfl ?_
    try show aw _ _ _ _ _ _
    refine aw_ret ?_
    have hx17 : Ext H H12 := (Ext.then hx8 hf16 (fun q hq e => by omega))
    have hres : l = l := by rfl
    exact ⟨.slice A10 l.length c11, rfl, A10, c11, by rw [hres]; first | done | rfl | simp, (by rw [hres]; exact hm15), hx17⟩
theorem bits_Len_spec (H : Heap) (x : Int) (hx : 0 ≤ x ∧ x ≤ 12) : ∃ v H', Spec Try.prog 23 [.int .u64 x] H v H' ∧ ((v = .int .i64 (Spec.len8 x)) ∧ (H' = H)) := by
  have h : x = 0 ∨ x = 1 ∨ x = 2 ∨ x = 3 ∨ x = 4 ∨ x = 5 ∨ x = 6 ∨ x = 7 ∨ x = 8 ∨ x = 9 ∨ x = 10 ∨ x = 11 ∨ x = 12 := by omega
  rcases h with rfl | rfl | rfl | rfl | rfl | rfl | rfl | rfl | rfl | rfl | rfl | rfl | rfl
  · exact ⟨_, _, valF_any mixed (X := X0) (N := 1000) (n := 40) (v := .int .i64 0) (by kernel_rfl) rfl rfl H, rfl, rfl⟩
  · exact ⟨_, _, valF_any mixed (X := X0) (N := 1000) (n := 40) (v := .int .i64 1) (by kernel_rfl) rfl rfl H, rfl, rfl⟩
  · exact ⟨_, _, valF_any mixed (X := X0) (N := 1000) (n := 40) (v := .int .i64 2) (by kernel_rfl) rfl rfl H, rfl, rfl⟩
  · exact ⟨_, _, valF_any mixed (X := X0) (N := 1000) (n := 40) (v := .int .i64 2) (by kernel_rfl) rfl rfl H, rfl, rfl⟩
  · exact ⟨_, _, valF_any mixed (X := X0) (N := 1000) (n := 40) (v := .int .i64 3) (by kernel_rfl) rfl rfl H, rfl, rfl⟩
  · exact ⟨_, _, valF_any mixed (X := X0) (N := 1000) (n := 40) (v := .int .i64 3) (by kernel_rfl) rfl rfl H, rfl, rfl⟩
  · exact ⟨_, _, valF_any mixed (X := X0) (N := 1000) (n := 40) (v := .int .i64 3) (by kernel_rfl) rfl rfl H, rfl, rfl⟩
  · exact ⟨_, _, valF_any mixed (X := X0) (N := 1000) (n := 40) (v := .int .i64 3) (by kernel_rfl) rfl rfl H, rfl, rfl⟩
  · exact ⟨_, _, valF_any mixed (X := X0) (N := 1000) (n := 40) (v := .int .i64 4) (by kernel_rfl) rfl rfl H, rfl, rfl⟩
  · exact ⟨_, _, valF_any mixed (X := X0) (N := 1000) (n := 40) (v := .int .i64 4) (by kernel_rfl) rfl rfl H, rfl, rfl⟩
  · exact ⟨_, _, valF_any mixed (X := X0) (N := 1000) (n := 40) (v := .int .i64 4) (by kernel_rfl) rfl rfl H, rfl, rfl⟩
  · exact ⟨_, _, valF_any mixed (X := X0) (N := 1000) (n := 40) (v := .int .i64 4) (by kernel_rfl) rfl rfl H, rfl, rfl⟩
  · exact ⟨_, _, valF_any mixed (X := X0) (N := 1000) (n := 40) (v := .int .i64 4) (by kernel_rfl) rfl rfl H, rfl, rfl⟩
theorem cmp_isNaN_spec (H : Heap) (x : Int) : ∃ v H', Spec Try.prog 52 [.int .i64 x] H v H' ∧ ((v = .bool false) ∧ (Ext H H')) := by
  refine spec_go1 E0_ok 6 (f := 52) Try.func52 rfl rfl rfl ?_
  refine aw_seq ?_
  refine aw_reg ?_
  refine st_op (ev_assign rfl) rfl rfl rfl ?_
  try show aw _ _ _ _ _ _
  refine aw_seq ?_
  refine aw_reg ?_
  refine st_op (ev_move rfl) rfl rfl rfl ?_
  refine st_op (ev_move rfl) rfl rfl rfl ?_
  refine st_op (ev_int (v := .bool false) rfl rfl (by simp [intBin])) rfl rfl rfl ?_
  refine st_op (ev_assign rfl) rfl rfl rfl ?_
  try show aw _ _ _ _ _ _
  refine aw_ret ?_
  exact ⟨.bool false, rfl, rfl, (Ext.refl H)⟩
theorem cmp_Less_spec (H : Heap) (x : Int) (y : Int) : ∃ v H', Spec Try.prog 33 [.int .i64 x, .int .i64 y] H v H' ∧ ((v = .bool (decide (x < y))) ∧ (Ext H H')) := by
  refine spec_go2 E0_ok 17 (f := 33) Try.func33 rfl rfl rfl ?_
  refine aw_seq ?_
  refine aw_reg ?_
  refine st_op (ev_assign rfl) rfl rfl rfl ?_
  try show aw _ _ _ _ _ _
  refine aw_seq ?_
  refine aw_reg ?_
  refine st_op (ev_move rfl) rfl rfl rfl ?_
  refine st_call rfl rfl rfl ent52 rfl rfl rfl ?_
  obtain ⟨_, H2, hs1, hs1v, hx3⟩ := cmp_isNaN_spec H x
  rw [hs1v] at hs1; clear hs1v
  refine ⟨_, H2, hs1, ?_⟩
  have H2n : H.next ≤ H2.next := hx3.1
  refine st_op (ev_move rfl) rfl rfl rfl ?_
  refine st_skip rfl rfl rfl ?_
  refine st_skip rfl rfl rfl ?_
  refine st_skip rfl rfl rfl ?_
  refine st_op (ev_pickF rfl rfl) rfl rfl rfl ?_
  refine st_op (ev_move rfl) rfl rfl rfl ?_
  refine st_op (ev_move rfl) rfl rfl rfl ?_
  refine st_op (ev_move rfl) rfl rfl rfl ?_
  refine st_op (ev_int rfl rfl rfl) rfl rfl rfl ?_
  refine st_op (ev_pickF rfl rfl) rfl rfl rfl ?_
  refine st_op (ev_assign rfl) rfl rfl rfl ?_
  try show aw _ _ _ _ _ _
  refine aw_ret ?_
  have hres : (decide (x < y)) = (decide (x < y)) := by rfl
  exact ⟨.bool (decide (x < y)), rfl, by rw [hres], hx3⟩
theorem sl_insert_spec (H : Heap) (lH : Heap) (lA : Option Addr) (l : List Int) (lc : Nat) (hl : My lH H lA lc 1 (l.map i64c)) (nl : lH.next ≤ H.next) (ll : l.length ≤ 1073741824)  (b : Int) (hb : b = (l.length : Int)) : ∃ v H', Spec Try.prog 27 [.slice lA l.length lc, .int .i64 0, .int .i64 b] H v H' ∧ ((v = .tuple #[]) ∧ (My lH H' lA lc 1 ((Spec.insF l 1 (l.length - 1)).map i64c)) ∧ ((Spec.insF l 1 (l.length - 1)).length = l.length) ∧ (Fr (fun q => (lH.next ≤ q ∧ q < H.next ∧ ZB H q 1)) H H')) := by
  refine spec_go3 E0_ok 49 (f := 27) Try.func27 rfl rfl rfl ?_
  refine aw_seq ?_
  refine aw_reg ?_
  refine st_op (ev_move rfl) rfl rfl rfl ?_
  refine st_op (ev_int64 (c := 1) rfl rfl rfl (by omega) (by omega)) rfl rfl rfl ?_
  refine st_op (ev_assign rfl) rfl rfl rfl ?_
  try show aw _ _ _ _ _ _
  refine aw_block ?_
  refine aw_keep [0, 1, 2, 6] (l' := (.cons 0 (.slice lA l.length lc) (.cons 1 (.int .i64 0) (.cons 2 (.int .i64 b) (.cons 6 (.int .i64 1) .nil))))) (by repeat (first | exact Up.done | refine Up.then ?_ | refine Up.inBlock ?_)) rfl ?_
  refine aw_iter (α := Nat × List Int × Heap) (fun a => l.length + 1 - a.1) (fun a => (.cons 0 (.slice lA l.length lc) (.cons 1 (.int .i64 0) (.cons 2 (.int .i64 b) (.cons 6 (.int .i64 (a.1 : Int)) .nil))))) (fun a => a.2.2) (fun a => (1 ≤ a.1 ∧ a.1 ≤ l.length + 1) ∧ (a.1 ≤ l.length ∨ l.length = 0) ∧ (a.2.1.length = l.length) ∧ (Spec.insF l 1 (l.length - 1) = Spec.insF a.2.1 a.1 (l.length - a.1)) ∧ (My lH a.2.2 lA lc 1 (a.2.1.map i64c)) ∧ (Fr (fun q => (lH.next ≤ q ∧ q < H.next ∧ ZB H q 1)) H a.2.2)) (1, l, H) ⟨(show 1 ≤ 1 ∧ 1 ≤ l.length + 1 from (by omega)), (show 1 ≤ l.length ∨ l.length = 0 from (by omega)), (show l.length = l.length from rfl), (show Spec.insF l 1 (l.length - 1) = Spec.insF l 1 (l.length - 1) from rfl), (show My lH H lA lc 1 (l.map i64c) from hl), (show Fr (fun q => (lH.next ≤ q ∧ q < H.next ∧ ZB H q 1)) H H from (Fr.refl _ H))⟩ ?_
  rintro ⟨i, l1, Hl1⟩ ⟨hi, hib, hle, hv, hm2, hxl3⟩ ih4
  replace hi : 1 ≤ i ∧ i ≤ l.length + 1 := hi
  replace hib : i ≤ l.length ∨ l.length = 0 := hib
  replace hle : l1.length = l.length := hle
  replace hv : Spec.insF l 1 (l.length - 1) = Spec.insF l1 i (l.length - i) := hv
  replace hm2 : My lH Hl1 lA lc 1 (l1.map i64c) := hm2
  replace hxl3 : Fr (fun q => (lH.next ≤ q ∧ q < H.next ∧ ZB H q 1)) H Hl1 := hxl3
  show aw _ _ _ (RL _ (.cons 0 (.slice lA l.length lc) (.cons 1 (.int .i64 0) (.cons 2 (.int .i64 b) (.cons 6 (.int .i64 (i : Int)) .nil))))) Hl1 _
  have Hl1n : H.next ≤ Hl1.next := hxl3.1
  refine aw_seq ?_
  refine aw_seq ?_
  refine aw_reg ?_
  refine st_op (ev_move rfl) rfl rfl rfl ?_
  refine st_op (ev_move rfl) rfl rfl rfl ?_
  refine st_op (ev_int rfl rfl rfl) rfl rfl rfl ?_
  try show aw _ _ _ _ _ _
  by_cases hc5 : (decide ((i : Int) < b)) = true
  · refine aw_condT hc5 rfl ?_
    try show aw _ _ _ _ _ _
    have hc5 := of_decide_eq_true hc5
    refine aw_skip ?_
    try show aw _ _ _ _ _ _
    refine aw_seq ?_
    refine aw_block ?_
    refine aw_seq ?_
    refine aw_reg ?_
    refine st_op (ev_move rfl) rfl rfl rfl ?_
    refine st_op (ev_assign rfl) rfl rfl rfl ?_
    try show aw _ _ _ _ _ _
    refine aw_block ?_
    refine aw_keep [0, 1, 2, 6, 7] (l' := (.cons 0 (.slice lA l.length lc) (.cons 1 (.int .i64 0) (.cons 2 (.int .i64 b) (.cons 6 (.int .i64 (i : Int)) (.cons 7 (.int .i64 (i : Int)) .nil)))))) (by repeat (first | exact Up.done | refine Up.then ?_ | refine Up.inBlock ?_)) rfl ?_
    refine aw_iter (α := Nat × List Int × Heap) (fun a => a.1) (fun a => (.cons 0 (.slice lA l.length lc) (.cons 1 (.int .i64 0) (.cons 2 (.int .i64 b) (.cons 6 (.int .i64 (i : Int)) (.cons 7 (.int .i64 (a.1 : Int)) .nil)))))) (fun a => a.2.2) (fun a => (a.1 ≤ i) ∧ (a.2.1.length = l.length) ∧ (Spec.sink l1 i = Spec.sink a.2.1 a.1) ∧ (My lH a.2.2 lA lc 1 (a.2.1.map i64c)) ∧ (Fr (fun q => (lH.next ≤ q ∧ q < Hl1.next ∧ ZB Hl1 q 1)) Hl1 a.2.2)) (i, l1, Hl1) ⟨(show i ≤ i from Nat.le_refl _), (show l1.length = l.length from hle), (show Spec.sink l1 i = Spec.sink l1 i from rfl), (show My lH Hl1 lA lc 1 (l1.map i64c) from hm2), (show Fr (fun q => (lH.next ≤ q ∧ q < Hl1.next ∧ ZB Hl1 q 1)) Hl1 Hl1 from (Fr.refl _ Hl1))⟩ ?_
    rintro ⟨j, l2, Hl6⟩ ⟨hj, hle2, hvi, hm7, hxl8⟩ ih9
    replace hj : j ≤ i := hj
    replace hle2 : l2.length = l.length := hle2
    replace hvi : Spec.sink l1 i = Spec.sink l2 j := hvi
    replace hm7 : My lH Hl6 lA lc 1 (l2.map i64c) := hm7
    replace hxl8 : Fr (fun q => (lH.next ≤ q ∧ q < Hl1.next ∧ ZB Hl1 q 1)) Hl1 Hl6 := hxl8
    show aw _ _ _ (RL _ (.cons 0 (.slice lA l.length lc) (.cons 1 (.int .i64 0) (.cons 2 (.int .i64 b) (.cons 6 (.int .i64 (i : Int)) (.cons 7 (.int .i64 (j : Int)) .nil)))))) Hl6 _
    have Hl6n : Hl1.next ≤ Hl6.next := hxl8.1
    refine aw_seq ?_
    refine aw_seq ?_
    refine aw_marks (fun b => b < Hl6.next) [(false, false), (false, false), (false, false), (false, false), (false, false), (false, false), (false, false), (false, false), (false, false), (false, false), (false, false), (false, false), (false, false), (false, false), (false, false)] mixed (by kernel_rfl) (by kernel_rfl) ?_
    refine sm_op (ev_move rfl) rfl rfl rfl ?_
    refine sm_op (ev_move rfl) rfl rfl rfl ?_
    refine sm_op (ev_int rfl rfl rfl) rfl rfl rfl ?_
    refine sm_op (ev_move rfl) rfl rfl rfl ?_
    refine sm_bool 19 rfl (fun hb10 => ?_) (fun hb10 => ?_)
    ·
      have hb10 := of_decide_eq_true hb10
      refine sm_op (ev_move rfl) rfl rfl rfl ?_
      refine sm_op (ev_move rfl) rfl rfl rfl ?_
      have hi11 : 0 ≤ ((j : Int) : Int) := by omega
      have hi12 : ((j : Int) : Int) < ((l.length : Nat) : Int) := by first | omega | (simp only [List.length_append, List.length_cons, List.length_nil, List.length_map, List.length_set, List.length_replicate, Spec.bytesOf_length]; omega) | (simp; omega)
      obtain ⟨x13, hx14⟩ : ∃ e, l2[j]? = some e := ⟨_, List.getElem?_eq_getElem (by first | omega | (simp only [List.length_append, List.length_cons, List.length_nil, List.length_map, List.length_set, List.length_replicate, Spec.bytesOf_length]; omega) | (simp; omega))⟩
      refine sm_op (ev_at rfl rfl (My.row hm7) (getMap i64c hx14) (by first | rfl | omega | simp) hi11 hi12 el23) rfl rfl rfl ?_
      refine sm_op (ev_atL rfl (My.row hm7) (getMap i64c hx14) one3 rfl) rfl rfl rfl ?_
      refine sm_op (ev_move rfl) rfl rfl rfl ?_
      refine sm_op (ev_move rfl) rfl rfl rfl ?_
      refine sm_op (ev_int64 (c := (j : Int) - 1) rfl rfl rfl (by omega) (by omega)) rfl rfl rfl ?_
      have hi15 : 0 ≤ ((j : Int) - 1 : Int) := by omega
      have hi16 : ((j : Int) - 1 : Int) < ((l.length : Nat) : Int) := by first | omega | (simp only [List.length_append, List.length_cons, List.length_nil, List.length_map, List.length_set, List.length_replicate, Spec.bytesOf_length]; omega) | (simp; omega)
      obtain ⟨x17, hx18⟩ : ∃ e, l2[(((j : Int) - 1)).toNat]? = some e := ⟨_, List.getElem?_eq_getElem (by first | omega | (simp only [List.length_append, List.length_cons, List.length_nil, List.length_map, List.length_set, List.length_replicate, Spec.bytesOf_length]; omega) | (simp; omega))⟩
      refine sm_op (ev_at rfl rfl (My.row hm7) (getMap i64c hx18) (by first | rfl | omega | simp) hi15 hi16 el23) rfl rfl rfl ?_
      refine sm_op (ev_atL rfl (My.row hm7) (getMap i64c hx18) one3 rfl) rfl rfl rfl ?_
      refine sm_call rfl rfl rfl ent33 rfl rfl rfl ?_
      obtain ⟨_, H20, hs19, hs19v, hx21⟩ := cmp_Less_spec Hl6 x13 x17
      rw [hs19v] at hs19; clear hs19v
      refine ⟨_, H20, hs19, (fun _ b hb => hx21.2 b (by omega)), ?_⟩
      have H20n : Hl6.next ≤ H20.next := hx21.1
      refine sm_op (ev_pickT rfl rfl) rfl rfl rfl ?_
      try show aw _ _ _ _ _ _
      by_cases hc22 : (decide (x13 < x17)) = true
      · refine aw_condT hc22 rfl ?_
        try show aw _ _ _ _ _ _
        have hc22 := of_decide_eq_true hc22
        refine aw_skip ?_
        try show aw _ _ _ _ _ _
        refine aw_seq ?_
        refine aw_block ?_
        refine aw_marks (fun b => b < H20.next) [(false, false), (false, false), (false, false), (false, false), (false, false), (false, false), (false, false), (false, false), (false, false), (false, false), (false, false), (false, false), (false, false), (false, false), (false, false), (false, false), (false, false), (false, false)] mixed (by kernel_rfl) (by kernel_rfl) ?_
        refine sm_op (ev_move rfl) rfl rfl rfl ?_
        refine sm_op (ev_move rfl) rfl rfl rfl ?_
        refine sm_op (ev_move rfl) rfl rfl rfl ?_
        refine sm_op (ev_move rfl) rfl rfl rfl ?_
        refine sm_op (ev_int64 (c := (j : Int) - 1) rfl rfl rfl (by omega) (by omega)) rfl rfl rfl ?_
        refine sm_op (ev_move rfl) rfl rfl rfl ?_
        refine sm_op (ev_move rfl) rfl rfl rfl ?_
        refine sm_op (ev_int64 (c := (j : Int) - 1) rfl rfl rfl (by omega) (by omega)) rfl rfl rfl ?_
        have h23 := My.ext hm7 hx21
        have hi24 : 0 ≤ ((j : Int) - 1 : Int) := by omega
        have hi25 : ((j : Int) - 1 : Int) < ((l.length : Nat) : Int) := by first | omega | (simp only [List.length_append, List.length_cons, List.length_nil, List.length_map, List.length_set, List.length_replicate, Spec.bytesOf_length]; omega) | (simp; omega)
        refine sm_op (ev_at rfl rfl (My.row h23) (getMap i64c hx18) (by first | rfl | omega | simp) hi24 hi25 el23) rfl rfl rfl ?_
        refine sm_op (ev_atL rfl (My.row h23) (getMap i64c hx18) one3 rfl) rfl rfl rfl ?_
        refine sm_op (ev_move rfl) rfl rfl rfl ?_
        refine sm_op (ev_move rfl) rfl rfl rfl ?_
        have hi26 : 0 ≤ ((j : Int) : Int) := by omega
        have hi27 : ((j : Int) : Int) < ((l.length : Nat) : Int) := by first | omega | (simp only [List.length_append, List.length_cons, List.length_nil, List.length_map, List.length_set, List.length_replicate, Spec.bytesOf_length]; omega) | (simp; omega)
        refine sm_op (ev_at rfl rfl (My.row h23) (getMap i64c hx14) (by first | rfl | omega | simp) hi26 hi27 el23) rfl rfl rfl ?_
        refine sm_op (ev_atL rfl (My.row h23) (getMap i64c hx14) one3 rfl) rfl rfl rfl ?_
        have hi28 : 0 ≤ ((j : Int) : Int) := by omega
        have hi29 : ((j : Int) : Int) < ((l.length : Nat) : Int) := by first | omega | (simp only [List.length_append, List.length_cons, List.length_nil, List.length_map, List.length_set, List.length_replicate, Spec.bytesOf_length]; omega) | (simp; omega)
        refine sm_op (ev_at rfl rfl (My.row h23) (getMap i64c hx14) (by first | rfl | omega | simp) hi28 hi29 el23) rfl rfl rfl ?_
        obtain ⟨H30, W31, he32, hm33, hf34, H30n_⟩ := mem_storeAt (v := .int .i64 x17) size3 rfl rfl hm7 h23 (getMap i64c hx14) (show 0 < 1 by decide)
        rw [show (i64c x13).set 0 (.int .i64 x17) = i64c x17 from rfl, ← List.map_set] at hm33
        refine sm_op0 (he32 _ _ _ _ _ _ _ _ _ rfl rfl) rfl rfl ?_
        have H30n : H20.next ≤ H30.next := hf34.1
        have hi35 : 0 ≤ ((j : Int) - 1 : Int) := by omega
        have hi36 : ((j : Int) - 1 : Int) < ((l.length : Nat) : Int) := by first | omega | (simp only [List.length_append, List.length_cons, List.length_nil, List.length_map, List.length_set, List.length_replicate, Spec.bytesOf_length]; omega) | (simp; omega)
        obtain ⟨x37, hx38⟩ : ∃ e, (l2.set j x17)[(((j : Int) - 1)).toNat]? = some e := ⟨_, List.getElem?_eq_getElem (by first | omega | (simp only [List.length_append, List.length_cons, List.length_nil, List.length_map, List.length_set, List.length_replicate, Spec.bytesOf_length]; omega) | (simp; omega))⟩
        refine sm_op (ev_at rfl rfl (My.row hm33) (getMap i64c hx38) (by first | rfl | omega | simp) hi35 hi36 el23) rfl rfl rfl ?_
        obtain ⟨H39, W40, he41, hm42, hf43, H39n_⟩ := mem_storeAt (v := .int .i64 x13) size3 rfl rfl hm33 hm33 (getMap i64c hx38) (show 0 < 1 by decide)
        rw [show (i64c x37).set 0 (.int .i64 x13) = i64c x13 from rfl, ← List.map_set] at hm42
        refine sm_op0 (he41 _ _ _ _ _ _ _ _ _ rfl rfl) rfl rfl ?_
        have H39n : H30.next ≤ H39.next := hf43.1
        try show aw _ _ _ _ _ _
        refine aw_reg ?_
        refine st_op (ev_move rfl) rfl rfl rfl ?_
        refine st_op (ev_int64 (c := (j : Int) - 1) rfl rfl rfl (by omega) (by omega)) rfl rfl rfl ?_
        refine st_op (ev_assign rfl) rfl rfl rfl ?_
        try show aw _ _ _ _ _ _
        refine aw_keep [0, 1, 2, 6, 7] (l' := (.cons 0 (.slice lA l.length lc) (.cons 1 (.int .i64 0) (.cons 2 (.int .i64 b) (.cons 6 (.int .i64 (i : Int)) (.cons 7 (.int .i64 ((j : Int) - 1)) .nil)))))) (by repeat (first | exact Up.done | refine Up.then ?_ | refine Up.inBlock ?_)) rfl ?_
        rw [show ((j : Int) - 1) = ((j - 1 : Nat) : Int) by omega]
        exact ih9 (j - 1, ((l2.set j x17).set ((((j : Int) - 1)).toNat) x13), H39) ⟨(show (j - 1) ≤ i from (by omega)), (show ((l2.set j x17).set ((((j : Int) - 1)).toNat) x13).length = l.length from (by simp only [List.length_set]; exact hle2)), (show Spec.sink l1 i = Spec.sink ((l2.set j x17).set ((((j : Int) - 1)).toNat) x13) (j - 1) from (by rw [hvi, Spec.sink_lt (by omega) hx14 (by have hy := hx18; rwa [show ((j : Int) - 1).toNat = j - 1 by omega] at hy) (by omega), show j - 1 = ((j : Int) - 1).toNat by omega])), (show My lH H39 lA lc 1 (((l2.set j x17).set ((((j : Int) - 1)).toNat) x13).map i64c) from hm42), (show Fr (fun q => (lH.next ≤ q ∧ q < Hl1.next ∧ ZB Hl1 q 1)) Hl1 H39 from (Fr.transG (Fr.transG (Fr.trans (Fr.transG (Fr.refl (fun q => (lH.next ≤ q ∧ q < Hl1.next ∧ ZB Hl1 q 1)) Hl1) hxl8 (fun q hq hE e => (⟨by omega, by omega, ZB.back hE e.2.2⟩))) (hx21.fr fun _ => False) (fun q hq (e : False) => e.elim)) hf34 (fun q hq hE e => (⟨by omega, by omega, ZB.back hE e.2.2⟩))) hf43 (fun q hq hE e => (⟨by omega, by omega, ZB.back hE e.2.2⟩))))⟩ (by simp only; omega)
      · rw [Bool.not_eq_true] at hc22; refine aw_condF hc22 rfl ?_
        try show aw _ _ _ _ _ _
        have hc22 := of_decide_eq_false hc22
        refine aw_exit ?_
        try show aw _ _ _ _ _ _
        refine aw_reg ?_
        refine st_op (ev_move rfl) rfl rfl rfl ?_
        refine st_op (ev_int64 (c := (i : Int) + 1) rfl rfl rfl (by omega) (by omega)) rfl rfl rfl ?_
        refine st_op (ev_assign rfl) rfl rfl rfl ?_
        try show aw _ _ _ _ _ _
        have h44 := My.ext hm7 hx21
        refine aw_keep [0, 1, 2, 6] (l' := (.cons 0 (.slice lA l.length lc) (.cons 1 (.int .i64 0) (.cons 2 (.int .i64 b) (.cons 6 (.int .i64 ((i : Int) + 1)) .nil))))) (by repeat (first | exact Up.done | refine Up.then ?_ | refine Up.inBlock ?_)) rfl ?_
        exact ih4 (i + 1, l2, H20) ⟨(show 1 ≤ (i + 1) ∧ (i + 1) ≤ l.length + 1 from (by omega)), (show (i + 1) ≤ l.length ∨ l.length = 0 from (by omega)), (show l2.length = l.length from hle2), (show Spec.insF l 1 (l.length - 1) = Spec.insF l2 (i + 1) (l.length - (i + 1)) from (by rw [hv, show l.length - i = (l.length - (i + 1)) + 1 by omega, Spec.insF, show Spec.sink l1 i = l2 from (by rw [hvi]; exact Spec.sink_ge (by omega) hx14 (by have hy := hx18; rwa [show ((j : Int) - 1).toNat = j - 1 by omega] at hy) (by omega))])), (show My lH H20 lA lc 1 (l2.map i64c) from h44), (show Fr (fun q => (lH.next ≤ q ∧ q < H.next ∧ ZB H q 1)) H H20 from (Fr.trans (Fr.transG (Fr.transG (Fr.refl (fun q => (lH.next ≤ q ∧ q < H.next ∧ ZB H q 1)) H) hxl3 (fun q hq hE e => (⟨by omega, by omega, ZB.back hE e.2.2⟩))) hxl8 (fun q hq hE e => (⟨by omega, by omega, ZB.back hE e.2.2⟩))) (hx21.fr fun _ => False) (fun q hq (e : False) => e.elim)))⟩ (by simp only; omega)
    ·
      have hb10 := of_decide_eq_false hb10
      refine sm_skip rfl rfl rfl ?_
      refine sm_skip rfl rfl rfl ?_
      refine sm_skip rfl rfl rfl ?_
      refine sm_skip rfl rfl rfl ?_
      refine sm_skip rfl rfl rfl ?_
      refine sm_skip rfl rfl rfl ?_
      refine sm_skip rfl rfl rfl ?_
      refine sm_skip rfl rfl rfl ?_
      refine sm_skip rfl rfl rfl ?_
      refine sm_skip rfl rfl rfl ?_
      refine sm_op (ev_pickF rfl rfl) rfl rfl rfl ?_
      try show aw _ _ _ _ _ _
      refine aw_cond (t := false) rfl ?_
      try show aw _ _ _ _ _ _
      refine aw_exit ?_
      try show aw _ _ _ _ _ _
      refine aw_reg ?_
      refine st_op (ev_move rfl) rfl rfl rfl ?_
      refine st_op (ev_int64 (c := (i : Int) + 1) rfl rfl rfl (by omega) (by omega)) rfl rfl rfl ?_
      refine st_op (ev_assign rfl) rfl rfl rfl ?_
      try show aw _ _ _ _ _ _
      refine aw_keep [0, 1, 2, 6] (l' := (.cons 0 (.slice lA l.length lc) (.cons 1 (.int .i64 0) (.cons 2 (.int .i64 b) (.cons 6 (.int .i64 ((i : Int) + 1)) .nil))))) (by repeat (first | exact Up.done | refine Up.then ?_ | refine Up.inBlock ?_)) rfl ?_
      exact ih4 (i + 1, l2, Hl6) ⟨(show 1 ≤ (i + 1) ∧ (i + 1) ≤ l.length + 1 from (by omega)), (show (i + 1) ≤ l.length ∨ l.length = 0 from (by omega)), (show l2.length = l.length from hle2), (show Spec.insF l 1 (l.length - 1) = Spec.insF l2 (i + 1) (l.length - (i + 1)) from (by rw [hv, show l.length - i = (l.length - (i + 1)) + 1 by omega, Spec.insF, show Spec.sink l1 i = l2 from (by rw [hvi, show j = 0 by omega]; rfl)])), (show My lH Hl6 lA lc 1 (l2.map i64c) from hm7), (show Fr (fun q => (lH.next ≤ q ∧ q < H.next ∧ ZB H q 1)) H Hl6 from (Fr.transG (Fr.transG (Fr.refl (fun q => (lH.next ≤ q ∧ q < H.next ∧ ZB H q 1)) H) hxl3 (fun q hq hE e => (⟨by omega, by omega, ZB.back hE e.2.2⟩))) hxl8 (fun q hq hE e => (⟨by omega, by omega, ZB.back hE e.2.2⟩))))⟩ (by simp only; omega)
  · rw [Bool.not_eq_true] at hc5; refine aw_condF hc5 rfl ?_
    try show aw _ _ _ _ _ _
    have hc5 := of_decide_eq_false hc5
    refine aw_exit ?_
    try show aw _ _ _ _ _ _
    have hres : (Spec.insF l 1 (l.length - 1)) = l1 := by rw [hv, show l.length - i = 0 by omega]; rfl
    exact ⟨.tuple #[], rfl, rfl, (by rw [hres]; exact hm2), (by exact Spec.insF_len _ _ _), (Fr.transG (Fr.refl (fun q => (lH.next ≤ q ∧ q < H.next ∧ ZB H q 1)) H) hxl3 (fun q hq hE e => (⟨by omega, by omega, ZB.back hE e.2.2⟩)))⟩
theorem sl_pdq_spec (H : Heap) (lH : Heap) (lA : Option Addr) (l : List Int) (lc : Nat) (hl : My lH H lA lc 1 (l.map i64c)) (nl : lH.next ≤ H.next) (ll : l.length ≤ 12)  (b : Int) (hb : b = (l.length : Int)) (lim : Int) : ∃ v H', Spec Try.prog 22 [.slice lA l.length lc, .int .i64 0, .int .i64 b, .int .i64 lim] H v H' ∧ ((v = .tuple #[]) ∧ (My lH H' lA lc 1 ((Spec.insF l 1 (l.length - 1)).map i64c)) ∧ ((Spec.insF l 1 (l.length - 1)).length = l.length) ∧ (Fr (fun q => (lH.next ≤ q ∧ q < H.next ∧ ZB H q 1)) H H')) := by
  refine spec_go4 E0_ok 134 (f := 22) Try.func22 rfl rfl rfl ?_
  refine aw_seq ?_
  refine aw_reg ?_
  refine st_op (ev_assign rfl) rfl rfl rfl ?_
  try show aw _ _ _ _ _ _
  refine aw_seq ?_
  refine aw_reg ?_
  refine st_op (ev_assign rfl) rfl rfl rfl ?_
  try show aw _ _ _ _ _ _
  refine aw_block ?_
  refine aw_loop ?_
  refine aw_block ?_
  refine aw_seq ?_
  refine aw_reg ?_
  refine st_op (ev_move rfl) rfl rfl rfl ?_
  refine st_op (ev_move rfl) rfl rfl rfl ?_
  refine st_op (ev_int64 (c := b - 0) rfl rfl rfl (by omega) (by omega)) rfl rfl rfl ?_
  refine st_op (ev_assign rfl) rfl rfl rfl ?_
  try show aw _ _ _ _ _ _
  refine aw_seq ?_
  refine aw_seq ?_
  refine aw_reg ?_
  refine st_op (ev_move rfl) rfl rfl rfl ?_
  refine st_op (ev_int rfl rfl rfl) rfl rfl rfl ?_
  try show aw _ _ _ _ _ _
  by_cases hc1 : (decide (b - 0 ≤ 12)) = true
  · refine aw_condT hc1 rfl ?_
    try show aw _ _ _ _ _ _
    have hc1 := of_decide_eq_true hc1
    refine aw_seq ?_
    refine aw_reg ?_
    refine st_op (ev_move rfl) rfl rfl rfl ?_
    refine st_op (ev_move rfl) rfl rfl rfl ?_
    refine st_op (ev_move rfl) rfl rfl rfl ?_
    refine st_call rfl rfl rfl ent27 rfl rfl rfl ?_
    obtain ⟨_, H3, hs2, hs2v, hm6, hq5, hx4⟩ := sl_insert_spec H lH lA l lc hl (by omega) (by first | omega | (simp only [List.length_append, List.length_cons, List.length_nil, List.length_map, List.length_set, List.length_replicate, Spec.bytesOf_length]; omega) | (simp; omega))  b (by first | omega | (simp only [List.length_append, List.length_cons, List.length_nil, List.length_map, List.length_set, List.length_replicate, Spec.bytesOf_length]; omega) | (simp; omega))
    rw [hs2v] at hs2; clear hs2v
    refine ⟨_, H3, hs2, ?_⟩
    have H3n : H.next ≤ H3.next := hx4.1
    try show aw _ _ _ _ _ _
    refine aw_ret ?_
    have hres : (Spec.insF l 1 (l.length - 1)) = (Spec.insF l 1 (l.length - 1)) := by rfl
    exact ⟨.tuple #[], rfl, rfl, (by rw [hres]; exact hm6), (by exact Spec.insF_len _ _ _), (Fr.transG (Fr.refl (fun q => (lH.next ≤ q ∧ q < H.next ∧ ZB H q 1)) H) hx4 (fun q hq hE e => (⟨by omega, by omega, ZB.back hE e.2.2⟩)))⟩
  · rw [Bool.not_eq_true] at hc1; refine aw_condF hc1 rfl ?_
    try show aw _ _ _ _ _ _
    have hc1 := of_decide_eq_false hc1
    exfalso; omega
theorem sl_Sort_spec (H : Heap) (lH : Heap) (lA : Option Addr) (l : List Int) (lc : Nat) (hl : My lH H lA lc 1 (l.map i64c)) (nl : lH.next ≤ H.next) (ll : l.length ≤ 12) : ∃ v H', Spec Try.prog 17 [.slice lA l.length lc] H v H' ∧ ((v = .tuple #[]) ∧ (My lH H' lA lc 1 ((Spec.insF l 1 (l.length - 1)).map i64c)) ∧ ((Spec.insF l 1 (l.length - 1)).length = l.length) ∧ (Fr (fun q => (lH.next ≤ q ∧ q < H.next ∧ ZB H q 1)) H H')) := by
  refine spec_go1 E0_ok 11 (f := 17) Try.func17 rfl rfl rfl ?_
  refine aw_seq ?_
  refine aw_reg ?_
  refine st_op (ev_move rfl) rfl rfl rfl ?_
  refine st_op (ev_lenSl rfl Try.underlying23) rfl rfl rfl ?_
  refine st_op (ev_assign rfl) rfl rfl rfl ?_
  try show aw _ _ _ _ _ _
  refine aw_reg ?_
  refine st_op (ev_move rfl) rfl rfl rfl ?_
  refine st_op (ev_move rfl) rfl rfl rfl ?_
  refine st_op (ev_move rfl) rfl rfl rfl ?_
  refine st_op (ev_convI Try.underlying3 Try.underlying35 rfl (wrU64 (by omega) (by omega))) rfl rfl rfl ?_
  refine st_call rfl rfl rfl ent23 rfl rfl rfl ?_
  obtain ⟨_, H2, hs1, hs1v, hx3⟩ := bits_Len_spec H (l.length : Int) ⟨by omega, by omega⟩
  rw [hs1v] at hs1; clear hs1v
  rw [hx3] at hs1; clear hx3
  refine ⟨_, H, hs1, ?_⟩
  refine st_call rfl rfl rfl ent22 rfl rfl rfl ?_
  obtain ⟨_, H5, hs4, hs4v, hm8, hq7, hx6⟩ := sl_pdq_spec H lH lA l lc hl (by omega) (by first | omega | (simp only [List.length_append, List.length_cons, List.length_nil, List.length_map, List.length_set, List.length_replicate, Spec.bytesOf_length]; omega) | (simp; omega))  (l.length : Int) (by first | omega | (simp only [List.length_append, List.length_cons, List.length_nil, List.length_map, List.length_set, List.length_replicate, Spec.bytesOf_length]; omega) | (simp; omega)) (Spec.len8 (l.length : Int))
  rw [hs4v] at hs4; clear hs4v
  refine ⟨_, H5, hs4, ?_⟩
  have H5n : H.next ≤ H5.next := hx6.1
  try show aw _ _ _ _ _ _
  have hres : (Spec.insF l 1 (l.length - 1)) = (Spec.insF l 1 (l.length - 1)) := by rfl
  exact ⟨.tuple #[], rfl, rfl, (by rw [hres]; exact hm8), (by exact Spec.insF_len _ _ _), (Fr.transG (Fr.refl (fun q => (lH.next ≤ q ∧ q < H.next ∧ ZB H q 1)) H) hx6 (fun q hq hE e => (⟨by omega, by omega, ZB.back hE e.2.2⟩)))⟩
theorem conf_Add_spec (H : Heap) (lA : Option Addr) (l : List Int) (lc : Nat) (hl : Row H lA lc 1 (l.map i64c)) (cl : l.length ≤ lc) (ll : l.length ≤ 8) (k : Int) (hk : -9223372036854775808 ≤ k ∧ k ≤ 9223372036854775807) : ∃ v H', Spec Try.prog 7 [.slice lA l.length lc, .int .i64 k] H v H' ∧ (∃ rA0 rc0, (v = .tuple #[.slice rA0 (((Spec.addC l k).1).length) rc0, .bool ((Spec.addC l k).2)]) ∧ (My H H' rA0 rc0 1 (((Spec.addC l k).1).map i64c)) ∧ (((Spec.addC l k)).1.length ≤ 7) ∧ (Ext H H')) := by
  refine spec_go2 E0_ok 23 (f := 7) Try.func7 rfl rfl rfl ?_
  refine aw_seq ?_
  refine aw_reg ?_
  refine st_op (ev_assign rfl) rfl rfl rfl ?_
  refine st_op (ev_assign rfl) rfl rfl rfl ?_
  try show aw _ _ _ _ _ _
  refine aw_seq ?_
  refine aw_reg ?_
  refine st_op (ev_move rfl) rfl rfl rfl ?_
  refine st_call rfl rfl rfl ent16 rfl rfl rfl ?_
  obtain ⟨_, H2, hs1, A4, c5, hs1v, hm6, hx3⟩ := sl_Clone_spec H lA l lc hl cl (by first | omega | (simp only [List.length_append, List.length_cons, List.length_nil, List.length_map, List.length_set, List.length_replicate, Spec.bytesOf_length]; omega) | (simp; omega))
  rw [hs1v] at hs1; clear hs1v
  refine ⟨_, H2, hs1, ?_⟩
  have H2n : H.next ≤ H2.next := hx3.1
  refine st_op (ev_move rfl) rfl rfl rfl ?_
  obtain ⟨b7, H8, he9, b7e, H8n_, hm11, f10⟩ := mem_lit H2 (xs := ([.int .i64 k] : List Value)) (m := 1) (rows := [[.int .i64 k]]) rfl eok23 (by decide) (by decide) zf3 rfl (allLen rfl) rfl
  replace hm11 : My H2 H8 (some ⟨b7, 0, none⟩) 1 1 ([k].map i64c) := hm11
  refine st_op (he9 _ _ _ _ _ _ _ _ rfl) rfl rfl rfl ?_
  have hx12 : Ext H2 H8 := Ext.new (by omega) H8n_ f10
  have H8n : H2.next ≤ H8.next := hx12.1
  have h13 := My.ext hm6 hx12
  obtain ⟨A14, c15, H16, W17, he18, hm19, hf20⟩ := mem_append (f := i64c) (old := l) (new := [k]) (m := l.length) (mx := 1) (c := c5) (by first | rfl | simp) (by first | rfl | simp) eok23 (by decide) hm6 h13 (by omega) (((My.row hm11)).srcF (by decide) (by first | rfl | simp)) rfl i64c_len i64c_one (by first | omega | (simp only [List.length_append, List.length_cons, List.length_nil, List.length_map, List.length_set, List.length_replicate, Spec.bytesOf_length]; omega) | (simp; omega)) (by first | omega | (simp only [List.length_append, List.length_cons, List.length_nil, List.length_map, List.length_set, List.length_replicate, Spec.bytesOf_length]; omega) | (simp; omega))
  refine st_op (he18 _ _ _ _ _ _ _ _ _ _ rfl rfl isrow23) rfl rfl rfl ?_
  have H16n : H8.next ≤ H16.next := hf20.1
  have hl21 : (l ++ [k]).length = l.length + 1 := by simp
  refine st_op (ev_assign rfl) rfl rfl rfl ?_
  try show aw _ _ _ _ _ _
  refine aw_seq ?_
  refine aw_reg ?_
  refine st_op (ev_move rfl) rfl rfl rfl ?_
  refine st_call rfl rfl rfl ent17 rfl rfl rfl ?_
  obtain ⟨_, H23, hs22, hs22v, hm26, hq25, hx24⟩ := sl_Sort_spec H16 H A14 (l ++ [k]) c15 hm19 (by omega) (by first | omega | (simp only [List.length_append, List.length_cons, List.length_nil, List.length_map, List.length_set, List.length_replicate, Spec.bytesOf_length]; omega) | (simp; omega))
  rw [hs22v] at hs22; clear hs22v
  refine ⟨_, H23, hs22, ?_⟩
  have H23n : H16.next ≤ H23.next := hx24.1
  rw [show (l ++ [k]).length = (Spec.insF (l ++ [k]) 1 ((l ++ [k]).length - 1)).length from hq25.symm]
  try show aw _ _ _ _ _ _
  refine aw_seq ?_
  refine aw_seq ?_
  refine aw_reg ?_
  refine st_op (ev_move rfl) rfl rfl rfl ?_
  refine st_call rfl rfl rfl ent6 rfl rfl rfl ?_
  have hx28 : Ext H H23 := (Ext.then (Ext.then (Ext.trans hx3 hx12) hf20 (fun q hq e => by omega)) hx24 (fun q hq e => by omega))
  have h27 := Row.ext hl hx28
  obtain ⟨_, H30, hs29, hs29v, hx31⟩ := conf_May_spec H23 lA l lc h27 cl (by first | omega | (simp only [List.length_append, List.length_cons, List.length_nil, List.length_map, List.length_set, List.length_replicate, Spec.bytesOf_length]; omega) | (simp; omega))
  rw [hs29v] at hs29; clear hs29v
  refine ⟨_, H30, hs29, ?_⟩
  have H30n : H23.next ≤ H30.next := hx31.1
  refine st_op (ev_not rfl) rfl rfl rfl ?_
  refine st_op (ev_move rfl) rfl rfl rfl ?_
  refine st_bool 17 rfl (fun hb32 => ?_) (fun hb32 => ?_)
  ·
    replace hb32 : (Spec.mayC l) = false := by rw [Bool.not_eq_true'] at hb32; exact hb32
    refine st_skip rfl rfl rfl ?_
    refine st_skip rfl rfl rfl ?_
    refine st_skip rfl rfl rfl ?_
    refine st_op (ev_pickT rfl rfl) rfl rfl rfl ?_
    try show aw _ _ _ _ _ _
    refine aw_cond (t := true) rfl ?_
    try show aw _ _ _ _ _ _
    refine aw_seq ?_
    refine aw_reg ?_
    refine st_op (ev_assign rfl) rfl rfl rfl ?_
    refine st_op (ev_assign rfl) rfl rfl rfl ?_
    try show aw _ _ _ _ _ _
    refine aw_ret ?_
    have hm33 : My H30 H30 none 0 1 (([] : List Int).map i64c) := .nil
    have hx34 : Ext H H30 := (Ext.trans hx28 hx31)
    have hres : (Spec.addC l k) = (([] : List Int), false) := by simp_all [Spec.addC, Spec.insS]
    exact ⟨.tuple #[.slice none 0 0, .bool false], rfl, none, 0, by rw [hres]; first | done | rfl | simp, (by rw [hres]; exact (My.older hm33 (by omega))), (by exact Spec.addC_len), hx34⟩
  ·
    replace hb32 : (Spec.mayC l) = true := by rw [Bool.not_eq_false'] at hb32; exact hb32
    refine st_op (ev_move rfl) rfl rfl rfl ?_
    refine st_call rfl rfl rfl ent6 rfl rfl rfl ?_
    have h35 := My.ext hm26 hx31
    obtain ⟨_, H37, hs36, hs36v, hx38⟩ := conf_May_spec H30 A14 (Spec.insF (l ++ [k]) 1 ((l ++ [k]).length - 1)) c15 (My.row h35) (My.capF h35 (by first | omega | (simp only [List.length_append, List.length_cons, List.length_nil, List.length_map, List.length_set, List.length_replicate, Spec.bytesOf_length]; omega) | (simp; omega))) (by first | omega | (simp only [List.length_append, List.length_cons, List.length_nil, List.length_map, List.length_set, List.length_replicate, Spec.bytesOf_length]; omega) | (simp; omega))
    rw [hs36v] at hs36; clear hs36v
    refine ⟨_, H37, hs36, ?_⟩
    have H37n : H30.next ≤ H37.next := hx38.1
    refine st_op (ev_not rfl) rfl rfl rfl ?_
    refine st_op (ev_pickF rfl rfl) rfl rfl rfl ?_
    try show aw _ _ _ _ _ _
    by_cases hc39 : (!(Spec.mayC (Spec.insF (l ++ [k]) 1 ((l ++ [k]).length - 1)))) = true
    · refine aw_condT hc39 rfl ?_
      try show aw _ _ _ _ _ _
      replace hc39 : (Spec.mayC (Spec.insF (l ++ [k]) 1 ((l ++ [k]).length - 1))) = false := by rw [Bool.not_eq_true'] at hc39; exact hc39
      refine aw_seq ?_
      refine aw_reg ?_
      refine st_op (ev_assign rfl) rfl rfl rfl ?_
      refine st_op (ev_assign rfl) rfl rfl rfl ?_
      try show aw _ _ _ _ _ _
      refine aw_ret ?_
      have hm40 : My H37 H37 none 0 1 (([] : List Int).map i64c) := .nil
      have hx41 : Ext H H37 := (Ext.trans (Ext.trans hx28 hx31) hx38)
      have hres : (Spec.addC l k) = (([] : List Int), false) := by simp_all [Spec.addC, Spec.insS]
      exact ⟨.tuple #[.slice none 0 0, .bool false], rfl, none, 0, by rw [hres]; first | done | rfl | simp, (by rw [hres]; exact (My.older hm40 (by omega))), (by exact Spec.addC_len), hx41⟩
    · rw [Bool.not_eq_true] at hc39; refine aw_condF hc39 rfl ?_
      try show aw _ _ _ _ _ _
      replace hc39 : (Spec.mayC (Spec.insF (l ++ [k]) 1 ((l ++ [k]).length - 1))) = true := by rw [Bool.not_eq_false'] at hc39; exact hc39
      refine aw_skip ?_
      try show aw _ _ _ _ _ _
      refine aw_seq ?_
      refine aw_reg ?_
      refine st_op (ev_move rfl) rfl rfl rfl ?_
      refine st_op (ev_assign rfl) rfl rfl rfl ?_
      refine st_op (ev_assign rfl) rfl rfl rfl ?_
      try show aw _ _ _ _ _ _
      refine aw_ret ?_
      have h42 := My.ext h35 hx38
      have hx43 : Ext H H37 := (Ext.trans (Ext.trans hx28 hx31) hx38)
      have hres : (Spec.addC l k) = ((Spec.insF (l ++ [k]) 1 ((l ++ [k]).length - 1)), true) := by simp_all [Spec.addC, Spec.insS]
      exact ⟨.tuple #[.slice A14 ((Spec.insF (l ++ [k]) 1 ((l ++ [k]).length - 1)).length) c15, .bool true], rfl, A14, c15, by rw [hres]; first | done | rfl | simp, (by rw [hres]; exact h42), (by exact Spec.addC_len), hx43⟩
theorem sl_Index_spec (H : Heap) (lA : Option Addr) (l : List Int) (lc : Nat) (hl : Row H lA lc 1 (l.map i64c)) (cl : l.length ≤ lc) (ll : l.length ≤ 140737488355328) (x : Int) : ∃ v H', Spec Try.prog 24 [.slice lA l.length lc, .int .i64 x] H v H' ∧ ((v = .int .i64 (Spec.ixF x l 0)) ∧ (Ext H H')) := by
  refine spec_go2 E0_ok 19 (f := 24) Try.func24 rfl rfl rfl ?_
  refine aw_seq ?_
  refine aw_reg ?_
  refine st_op (ev_assign rfl) rfl rfl rfl ?_
  try show aw _ _ _ _ _ _
  refine aw_seq ?_
  refine aw_seq ?_
  refine aw_reg ?_
  refine st_op (ev_move rfl) rfl rfl rfl ?_
  refine st_op (ev_lenSl rfl Try.underlying23) rfl rfl rfl ?_
  refine st_op (ev_move rfl) rfl rfl rfl ?_
  try show aw _ _ _ _ _ _
  refine aw_block ?_
  refine aw_keep [0, 1, 7, 8] (l' := (.cons 0 (.slice lA l.length lc) (.cons 1 (.int .i64 x) (.cons 7 (.int .i64 (l.length : Int)) (.cons 8 (.int .i64 0) .nil))))) (by repeat (first | exact Up.done | refine Up.then ?_ | refine Up.inBlock ?_)) rfl ?_
  refine aw_iter (α := Nat × Heap) (fun a => l.length - a.1) (fun a => (.cons 0 (.slice lA l.length lc) (.cons 1 (.int .i64 x) (.cons 7 (.int .i64 (l.length : Int)) (.cons 8 (.int .i64 (a.1 : Int)) .nil))))) (fun a => a.2) (fun a => (a.1 ≤ l.length) ∧ (Spec.ixF x l 0 = Spec.ixF x (l.drop a.1) (a.1 : Int)) ∧ (Ext H a.2)) (0, H) ⟨(show 0 ≤ l.length from Nat.zero_le _), (show Spec.ixF x l 0 = Spec.ixF x (l.drop 0) (0 : Int) from rfl), (show Ext H H from (Ext.refl H))⟩ ?_
  rintro ⟨i, Hl1⟩ ⟨hi, hv, hxl2⟩ ih3
  replace hi : i ≤ l.length := hi
  replace hv : Spec.ixF x l 0 = Spec.ixF x (l.drop i) (i : Int) := hv
  replace hxl2 : Ext H Hl1 := hxl2
  show aw _ _ _ (RL _ (.cons 0 (.slice lA l.length lc) (.cons 1 (.int .i64 x) (.cons 7 (.int .i64 (l.length : Int)) (.cons 8 (.int .i64 (i : Int)) .nil))))) Hl1 _
  have Hl1n : H.next ≤ Hl1.next := hxl2.1
  refine aw_seq ?_
  refine aw_reg ?_
  refine st_op (ev_int rfl rfl rfl) rfl rfl rfl ?_
  try show aw _ _ _ _ _ _
  refine aw_seq ?_
  by_cases hc4 : (decide ((i : Int) < (l.length : Int))) = true
  · refine aw_condT hc4 rfl ?_
    try show aw _ _ _ _ _ _
    have hc4 := of_decide_eq_true hc4
    refine aw_skip ?_
    try show aw _ _ _ _ _ _
    refine aw_seq ?_
    refine aw_block ?_
    refine aw_seq ?_
    refine aw_reg ?_
    refine st_op (ev_move rfl) rfl rfl rfl ?_
    refine st_op (ev_assign rfl) rfl rfl rfl ?_
    try show aw _ _ _ _ _ _
    refine aw_seq ?_
    refine aw_reg ?_
    refine st_op (ev_move rfl) rfl rfl rfl ?_
    refine st_op (ev_move rfl) rfl rfl rfl ?_
    refine st_op (ev_move rfl) rfl rfl rfl ?_
    have h5 := Row.ext hl hxl2
    have hi6 : 0 ≤ ((i : Int) : Int) := by omega
    have hi7 : ((i : Int) : Int) < ((l.length : Nat) : Int) := by first | omega | (simp only [List.length_append, List.length_cons, List.length_nil, List.length_map, List.length_set, List.length_replicate, Spec.bytesOf_length]; omega) | (simp; omega)
    obtain ⟨x8, hx9⟩ : ∃ e, l[i]? = some e := ⟨_, List.getElem?_eq_getElem (by first | omega | (simp only [List.length_append, List.length_cons, List.length_nil, List.length_map, List.length_set, List.length_replicate, Spec.bytesOf_length]; omega) | (simp; omega))⟩
    refine st_op (ev_at rfl rfl h5 (getMap i64c hx9) (by first | rfl | omega | simp) hi6 hi7 el23) rfl rfl rfl ?_
    refine st_op (ev_atL rfl h5 (getMap i64c hx9) one3 rfl) rfl rfl rfl ?_
    refine st_op (ev_int rfl rfl rfl) rfl rfl rfl ?_
    try show aw _ _ _ _ _ _
    by_cases hc10 : (x == x8) = true
    · refine aw_condT hc10 rfl ?_
      try show aw _ _ _ _ _ _
      have hc10 := eq_of_beq hc10
      refine aw_seq ?_
      refine aw_reg ?_
      refine st_op (ev_move rfl) rfl rfl rfl ?_
      refine st_op (ev_assign rfl) rfl rfl rfl ?_
      try show aw _ _ _ _ _ _
      refine aw_ret ?_
      have hres : (Spec.ixF x l 0) = (i : Int) := by rw [hv, drop_at hx9, Spec.ixF, if_pos (by assumption)]
      exact ⟨.int .i64 (i : Int), rfl, by rw [hres], hxl2⟩
    · rw [Bool.not_eq_true] at hc10; refine aw_condF hc10 rfl ?_
      try show aw _ _ _ _ _ _
      have hc10 := ne_of_beq_false hc10
      refine aw_skip ?_
      try show aw _ _ _ _ _ _
      refine aw_reg ?_
      refine st_op (ev_int64 (c := (i : Int) + 1) rfl rfl rfl (by omega) (by omega)) rfl rfl rfl ?_
      refine st_op (ev_move rfl) rfl rfl rfl ?_
      try show aw _ _ _ _ _ _
      refine aw_keep [0, 1, 7, 8] (l' := (.cons 0 (.slice lA l.length lc) (.cons 1 (.int .i64 x) (.cons 7 (.int .i64 (l.length : Int)) (.cons 8 (.int .i64 ((i : Int) + 1)) .nil))))) (by repeat (first | exact Up.done | refine Up.then ?_ | refine Up.inBlock ?_)) rfl ?_
      exact ih3 (i + 1, Hl1) ⟨(show (i + 1) ≤ l.length from (by omega)), (show Spec.ixF x l 0 = Spec.ixF x (l.drop (i + 1)) ((i + 1) : Int) from (by rw [hv, drop_at hx9, Spec.ixF, if_neg (by assumption)] <;> rfl)), (show Ext H Hl1 from hxl2)⟩ (by simp only; omega)
  · rw [Bool.not_eq_true] at hc4; refine aw_condF hc4 rfl ?_
    try show aw _ _ _ _ _ _
    have hc4 := of_decide_eq_false hc4
    refine aw_exit ?_
    try show aw _ _ _ _ _ _
    refine aw_seq ?_
    refine aw_reg ?_
    refine st_op (ev_assign rfl) rfl rfl rfl ?_
    try show aw _ _ _ _ _ _
    refine aw_ret ?_
    have hres : (Spec.ixF x l 0) = (-1) := by rw [hv, List.drop_eq_nil_of_le (by omega)]; rfl
    exact ⟨.int .i64 (-1), rfl, by rw [hres], hxl2⟩
theorem sl_Contains_spec (H : Heap) (lA : Option Addr) (l : List Int) (lc : Nat) (hl : Row H lA lc 1 (l.map i64c)) (cl : l.length ≤ lc) (ll : l.length ≤ 140737488355328) (x : Int) : ∃ v H', Spec Try.prog 18 [.slice lA l.length lc, .int .i64 x] H v H' ∧ ((v = .bool (decide (x ∈ l))) ∧ (Ext H H')) := by
  refine spec_go2 E0_ok 9 (f := 18) Try.func18 rfl rfl rfl ?_
  refine aw_seq ?_
  refine aw_reg ?_
  refine st_op (ev_assign rfl) rfl rfl rfl ?_
  try show aw _ _ _ _ _ _
  refine aw_seq ?_
  refine aw_reg ?_
  refine st_op (ev_move rfl) rfl rfl rfl ?_
  refine st_op (ev_move rfl) rfl rfl rfl ?_
  refine st_call rfl rfl rfl ent24 rfl rfl rfl ?_
  obtain ⟨_, H2, hs1, hs1v, hx3⟩ := sl_Index_spec H lA l lc hl cl (by first | omega | (simp only [List.length_append, List.length_cons, List.length_nil, List.length_map, List.length_set, List.length_replicate, Spec.bytesOf_length]; omega) | (simp; omega)) x
  rw [hs1v] at hs1; clear hs1v
  refine ⟨_, H2, hs1, ?_⟩
  have H2n : H.next ≤ H2.next := hx3.1
  refine st_op (ev_int rfl rfl rfl) rfl rfl rfl ?_
  refine st_op (ev_assign rfl) rfl rfl rfl ?_
  try show aw _ _ _ _ _ _
  refine aw_ret ?_
  have hres : (decide (x ∈ l)) = (decide ((Spec.ixF x l 0) ≥ 0)) := by exact decide_eq_decide.2 (Spec.ixF_mem (by decide)).symm
  exact ⟨.bool (decide ((Spec.ixF x l 0) ≥ 0)), rfl, by rw [hres], hx3⟩
theorem conf_Has_spec (H : Heap) (lA : Option Addr) (l : List Int) (lc : Nat) (hl : Row H lA lc 1 (l.map i64c)) (cl : l.length ≤ lc) (ll : l.length ≤ 140737488355328) (x : Int) : ∃ v H', Spec Try.prog 8 [.slice lA l.length lc, .int .i64 x] H v H' ∧ ((v = .bool (decide (x ∈ l))) ∧ (Ext H H')) := by
  refine spec_go2 E0_ok 8 (f := 8) Try.func8 rfl rfl rfl ?_
  refine aw_seq ?_
  refine aw_reg ?_
  refine st_op (ev_assign rfl) rfl rfl rfl ?_
  try show aw _ _ _ _ _ _
  refine aw_seq ?_
  refine aw_reg ?_
  refine st_op (ev_move rfl) rfl rfl rfl ?_
  refine st_op (ev_move rfl) rfl rfl rfl ?_
  refine st_call rfl rfl rfl ent18 rfl rfl rfl ?_
  obtain ⟨_, H2, hs1, hs1v, hx3⟩ := sl_Contains_spec H lA l lc hl cl (by first | omega | (simp only [List.length_append, List.length_cons, List.length_nil, List.length_map, List.length_set, List.length_replicate, Spec.bytesOf_length]; omega) | (simp; omega)) x
  rw [hs1v] at hs1; clear hs1v
  refine ⟨_, H2, hs1, ?_⟩
  have H2n : H.next ≤ H2.next := hx3.1
  refine st_op (ev_assign rfl) rfl rfl rfl ?_
  try show aw _ _ _ _ _ _
  refine aw_ret ?_
  have hres : (decide (x ∈ l)) = (decide (x ∈ l)) := by rfl
  exact ⟨.bool (decide (x ∈ l)), rfl, by rw [hres], hx3⟩
theorem conf_Remove1_spec (H : Heap) (y : Int) (id : Int) (cl : Nat) (hcl : cl < H.next) (Bcl : H.blk cl = some ⟨[.int .i64 id], 1, false, false⟩) : ∃ v H', Spec Try.prog 20 [.int .i64 y, .pointer (some ⟨cl, 0, none⟩)] H v H' ∧ ((v = .bool (y == id)) ∧ (Ext H H')) := by
  refine spec_go2 E0_ok 7 (f := 20) Try.func20 rfl rfl rfl ?_
  refine aw_seq ?_
  refine aw_reg ?_
  refine st_op (ev_assign rfl) rfl rfl rfl ?_
  try show aw _ _ _ _ _ _
  refine aw_seq ?_
  refine aw_reg ?_
  refine st_op (ev_move rfl) rfl rfl rfl ?_
  refine st_op (ev_load rfl (lvar_one one3 Bcl rfl)) rfl rfl rfl ?_
  refine st_op (ev_int rfl rfl rfl) rfl rfl rfl ?_
  refine st_op (ev_assign rfl) rfl rfl rfl ?_
  try show aw _ _ _ _ _ _
  refine aw_ret ?_
  have hres : (y == id) = (y == id) := by rfl
  exact ⟨.bool (y == id), rfl, by rw [hres], (Ext.refl H)⟩
theorem rm_find_spec (H : Heap) (lA : Option Addr) (l : List Int) (lc : Nat) (hl : Row H lA lc 1 (l.map i64c)) (cl : l.length ≤ lc) (ll : l.length ≤ 1099511627776) (id : Int) (cl : Nat) (hcl : cl < H.next) (Bcl : H.blk cl = some ⟨[.int .i64 id], 1, false, false⟩) : ∃ v H', Spec Try.prog 25 [.slice lA l.length lc, .func (.func 20) #[] #[.pointer (some ⟨cl, 0, none⟩)]] H v H' ∧ ((v = .int .i64 (Spec.findF (fun (y : Int) => y == id) l 0)) ∧ (-1 ≤ (Spec.findF (fun (y : Int) => y == id) l 0) ∧ (Spec.findF (fun (y : Int) => y == id) l 0) < (l.length : Int)) ∧ (Ext H H')) := by
  refine spec_go2 E0_ok 19 (f := 25) Try.func25 rfl rfl rfl ?_
  refine aw_seq ?_
  refine aw_reg ?_
  refine st_op (ev_assign rfl) rfl rfl rfl ?_
  try show aw _ _ _ _ _ _
  refine aw_seq ?_
  refine aw_seq ?_
  refine aw_reg ?_
  refine st_op (ev_move rfl) rfl rfl rfl ?_
  refine st_op (ev_lenSl rfl Try.underlying23) rfl rfl rfl ?_
  refine st_op (ev_move rfl) rfl rfl rfl ?_
  try show aw _ _ _ _ _ _
  refine aw_block ?_
  refine aw_keep [0, 1, 7, 8] (l' := (.cons 0 (.slice lA l.length lc) (.cons 1 (.func (.func 20) #[] #[.pointer (some ⟨cl, 0, none⟩)]) (.cons 7 (.int .i64 (l.length : Int)) (.cons 8 (.int .i64 0) .nil))))) (by repeat (first | exact Up.done | refine Up.then ?_ | refine Up.inBlock ?_)) rfl ?_
  refine aw_iter (α := Nat × Heap) (fun a => l.length - a.1) (fun a => (.cons 0 (.slice lA l.length lc) (.cons 1 (.func (.func 20) #[] #[.pointer (some ⟨cl, 0, none⟩)]) (.cons 7 (.int .i64 (l.length : Int)) (.cons 8 (.int .i64 (a.1 : Int)) .nil))))) (fun a => a.2) (fun a => (a.1 ≤ l.length) ∧ (Spec.findF (fun (y : Int) => y == id) l 0 = Spec.findF (fun (y : Int) => y == id) (l.drop a.1) (a.1 : Int)) ∧ (Ext H a.2)) (0, H) ⟨(show 0 ≤ l.length from Nat.zero_le _), (show Spec.findF (fun (y : Int) => y == id) l 0 = Spec.findF (fun (y : Int) => y == id) (l.drop 0) (0 : Int) from rfl), (show Ext H H from (Ext.refl H))⟩ ?_
  rintro ⟨i, Hl1⟩ ⟨hi, hv, hxl2⟩ ih3
  replace hi : i ≤ l.length := hi
  replace hv : Spec.findF (fun (y : Int) => y == id) l 0 = Spec.findF (fun (y : Int) => y == id) (l.drop i) (i : Int) := hv
  replace hxl2 : Ext H Hl1 := hxl2
  show aw _ _ _ (RL _ (.cons 0 (.slice lA l.length lc) (.cons 1 (.func (.func 20) #[] #[.pointer (some ⟨cl, 0, none⟩)]) (.cons 7 (.int .i64 (l.length : Int)) (.cons 8 (.int .i64 (i : Int)) .nil))))) Hl1 _
  have Hl1n : H.next ≤ Hl1.next := hxl2.1
  refine aw_seq ?_
  refine aw_reg ?_
  refine st_op (ev_int rfl rfl rfl) rfl rfl rfl ?_
  try show aw _ _ _ _ _ _
  refine aw_seq ?_
  by_cases hc4 : (decide ((i : Int) < (l.length : Int))) = true
  · refine aw_condT hc4 rfl ?_
    try show aw _ _ _ _ _ _
    have hc4 := of_decide_eq_true hc4
    refine aw_skip ?_
    try show aw _ _ _ _ _ _
    refine aw_seq ?_
    refine aw_block ?_
    refine aw_seq ?_
    refine aw_reg ?_
    refine st_op (ev_move rfl) rfl rfl rfl ?_
    refine st_op (ev_assign rfl) rfl rfl rfl ?_
    try show aw _ _ _ _ _ _
    refine aw_seq ?_
    refine aw_reg ?_
    refine st_op (ev_move rfl) rfl rfl rfl ?_
    refine st_op (ev_move rfl) rfl rfl rfl ?_
    refine st_op (ev_move rfl) rfl rfl rfl ?_
    have h5 := Row.ext hl hxl2
    have hi6 : 0 ≤ ((i : Int) : Int) := by omega
    have hi7 : ((i : Int) : Int) < ((l.length : Nat) : Int) := by first | omega | (simp only [List.length_append, List.length_cons, List.length_nil, List.length_map, List.length_set, List.length_replicate, Spec.bytesOf_length]; omega) | (simp; omega)
    obtain ⟨x8, hx9⟩ : ∃ e, l[i]? = some e := ⟨_, List.getElem?_eq_getElem (by first | omega | (simp only [List.length_append, List.length_cons, List.length_nil, List.length_map, List.length_set, List.length_replicate, Spec.bytesOf_length]; omega) | (simp; omega))⟩
    refine st_op (ev_at rfl rfl h5 (getMap i64c hx9) (by first | rfl | omega | simp) hi6 hi7 el23) rfl rfl rfl ?_
    refine st_op (ev_atL rfl h5 (getMap i64c hx9) one3 rfl) rfl rfl rfl ?_
    refine st_callv rfl rfl rfl rfl rfl ent20 rfl rfl rfl ?_
    have h10 := Ext.blk hxl2 (by omega) Bcl
    obtain ⟨_, H12, hs11, hs11v, hx13⟩ := conf_Remove1_spec Hl1 x8 id cl (by omega) h10
    rw [hs11v] at hs11; clear hs11v
    refine ⟨_, H12, hs11, ?_⟩
    have H12n : Hl1.next ≤ H12.next := hx13.1
    try show aw _ _ _ _ _ _
    by_cases hc14 : (x8 == id) = true
    · refine aw_condT hc14 rfl ?_
      try show aw _ _ _ _ _ _
      have hc14 := eq_of_beq hc14
      refine aw_seq ?_
      refine aw_reg ?_
      refine st_op (ev_move rfl) rfl rfl rfl ?_
      refine st_op (ev_assign rfl) rfl rfl rfl ?_
      try show aw _ _ _ _ _ _
      refine aw_ret ?_
      have hx15 : Ext H H12 := (Ext.trans hxl2 hx13)
      have hres : (Spec.findF (fun (y : Int) => y == id) l 0) = (i : Int) := by rw [hv, drop_at hx9, Spec.findF, if_pos (by exact beq_iff_eq.2 (by assumption))]
      exact ⟨.int .i64 (i : Int), rfl, by rw [hres], (by exact Spec.findF_bd _ _), hx15⟩
    · rw [Bool.not_eq_true] at hc14; refine aw_condF hc14 rfl ?_
      try show aw _ _ _ _ _ _
      have hc14 := ne_of_beq_false hc14
      refine aw_skip ?_
      try show aw _ _ _ _ _ _
      refine aw_reg ?_
      refine st_op (ev_int64 (c := (i : Int) + 1) rfl rfl rfl (by omega) (by omega)) rfl rfl rfl ?_
      refine st_op (ev_move rfl) rfl rfl rfl ?_
      try show aw _ _ _ _ _ _
      have hx16 : Ext H H12 := (Ext.trans hxl2 hx13)
      refine aw_keep [0, 1, 7, 8] (l' := (.cons 0 (.slice lA l.length lc) (.cons 1 (.func (.func 20) #[] #[.pointer (some ⟨cl, 0, none⟩)]) (.cons 7 (.int .i64 (l.length : Int)) (.cons 8 (.int .i64 ((i : Int) + 1)) .nil))))) (by repeat (first | exact Up.done | refine Up.then ?_ | refine Up.inBlock ?_)) rfl ?_
      exact ih3 (i + 1, H12) ⟨(show (i + 1) ≤ l.length from (by omega)), (show Spec.findF (fun (y : Int) => y == id) l 0 = Spec.findF (fun (y : Int) => y == id) (l.drop (i + 1)) ((i + 1) : Int) from (by rw [hv, drop_at hx9, Spec.findF, if_neg (by first | exact beq_eq_false_iff_ne.2 (by assumption) | simp_all)] <;> rfl)), (show Ext H H12 from hx16)⟩ (by simp only; omega)
  · rw [Bool.not_eq_true] at hc4; refine aw_condF hc4 rfl ?_
    try show aw _ _ _ _ _ _
    have hc4 := of_decide_eq_false hc4
    refine aw_exit ?_
    try show aw _ _ _ _ _ _
    refine aw_seq ?_
    refine aw_reg ?_
    refine st_op (ev_assign rfl) rfl rfl rfl ?_
    try show aw _ _ _ _ _ _
    refine aw_ret ?_
    have hres : (Spec.findF (fun (y : Int) => y == id) l 0) = (-1) := by rw [hv, List.drop_eq_nil_of_le (by omega)]; rfl
    exact ⟨.int .i64 (-1), rfl, by rw [hres], (by exact Spec.findF_bd _ _), hxl2⟩
theorem rm_del_spec (H : Heap) (lH : Heap) (lA : Option Addr) (l : List Int) (lc : Nat) (hl : My lH H lA lc 1 (l.map i64c)) (nl : lH.next ≤ H.next) (ll : l.length ≤ 137438953472) (id : Int) (cl : Nat) (hcl : cl < H.next) (Bcl : H.blk cl = some ⟨[.int .i64 id], 1, false, false⟩) (ucl : cl < lH.next) : ∃ v H', Spec Try.prog 19 [.slice lA l.length lc, .func (.func 20) #[] #[.pointer (some ⟨cl, 0, none⟩)]] H v H' ∧ (∃ rA0 rc0, (v = .slice rA0 ((l.filter (Spec.notp (fun (y : Int) => y == id))).length) rc0) ∧ (My lH H' rA0 rc0 1 ((l.filter (Spec.notp (fun (y : Int) => y == id))).map i64c)) ∧ (((l.filter (Spec.notp (fun (y : Int) => y == id)))).length ≤ l.length) ∧ (Fr (fun q => (lH.next ≤ q ∧ q < H.next ∧ ZB H q 1)) H H')) := by
  refine spec_go2 E0_ok 42 (f := 19) Try.func19 rfl rfl rfl ?_
  refine aw_seq ?_
  refine aw_reg ?_
  refine st_op (ev_assign rfl) rfl rfl rfl ?_
  try show aw _ _ _ _ _ _
  refine aw_seq ?_
  refine aw_reg ?_
  refine st_op (ev_move rfl) rfl rfl rfl ?_
  refine st_op (ev_move rfl) rfl rfl rfl ?_
  refine st_call rfl rfl rfl ent25 rfl rfl rfl ?_
  obtain ⟨_, H2, hs1, hs1v, hq4, hx3⟩ := rm_find_spec H lA l lc (My.row hl) (My.capF hl (by first | omega | (simp only [List.length_append, List.length_cons, List.length_nil, List.length_map, List.length_set, List.length_replicate, Spec.bytesOf_length]; omega) | (simp; omega))) (by first | omega | (simp only [List.length_append, List.length_cons, List.length_nil, List.length_map, List.length_set, List.length_replicate, Spec.bytesOf_length]; omega) | (simp; omega)) id cl (by omega) Bcl
  rw [hs1v] at hs1; clear hs1v
  generalize hR6 : (Spec.findF (fun (y : Int) => y == id) l 0) = r5 at hs1 hq4
  refine ⟨_, H2, hs1, ?_⟩
  have H2n : H.next ≤ H2.next := hx3.1
  refine st_op (ev_assign rfl) rfl rfl rfl ?_
  try show aw _ _ _ _ _ _
  refine aw_seq ?_
  refine aw_seq ?_
  refine aw_reg ?_
  refine st_op (ev_move rfl) rfl rfl rfl ?_
  refine st_op (ev_int rfl rfl rfl) rfl rfl rfl ?_
  try show aw _ _ _ _ _ _
  by_cases hc7 : (r5 == (-1)) = true
  · refine aw_condT hc7 rfl ?_
    try show aw _ _ _ _ _ _
    have hc7 := eq_of_beq hc7
    refine aw_seq ?_
    refine aw_reg ?_
    refine st_op (ev_move rfl) rfl rfl rfl ?_
    refine st_op (ev_assign rfl) rfl rfl rfl ?_
    try show aw _ _ _ _ _ _
    refine aw_ret ?_
    have h8 := My.ext hl hx3
    have hres : (l.filter (Spec.notp (fun (y : Int) => y == id))) = l := by exact Spec.findF_none (by first | assumption | (rw [hR6]; assumption))
    exact ⟨.slice lA l.length lc, rfl, lA, lc, by rw [hres]; first | done | rfl | simp, (by rw [hres]; exact h8), (by exact List.length_filter_le _ _), (Fr.trans (Fr.refl (fun q => (lH.next ≤ q ∧ q < H.next ∧ ZB H q 1)) H) (hx3.fr fun _ => False) (fun q hq (e : False) => e.elim))⟩
  · rw [Bool.not_eq_true] at hc7; refine aw_condF hc7 rfl ?_
    try show aw _ _ _ _ _ _
    have hc7 := ne_of_beq_false hc7
    refine aw_skip ?_
    try show aw _ _ _ _ _ _
    refine aw_seq ?_
    refine aw_seq ?_
    refine aw_reg ?_
    refine st_op (ev_move rfl) rfl rfl rfl ?_
    refine st_op (ev_int64 (c := r5 + 1) rfl rfl rfl (by omega) (by omega)) rfl rfl rfl ?_
    refine st_op (ev_assign rfl) rfl rfl rfl ?_
    try show aw _ _ _ _ _ _
    refine aw_block ?_
    obtain ⟨hdi, hr0⟩ := Spec.DelInv.begin (p := (fun (y : Int) => y == id)) (l := l) hR6 (by assumption)
    have hdi0 := hdi.le
    have h12 := My.ext hl hx3
    refine aw_keep [0, 1, 5, 6] (l' := (.cons 0 (.slice lA l.length lc) (.cons 1 (.func (.func 20) #[] #[.pointer (some ⟨cl, 0, none⟩)]) (.cons 5 (.int .i64 r5) (.cons 6 (.int .i64 (r5 + 1)) .nil))))) (by repeat (first | exact Up.done | refine Up.then ?_ | refine Up.inBlock ?_)) rfl ?_
    refine aw_iter (α := Int × Int × List Int × Heap) (fun a => l.length - a.2.1.toNat) (fun a => (.cons 0 (.slice lA l.length lc) (.cons 1 (.func (.func 20) #[] #[.pointer (some ⟨cl, 0, none⟩)]) (.cons 5 (.int .i64 a.1) (.cons 6 (.int .i64 a.2.1) .nil))))) (fun a => a.2.2.2) (fun a => (a.1 < a.2.1) ∧ (Spec.DelInv (fun (y : Int) => y == id) l a.2.2.1 a.1.toNat a.2.1.toNat) ∧ (0 ≤ a.1 ∧ a.1 ≤ 274877906944) ∧ (0 ≤ a.2.1 ∧ a.2.1 ≤ 274877906944) ∧ (My lH a.2.2.2 lA lc 1 (a.2.2.1.map i64c)) ∧ (Fr (fun q => (lH.next ≤ q ∧ q < H2.next ∧ ZB H2 q 1)) H2 a.2.2.2)) (r5, r5 + 1, l, H2) ⟨(show r5 < (r5 + 1) from (by omega)), (show Spec.DelInv (fun (y : Int) => y == id) l l r5.toNat (r5 + 1).toNat from hdi), (show 0 ≤ r5 ∧ r5 ≤ 274877906944 from ⟨by omega, by omega⟩), (show 0 ≤ (r5 + 1) ∧ (r5 + 1) ≤ 274877906944 from ⟨by omega, by omega⟩), (show My lH H2 lA lc 1 (l.map i64c) from h12), (show Fr (fun q => (lH.next ≤ q ∧ q < H2.next ∧ ZB H2 q 1)) H2 H2 from (Fr.refl _ H2))⟩ ?_
    rintro ⟨i, j, l1, Hl9⟩ ⟨hij, hinv, hn10, hn11, hm13, hxl14⟩ ih15
    replace hij : i < j := hij
    replace hinv : Spec.DelInv (fun (y : Int) => y == id) l l1 i.toNat j.toNat := hinv
    replace hn10 : 0 ≤ i ∧ i ≤ 274877906944 := hn10
    replace hn11 : 0 ≤ j ∧ j ≤ 274877906944 := hn11
    replace hm13 : My lH Hl9 lA lc 1 (l1.map i64c) := hm13
    replace hxl14 : Fr (fun q => (lH.next ≤ q ∧ q < H2.next ∧ ZB H2 q 1)) H2 Hl9 := hxl14
    show aw _ _ _ (RL _ (.cons 0 (.slice lA l.length lc) (.cons 1 (.func (.func 20) #[] #[.pointer (some ⟨cl, 0, none⟩)]) (.cons 5 (.int .i64 i) (.cons 6 (.int .i64 j) .nil))))) Hl9 _
    have Hl9n : H2.next ≤ Hl9.next := hxl14.1
    have hle1 := hinv.len
    have hlt1 := hinv.lt
    have hle2 := hinv.le
    refine aw_seq ?_
    refine aw_seq ?_
    refine aw_reg ?_
    refine st_op (ev_move rfl) rfl rfl rfl ?_
    refine st_op (ev_move rfl) rfl rfl rfl ?_
    refine st_op (ev_lenSl rfl Try.underlying23) rfl rfl rfl ?_
    refine st_op (ev_int rfl rfl rfl) rfl rfl rfl ?_
    try show aw _ _ _ _ _ _
    by_cases hc16 : (decide (j < (l.length : Int))) = true
    · refine aw_condT hc16 rfl ?_
      try show aw _ _ _ _ _ _
      have hc16 := of_decide_eq_true hc16
      refine aw_skip ?_
      try show aw _ _ _ _ _ _
      refine aw_seq ?_
      refine aw_block ?_
      refine aw_seq ?_
      refine aw_reg ?_
      refine st_op (ev_move rfl) rfl rfl rfl ?_
      refine st_op (ev_move rfl) rfl rfl rfl ?_
      have hi17 : 0 ≤ (j : Int) := by omega
      have hi18 : (j : Int) < ((l.length : Nat) : Int) := by first | omega | (simp only [List.length_append, List.length_cons, List.length_nil, List.length_map, List.length_set, List.length_replicate, Spec.bytesOf_length]; omega) | (simp; omega)
      obtain ⟨x19, hx20⟩ : ∃ e, l1[(j).toNat]? = some e := ⟨_, List.getElem?_eq_getElem (by first | omega | (simp only [List.length_append, List.length_cons, List.length_nil, List.length_map, List.length_set, List.length_replicate, Spec.bytesOf_length]; omega) | (simp; omega))⟩
      refine st_op (ev_at rfl rfl (My.row hm13) (getMap i64c hx20) (by first | rfl | omega | simp) hi17 hi18 el23) rfl rfl rfl ?_
      refine st_op (ev_atL rfl (My.row hm13) (getMap i64c hx20) one3 rfl) rfl rfl rfl ?_
      refine st_op (ev_assign rfl) rfl rfl rfl ?_
      try show aw _ _ _ _ _ _
      refine aw_seq ?_
      refine aw_reg ?_
      refine st_op (ev_move rfl) rfl rfl rfl ?_
      refine st_op (ev_move rfl) rfl rfl rfl ?_
      refine st_callv rfl rfl rfl rfl rfl ent20 rfl rfl rfl ?_
      have h21 := Ext.blk hx3 (by omega) Bcl
      have h22 := Fr.blk hxl14 (by omega) (fun e => (by omega)) h21
      obtain ⟨_, H24, hs23, hs23v, hx25⟩ := conf_Remove1_spec Hl9 x19 id cl (by omega) h22
      rw [hs23v] at hs23; clear hs23v
      refine ⟨_, H24, hs23, ?_⟩
      have H24n : Hl9.next ≤ H24.next := hx25.1
      refine st_op (ev_not rfl) rfl rfl rfl ?_
      try show aw _ _ _ _ _ _
      by_cases hc26 : (!(x19 == id)) = true
      · refine aw_condT hc26 rfl ?_
        try show aw _ _ _ _ _ _
        replace hc26 : (x19 == id) = false := by rw [Bool.not_eq_true'] at hc26; exact hc26
        have hc26 := ne_of_beq_false hc26
        refine aw_seq ?_
        refine aw_reg ?_
        refine st_op (ev_move rfl) rfl rfl rfl ?_
        refine st_op (ev_move rfl) rfl rfl rfl ?_
        refine st_op (ev_move rfl) rfl rfl rfl ?_
        have h27 := My.ext hm13 hx25
        have hi28 : 0 ≤ (i : Int) := by omega
        have hi29 : (i : Int) < ((l.length : Nat) : Int) := by first | omega | (simp only [List.length_append, List.length_cons, List.length_nil, List.length_map, List.length_set, List.length_replicate, Spec.bytesOf_length]; omega) | (simp; omega)
        obtain ⟨x30, hx31⟩ : ∃ e, l1[(i).toNat]? = some e := ⟨_, List.getElem?_eq_getElem (by first | omega | (simp only [List.length_append, List.length_cons, List.length_nil, List.length_map, List.length_set, List.length_replicate, Spec.bytesOf_length]; omega) | (simp; omega))⟩
        refine st_op (ev_at rfl rfl (My.row h27) (getMap i64c hx31) (by first | rfl | omega | simp) hi28 hi29 el23) rfl rfl rfl ?_
        obtain ⟨H32, W33, he34, hm35, hf36, H32n_⟩ := mem_storeAt (v := .int .i64 x19) size3 rfl rfl hm13 h27 (getMap i64c hx31) (show 0 < 1 by decide)
        rw [show (i64c x30).set 0 (.int .i64 x19) = i64c x19 from rfl, ← List.map_set] at hm35
        refine st_op0 (he34 _ _ _ _ _ _ _ _ _ rfl rfl) rfl rfl ?_
        have H32n : H24.next ≤ H32.next := hf36.1
        try show aw _ _ _ _ _ _
        refine aw_reg ?_
        refine st_op (ev_move rfl) rfl rfl rfl ?_
        refine st_op (ev_int64 (c := i + 1) rfl rfl rfl (by omega) (by omega)) rfl rfl rfl ?_
        refine st_op (ev_assign rfl) rfl rfl rfl ?_
        try show aw _ _ _ _ _ _
        refine aw_reg ?_
        refine st_op (ev_move rfl) rfl rfl rfl ?_
        refine st_op (ev_int64 (c := j + 1) rfl rfl rfl (by omega) (by omega)) rfl rfl rfl ?_
        refine st_op (ev_assign rfl) rfl rfl rfl ?_
        try show aw _ _ _ _ _ _
        refine aw_keep [0, 1, 5, 6] (l' := (.cons 0 (.slice lA l.length lc) (.cons 1 (.func (.func 20) #[] #[.pointer (some ⟨cl, 0, none⟩)]) (.cons 5 (.int .i64 (i + 1)) (.cons 6 (.int .i64 (j + 1)) .nil))))) (by repeat (first | exact Up.done | refine Up.then ?_ | refine Up.inBlock ?_)) rfl ?_
        exact ih15 (i + 1, j + 1, (l1.set ((i).toNat) x19), H32) ⟨(show (i + 1) < (j + 1) from (by omega)), (show Spec.DelInv (fun (y : Int) => y == id) l (l1.set ((i).toNat) x19) (i + 1).toNat (j + 1).toNat from (by rw [show (i + 1).toNat = i.toNat + 1 by omega, show (j + 1).toNat = j.toNat + 1 by omega]; first | exact hinv.keep hx20 (by first | exact beq_eq_false_iff_ne.2 (by assumption) | simp_all) | exact hinv.skip hx20 (by exact beq_iff_eq.2 (by assumption)))), (show 0 ≤ (i + 1) ∧ (i + 1) ≤ 274877906944 from ⟨by omega, by omega⟩), (show 0 ≤ (j + 1) ∧ (j + 1) ≤ 274877906944 from ⟨by omega, by omega⟩), (show My lH H32 lA lc 1 ((l1.set ((i).toNat) x19).map i64c) from hm35), (show Fr (fun q => (lH.next ≤ q ∧ q < H2.next ∧ ZB H2 q 1)) H2 H32 from (Fr.transG (Fr.trans (Fr.transG (Fr.refl (fun q => (lH.next ≤ q ∧ q < H2.next ∧ ZB H2 q 1)) H2) hxl14 (fun q hq hE e => (⟨by omega, by omega, ZB.back hE e.2.2⟩))) (hx25.fr fun _ => False) (fun q hq (e : False) => e.elim)) hf36 (fun q hq hE e => (⟨by omega, by omega, ZB.back hE e.2.2⟩))))⟩ (by simp only; omega)
      · rw [Bool.not_eq_true] at hc26; refine aw_condF hc26 rfl ?_
        try show aw _ _ _ _ _ _
        replace hc26 : (x19 == id) = true := by rw [Bool.not_eq_false'] at hc26; exact hc26
        have hc26 := eq_of_beq hc26
        refine aw_skip ?_
        try show aw _ _ _ _ _ _
        refine aw_reg ?_
        refine st_op (ev_move rfl) rfl rfl rfl ?_
        refine st_op (ev_int64 (c := j + 1) rfl rfl rfl (by omega) (by omega)) rfl rfl rfl ?_
        refine st_op (ev_assign rfl) rfl rfl rfl ?_
        try show aw _ _ _ _ _ _
        have h37 := My.ext hm13 hx25
        refine aw_keep [0, 1, 5, 6] (l' := (.cons 0 (.slice lA l.length lc) (.cons 1 (.func (.func 20) #[] #[.pointer (some ⟨cl, 0, none⟩)]) (.cons 5 (.int .i64 i) (.cons 6 (.int .i64 (j + 1)) .nil))))) (by repeat (first | exact Up.done | refine Up.then ?_ | refine Up.inBlock ?_)) rfl ?_
        exact ih15 (i, j + 1, l1, H24) ⟨(show i < (j + 1) from (by omega)), (show Spec.DelInv (fun (y : Int) => y == id) l l1 i.toNat (j + 1).toNat from (by rw [show (j + 1).toNat = j.toNat + 1 by omega]; first | exact hinv.keep hx20 (by first | exact beq_eq_false_iff_ne.2 (by assumption) | simp_all) | exact hinv.skip hx20 (by exact beq_iff_eq.2 (by assumption)))), (show 0 ≤ i ∧ i ≤ 274877906944 from ⟨by omega, by omega⟩), (show 0 ≤ (j + 1) ∧ (j + 1) ≤ 274877906944 from ⟨by omega, by omega⟩), (show My lH H24 lA lc 1 (l1.map i64c) from h37), (show Fr (fun q => (lH.next ≤ q ∧ q < H2.next ∧ ZB H2 q 1)) H2 H24 from (Fr.trans (Fr.transG (Fr.refl (fun q => (lH.next ≤ q ∧ q < H2.next ∧ ZB H2 q 1)) H2) hxl14 (fun q hq hE e => (⟨by omega, by omega, ZB.back hE e.2.2⟩))) (hx25.fr fun _ => False) (fun q hq (e : False) => e.elim)))⟩ (by simp only; omega)
    · rw [Bool.not_eq_true] at hc16; refine aw_condF hc16 rfl ?_
      try show aw _ _ _ _ _ _
      have hc16 := of_decide_eq_false hc16
      refine aw_exit ?_
      try show aw _ _ _ _ _ _
      refine aw_seq ?_
      refine aw_reg ?_
      refine st_op (ev_move rfl) rfl rfl rfl ?_
      refine st_op (ev_move rfl) rfl rfl rfl ?_
      obtain ⟨A38, c39, L40, hL41, hl42, hs43, hr44⟩ := sliceA_my i64c el23 (by decide) hm13 (by first | omega | (simp only [List.length_append, List.length_cons, List.length_nil, List.length_map, List.length_set, List.length_replicate, Spec.bytesOf_length]; omega) | (simp; omega)) (lo := some (.int .i64 i)) (hi := none) (p := (i).toNat) (q := l1.length) rfl (bound_int (by first | omega | (simp only [List.length_append, List.length_cons, List.length_nil, List.length_map, List.length_set, List.length_replicate, Spec.bytesOf_length]; omega) | (simp; omega)) (by first | omega | (simp only [List.length_append, List.length_cons, List.length_nil, List.length_map, List.length_set, List.length_replicate, Spec.bytesOf_length]; omega) | (simp; omega)) (by first | rfl | omega)) (by first | omega | (simp only [List.length_append, List.length_cons, List.length_nil, List.length_map, List.length_set, List.length_replicate, Spec.bytesOf_length]; omega) | (simp; omega)) (by first | omega | (simp only [List.length_append, List.length_cons, List.length_nil, List.length_map, List.length_set, List.length_replicate, Spec.bytesOf_length]; omega) | (simp; omega)) (.inl rfl)
      rw [show l1.length = l.length from by first | rfl | (simp; done) | omega] at hs43
      refine st_op (ev_slice rfl rfl rfl rfl hs43) rfl rfl rfl ?_
      obtain ⟨H46, W47, he48, hm49, hf50, H46n_⟩ := mem_clear (e0 := (0 : Int)) (p := (i).toNat) eok23 el23 zero3 rfl hm13 hm13 hs43 (.inr ⟨_, _, rfl, by first | rfl | simp⟩) (by first | omega | (simp only [List.length_append, List.length_cons, List.length_nil, List.length_map, List.length_set, List.length_replicate, Spec.bytesOf_length]; omega) | (simp; omega))
      refine st_op0 (he48 _ _ _ _ _ _ _ _ rfl) rfl rfl ?_
      have H46n : Hl9.next ≤ H46.next := hf50.1
      have hl51 : (l1.take ((i).toNat) ++ List.replicate L40.length (0 : Int) ++ l1.drop ((i).toNat + L40.length)).length = l1.length := by simp only [List.length_append, List.length_take, List.length_replicate, List.length_drop]; omega
      try show aw _ _ _ _ _ _
      refine aw_seq ?_
      refine aw_reg ?_
      refine st_op (ev_move rfl) rfl rfl rfl ?_
      refine st_op (ev_move rfl) rfl rfl rfl ?_
      obtain ⟨A52, c53, L54, hL55, hl56, hs57, hr58⟩ := sliceA_my i64c el23 (by decide) hm49 (by first | omega | (simp only [List.length_append, List.length_cons, List.length_nil, List.length_map, List.length_set, List.length_replicate, Spec.bytesOf_length]; omega) | (simp; omega)) (lo := none) (hi := some (.int .i64 i)) (p := 0) (q := (i).toNat) (by rw [Option.isSome_some, if_pos rfl]; exact bound_int (by first | omega | (simp only [List.length_append, List.length_cons, List.length_nil, List.length_map, List.length_set, List.length_replicate, Spec.bytesOf_length]; omega) | (simp; omega)) (by first | omega | (simp only [List.length_append, List.length_cons, List.length_nil, List.length_map, List.length_set, List.length_replicate, Spec.bytesOf_length]; omega) | (simp; omega)) (by first | rfl | omega)) rfl (by first | omega | (simp only [List.length_append, List.length_cons, List.length_nil, List.length_map, List.length_set, List.length_replicate, Spec.bytesOf_length]; omega) | (simp; omega)) (by first | omega | (simp only [List.length_append, List.length_cons, List.length_nil, List.length_map, List.length_set, List.length_replicate, Spec.bytesOf_length]; omega) | (simp; omega)) (.inr ⟨_, _, rfl⟩)
      rw [show (l1.take ((i).toNat) ++ List.replicate L40.length (0 : Int) ++ l1.drop ((i).toNat + L40.length)).length = l.length from by first | rfl | (simp; done) | omega] at hs57
      refine st_op (ev_slice rfl rfl rfl rfl hs57) rfl rfl rfl ?_
      refine st_op (ev_assign rfl) rfl rfl rfl ?_
      try show aw _ _ _ _ _ _
      refine aw_ret ?_
      have hres : (l.filter (Spec.notp (fun (y : Int) => y == id))) = L54 := by rw [hL55]; rw [List.drop_zero, Nat.sub_zero, Spec.del_take (by omega), hinv.done (by omega)]
      exact ⟨.slice A52 L54.length c53, rfl, A52, c53, by rw [hres]; first | done | rfl | simp, (by rw [hres]; exact hr58), (by exact List.length_filter_le _ _), (Fr.transG (Fr.transG (Fr.trans (Fr.refl (fun q => (lH.next ≤ q ∧ q < H.next ∧ ZB H q 1)) H) (hx3.fr fun _ => False) (fun q hq (e : False) => e.elim)) hxl14 (fun q hq hE e => (⟨by omega, by omega, ZB.back hE e.2.2⟩))) hf50 (fun q hq hE e => (⟨by omega, by omega, ZB.back hE e.2.2⟩)))⟩
theorem conf_Remove_spec (H : Heap) (lA : Option Addr) (l : List Int) (lc : Nat) (hl : Row H lA lc 1 (l.map i64c)) (cl : l.length ≤ lc) (ll : l.length ≤ 8) (k : Int) : ∃ v H', Spec Try.prog 9 [.slice lA l.length lc, .int .i64 k] H v H' ∧ (∃ rA0 rc0, (v = .tuple #[.slice rA0 (((Spec.remC l k).1).length) rc0, .bool ((Spec.remC l k).2)]) ∧ (My H H' rA0 rc0 1 (((Spec.remC l k).1).map i64c)) ∧ (((Spec.remC l k)).1.length ≤ 7) ∧ (Ext H H')) := by
  refine spec_go2 E0_ok 26 (f := 9) Try.func9 rfl rfl rfl ?_
  refine aw_seq ?_
  refine aw_reg ?_
  obtain ⟨b1, H2, he3, b1e, H2n_, hB5, f4⟩ := mem_box (P := Try.prog) H (v := .int .i64 k) (cs := [.int .i64 k]) rfl rfl
  refine st_op (he3 _ _ _ _ _ _ _ _ _ rfl) rfl rfl rfl ?_
  have hx6 : Ext H H2 := Ext.new (by omega) H2n_ f4
  have H2n : H.next ≤ H2.next := hx6.1
  refine st_op (ev_assign rfl) rfl rfl rfl ?_
  refine st_op (ev_assign rfl) rfl rfl rfl ?_
  try show aw _ _ _ _ _ _
  refine aw_seq ?_
  refine aw_reg ?_
  refine st_op (ev_move rfl) rfl rfl rfl ?_
  refine st_call rfl rfl rfl ent16 rfl rfl rfl ?_
  have h7 := Row.ext hl hx6
  obtain ⟨_, H9, hs8, A11, c12, hs8v, hm13, hx10⟩ := sl_Clone_spec H2 lA l lc h7 cl (by first | omega | (simp only [List.length_append, List.length_cons, List.length_nil, List.length_map, List.length_set, List.length_replicate, Spec.bytesOf_length]; omega) | (simp; omega))
  rw [hs8v] at hs8; clear hs8v
  refine ⟨_, H9, hs8, ?_⟩
  have H9n : H2.next ≤ H9.next := hx10.1
  refine st_op (ev_makeFunc rfl) rfl rfl rfl ?_
  refine st_call rfl rfl rfl ent19 rfl rfl rfl ?_
  have h14 := Ext.blk hx10 (by omega) hB5
  obtain ⟨_, H16, hs15, A18, c19, hs15v, hm20, hq21, hx17⟩ := rm_del_spec H9 H2 A11 l c12 hm13 (by omega) (by first | omega | (simp only [List.length_append, List.length_cons, List.length_nil, List.length_map, List.length_set, List.length_replicate, Spec.bytesOf_length]; omega) | (simp; omega)) k b1 (by omega) h14 (by omega)
  rw [hs15v] at hs15; clear hs15v
  generalize hR23 : (l.filter (Spec.notp (fun (y : Int) => y == k))) = r22 at hs15 hm20 hq21
  refine ⟨_, H16, hs15, ?_⟩
  have H16n : H9.next ≤ H16.next := hx17.1
  refine st_op (ev_assign rfl) rfl rfl rfl ?_
  try show aw _ _ _ _ _ _
  refine aw_seq ?_
  refine aw_seq ?_
  refine aw_reg ?_
  refine st_op (ev_move rfl) rfl rfl rfl ?_
  refine st_call rfl rfl rfl ent6 rfl rfl rfl ?_
  have hx25 : Ext H2 H16 := (Ext.then hx10 hx17 (fun q hq e => by omega))
  have h24 := Row.ext h7 hx25
  obtain ⟨_, H27, hs26, hs26v, hx28⟩ := conf_May_spec H16 lA l lc h24 cl (by first | omega | (simp only [List.length_append, List.length_cons, List.length_nil, List.length_map, List.length_set, List.length_replicate, Spec.bytesOf_length]; omega) | (simp; omega))
  rw [hs26v] at hs26; clear hs26v
  refine ⟨_, H27, hs26, ?_⟩
  have H27n : H16.next ≤ H27.next := hx28.1
  refine st_op (ev_not rfl) rfl rfl rfl ?_
  refine st_op (ev_move rfl) rfl rfl rfl ?_
  refine st_bool 14 rfl (fun hb29 => ?_) (fun hb29 => ?_)
  ·
    replace hb29 : (Spec.mayC l) = false := by rw [Bool.not_eq_true'] at hb29; exact hb29
    refine st_skip rfl rfl rfl ?_
    refine st_skip rfl rfl rfl ?_
    refine st_skip rfl rfl rfl ?_
    refine st_skip rfl rfl rfl ?_
    refine st_op (ev_pickT rfl rfl) rfl rfl rfl ?_
    refine st_op (ev_move rfl) rfl rfl rfl ?_
    refine st_skip rfl rfl rfl ?_
    refine st_skip rfl rfl rfl ?_
    refine st_skip rfl rfl rfl ?_
    refine st_op (ev_pickT rfl rfl) rfl rfl rfl ?_
    try show aw _ _ _ _ _ _
    refine aw_cond (t := true) rfl ?_
    try show aw _ _ _ _ _ _
    refine aw_seq ?_
    refine aw_reg ?_
    refine st_op (ev_assign rfl) rfl rfl rfl ?_
    refine st_op (ev_assign rfl) rfl rfl rfl ?_
    try show aw _ _ _ _ _ _
    refine aw_ret ?_
    have hm30 : My H27 H27 none 0 1 (([] : List Int).map i64c) := .nil
    have hx31 : Ext H H27 := (Ext.trans (Ext.then (Ext.trans hx6 hx10) hx17 (fun q hq e => by omega)) hx28)
    have hres : (Spec.remC l k) = (([] : List Int), false) := by simp_all [Spec.remC]
    exact ⟨.tuple #[.slice none 0 0, .bool false], rfl, none, 0, by rw [hres]; first | done | rfl | simp, (by rw [hres]; exact (My.older hm30 (by omega))), (by exact Spec.remC_len), hx31⟩
  ·
    replace hb29 : (Spec.mayC l) = true := by rw [Bool.not_eq_false'] at hb29; exact hb29
    refine st_op (ev_move rfl) rfl rfl rfl ?_
    have hx33 : Ext H2 H27 := (Ext.trans hx25 hx28)
    have h32 := Ext.blk hx33 (by omega) hB5
    refine st_op (ev_load rfl (lvar_one one3 h32 rfl)) rfl rfl rfl ?_
    refine st_call rfl rfl rfl ent8 rfl rfl rfl ?_
    have h34 := Row.ext h24 hx28
    obtain ⟨_, H36, hs35, hs35v, hx37⟩ := conf_Has_spec H27 lA l lc h34 cl (by first | omega | (simp only [List.length_append, List.length_cons, List.length_nil, List.length_map, List.length_set, List.length_replicate, Spec.bytesOf_length]; omega) | (simp; omega)) k
    rw [hs35v] at hs35; clear hs35v
    refine ⟨_, H36, hs35, ?_⟩
    have H36n : H27.next ≤ H36.next := hx37.1
    refine st_op (ev_not rfl) rfl rfl rfl ?_
    refine st_op (ev_pickF rfl rfl) rfl rfl rfl ?_
    refine st_op (ev_move rfl) rfl rfl rfl ?_
    refine st_bool 20 rfl (fun hb38 => ?_) (fun hb38 => ?_)
    ·
      replace hb38 : (decide (k ∈ l)) = false := by rw [Bool.not_eq_true'] at hb38; exact hb38
      have hb38 := of_decide_eq_false hb38
      refine st_skip rfl rfl rfl ?_
      refine st_skip rfl rfl rfl ?_
      refine st_skip rfl rfl rfl ?_
      refine st_op (ev_pickT rfl rfl) rfl rfl rfl ?_
      try show aw _ _ _ _ _ _
      refine aw_cond (t := true) rfl ?_
      try show aw _ _ _ _ _ _
      refine aw_seq ?_
      refine aw_reg ?_
      refine st_op (ev_assign rfl) rfl rfl rfl ?_
      refine st_op (ev_assign rfl) rfl rfl rfl ?_
      try show aw _ _ _ _ _ _
      refine aw_ret ?_
      have hm39 : My H36 H36 none 0 1 (([] : List Int).map i64c) := .nil
      have hx40 : Ext H H36 := (Ext.trans (Ext.trans (Ext.then (Ext.trans hx6 hx10) hx17 (fun q hq e => by omega)) hx28) hx37)
      have hres : (Spec.remC l k) = (([] : List Int), false) := by simp_all [Spec.remC]
      exact ⟨.tuple #[.slice none 0 0, .bool false], rfl, none, 0, by rw [hres]; first | done | rfl | simp, (by rw [hres]; exact (My.older hm39 (by omega))), (by exact Spec.remC_len), hx40⟩
    ·
      replace hb38 : (decide (k ∈ l)) = true := by rw [Bool.not_eq_false'] at hb38; exact hb38
      have hb38 := of_decide_eq_true hb38
      refine st_op (ev_move rfl) rfl rfl rfl ?_
      refine st_call rfl rfl rfl ent6 rfl rfl rfl ?_
      have hx42 : Ext H16 H36 := (Ext.trans hx28 hx37)
      have h41 := My.ext hm20 hx42
      obtain ⟨_, H44, hs43, hs43v, hx45⟩ := conf_May_spec H36 A18 r22 c19 (My.row h41) (My.capF h41 (by first | omega | (simp only [List.length_append, List.length_cons, List.length_nil, List.length_map, List.length_set, List.length_replicate, Spec.bytesOf_length]; omega) | (simp; omega))) (by first | omega | (simp only [List.length_append, List.length_cons, List.length_nil, List.length_map, List.length_set, List.length_replicate, Spec.bytesOf_length]; omega) | (simp; omega))
      rw [hs43v] at hs43; clear hs43v
      refine ⟨_, H44, hs43, ?_⟩
      have H44n : H36.next ≤ H44.next := hx45.1
      refine st_op (ev_not rfl) rfl rfl rfl ?_
      refine st_op (ev_pickF rfl rfl) rfl rfl rfl ?_
      try show aw _ _ _ _ _ _
      by_cases hc46 : (!(Spec.mayC r22)) = true
      · refine aw_condT hc46 rfl ?_
        try show aw _ _ _ _ _ _
        replace hc46 : (Spec.mayC r22) = false := by rw [Bool.not_eq_true'] at hc46; exact hc46
        refine aw_seq ?_
        refine aw_reg ?_
        refine st_op (ev_assign rfl) rfl rfl rfl ?_
        refine st_op (ev_assign rfl) rfl rfl rfl ?_
        try show aw _ _ _ _ _ _
        refine aw_ret ?_
        have hm47 : My H44 H44 none 0 1 (([] : List Int).map i64c) := .nil
        have hx48 : Ext H H44 := (Ext.trans (Ext.trans (Ext.trans (Ext.then (Ext.trans hx6 hx10) hx17 (fun q hq e => by omega)) hx28) hx37) hx45)
        have hres : (Spec.remC l k) = (([] : List Int), false) := by simp_all [Spec.remC]
        exact ⟨.tuple #[.slice none 0 0, .bool false], rfl, none, 0, by rw [hres]; first | done | rfl | simp, (by rw [hres]; exact (My.older hm47 (by omega))), (by exact Spec.remC_len), hx48⟩
      · rw [Bool.not_eq_true] at hc46; refine aw_condF hc46 rfl ?_
        try show aw _ _ _ _ _ _
        replace hc46 : (Spec.mayC r22) = true := by rw [Bool.not_eq_false'] at hc46; exact hc46
        refine aw_skip ?_
        try show aw _ _ _ _ _ _
        refine aw_seq ?_
        refine aw_reg ?_
        refine st_op (ev_move rfl) rfl rfl rfl ?_
        refine st_op (ev_assign rfl) rfl rfl rfl ?_
        refine st_op (ev_assign rfl) rfl rfl rfl ?_
        try show aw _ _ _ _ _ _
        refine aw_ret ?_
        have h49 := My.ext h41 hx45
        have hx50 : Ext H H44 := (Ext.trans (Ext.trans (Ext.trans (Ext.then (Ext.trans hx6 hx10) hx17 (fun q hq e => by omega)) hx28) hx37) hx45)
        have hres : (Spec.remC l k) = (r22, true) := by simp_all [Spec.remC]
        exact ⟨.tuple #[.slice A18 r22.length c19, .bool true], rfl, A18, c19, by rw [hres]; first | done | rfl | simp, (by rw [hres]; exact (My.older h49 (by omega))), (by exact Spec.remC_len), hx50⟩
theorem law20_eq_spec (H : Heap) (uaA : Option Addr) (ua : List Int) (uac : Nat) (hua : Row H uaA uac 1 (ua.map i64c)) (cua : ua.length ≤ uac) (lua : ua.length ≤ 140737488355328) (vaA : Option Addr) (va : List Int) (vac : Nat) (hva : Row H vaA vac 1 (va.map i64c)) (cva : va.length ≤ vac) (lva : va.length ≤ 140737488355328) : ∃ v H', Spec Try.prog 10 [.slice uaA ua.length uac, .slice vaA va.length vac] H v H' ∧ ((v = .bool (decide (ua = va))) ∧ (Ext H H')) := by
  refine spec_go2 E0_ok 26 (f := 10) Try.func10 rfl rfl rfl ?_
  refine aw_seq ?_
  refine aw_reg ?_
  refine st_op (ev_assign rfl) rfl rfl rfl ?_
  try show aw _ _ _ _ _ _
  refine aw_seq ?_
  refine aw_seq ?_
  refine aw_reg ?_
  refine st_op (ev_move rfl) rfl rfl rfl ?_
  refine st_op (ev_lenSl rfl Try.underlying23) rfl rfl rfl ?_
  refine st_op (ev_move rfl) rfl rfl rfl ?_
  refine st_op (ev_lenSl rfl Try.underlying23) rfl rfl rfl ?_
  refine st_op (ev_int rfl rfl rfl) rfl rfl rfl ?_
  try show aw _ _ _ _ _ _
  by_cases hc1 : ((ua.length : Int) != (va.length : Int)) = true
  · refine aw_condT hc1 rfl ?_
    try show aw _ _ _ _ _ _
    have hc1 : ¬ ((ua.length : Int) = (va.length : Int)) := by simpa using hc1
    refine aw_seq ?_
    refine aw_reg ?_
    refine st_op (ev_assign rfl) rfl rfl rfl ?_
    try show aw _ _ _ _ _ _
    refine aw_ret ?_
    have hres : (decide (ua = va)) = false := by exact decide_eq_false (fun h => by have := congrArg List.length h; omega)
    exact ⟨.bool false, rfl, by rw [hres], (Ext.refl H)⟩
  · rw [Bool.not_eq_true] at hc1; refine aw_condF hc1 rfl ?_
    try show aw _ _ _ _ _ _
    have hc1 : ((ua.length : Int) = (va.length : Int)) := by simpa using hc1
    refine aw_skip ?_
    try show aw _ _ _ _ _ _
    refine aw_seq ?_
    refine aw_seq ?_
    refine aw_reg ?_
    refine st_op (ev_assign rfl) rfl rfl rfl ?_
    try show aw _ _ _ _ _ _
    refine aw_block ?_
    refine aw_keep [0, 1, 5] (l' := (.cons 0 (.slice uaA ua.length uac) (.cons 1 (.slice vaA va.length vac) (.cons 5 (.int .i64 0) .nil)))) (by repeat (first | exact Up.done | refine Up.then ?_ | refine Up.inBlock ?_)) rfl ?_
    refine aw_iter (α := Nat × Heap) (fun a => ua.length - a.1) (fun a => (.cons 0 (.slice uaA ua.length uac) (.cons 1 (.slice vaA va.length vac) (.cons 5 (.int .i64 (a.1 : Int)) .nil)))) (fun a => a.2) (fun a => (a.1 ≤ ua.length) ∧ (ua.take a.1 = va.take a.1) ∧ (Ext H a.2)) (0, H) ⟨(show 0 ≤ ua.length from Nat.zero_le _), (show ua.take 0 = va.take 0 from rfl), (show Ext H H from (Ext.refl H))⟩ ?_
    rintro ⟨i, Hl2⟩ ⟨hi, hv, hxl3⟩ ih4
    replace hi : i ≤ ua.length := hi
    replace hv : ua.take i = va.take i := hv
    replace hxl3 : Ext H Hl2 := hxl3
    show aw _ _ _ (RL _ (.cons 0 (.slice uaA ua.length uac) (.cons 1 (.slice vaA va.length vac) (.cons 5 (.int .i64 (i : Int)) .nil)))) Hl2 _
    have Hl2n : H.next ≤ Hl2.next := hxl3.1
    refine aw_seq ?_
    refine aw_seq ?_
    refine aw_reg ?_
    refine st_op (ev_move rfl) rfl rfl rfl ?_
    refine st_op (ev_move rfl) rfl rfl rfl ?_
    refine st_op (ev_lenSl rfl Try.underlying23) rfl rfl rfl ?_
    refine st_op (ev_int rfl rfl rfl) rfl rfl rfl ?_
    try show aw _ _ _ _ _ _
    by_cases hc5 : (decide ((i : Int) < (ua.length : Int))) = true
    · refine aw_condT hc5 rfl ?_
      try show aw _ _ _ _ _ _
      have hc5 := of_decide_eq_true hc5
      refine aw_skip ?_
      try show aw _ _ _ _ _ _
      refine aw_seq ?_
      refine aw_block ?_
      refine aw_seq ?_
      refine aw_marks (fun b => b < Hl2.next) [(false, false), (false, false), (false, false), (false, false), (false, false), (false, false), (false, false), (false, false), (false, false)] mixed (by kernel_rfl) (by kernel_rfl) ?_
      refine sm_op (ev_move rfl) rfl rfl rfl ?_
      refine sm_op (ev_move rfl) rfl rfl rfl ?_
      have h6 := Row.ext hua hxl3
      have hi7 : 0 ≤ ((i : Int) : Int) := by omega
      have hi8 : ((i : Int) : Int) < ((ua.length : Nat) : Int) := by first | omega | (simp only [List.length_append, List.length_cons, List.length_nil, List.length_map, List.length_set, List.length_replicate, Spec.bytesOf_length]; omega) | (simp; omega)
      obtain ⟨x9, hx10⟩ : ∃ e, ua[i]? = some e := ⟨_, List.getElem?_eq_getElem (by first | omega | (simp only [List.length_append, List.length_cons, List.length_nil, List.length_map, List.length_set, List.length_replicate, Spec.bytesOf_length]; omega) | (simp; omega))⟩
      refine sm_op (ev_at rfl rfl h6 (getMap i64c hx10) (by first | rfl | omega | simp) hi7 hi8 el23) rfl rfl rfl ?_
      refine sm_op (ev_atL rfl h6 (getMap i64c hx10) one3 rfl) rfl rfl rfl ?_
      refine sm_op (ev_move rfl) rfl rfl rfl ?_
      refine sm_op (ev_move rfl) rfl rfl rfl ?_
      have h11 := Row.ext hva hxl3
      have hi12 : 0 ≤ ((i : Int) : Int) := by omega
      have hi13 : ((i : Int) : Int) < ((va.length : Nat) : Int) := by first | omega | (simp only [List.length_append, List.length_cons, List.length_nil, List.length_map, List.length_set, List.length_replicate, Spec.bytesOf_length]; omega) | (simp; omega)
      obtain ⟨x14, hx15⟩ : ∃ e, va[i]? = some e := ⟨_, List.getElem?_eq_getElem (by first | omega | (simp only [List.length_append, List.length_cons, List.length_nil, List.length_map, List.length_set, List.length_replicate, Spec.bytesOf_length]; omega) | (simp; omega))⟩
      refine sm_op (ev_at rfl rfl h11 (getMap i64c hx15) (by first | rfl | omega | simp) hi12 hi13 el23) rfl rfl rfl ?_
      refine sm_op (ev_atL rfl h11 (getMap i64c hx15) one3 rfl) rfl rfl rfl ?_
      refine sm_op (ev_int rfl rfl rfl) rfl rfl rfl ?_
      try show aw _ _ _ _ _ _
      by_cases hc16 : (x9 != x14) = true
      · refine aw_condT hc16 rfl ?_
        try show aw _ _ _ _ _ _
        have hc16 : ¬ (x9 = x14) := by simpa using hc16
        refine aw_seq ?_
        refine aw_reg ?_
        refine st_op (ev_assign rfl) rfl rfl rfl ?_
        try show aw _ _ _ _ _ _
        refine aw_ret ?_
        have hres : (decide (ua = va)) = false := by exact decide_eq_false (fun h => by have h2 := hx10; rw [h, hx15] at h2; have h3 := Option.some.inj h2; omega)
        exact ⟨.bool false, rfl, by rw [hres], hxl3⟩
      · rw [Bool.not_eq_true] at hc16; refine aw_condF hc16 rfl ?_
        try show aw _ _ _ _ _ _
        have hc16 : (x9 = x14) := by simpa using hc16
        refine aw_skip ?_
        try show aw _ _ _ _ _ _
        refine aw_reg ?_
        refine st_op (ev_move rfl) rfl rfl rfl ?_
        refine st_op (ev_int64 (c := (i : Int) + 1) rfl rfl rfl (by omega) (by omega)) rfl rfl rfl ?_
        refine st_op (ev_assign rfl) rfl rfl rfl ?_
        try show aw _ _ _ _ _ _
        refine aw_keep [0, 1, 5] (l' := (.cons 0 (.slice uaA ua.length uac) (.cons 1 (.slice vaA va.length vac) (.cons 5 (.int .i64 ((i : Int) + 1)) .nil)))) (by repeat (first | exact Up.done | refine Up.then ?_ | refine Up.inBlock ?_)) rfl ?_
        exact ih4 (i + 1, Hl2) ⟨(show (i + 1) ≤ ua.length from (by omega)), (show ua.take (i + 1) = va.take (i + 1) from (by rw [List.take_add_one, List.take_add_one, hv, hx10, hx15, show x9 = x14 by omega])), (show Ext H Hl2 from hxl3)⟩ (by simp only; omega)
    · rw [Bool.not_eq_true] at hc5; refine aw_condF hc5 rfl ?_
      try show aw _ _ _ _ _ _
      have hc5 := of_decide_eq_false hc5
      refine aw_exit ?_
      try show aw _ _ _ _ _ _
      refine aw_seq ?_
      refine aw_reg ?_
      refine st_op (ev_assign rfl) rfl rfl rfl ?_
      try show aw _ _ _ _ _ _
      refine aw_ret ?_
      have hres : (decide (ua = va)) = true := by exact decide_eq_true (by have h := hv; rwa [List.take_of_length_le (by omega), List.take_of_length_le (by omega)] at h)
      exact ⟨.bool true, rfl, by rw [hres], hxl3⟩
theorem conf_Near_spec (H : Heap) (uaA : Option Addr) (ua : List Int) (uac : Nat) (hua : Row H uaA uac 1 (ua.map i64c)) (cua : ua.length ≤ uac) (lua : ua.length ≤ 274877906944) (vaA : Option Addr) (va : List Int) (vac : Nat) (hva : Row H vaA vac 1 (va.map i64c)) (cva : va.length ≤ vac) (lva : va.length ≤ 274877906944) : ∃ v H', Spec Try.prog 11 [.slice uaA ua.length uac, .slice vaA va.length vac] H v H' ∧ ((v = .bool (Spec.mayC ua && Spec.mayC va && decide (Spec.nearN ua va 7 ≤ 1))) ∧ (Ext H H')) := by
  refine spec_go2 E0_ok 30 (f := 11) Try.func11 rfl rfl rfl ?_
  refine aw_seq ?_
  refine aw_reg ?_
  refine st_op (ev_assign rfl) rfl rfl rfl ?_
  try show aw _ _ _ _ _ _
  refine aw_seq ?_
  refine aw_reg ?_
  refine st_op (ev_assign rfl) rfl rfl rfl ?_
  try show aw _ _ _ _ _ _
  refine aw_seq ?_
  refine aw_seq ?_
  refine aw_reg ?_
  refine st_op (ev_assign rfl) rfl rfl rfl ?_
  try show aw _ _ _ _ _ _
  refine aw_block ?_
  refine aw_keep [0, 1, 5, 6] (l' := (.cons 0 (.slice uaA ua.length uac) (.cons 1 (.slice vaA va.length vac) (.cons 5 (.int .i64 0) (.cons 6 (.int .i64 1) .nil))))) (by repeat (first | exact Up.done | refine Up.then ?_ | refine Up.inBlock ?_)) rfl ?_
  refine aw_iter (α := Nat × Int × Heap) (fun a => 8 - a.1) (fun a => (.cons 0 (.slice uaA ua.length uac) (.cons 1 (.slice vaA va.length vac) (.cons 5 (.int .i64 a.2.1) (.cons 6 (.int .i64 (a.1 : Int)) .nil))))) (fun a => a.2.2) (fun a => (1 ≤ a.1 ∧ a.1 ≤ 8) ∧ (a.2.1 = Spec.nearN ua va (a.1 - 1)) ∧ (a.2.1 < a.1) ∧ (0 ≤ a.2.1 ∧ a.2.1 ≤ 7) ∧ (Ext H a.2.2)) (1, (0 : Int), H) ⟨(show 1 ≤ 1 ∧ 1 ≤ 8 from (by omega)), (show (0 : Int) = Spec.nearN ua va (1 - 1) from rfl), (show (0 : Int) < 1 from (by omega)), (show 0 ≤ (0 : Int) ∧ (0 : Int) ≤ 7 from ⟨by omega, by omega⟩), (show Ext H H from (Ext.refl H))⟩ ?_
  rintro ⟨i, n, Hl1⟩ ⟨hi, hv, hni, hn2, hxl3⟩ ih4
  replace hi : 1 ≤ i ∧ i ≤ 8 := hi
  replace hv : n = Spec.nearN ua va (i - 1) := hv
  replace hni : n < i := hni
  replace hn2 : 0 ≤ n ∧ n ≤ 7 := hn2
  replace hxl3 : Ext H Hl1 := hxl3
  show aw _ _ _ (RL _ (.cons 0 (.slice uaA ua.length uac) (.cons 1 (.slice vaA va.length vac) (.cons 5 (.int .i64 n) (.cons 6 (.int .i64 (i : Int)) .nil))))) Hl1 _
  have Hl1n : H.next ≤ Hl1.next := hxl3.1
  refine aw_seq ?_
  refine aw_seq ?_
  refine aw_reg ?_
  refine st_op (ev_move rfl) rfl rfl rfl ?_
  refine st_op (ev_int rfl rfl rfl) rfl rfl rfl ?_
  try show aw _ _ _ _ _ _
  by_cases hc5 : (decide ((i : Int) ≤ 7)) = true
  · refine aw_condT hc5 rfl ?_
    try show aw _ _ _ _ _ _
    have hc5 := of_decide_eq_true hc5
    refine aw_skip ?_
    try show aw _ _ _ _ _ _
    refine aw_seq ?_
    refine aw_block ?_
    refine aw_seq ?_
    refine aw_reg ?_
    refine st_op (ev_move rfl) rfl rfl rfl ?_
    refine st_op (ev_move rfl) rfl rfl rfl ?_
    refine st_call rfl rfl rfl ent8 rfl rfl rfl ?_
    have h6 := Row.ext hua hxl3
    obtain ⟨_, H8, hs7, hs7v, hx9⟩ := conf_Has_spec Hl1 uaA ua uac h6 cua (by first | omega | (simp only [List.length_append, List.length_cons, List.length_nil, List.length_map, List.length_set, List.length_replicate, Spec.bytesOf_length]; omega) | (simp; omega)) (i : Int)
    rw [hs7v] at hs7; clear hs7v
    refine ⟨_, H8, hs7, ?_⟩
    have H8n : Hl1.next ≤ H8.next := hx9.1
    refine st_op (ev_move rfl) rfl rfl rfl ?_
    refine st_op (ev_move rfl) rfl rfl rfl ?_
    refine st_call rfl rfl rfl ent8 rfl rfl rfl ?_
    have hx11 : Ext H H8 := (Ext.trans hxl3 hx9)
    have h10 := Row.ext hva hx11
    obtain ⟨_, H13, hs12, hs12v, hx14⟩ := conf_Has_spec H8 vaA va vac h10 cva (by first | omega | (simp only [List.length_append, List.length_cons, List.length_nil, List.length_map, List.length_set, List.length_replicate, Spec.bytesOf_length]; omega) | (simp; omega)) (i : Int)
    rw [hs12v] at hs12; clear hs12v
    refine ⟨_, H13, hs12, ?_⟩
    have H13n : H8.next ≤ H13.next := hx14.1
    refine st_op (ev_neBool isbool4 rfl rfl) rfl rfl rfl ?_
    try show aw _ _ _ _ _ _
    by_cases hc15 : ((decide ((i : Int) ∈ ua)) != (decide ((i : Int) ∈ va))) = true
    · refine aw_condT hc15 rfl ?_
      try show aw _ _ _ _ _ _
      have hc15 : ¬ ((decide ((i : Int) ∈ ua)) = (decide ((i : Int) ∈ va))) := by simpa using hc15
      refine aw_reg ?_
      refine st_op (ev_move rfl) rfl rfl rfl ?_
      refine st_op (ev_int64 (c := n + 1) rfl rfl rfl (by omega) (by omega)) rfl rfl rfl ?_
      refine st_op (ev_assign rfl) rfl rfl rfl ?_
      try show aw _ _ _ _ _ _
      refine aw_reg ?_
      refine st_op (ev_move rfl) rfl rfl rfl ?_
      refine st_op (ev_int64 (c := (i : Int) + 1) rfl rfl rfl (by omega) (by omega)) rfl rfl rfl ?_
      refine st_op (ev_assign rfl) rfl rfl rfl ?_
      try show aw _ _ _ _ _ _
      have hx16 : Ext H H13 := (Ext.trans hx11 hx14)
      refine aw_keep [0, 1, 5, 6] (l' := (.cons 0 (.slice uaA ua.length uac) (.cons 1 (.slice vaA va.length vac) (.cons 5 (.int .i64 (n + 1)) (.cons 6 (.int .i64 ((i : Int) + 1)) .nil))))) (by repeat (first | exact Up.done | refine Up.then ?_ | refine Up.inBlock ?_)) rfl ?_
      exact ih4 (i + 1, n + 1, H13) ⟨(show 1 ≤ (i + 1) ∧ (i + 1) ≤ 8 from (by omega)), (show (n + 1) = Spec.nearN ua va ((i + 1) - 1) from (by rw [show i + 1 - 1 = (i - 1) + 1 by omega, Spec.nearN, ← hv, show (((i - 1 : Nat) : Int) + 1) = (i : Int) by omega]; first | (rw [if_pos (by assumption)]; omega) | rw [if_neg (by assumption)])), (show (n + 1) < (i + 1) from (by omega)), (show 0 ≤ (n + 1) ∧ (n + 1) ≤ 7 from ⟨by omega, by omega⟩), (show Ext H H13 from hx16)⟩ (by simp only; omega)
    · rw [Bool.not_eq_true] at hc15; refine aw_condF hc15 rfl ?_
      try show aw _ _ _ _ _ _
      have hc15 : ((decide ((i : Int) ∈ ua)) = (decide ((i : Int) ∈ va))) := by simpa using hc15
      refine aw_skip ?_
      try show aw _ _ _ _ _ _
      refine aw_reg ?_
      refine st_op (ev_move rfl) rfl rfl rfl ?_
      refine st_op (ev_int64 (c := (i : Int) + 1) rfl rfl rfl (by omega) (by omega)) rfl rfl rfl ?_
      refine st_op (ev_assign rfl) rfl rfl rfl ?_
      try show aw _ _ _ _ _ _
      have hx17 : Ext H H13 := (Ext.trans hx11 hx14)
      refine aw_keep [0, 1, 5, 6] (l' := (.cons 0 (.slice uaA ua.length uac) (.cons 1 (.slice vaA va.length vac) (.cons 5 (.int .i64 n) (.cons 6 (.int .i64 ((i : Int) + 1)) .nil))))) (by repeat (first | exact Up.done | refine Up.then ?_ | refine Up.inBlock ?_)) rfl ?_
      exact ih4 (i + 1, n, H13) ⟨(show 1 ≤ (i + 1) ∧ (i + 1) ≤ 8 from (by omega)), (show n = Spec.nearN ua va ((i + 1) - 1) from (by rw [show i + 1 - 1 = (i - 1) + 1 by omega, Spec.nearN, ← hv, show (((i - 1 : Nat) : Int) + 1) = (i : Int) by omega]; first | (rw [if_pos (by assumption)]; omega) | rw [if_neg (by assumption)])), (show n < (i + 1) from (by omega)), (show 0 ≤ n ∧ n ≤ 7 from ⟨by omega, by omega⟩), (show Ext H H13 from hx17)⟩ (by simp only; omega)
  · rw [Bool.not_eq_true] at hc5; refine aw_condF hc5 rfl ?_
    try show aw _ _ _ _ _ _
    have hc5 := of_decide_eq_false hc5
    refine aw_exit ?_
    try show aw _ _ _ _ _ _
    refine aw_seq ?_
    refine aw_reg ?_
    refine st_op (ev_move rfl) rfl rfl rfl ?_
    refine st_call rfl rfl rfl ent6 rfl rfl rfl ?_
    have h18 := Row.ext hua hxl3
    obtain ⟨_, H20, hs19, hs19v, hx21⟩ := conf_May_spec Hl1 uaA ua uac h18 cua (by first | omega | (simp only [List.length_append, List.length_cons, List.length_nil, List.length_map, List.length_set, List.length_replicate, Spec.bytesOf_length]; omega) | (simp; omega))
    rw [hs19v] at hs19; clear hs19v
    refine ⟨_, H20, hs19, ?_⟩
    have H20n : Hl1.next ≤ H20.next := hx21.1
    refine st_op (ev_move rfl) rfl rfl rfl ?_
    refine st_bool 22 rfl (fun hb22 => ?_) (fun hb22 => ?_)
    ·
      refine st_op (ev_move rfl) rfl rfl rfl ?_
      refine st_call rfl rfl rfl ent6 rfl rfl rfl ?_
      have hx24 : Ext H H20 := (Ext.trans hxl3 hx21)
      have h23 := Row.ext hva hx24
      obtain ⟨_, H26, hs25, hs25v, hx27⟩ := conf_May_spec H20 vaA va vac h23 cva (by first | omega | (simp only [List.length_append, List.length_cons, List.length_nil, List.length_map, List.length_set, List.length_replicate, Spec.bytesOf_length]; omega) | (simp; omega))
      rw [hs25v] at hs25; clear hs25v
      refine ⟨_, H26, hs25, ?_⟩
      have H26n : H20.next ≤ H26.next := hx27.1
      refine st_op (ev_pickT rfl rfl) rfl rfl rfl ?_
      refine st_op (ev_move rfl) rfl rfl rfl ?_
      refine st_bool 26 rfl (fun hb28 => ?_) (fun hb28 => ?_)
      ·
        refine st_op (ev_move rfl) rfl rfl rfl ?_
        refine st_op (ev_int rfl rfl rfl) rfl rfl rfl ?_
        refine st_op (ev_pickT rfl rfl) rfl rfl rfl ?_
        refine st_op (ev_assign rfl) rfl rfl rfl ?_
        try show aw _ _ _ _ _ _
        refine aw_ret ?_
        have hx29 : Ext H H26 := (Ext.trans hx24 hx27)
        have hres : (Spec.mayC ua && Spec.mayC va && decide (Spec.nearN ua va 7 ≤ 1)) = (decide (n ≤ 1)) := by rw [show Spec.nearN ua va 7 = n from by rw [hv, show i - 1 = 7 by omega]]; simp_all
        exact ⟨.bool (decide (n ≤ 1)), rfl, by rw [hres], hx29⟩
      ·
        refine st_skip rfl rfl rfl ?_
        refine st_skip rfl rfl rfl ?_
        refine st_op (ev_pickF rfl rfl) rfl rfl rfl ?_
        refine st_op (ev_assign rfl) rfl rfl rfl ?_
        try show aw _ _ _ _ _ _
        refine aw_ret ?_
        have hx30 : Ext H H26 := (Ext.trans hx24 hx27)
        have hres : (Spec.mayC ua && Spec.mayC va && decide (Spec.nearN ua va 7 ≤ 1)) = false := by rw [show Spec.nearN ua va 7 = n from by rw [hv, show i - 1 = 7 by omega]]; simp_all
        exact ⟨.bool false, rfl, by rw [hres], hx30⟩
    ·
      refine st_skip rfl rfl rfl ?_
      refine st_skip rfl rfl rfl ?_
      refine st_op (ev_pickF rfl rfl) rfl rfl rfl ?_
      refine st_op (ev_move rfl) rfl rfl rfl ?_
      refine st_skip rfl rfl rfl ?_
      refine st_skip rfl rfl rfl ?_
      refine st_op (ev_pickF rfl rfl) rfl rfl rfl ?_
      refine st_op (ev_assign rfl) rfl rfl rfl ?_
      try show aw _ _ _ _ _ _
      refine aw_ret ?_
      have hx31 : Ext H H20 := (Ext.trans hxl3 hx21)
      have hres : (Spec.mayC ua && Spec.mayC va && decide (Spec.nearN ua va 7 ≤ 1)) = false := by rw [show Spec.nearN ua va 7 = n from by rw [hv, show i - 1 = 7 by omega]]; simp_all
      exact ⟨.bool false, rfl, by rw [hres], hx31⟩
theorem law_ConfOne_spec (H : Heap) (bits : Int) (hbits : -9223372036854775808 ≤ bits ∧ bits ≤ 9223372036854775807) (id : Int) (hid : -9223372036854775808 ≤ id ∧ id ≤ 9223372036854775807) : ∃ v H', Spec Try.prog 3 [.int .i64 bits, .int .i64 id] H v H' ∧ ((v = .bool true) ∧ (Ext H H')) := by
  refine spec_go2 E0_ok 78 (f := 3) Try.func3 rfl rfl rfl ?_
  refine aw_seq ?_
  refine aw_reg ?_
  refine st_op (ev_assign rfl) rfl rfl rfl ?_
  try show aw _ _ _ _ _ _
  refine aw_seq ?_
  refine aw_reg ?_
  refine st_call rfl rfl rfl ent4 rfl rfl rfl ?_
  obtain ⟨_, H2, hs1, hs1v, hx3⟩ := law20_begun_spec H 
  rw [hs1v] at hs1; clear hs1v
  rw [hx3] at hs1; clear hx3
  refine ⟨_, H, hs1, ?_⟩
  refine st_op (ev_assign rfl) rfl rfl rfl ?_
  try show aw _ _ _ _ _ _
  refine aw_seq ?_
  refine aw_seq ?_
  refine aw_reg ?_
  refine st_op (ev_move rfl) rfl rfl rfl ?_
  refine st_op (ev_not rfl) rfl rfl rfl ?_
  try show aw _ _ _ _ _ _
  refine aw_cond (t := false) rfl ?_
  try show aw _ _ _ _ _ _
  refine aw_skip ?_
  try show aw _ _ _ _ _ _
  refine aw_seq ?_
  refine aw_reg ?_
  refine st_op (ev_move rfl) rfl rfl rfl ?_
  refine st_call rfl rfl rfl ent5 rfl rfl rfl ?_
  obtain ⟨_, H5, hs4, A7, c8, hs4v, hm9, hq10, hx6⟩ := law20_set_spec H bits ⟨by omega, by omega⟩
  rw [hs4v] at hs4; clear hs4v
  generalize hR12 : (Spec.setN (fun (j : Nat) => Int.tmod (Spec.shr .i64 bits (j : Int)) 2 ≠ 0) 7) = r11 at hs4 hm9 hq10
  refine ⟨_, H5, hs4, ?_⟩
  have H5n : H.next ≤ H5.next := hx6.1
  refine st_op (ev_assign rfl) rfl rfl rfl ?_
  try show aw _ _ _ _ _ _
  refine aw_seq ?_
  refine aw_seq ?_
  refine aw_reg ?_
  refine st_op (ev_move rfl) rfl rfl rfl ?_
  refine st_call rfl rfl rfl ent6 rfl rfl rfl ?_
  obtain ⟨_, H14, hs13, hs13v, hx15⟩ := conf_May_spec H5 A7 r11 c8 (My.row hm9) (My.capF hm9 (by first | omega | (simp only [List.length_append, List.length_cons, List.length_nil, List.length_map, List.length_set, List.length_replicate, Spec.bytesOf_length]; omega) | (simp; omega))) (by first | omega | (simp only [List.length_append, List.length_cons, List.length_nil, List.length_map, List.length_set, List.length_replicate, Spec.bytesOf_length]; omega) | (simp; omega))
  rw [hs13v] at hs13; clear hs13v
  refine ⟨_, H14, hs13, ?_⟩
  have H14n : H5.next ≤ H14.next := hx15.1
  refine st_op (ev_not rfl) rfl rfl rfl ?_
  try show aw _ _ _ _ _ _
  by_cases hc16 : (!(Spec.mayC r11)) = true
  · refine aw_condT hc16 rfl ?_
    try show aw _ _ _ _ _ _
    replace hc16 : (Spec.mayC r11) = false := by rw [Bool.not_eq_true'] at hc16; exact hc16
    refine aw_seq ?_
    refine aw_reg ?_
    refine st_op (ev_move rfl) rfl rfl rfl ?_
    refine st_op (ev_lenSl rfl Try.underlying23) rfl rfl rfl ?_
    refine st_op (ev_int rfl rfl rfl) rfl rfl rfl ?_
    refine st_op (ev_assign rfl) rfl rfl rfl ?_
    try show aw _ _ _ _ _ _
    refine aw_ret ?_
    have hx17 : Ext H H14 := (Ext.trans hx6 hx15)
    have hres : true = ((r11.length : Int) == 0) := by have hk := Spec.one_law (k := 1) hR12 (by omega) (by omega); unfold Spec.oneLaw at hk; (try simp only [hR12] at hk); first | (simp_all; done) | (simp_all; omega)
    exact ⟨.bool ((r11.length : Int) == 0), rfl, by rw [hres], hx17⟩
  · rw [Bool.not_eq_true] at hc16; refine aw_condF hc16 rfl ?_
    try show aw _ _ _ _ _ _
    replace hc16 : (Spec.mayC r11) = true := by rw [Bool.not_eq_false'] at hc16; exact hc16
    refine aw_skip ?_
    try show aw _ _ _ _ _ _
    refine aw_seq ?_
    refine aw_reg ?_
    refine st_op (ev_move rfl) rfl rfl rfl ?_
    have ht18 : -7 < Int.tmod id 7 ∧ Int.tmod id 7 < 7 := tmod_bd id (by decide)
    refine st_op (ev_rem (b := 7) rfl rfl (by decide)) rfl rfl rfl ?_
    refine st_op (ev_int64 (c := (Int.tmod id 7) + 7) rfl rfl rfl (by omega) (by omega)) rfl rfl rfl ?_
    refine st_op (ev_remN (a := (Int.tmod id 7) + 7) (c := 7) rfl rfl (by omega) (by decide) ) rfl rfl rfl ?_
    refine st_op (ev_int64 (c := 1 + (((Int.tmod id 7) + 7) % 7)) rfl rfl rfl (by omega) (by omega)) rfl rfl rfl ?_
    refine st_op (ev_assign rfl) rfl rfl rfl ?_
    try show aw _ _ _ _ _ _
    refine aw_seq ?_
    refine aw_reg ?_
    refine st_op (ev_move rfl) rfl rfl rfl ?_
    refine st_op (ev_move rfl) rfl rfl rfl ?_
    refine st_call rfl rfl rfl ent7 rfl rfl rfl ?_
    have h19 := My.ext hm9 hx15
    obtain ⟨_, H21, hs20, A23, c24, hs20v, hm25, hq26, hx22⟩ := conf_Add_spec H14 A7 r11 c8 (My.row h19) (My.capF h19 (by first | omega | (simp only [List.length_append, List.length_cons, List.length_nil, List.length_map, List.length_set, List.length_replicate, Spec.bytesOf_length]; omega) | (simp; omega))) (by first | omega | (simp only [List.length_append, List.length_cons, List.length_nil, List.length_map, List.length_set, List.length_replicate, Spec.bytesOf_length]; omega) | (simp; omega)) (1 + (((Int.tmod id 7) + 7) % 7)) ⟨by omega, by omega⟩
    rw [hs20v] at hs20; clear hs20v
    generalize hR28 : (Spec.addC r11 (1 + (((Int.tmod id 7) + 7) % 7))) = r27 at hs20 hm25 hq26
    obtain ⟨z29, z30⟩ := r27
    dsimp only at hs20 hm25 hq26
    refine ⟨_, H21, hs20, ?_⟩
    have H21n : H14.next ≤ H21.next := hx22.1
    refine st_op (ev_move rfl) rfl rfl rfl ?_
    refine st_op (ev_extract rfl rfl) rfl rfl rfl ?_
    refine st_op (ev_extract rfl rfl) rfl rfl rfl ?_
    refine st_op (ev_assign rfl) rfl rfl rfl ?_
    refine st_op (ev_assign rfl) rfl rfl rfl ?_
    try show aw _ _ _ _ _ _
    refine aw_seq ?_
    refine aw_seq ?_
    refine aw_reg ?_
    refine st_op (ev_move rfl) rfl rfl rfl ?_
    refine st_op (ev_not rfl) rfl rfl rfl ?_
    try show aw _ _ _ _ _ _
    by_cases hc31 : (!z30) = true
    · refine aw_condT hc31 rfl ?_
      try show aw _ _ _ _ _ _
      replace hc31 : z30 = false := by rw [Bool.not_eq_true'] at hc31; exact hc31
      refine aw_seq ?_
      refine aw_reg ?_
      refine st_op (ev_move rfl) rfl rfl rfl ?_
      refine st_op (ev_move rfl) rfl rfl rfl ?_
      refine st_call rfl rfl rfl ent8 rfl rfl rfl ?_
      have h32 := My.ext h19 hx22
      obtain ⟨_, H34, hs33, hs33v, hx35⟩ := conf_Has_spec H21 A7 r11 c8 (My.row h32) (My.capF h32 (by first | omega | (simp only [List.length_append, List.length_cons, List.length_nil, List.length_map, List.length_set, List.length_replicate, Spec.bytesOf_length]; omega) | (simp; omega))) (by first | omega | (simp only [List.length_append, List.length_cons, List.length_nil, List.length_map, List.length_set, List.length_replicate, Spec.bytesOf_length]; omega) | (simp; omega)) (1 + (((Int.tmod id 7) + 7) % 7))
      rw [hs33v] at hs33; clear hs33v
      refine ⟨_, H34, hs33, ?_⟩
      have H34n : H21.next ≤ H34.next := hx35.1
      refine st_op (ev_move rfl) rfl rfl rfl ?_
      refine st_bool 38 rfl (fun hb36 => ?_) (fun hb36 => ?_)
      ·
        have hb36 := of_decide_eq_true hb36
        refine st_op (ev_move rfl) rfl rfl rfl ?_
        refine st_op (ev_lenSl rfl Try.underlying23) rfl rfl rfl ?_
        refine st_op (ev_int rfl rfl rfl) rfl rfl rfl ?_
        refine st_op (ev_pickT rfl rfl) rfl rfl rfl ?_
        refine st_op (ev_assign rfl) rfl rfl rfl ?_
        try show aw _ _ _ _ _ _
        refine aw_ret ?_
        have hx37 : Ext H H34 := (Ext.trans (Ext.trans (Ext.trans hx6 hx15) hx22) hx35)
        have hres : true = ((z29.length : Int) == 0) := by have hk := Spec.one_law (k := 1 + (((Int.tmod id 7) + 7) % 7)) hR12 (by omega) (by omega); unfold Spec.oneLaw at hk; (try simp only [hR12, hR28] at hk); generalize 1 + (((Int.tmod id 7) + 7) % 7) = kk at *; first | (simp_all; done) | (simp_all; omega)
        exact ⟨.bool ((z29.length : Int) == 0), rfl, by rw [hres], hx37⟩
      ·
        have hb36 := of_decide_eq_false hb36
        refine st_skip rfl rfl rfl ?_
        refine st_skip rfl rfl rfl ?_
        refine st_skip rfl rfl rfl ?_
        refine st_op (ev_pickF rfl rfl) rfl rfl rfl ?_
        refine st_op (ev_assign rfl) rfl rfl rfl ?_
        try show aw _ _ _ _ _ _
        refine aw_ret ?_
        have hx38 : Ext H H34 := (Ext.trans (Ext.trans (Ext.trans hx6 hx15) hx22) hx35)
        have hres : true = false := by have hk := Spec.one_law (k := 1 + (((Int.tmod id 7) + 7) % 7)) hR12 (by omega) (by omega); unfold Spec.oneLaw at hk; (try simp only [hR12, hR28] at hk); generalize 1 + (((Int.tmod id 7) + 7) % 7) = kk at *; first | (simp_all; done) | (simp_all; omega)
        exact ⟨.bool false, rfl, by rw [hres], hx38⟩
    · rw [Bool.not_eq_true] at hc31; refine aw_condF hc31 rfl ?_
      try show aw _ _ _ _ _ _
      replace hc31 : z30 = true := by rw [Bool.not_eq_false'] at hc31; exact hc31
      refine aw_skip ?_
      try show aw _ _ _ _ _ _
      refine aw_seq ?_
      refine aw_reg ?_
      refine st_op (ev_move rfl) rfl rfl rfl ?_
      refine st_op (ev_move rfl) rfl rfl rfl ?_
      refine st_call rfl rfl rfl ent9 rfl rfl rfl ?_
      obtain ⟨_, H40, hs39, A42, c43, hs39v, hm44, hq45, hx41⟩ := conf_Remove_spec H21 A23 z29 c24 (My.row hm25) (My.capF hm25 (by first | omega | (simp only [List.length_append, List.length_cons, List.length_nil, List.length_map, List.length_set, List.length_replicate, Spec.bytesOf_length]; omega) | (simp; omega))) (by first | omega | (simp only [List.length_append, List.length_cons, List.length_nil, List.length_map, List.length_set, List.length_replicate, Spec.bytesOf_length]; omega) | (simp; omega)) (1 + (((Int.tmod id 7) + 7) % 7))
      rw [hs39v] at hs39; clear hs39v
      generalize hR47 : (Spec.remC z29 (1 + (((Int.tmod id 7) + 7) % 7))) = r46 at hs39 hm44 hq45
      obtain ⟨z48, z49⟩ := r46
      dsimp only at hs39 hm44 hq45
      refine ⟨_, H40, hs39, ?_⟩
      have H40n : H21.next ≤ H40.next := hx41.1
      refine st_op (ev_move rfl) rfl rfl rfl ?_
      refine st_op (ev_extract rfl rfl) rfl rfl rfl ?_
      refine st_op (ev_extract rfl rfl) rfl rfl rfl ?_
      refine st_op (ev_assign rfl) rfl rfl rfl ?_
      refine st_op (ev_assign rfl) rfl rfl rfl ?_
      try show aw _ _ _ _ _ _
      refine aw_seq ?_
      refine aw_reg ?_
      refine st_op (ev_move rfl) rfl rfl rfl ?_
      refine st_op (ev_move rfl) rfl rfl rfl ?_
      refine st_bool 50 rfl (fun hb50 => ?_) (fun hb50 => ?_)
      ·
        refine st_op (ev_move rfl) rfl rfl rfl ?_
        refine st_op (ev_move rfl) rfl rfl rfl ?_
        refine st_call rfl rfl rfl ent10 rfl rfl rfl ?_
        have hx52 : Ext H14 H40 := (Ext.trans hx22 hx41)
        have h51 := My.ext h19 hx52
        obtain ⟨_, H54, hs53, hs53v, hx55⟩ := law20_eq_spec H40 A7 r11 c8 (My.row h51) (My.capF h51 (by first | omega | (simp only [List.length_append, List.length_cons, List.length_nil, List.length_map, List.length_set, List.length_replicate, Spec.bytesOf_length]; omega) | (simp; omega))) (by first | omega | (simp only [List.length_append, List.length_cons, List.length_nil, List.length_map, List.length_set, List.length_replicate, Spec.bytesOf_length]; omega) | (simp; omega)) A42 z48 c43 (My.row hm44) (My.capF hm44 (by first | omega | (simp only [List.length_append, List.length_cons, List.length_nil, List.length_map, List.length_set, List.length_replicate, Spec.bytesOf_length]; omega) | (simp; omega))) (by first | omega | (simp only [List.length_append, List.length_cons, List.length_nil, List.length_map, List.length_set, List.length_replicate, Spec.bytesOf_length]; omega) | (simp; omega))
        rw [hs53v] at hs53; clear hs53v
        refine ⟨_, H54, hs53, ?_⟩
        have H54n : H40.next ≤ H54.next := hx55.1
        refine st_op (ev_pickT rfl rfl) rfl rfl rfl ?_
        refine st_op (ev_move rfl) rfl rfl rfl ?_
        refine st_bool 55 rfl (fun hb56 => ?_) (fun hb56 => ?_)
        ·
          have hb56 := of_decide_eq_true hb56
          refine st_op (ev_move rfl) rfl rfl rfl ?_
          refine st_op (ev_move rfl) rfl rfl rfl ?_
          refine st_call rfl rfl rfl ent11 rfl rfl rfl ?_
          have h57 := My.ext h51 hx55
          have hx59 : Ext H21 H54 := (Ext.trans hx41 hx55)
          have h58 := My.ext hm25 hx59
          obtain ⟨_, H61, hs60, hs60v, hx62⟩ := conf_Near_spec H54 A7 r11 c8 (My.row h57) (My.capF h57 (by first | omega | (simp only [List.length_append, List.length_cons, List.length_nil, List.length_map, List.length_set, List.length_replicate, Spec.bytesOf_length]; omega) | (simp; omega))) (by first | omega | (simp only [List.length_append, List.length_cons, List.length_nil, List.length_map, List.length_set, List.length_replicate, Spec.bytesOf_length]; omega) | (simp; omega)) A23 z29 c24 (My.row h58) (My.capF h58 (by first | omega | (simp only [List.length_append, List.length_cons, List.length_nil, List.length_map, List.length_set, List.length_replicate, Spec.bytesOf_length]; omega) | (simp; omega))) (by first | omega | (simp only [List.length_append, List.length_cons, List.length_nil, List.length_map, List.length_set, List.length_replicate, Spec.bytesOf_length]; omega) | (simp; omega))
          rw [hs60v] at hs60; clear hs60v
          refine ⟨_, H61, hs60, ?_⟩
          have H61n : H54.next ≤ H61.next := hx62.1
          refine st_op (ev_pickT rfl rfl) rfl rfl rfl ?_
          refine st_op (ev_move rfl) rfl rfl rfl ?_
          refine st_bool 60 rfl (fun hb63 => ?_) (fun hb63 => ?_)
          ·
            refine st_op (ev_move rfl) rfl rfl rfl ?_
            refine st_op (ev_move rfl) rfl rfl rfl ?_
            refine st_call rfl rfl rfl ent11 rfl rfl rfl ?_
            have h64 := My.ext h58 hx62
            have h65 := My.ext h57 hx62
            obtain ⟨_, H67, hs66, hs66v, hx68⟩ := conf_Near_spec H61 A23 z29 c24 (My.row h64) (My.capF h64 (by first | omega | (simp only [List.length_append, List.length_cons, List.length_nil, List.length_map, List.length_set, List.length_replicate, Spec.bytesOf_length]; omega) | (simp; omega))) (by first | omega | (simp only [List.length_append, List.length_cons, List.length_nil, List.length_map, List.length_set, List.length_replicate, Spec.bytesOf_length]; omega) | (simp; omega)) A7 r11 c8 (My.row h65) (My.capF h65 (by first | omega | (simp only [List.length_append, List.length_cons, List.length_nil, List.length_map, List.length_set, List.length_replicate, Spec.bytesOf_length]; omega) | (simp; omega))) (by first | omega | (simp only [List.length_append, List.length_cons, List.length_nil, List.length_map, List.length_set, List.length_replicate, Spec.bytesOf_length]; omega) | (simp; omega))
            rw [hs66v] at hs66; clear hs66v
            refine ⟨_, H67, hs66, ?_⟩
            have H67n : H61.next ≤ H67.next := hx68.1
            refine st_op (ev_pickT rfl rfl) rfl rfl rfl ?_
            refine st_op (ev_move rfl) rfl rfl rfl ?_
            refine st_bool 65 rfl (fun hb69 => ?_) (fun hb69 => ?_)
            ·
              refine st_op (ev_move rfl) rfl rfl rfl ?_
              refine st_op (ev_move rfl) rfl rfl rfl ?_
              refine st_call rfl rfl rfl ent8 rfl rfl rfl ?_
              have h70 := My.ext h64 hx68
              obtain ⟨_, H72, hs71, hs71v, hx73⟩ := conf_Has_spec H67 A23 z29 c24 (My.row h70) (My.capF h70 (by first | omega | (simp only [List.length_append, List.length_cons, List.length_nil, List.length_map, List.length_set, List.length_replicate, Spec.bytesOf_length]; omega) | (simp; omega))) (by first | omega | (simp only [List.length_append, List.length_cons, List.length_nil, List.length_map, List.length_set, List.length_replicate, Spec.bytesOf_length]; omega) | (simp; omega)) (1 + (((Int.tmod id 7) + 7) % 7))
              rw [hs71v] at hs71; clear hs71v
              refine ⟨_, H72, hs71, ?_⟩
              have H72n : H67.next ≤ H72.next := hx73.1
              refine st_op (ev_pickT rfl rfl) rfl rfl rfl ?_
              refine st_op (ev_move rfl) rfl rfl rfl ?_
              refine st_bool 70 rfl (fun hb74 => ?_) (fun hb74 => ?_)
              ·
                have hb74 := of_decide_eq_true hb74
                refine st_op (ev_move rfl) rfl rfl rfl ?_
                refine st_op (ev_lenSl rfl Try.underlying23) rfl rfl rfl ?_
                refine st_op (ev_move rfl) rfl rfl rfl ?_
                refine st_op (ev_lenSl rfl Try.underlying23) rfl rfl rfl ?_
                refine st_op (ev_int64 (c := (r11.length : Int) + 1) rfl rfl rfl (by omega) (by omega)) rfl rfl rfl ?_
                refine st_op (ev_int rfl rfl rfl) rfl rfl rfl ?_
                refine st_op (ev_pickT rfl rfl) rfl rfl rfl ?_
                refine st_op (ev_assign rfl) rfl rfl rfl ?_
                try show aw _ _ _ _ _ _
                refine aw_ret ?_
                have hx75 : Ext H H72 := (Ext.trans (Ext.trans (Ext.trans (Ext.trans (Ext.trans (Ext.trans (Ext.trans hx6 hx15) hx22) hx41) hx55) hx62) hx68) hx73)
                have hres : true = ((z29.length : Int) == (r11.length : Int) + 1) := by have hk := Spec.one_law (k := 1 + (((Int.tmod id 7) + 7) % 7)) hR12 (by omega) (by omega); unfold Spec.oneLaw at hk; (try simp only [hR12, hR28, hR47] at hk); (try rw [hb63] at hk); (try rw [hb69] at hk); generalize 1 + (((Int.tmod id 7) + 7) % 7) = kk at *; first | (simp_all; done) | (simp_all; omega)
                exact ⟨.bool ((z29.length : Int) == (r11.length : Int) + 1), rfl, by rw [hres], hx75⟩
              ·
                have hb74 := of_decide_eq_false hb74
                refine st_skip rfl rfl rfl ?_
                refine st_skip rfl rfl rfl ?_
                refine st_skip rfl rfl rfl ?_
                refine st_skip rfl rfl rfl ?_
                refine st_skip rfl rfl rfl ?_
                refine st_skip rfl rfl rfl ?_
                refine st_op (ev_pickF rfl rfl) rfl rfl rfl ?_
                refine st_op (ev_assign rfl) rfl rfl rfl ?_
                try show aw _ _ _ _ _ _
                refine aw_ret ?_
                have hx76 : Ext H H72 := (Ext.trans (Ext.trans (Ext.trans (Ext.trans (Ext.trans (Ext.trans (Ext.trans hx6 hx15) hx22) hx41) hx55) hx62) hx68) hx73)
                have hres : true = false := by have hk := Spec.one_law (k := 1 + (((Int.tmod id 7) + 7) % 7)) hR12 (by omega) (by omega); unfold Spec.oneLaw at hk; (try simp only [hR12, hR28, hR47] at hk); (try rw [hb63] at hk); (try rw [hb69] at hk); generalize 1 + (((Int.tmod id 7) + 7) % 7) = kk at *; first | (simp_all; done) | (simp_all; omega)
                exact ⟨.bool false, rfl, by rw [hres], hx76⟩
            ·
              refine st_skip rfl rfl rfl ?_
              refine st_skip rfl rfl rfl ?_
              refine st_skip rfl rfl rfl ?_
              refine st_op (ev_pickF rfl rfl) rfl rfl rfl ?_
              refine st_op (ev_move rfl) rfl rfl rfl ?_
              refine st_skip rfl rfl rfl ?_
              refine st_skip rfl rfl rfl ?_
              refine st_skip rfl rfl rfl ?_
              refine st_skip rfl rfl rfl ?_
              refine st_skip rfl rfl rfl ?_
              refine st_skip rfl rfl rfl ?_
              refine st_op (ev_pickF rfl rfl) rfl rfl rfl ?_
              refine st_op (ev_assign rfl) rfl rfl rfl ?_
              try show aw _ _ _ _ _ _
              refine aw_ret ?_
              have hx77 : Ext H H67 := (Ext.trans (Ext.trans (Ext.trans (Ext.trans (Ext.trans (Ext.trans hx6 hx15) hx22) hx41) hx55) hx62) hx68)
              have hres : true = false := by have hk := Spec.one_law (k := 1 + (((Int.tmod id 7) + 7) % 7)) hR12 (by omega) (by omega); unfold Spec.oneLaw at hk; (try simp only [hR12, hR28, hR47] at hk); (try rw [hb63] at hk); (try rw [hb69] at hk); generalize 1 + (((Int.tmod id 7) + 7) % 7) = kk at *; first | (simp_all; done) | (simp_all; omega)
              exact ⟨.bool false, rfl, by rw [hres], hx77⟩
          ·
            refine st_skip rfl rfl rfl ?_
            refine st_skip rfl rfl rfl ?_
            refine st_skip rfl rfl rfl ?_
            refine st_op (ev_pickF rfl rfl) rfl rfl rfl ?_
            refine st_op (ev_move rfl) rfl rfl rfl ?_
            refine st_skip rfl rfl rfl ?_
            refine st_skip rfl rfl rfl ?_
            refine st_skip rfl rfl rfl ?_
            refine st_op (ev_pickF rfl rfl) rfl rfl rfl ?_
            refine st_op (ev_move rfl) rfl rfl rfl ?_
            refine st_skip rfl rfl rfl ?_
            refine st_skip rfl rfl rfl ?_
            refine st_skip rfl rfl rfl ?_
            refine st_skip rfl rfl rfl ?_
            refine st_skip rfl rfl rfl ?_
            refine st_skip rfl rfl rfl ?_
            refine st_op (ev_pickF rfl rfl) rfl rfl rfl ?_
            refine st_op (ev_assign rfl) rfl rfl rfl ?_
            try show aw _ _ _ _ _ _
            refine aw_ret ?_
            have hx78 : Ext H H61 := (Ext.trans (Ext.trans (Ext.trans (Ext.trans (Ext.trans hx6 hx15) hx22) hx41) hx55) hx62)
            have hres : true = false := by have hk := Spec.one_law (k := 1 + (((Int.tmod id 7) + 7) % 7)) hR12 (by omega) (by omega); unfold Spec.oneLaw at hk; (try simp only [hR12, hR28, hR47] at hk); (try rw [hb63] at hk); generalize 1 + (((Int.tmod id 7) + 7) % 7) = kk at *; first | (simp_all; done) | (simp_all; omega)
            exact ⟨.bool false, rfl, by rw [hres], hx78⟩
        ·
          have hb56 := of_decide_eq_false hb56
          refine st_skip rfl rfl rfl ?_
          refine st_skip rfl rfl rfl ?_
          refine st_skip rfl rfl rfl ?_
          refine st_op (ev_pickF rfl rfl) rfl rfl rfl ?_
          refine st_op (ev_move rfl) rfl rfl rfl ?_
          refine st_skip rfl rfl rfl ?_
          refine st_skip rfl rfl rfl ?_
          refine st_skip rfl rfl rfl ?_
          refine st_op (ev_pickF rfl rfl) rfl rfl rfl ?_
          refine st_op (ev_move rfl) rfl rfl rfl ?_
          refine st_skip rfl rfl rfl ?_
          refine st_skip rfl rfl rfl ?_
          refine st_skip rfl rfl rfl ?_
          refine st_op (ev_pickF rfl rfl) rfl rfl rfl ?_
          refine st_op (ev_move rfl) rfl rfl rfl ?_
          refine st_skip rfl rfl rfl ?_
          refine st_skip rfl rfl rfl ?_
          refine st_skip rfl rfl rfl ?_
          refine st_skip rfl rfl rfl ?_
          refine st_skip rfl rfl rfl ?_
          refine st_skip rfl rfl rfl ?_
          refine st_op (ev_pickF rfl rfl) rfl rfl rfl ?_
          refine st_op (ev_assign rfl) rfl rfl rfl ?_
          try show aw _ _ _ _ _ _
          refine aw_ret ?_
          have hx79 : Ext H H54 := (Ext.trans (Ext.trans (Ext.trans (Ext.trans hx6 hx15) hx22) hx41) hx55)
          have hres : true = false := by have hk := Spec.one_law (k := 1 + (((Int.tmod id 7) + 7) % 7)) hR12 (by omega) (by omega); unfold Spec.oneLaw at hk; (try simp only [hR12, hR28, hR47] at hk); generalize 1 + (((Int.tmod id 7) + 7) % 7) = kk at *; first | (simp_all; done) | (simp_all; omega)
          exact ⟨.bool false, rfl, by rw [hres], hx79⟩
      ·
        refine st_skip rfl rfl rfl ?_
        refine st_skip rfl rfl rfl ?_
        refine st_skip rfl rfl rfl ?_
        refine st_op (ev_pickF rfl rfl) rfl rfl rfl ?_
        refine st_op (ev_move rfl) rfl rfl rfl ?_
        refine st_skip rfl rfl rfl ?_
        refine st_skip rfl rfl rfl ?_
        refine st_skip rfl rfl rfl ?_
        refine st_op (ev_pickF rfl rfl) rfl rfl rfl ?_
        refine st_op (ev_move rfl) rfl rfl rfl ?_
        refine st_skip rfl rfl rfl ?_
        refine st_skip rfl rfl rfl ?_
        refine st_skip rfl rfl rfl ?_
        refine st_op (ev_pickF rfl rfl) rfl rfl rfl ?_
        refine st_op (ev_move rfl) rfl rfl rfl ?_
        refine st_skip rfl rfl rfl ?_
        refine st_skip rfl rfl rfl ?_
        refine st_skip rfl rfl rfl ?_
        refine st_op (ev_pickF rfl rfl) rfl rfl rfl ?_
        refine st_op (ev_move rfl) rfl rfl rfl ?_
        refine st_skip rfl rfl rfl ?_
        refine st_skip rfl rfl rfl ?_
        refine st_skip rfl rfl rfl ?_
        refine st_skip rfl rfl rfl ?_
        refine st_skip rfl rfl rfl ?_
        refine st_skip rfl rfl rfl ?_
        refine st_op (ev_pickF rfl rfl) rfl rfl rfl ?_
        refine st_op (ev_assign rfl) rfl rfl rfl ?_
        try show aw _ _ _ _ _ _
        refine aw_ret ?_
        have hx80 : Ext H H40 := (Ext.trans (Ext.trans (Ext.trans hx6 hx15) hx22) hx41)
        have hres : true = false := by have hk := Spec.one_law (k := 1 + (((Int.tmod id 7) + 7) % 7)) hR12 (by omega) (by omega); unfold Spec.oneLaw at hk; (try simp only [hR12, hR28, hR47] at hk); generalize 1 + (((Int.tmod id 7) + 7) % 7) = kk at *; first | (simp_all; done) | (simp_all; omega)
        exact ⟨.bool false, rfl, by rw [hres], hx80⟩

end Go.AM
