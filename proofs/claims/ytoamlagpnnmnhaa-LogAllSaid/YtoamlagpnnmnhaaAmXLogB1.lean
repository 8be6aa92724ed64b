/- Part of a machine of its own for this claim: the program's code over memory without draws. -/
import Derived.Test.YtoamlagpnnmnhaaAmPLog
import Derived.Test.YtoamlagpnnmnhaaAmPCf3
import Derived.Test.YtoamlagpnnmnhaaAmRep19
import Derived.Test.YtoamlagpnnmnhaaAmOpenK2
import Derived.Test.YtoamlagpnnmnhaaAmD
import Derived.Test.YtoamlagpnnmnhaaAmE
import Derived.Test.YtoamlagpnnmnhaaProg
import Derived.KernelRfl
set_option linter.unusedVariables false
set_option linter.unusedSimpArgs false
set_option linter.unnecessarySimpa false
set_option linter.unusedVariables false
set_option linter.unusedSimpArgs false
set_option linter.unnecessarySimpa false
namespace Go.AM
open Go Go.Proofs

noncomputable def E0 : TypeId → Bool := eqTy Try.prog
theorem E0_ok : EqOk Try.prog E0 := eqTy_ok
theorem mixed : Try.prog.follows .mixedOrders = true := by kernel_rfl

noncomputable def X0 (f : FuncId) : List Tmp := (bif_ (Nat.ble 26 f) (bif_ (Nat.ble 39 f) (bif_ (Nat.ble 45 f) (bif_ (Nat.ble 48 f) (bif_ (Nat.ble 50 f) (bif_ (Nat.ble 51 f) [0, 2, 3, 7, 37] [0, 2, 3, 4, 5, 9, 22]) (bif_ (Nat.ble 49 f) [0, 2, 3, 4, 5, 6, 7, 8, 30] [0, 1, 4, 5, 7, 8, 9, 16])) (bif_ (Nat.ble 46 f) (bif_ (Nat.ble 47 f) [0, 1, 2, 4, 5, 6, 7, 8, 9, 10, 16, 35, 46, 61] [0, 2, 3, 4, 5, 7, 8, 9, 22]) [0, 2])) (bif_ (Nat.ble 42 f) (bif_ (Nat.ble 43 f) (bif_ (Nat.ble 44 f) [0, 1, 4] [0, 1, 2, 3]) [0, 1, 2, 3, 4]) (bif_ (Nat.ble 40 f) (bif_ (Nat.ble 41 f) [0, 1, 2, 3] [0, 1, 2]) [0, 1, 2]))) (bif_ (Nat.ble 32 f) (bif_ (Nat.ble 35 f) (bif_ (Nat.ble 37 f) (bif_ (Nat.ble 38 f) [0, 1, 4, 5, 6, 7, 8, 9, 10, 11, 13, 21, 45, 57] [0, 1, 2, 3, 4]) (bif_ (Nat.ble 36 f) [0, 2, 4] [0, 1, 2, 6, 8, 9, 10, 11, 12, 25])) (bif_ (Nat.ble 33 f) (bif_ (Nat.ble 34 f) [0, 2] [0, 1, 4, 8]) [0, 2, 4])) (bif_ (Nat.ble 29 f) (bif_ (Nat.ble 30 f) (bif_ (Nat.ble 31 f) [0, 1, 3, 4, 5, 6, 7, 8, 9, 33, 53, 57, 68] [0, 1, 2, 3, 6, 7, 21]) [0, 1, 2, 3, 6]) (bif_ (Nat.ble 27 f) (bif_ (Nat.ble 28 f) [0, 1, 2, 3, 6, 7, 8] [0, 1, 2, 6, 7, 8]) [0, 1, 2, 4, 5, 10, 24])))) (bif_ (Nat.ble 13 f) (bif_ (Nat.ble 19 f) (bif_ (Nat.ble 22 f) (bif_ (Nat.ble 24 f) (bif_ (Nat.ble 25 f) [0, 1, 3, 5] [0, 1, 3, 4, 22]) (bif_ (Nat.ble 23 f) [0, 1, 2, 3, 4, 5, 26] [0, 1, 2, 4, 5, 6, 7, 8, 9, 10, 12, 13, 16, 25, 30, 59, 64, 84, 110])) (bif_ (Nat.ble 20 f) (bif_ (Nat.ble 21 f) [0, 1, 2, 4, 5, 6, 7, 30, 37, 59] [0, 2, 3]) [0, 1, 2, 6, 7, 10])) (bif_ (Nat.ble 16 f) (bif_ (Nat.ble 17 f) (bif_ (Nat.ble 18 f) [0, 1, 4, 5, 6, 24] [0, 1, 4, 5, 10, 14, 26]) [0, 2, 4]) (bif_ (Nat.ble 14 f) (bif_ (Nat.ble 15 f) [0, 1, 4, 5, 6, 7, 8, 11, 14, 36, 63, 68, 96] [0, 2, 4]) [0, 1, 2, 6, 7, 25]))) (bif_ (Nat.ble 6 f) (bif_ (Nat.ble 9 f) (bif_ (Nat.ble 11 f) (bif_ (Nat.ble 12 f) [0, 1, 2, 4, 25] [0, 1, 4, 5, 6, 7, 16]) (bif_ (Nat.ble 10 f) [0, 1, 2] [0, 1, 2, 3, 4, 5, 12])) (bif_ (Nat.ble 7 f) (bif_ (Nat.ble 8 f) [0, 1, 2, 3, 5, 6, 7] [0, 1, 2, 3, 6, 7, 8, 9, 10, 11, 12, 13, 14, 15, 16, 17, 18, 19, 20, 21, 22, 23, 24, 27, 44, 46, 54, 70, 138, 164, 180, 191, 206]) [0, 1, 4, 5, 6, 7, 8, 9, 10, 11, 12, 13, 14, 15, 18, 24, 27, 40, 48, 63, 76, 91, 95, 107])) (bif_ (Nat.ble 3 f) (bif_ (Nat.ble 4 f) (bif_ (Nat.ble 5 f) [0, 1, 2, 4, 5, 6, 7, 8, 9, 10, 13, 24, 28, 42] [0, 1, 4, 5, 6, 7, 8, 9, 10, 11, 15, 30, 33, 45]) [0, 1, 2, 3, 4, 8, 9, 10, 11, 12, 13, 16, 44]) []))))

theorem ElemInfo.mk37 : ∃ i, Try.prog.info? 37 = some i ∧ i.size = 4 ∧ i.bytes = 40 ∧ (i.zero.map fun z => z.cells.size) = some 4 := elemInfo (by kernel_rfl)
theorem ElemInfo.mk3 : ∃ i, Try.prog.info? 3 = some i ∧ i.size = 1 ∧ i.bytes = 8 ∧ (i.zero.map fun z => z.cells.size) = some 1 := elemInfo (by kernel_rfl)
theorem ElemInfo.mk2 : ∃ i, Try.prog.info? 2 = some i ∧ i.size = 1 ∧ i.bytes = 8 ∧ (i.zero.map fun z => z.cells.size) = some 1 := elemInfo (by kernel_rfl)
theorem zf2 : ∃ i z, Try.prog.info? 2 = some i ∧ i.zero = some z ∧ z.cells.toList.all flat = true := zeroFlat (by kernel_rfl)
theorem zf3 : ∃ i z, Try.prog.info? 3 = some i ∧ i.zero = some z ∧ z.cells.toList.all flat = true := zeroFlat (by kernel_rfl)
theorem zf37 : ∃ i z, Try.prog.info? 37 = some i ∧ i.zero = some z ∧ z.cells.toList.all flat = true := zeroFlat (by kernel_rfl)
theorem el24 : elemIs Try.prog 24 4 = true := by kernel_rfl
theorem el42 : elemIs Try.prog 42 1 = true := by kernel_rfl
theorem el71 : elemIs Try.prog 71 1 = true := by kernel_rfl
theorem ent14 : enters Try.prog 14 = true := by kernel_rfl
theorem ent16 : enters Try.prog 16 = true := by kernel_rfl
theorem ent18 : enters Try.prog 18 = true := by kernel_rfl
theorem ent26 : enters Try.prog 26 = true := by kernel_rfl
theorem ent27 : enters Try.prog 27 = true := by kernel_rfl
theorem ent28 : enters Try.prog 28 = true := by kernel_rfl
theorem ent33 : enters Try.prog 33 = true := by kernel_rfl
theorem ent34 : enters Try.prog 34 = true := by kernel_rfl
theorem ent35 : enters Try.prog 35 = true := by kernel_rfl
theorem ent36 : enters Try.prog 36 = true := by kernel_rfl
theorem ent37 : enters Try.prog 37 = true := by kernel_rfl
theorem ent38 : enters Try.prog 38 = true := by kernel_rfl
theorem ent39 : enters Try.prog 39 = true := by kernel_rfl
theorem ent40 : enters Try.prog 40 = true := by kernel_rfl
theorem ent41 : enters Try.prog 41 = true := by kernel_rfl
theorem ent44 : enters Try.prog 44 = true := by kernel_rfl
theorem ent45 : enters Try.prog 45 = true := by kernel_rfl
theorem ent46 : enters Try.prog 46 = true := by kernel_rfl
theorem ent47 : enters Try.prog 47 = true := by kernel_rfl
theorem ent48 : enters Try.prog 48 = true := by kernel_rfl
theorem ent49 : enters Try.prog 49 = true := by kernel_rfl
theorem ent50 : enters Try.prog 50 = true := by kernel_rfl
theorem ent51 : enters Try.prog 51 = true := by kernel_rfl
theorem eok24 : ElemOk Try.prog 24 37 4 40 := ⟨Try.underlying24, ElemInfo.mk37⟩
theorem eok42 : ElemOk Try.prog 42 3 1 8 := ⟨Try.underlying42, ElemInfo.mk3⟩
theorem eok71 : ElemOk Try.prog 71 2 1 8 := ⟨Try.underlying71, ElemInfo.mk2⟩
theorem fa23_0 : fieldIs Try.prog 23 0 0 = true := by kernel_rfl
theorem fa23_1 : fieldIs Try.prog 23 1 1 = true := by kernel_rfl
theorem fa23_2 : fieldIs Try.prog 23 2 2 = true := by kernel_rfl
theorem fa23_3 : fieldIs Try.prog 23 3 3 = true := by kernel_rfl
theorem fa37_0 : fieldIs Try.prog 37 0 0 = true := by kernel_rfl
theorem fa37_1 : fieldIs Try.prog 37 1 1 = true := by kernel_rfl
theorem fa37_2 : fieldIs Try.prog 37 2 2 = true := by kernel_rfl
theorem fa37_3 : fieldIs Try.prog 37 3 3 = true := by kernel_rfl
theorem fa49_0 : fieldIs Try.prog 49 0 0 = true := by kernel_rfl
theorem fa49_1 : fieldIs Try.prog 49 1 4 = true := by kernel_rfl
theorem fa67_0 : fieldIs Try.prog 67 0 0 = true := by kernel_rfl
theorem fa67_1 : fieldIs Try.prog 67 1 4 = true := by kernel_rfl
theorem isrow24 : isRow Try.prog (some 24) = true := by kernel_rfl
theorem isrow42 : isRow Try.prog (some 42) = true := by kernel_rfl
theorem many23 : manyB Try.prog 23 4 = true := by kernel_rfl
theorem many37 : manyB Try.prog 37 4 = true := by kernel_rfl
theorem many49 : manyB Try.prog 49 5 = true := by kernel_rfl
theorem one2 : oneB Try.prog 2 = true := by kernel_rfl
theorem one24 : oneB Try.prog 24 = true := by kernel_rfl
theorem one3 : oneB Try.prog 3 = true := by kernel_rfl
theorem one9 : oneB Try.prog 9 = true := by kernel_rfl
theorem pl49 : placesOf Try.prog 49 = some [(0, 4), (4, 1)] := by kernel_rfl
theorem pl67 : placesOf Try.prog 67 = some [(0, 4), (4, 1)] := by kernel_rfl
theorem size23 : sizeIs Try.prog 23 4 = true := by kernel_rfl
theorem size24 : sizeIs Try.prog 24 1 = true := by kernel_rfl
theorem size37 : sizeIs Try.prog 37 4 = true := by kernel_rfl
theorem size49 : sizeIs Try.prog 49 5 = true := by kernel_rfl
theorem size9 : sizeIs Try.prog 9 1 = true := by kernel_rfl
theorem zero23 : ZeroIs Try.prog 23 [.int .i64 0, .int .i64 0, .string (⟨#[]⟩), .string (⟨#[]⟩)] := ⟨.agg #[.int .i64 0, .int .i64 0, .string (⟨#[]⟩), .string (⟨#[]⟩)], by kernel_rfl, rfl, rfl, rfl⟩
theorem zero37 : ZeroIs Try.prog 37 [.int .i64 0, .int .i64 0, .int .i64 0, .string (⟨#[]⟩)] := ⟨.agg #[.int .i64 0, .int .i64 0, .int .i64 0, .string (⟨#[]⟩)], by kernel_rfl, rfl, rfl, rfl⟩
theorem zero49 : ZeroIs Try.prog 49 [.int .i64 0, .int .i64 0, .string (⟨#[]⟩), .string (⟨#[]⟩), .slice none 0 0] := ⟨.agg #[.int .i64 0, .int .i64 0, .string (⟨#[]⟩), .string (⟨#[]⟩), .slice none 0 0], by kernel_rfl, rfl, rfl, rfl⟩
theorem zero67 : ZeroIs Try.prog 67 [.int .i64 0, .int .i64 0, .string (⟨#[]⟩), .string (⟨#[]⟩), .slice none 0 0] := ⟨.agg #[.int .i64 0, .int .i64 0, .string (⟨#[]⟩), .string (⟨#[]⟩), .slice none 0 0], by kernel_rfl, rfl, rfl, rfl⟩
theorem rlog_in1_spec (H : Heap) (n : Int) : ∃ v H', Spec Try.prog 45 [.int .i64 n] H v H' ∧ ((v = .bool (Spec.badN n)) ∧ (Ext H H')) := by
 refine spec_go1 E0_ok 9 (f := 45) Try.func45 rfl rfl rfl ?_
 refine aw_seq ?_
 refine aw_reg ?_
 refine st_op (ev_assign rfl) rfl rfl rfl ?_
 try show aw _ _ _ _ _ _
 refine aw_seq ?_
 refine aw_reg ?_
 refine st_op (ev_move rfl) rfl rfl rfl ?_
 refine st_op (ev_int rfl rfl rfl) rfl rfl rfl ?_
 refine st_op (ev_move rfl) rfl rfl rfl ?_
 refine st_bool 5 rfl (fun hb1 => ?_) (fun hb1 => ?_)
 ·
  have hb1 := of_decide_eq_true hb1
  iterate 2 refine st_skip rfl rfl rfl ?_
  refine st_op (ev_pickT rfl rfl) rfl rfl rfl ?_
  refine st_op (ev_assign rfl) rfl rfl rfl ?_
  try show aw _ _ _ _ _ _
  refine aw_ret ?_
  have hres : (Spec.badN n) = true := by simp only [Spec.badN]; rw [Bool.eq_iff_iff]; simp only [decide_eq_true_eq, Bool.false_eq_true, iff_false, iff_true, not_or]; omega
  exact ⟨.bool true, rfl, by first | (rw [hres]; done) | rw [← hres], (Ext.refl H)⟩
 ·
  have hb1 := of_decide_eq_false hb1
  refine st_op (ev_move rfl) rfl rfl rfl ?_
  refine st_op (ev_int rfl rfl rfl) rfl rfl rfl ?_
  refine st_op (ev_pickF rfl rfl) rfl rfl rfl ?_
  refine st_op (ev_assign rfl) rfl rfl rfl ?_
  try show aw _ _ _ _ _ _
  refine aw_ret ?_
  have hres : (Spec.badN n) = (decide (n > 1099511627776)) := by simp only [Spec.badN]; rw [Bool.eq_iff_iff]; simp only [decide_eq_true_eq, Bool.false_eq_true, iff_false, iff_true, not_or]; omega
  exact ⟨.bool (decide (n > 1099511627776)), rfl, by first | (rw [hres]; done) | rw [← hres], (Ext.refl H)⟩
theorem rlog_find_spec (H : Heap) (lA : Option Addr) (l : List Int) (lc : Nat) (hl : Row H lA lc 1 (l.map i64c)) (cl : l.length ≤ lc) (ll : l.length ≤ 1099511627776)  : ∃ v H', Spec Try.prog 48 [.slice lA l.length lc, .func (.func 45) #[] #[]] H v H' ∧ ((v = .int .i64 (Spec.findF Spec.badN l 0)) ∧ (-1 ≤ (Spec.findF Spec.badN l 0) ∧ (Spec.findF Spec.badN l 0) < (l.length : Int)) ∧ (Ext H H')) := by
 refine spec_go2 E0_ok 19 (f := 48) Try.func48 rfl rfl rfl ?_
 refine aw_seq ?_
 refine aw_reg ?_
 refine st_op (ev_assign rfl) rfl rfl rfl ?_
 try show aw _ _ _ _ _ _
 iterate 2 refine aw_seq ?_
 refine aw_reg ?_
 refine st_op (ev_move rfl) rfl rfl rfl ?_
 refine st_op (ev_lenSl rfl Try.underlying71) rfl rfl rfl ?_
 refine st_op (ev_move rfl) rfl rfl rfl ?_
 try show aw _ _ _ _ _ _
 refine aw_block ?_
 refine aw_keep [0, 1, 7, 8] (l' := (.cons 0 (.slice lA l.length lc) (.cons 1 (.func (.func 45) #[] #[]) (.cons 7 (.int .i64 (l.length : Int)) (.cons 8 (.int .i64 0) .nil))))) (by repeat (first | exact Up.done | refine Up.then ?_ | refine Up.inBlock ?_)) rfl ?_
 refine aw_iter (α := Nat × Heap) (fun a => l.length - a.1) (fun a => (.cons 0 (.slice lA l.length lc) (.cons 1 (.func (.func 45) #[] #[]) (.cons 7 (.int .i64 (l.length : Int)) (.cons 8 (.int .i64 (a.1 : Int)) .nil))))) (fun a => a.2) (fun a => (a.1 ≤ l.length) ∧ (Spec.findF Spec.badN l 0 = Spec.findF Spec.badN (l.drop a.1) (a.1 : Int)) ∧ (Ext H a.2)) (0, H) ⟨(show 0 ≤ l.length from Nat.zero_le _), (show Spec.findF Spec.badN l 0 = Spec.findF Spec.badN (l.drop 0) (0 : Int) from rfl), (show Ext H H from (Ext.refl H))⟩ ?_
 rintro ⟨i, Hl1⟩ ⟨hi, hv, hxl2⟩ ih3
 replace hi : i ≤ l.length := hi
 replace hv : Spec.findF Spec.badN l 0 = Spec.findF Spec.badN (l.drop i) (i : Int) := hv
 replace hxl2 : Ext H Hl1 := hxl2
 show aw _ _ _ (RL _ (.cons 0 (.slice lA l.length lc) (.cons 1 (.func (.func 45) #[] #[]) (.cons 7 (.int .i64 (l.length : Int)) (.cons 8 (.int .i64 (i : Int)) .nil))))) Hl1 _
 have Hl1n : H.next ≤ Hl1.next := hxl2.1
 refine aw_seq ?_
 refine aw_reg ?_
 refine st_op (ev_int rfl rfl rfl) rfl rfl rfl ?_
 try show aw _ _ _ _ _ _
 refine aw_seq ?_
 by_cases hc4 : (decide ((i : Int) < (l.length : Int))) = true
 ·
  refine aw_condT hc4 rfl ?_
  try show aw _ _ _ _ _ _
  have hc4 := of_decide_eq_true hc4
  refine aw_skip ?_
  try show aw _ _ _ _ _ _
  refine aw_seq ?_
  refine aw_block ?_
  refine aw_seq ?_
  refine aw_reg ?_
  refine st_op (ev_move rfl) rfl rfl rfl ?_
  refine st_op (ev_assign rfl) rfl rfl rfl ?_
  try show aw _ _ _ _ _ _
  refine aw_seq ?_
  refine aw_reg ?_
  iterate 3 refine st_op (ev_move rfl) rfl rfl rfl ?_
  have h5 := Row.ext hl hxl2
  have hi6 : 0 ≤ ((i : Int) : Int) := by omega
  have hi7 : ((i : Int) : Int) < ((l.length : Nat) : Int) := by omega
  obtain ⟨x8, hx9⟩ : ∃ e, l[i]? = some e := ⟨_, List.getElem?_eq_getElem (by omega)⟩
  refine st_op (ev_at rfl rfl h5 (getMap i64c hx9) (by first | rfl | omega | simp) hi6 hi7 el71) rfl rfl rfl ?_
  refine st_op (ev_atL rfl h5 (getMap i64c hx9) one2 rfl) rfl rfl rfl ?_
  refine st_callv rfl rfl rfl rfl rfl ent45 rfl rfl rfl ?_
  obtain ⟨_, H11, hs10, hs10v, hx12⟩ := rlog_in1_spec Hl1 x8
  rw [hs10v] at hs10; clear hs10v
  refine ⟨_, H11, hs10, ?_⟩
  have H11n : Hl1.next ≤ H11.next := hx12.1
  try show aw _ _ _ _ _ _
  by_cases hc13 : (Spec.badN x8) = true
  ·
   refine aw_condT hc13 rfl ?_
   try show aw _ _ _ _ _ _
   refine aw_seq ?_
   refine aw_reg ?_
   refine st_op (ev_move rfl) rfl rfl rfl ?_
   refine st_op (ev_assign rfl) rfl rfl rfl ?_
   try show aw _ _ _ _ _ _
   refine aw_ret ?_
   have hx14 : Ext H H11 := (Ext.trans hxl2 hx12)
   have hres : (Spec.findF Spec.badN l 0) = (i : Int) := by rw [hv, drop_at hx9, Spec.findF, if_pos (by assumption)]
   exact ⟨.int .i64 (i : Int), rfl, by first | (rw [hres]; done) | rw [← hres], (by exact Spec.findF_bd _ _), hx14⟩
  ·
   rw [Bool.not_eq_true] at hc13; refine aw_condF hc13 rfl ?_
   try show aw _ _ _ _ _ _
   refine aw_skip ?_
   try show aw _ _ _ _ _ _
   refine aw_reg ?_
   refine st_op (ev_int64 (c := (i : Int) + 1) rfl rfl rfl (by omega) (by omega)) rfl rfl rfl ?_
   refine st_op (ev_move rfl) rfl rfl rfl ?_
   try show aw _ _ _ _ _ _
   have hx15 : Ext H H11 := (Ext.trans hxl2 hx12)
   refine aw_keep [0, 1, 7, 8] (l' := (.cons 0 (.slice lA l.length lc) (.cons 1 (.func (.func 45) #[] #[]) (.cons 7 (.int .i64 (l.length : Int)) (.cons 8 (.int .i64 ((i : Int) + 1)) .nil))))) (by repeat (first | exact Up.done | refine Up.then ?_ | refine Up.inBlock ?_)) rfl ?_
   exact ih3 (i + 1, H11) ⟨(show (i + 1) ≤ l.length from (by omega)), (show Spec.findF Spec.badN l 0 = Spec.findF Spec.badN (l.drop (i + 1)) ((i + 1) : Int) from (by rw [hv, drop_at hx9, Spec.findF, if_neg (by simp_all)] <;> rfl)), (show Ext H H11 from hx15)⟩ (by simp only; omega)
 ·
  rw [Bool.not_eq_true] at hc4; refine aw_condF hc4 rfl ?_
  try show aw _ _ _ _ _ _
  have hc4 := of_decide_eq_false hc4
  refine aw_exit ?_
  try show aw _ _ _ _ _ _
  refine aw_seq ?_
  refine aw_reg ?_
  refine st_op (ev_assign rfl) rfl rfl rfl ?_
  try show aw _ _ _ _ _ _
  refine aw_ret ?_
  have hres : (Spec.findF Spec.badN l 0) = (-1) := by rw [hv, List.drop_eq_nil_of_le (by omega)]; rfl
  exact ⟨.int .i64 (-1), rfl, by first | (rw [hres]; done) | rw [← hres], (by exact Spec.findF_bd _ _), hxl2⟩
theorem rlog_contains_spec (H : Heap) (lA : Option Addr) (l : List Int) (lc : Nat) (hl : Row H lA lc 1 (l.map i64c)) (cl : l.length ≤ lc) (ll : l.length ≤ 1099511627776)  : ∃ v H', Spec Try.prog 44 [.slice lA l.length lc, .func (.func 45) #[] #[]] H v H' ∧ ((v = .bool (decide (Spec.findF Spec.badN l 0 ≥ 0))) ∧ (Ext H H')) := by
 refine spec_go2 E0_ok 9 (f := 44) Try.func44 rfl rfl rfl ?_
 refine aw_seq ?_
 refine aw_reg ?_
 refine st_op (ev_assign rfl) rfl rfl rfl ?_
 try show aw _ _ _ _ _ _
 refine aw_seq ?_
 refine aw_reg ?_
 iterate 2 refine st_op (ev_move rfl) rfl rfl rfl ?_
 refine st_call rfl rfl rfl ent48 rfl rfl rfl ?_
 obtain ⟨_, H2, hs1, hs1v, hq4, hx3⟩ := rlog_find_spec H lA l lc hl cl (by omega) 
 rw [hs1v] at hs1; clear hs1v
 generalize hR6 : (Spec.findF Spec.badN l 0) = r5 at hs1 hq4
 refine ⟨_, H2, hs1, ?_⟩
 have H2n : H.next ≤ H2.next := hx3.1
 refine st_op (ev_int rfl rfl rfl) rfl rfl rfl ?_
 refine st_op (ev_assign rfl) rfl rfl rfl ?_
 try show aw _ _ _ _ _ _
 refine aw_ret ?_
 have hres : (decide (Spec.findF Spec.badN l 0 ≥ 0)) = (decide (r5 ≥ 0)) := by rw [hR6]
 exact ⟨.bool (decide (r5 ≥ 0)), rfl, by first | (rw [hres]; done) | rw [← hres], hx3⟩
theorem rlog_in_spec (H : Heap) (lA : Option Addr) (l : List Int) (lc : Nat) (hl : Row H lA lc 1 (l.map i64c)) (cl : l.length ≤ lc) (ll : l.length ≤ 1099511627776) : ∃ v H', Spec Try.prog 34 [.slice lA l.length lc] H v H' ∧ ((v = .bool (Spec.inAll l)) ∧ (Ext H H')) := by
 refine spec_go1 E0_ok 6 (f := 34) Try.func34 rfl rfl rfl ?_
 refine aw_seq ?_
 refine aw_reg ?_
 refine st_op (ev_assign rfl) rfl rfl rfl ?_
 try show aw _ _ _ _ _ _
 refine aw_seq ?_
 refine aw_reg ?_
 refine st_op (ev_move rfl) rfl rfl rfl ?_
 refine st_call rfl rfl rfl ent44 rfl rfl rfl ?_
 obtain ⟨_, H2, hs1, hs1v, hx3⟩ := rlog_contains_spec H lA l lc hl cl (by omega) 
 rw [hs1v] at hs1; clear hs1v
 refine ⟨_, H2, hs1, ?_⟩
 have H2n : H.next ≤ H2.next := hx3.1
 refine st_op (ev_not rfl) rfl rfl rfl ?_
 refine st_op (ev_assign rfl) rfl rfl rfl ?_
 try show aw _ _ _ _ _ _
 refine aw_ret ?_
 have hres : (Spec.inAll l) = (!(decide (Spec.findF Spec.badN l 0 ≥ 0))) := by exact Spec.in_all.symm
 exact ⟨.bool (!(decide (Spec.findF Spec.badN l 0 ≥ 0))), rfl, by first | (rw [hres]; done) | rw [← hres], hx3⟩
theorem rlog_row_spec (H : Heap) (index : Int) (term : Int) (esA : Option Addr) (es : List Entry) (esc : Nat) (hes : Row H esA esc 4 (es.map Entry.cells)) (ces : es.length ≤ esc) (les : es.length ≤ 140737488355328) : ∃ v H', Spec Try.prog 35 [.int .i64 index, .int .i64 term, .slice esA es.length esc] H v H' ∧ ((v = .bool (Spec.logRow index term es)) ∧ (Ext H H')) := by
 refine spec_go3 E0_ok 31 (f := 35) Try.func35 rfl rfl rfl ?_
 refine aw_seq ?_
 refine aw_reg ?_
 refine st_op (ev_assign rfl) rfl rfl rfl ?_
 try show aw _ _ _ _ _ _
 iterate 2 refine aw_seq ?_
 refine aw_reg ?_
 refine st_op (ev_move rfl) rfl rfl rfl ?_
 refine st_op (ev_lenSl rfl Try.underlying24) rfl rfl rfl ?_
 refine st_op (ev_move rfl) rfl rfl rfl ?_
 try show aw _ _ _ _ _ _
 refine aw_block ?_
 refine aw_keep [0, 1, 9, 10, 11] (l' := (.cons 0 (.int .i64 index) (.cons 1 (.int .i64 term) (.cons 9 (.slice esA es.length esc) (.cons 10 (.int .i64 (es.length : Int)) (.cons 11 (.int .i64 0) .nil)))))) (by repeat (first | exact Up.done | refine Up.then ?_ | refine Up.inBlock ?_)) rfl ?_
 refine aw_iter (α := Nat × Int × Int × Heap) (fun a => es.length - a.1) (fun a => (.cons 0 (.int .i64 a.2.1) (.cons 1 (.int .i64 a.2.2.1) (.cons 9 (.slice esA es.length esc) (.cons 10 (.int .i64 (es.length : Int)) (.cons 11 (.int .i64 (a.1 : Int)) .nil)))))) (fun a => a.2.2.2) (fun a => (a.1 ≤ es.length) ∧ (Spec.logRow index term es = Spec.logRow a.2.1 a.2.2.1 (es.drop a.1)) ∧ (Ext H a.2.2.2)) (0, index, term, H) ⟨(show 0 ≤ es.length from Nat.zero_le _), (show Spec.logRow index term es = Spec.logRow index term (es.drop 0) from rfl), (show Ext H H from (Ext.refl H))⟩ ?_
 rintro ⟨i, ix, tm, Hl1⟩ ⟨hi, hv, hxl2⟩ ih3
 replace hi : i ≤ es.length := hi
 replace hv : Spec.logRow index term es = Spec.logRow ix tm (es.drop i) := hv
 replace hxl2 : Ext H Hl1 := hxl2
 show aw _ _ _ (RL _ (.cons 0 (.int .i64 ix) (.cons 1 (.int .i64 tm) (.cons 9 (.slice esA es.length esc) (.cons 10 (.int .i64 (es.length : Int)) (.cons 11 (.int .i64 (i : Int)) .nil)))))) Hl1 _
 have Hl1n : H.next ≤ Hl1.next := hxl2.1
 refine aw_seq ?_
 refine aw_reg ?_
 refine st_op (ev_int rfl rfl rfl) rfl rfl rfl ?_
 try show aw _ _ _ _ _ _
 refine aw_seq ?_
 by_cases hc4 : (decide ((i : Int) < (es.length : Int))) = true
 ·
  refine aw_condT hc4 rfl ?_
  try show aw _ _ _ _ _ _
  have hc4 := of_decide_eq_true hc4
  refine aw_skip ?_
  try show aw _ _ _ _ _ _
  refine aw_seq ?_
  refine aw_block ?_
  refine aw_seq ?_
  refine aw_reg ?_
  have h5 := Row.ext hes hxl2
  have hi6 : 0 ≤ ((i : Int) : Int) := by omega
  have hi7 : ((i : Int) : Int) < ((es.length : Nat) : Int) := by omega
  obtain ⟨x8, hx9⟩ : ∃ e, es[i]? = some e := ⟨_, List.getElem?_eq_getElem (by omega)⟩
  refine st_op (ev_at rfl rfl h5 (getMap Entry.cells hx9) (by first | rfl | omega | simp) hi6 hi7 el24) rfl rfl rfl ?_
  refine st_op (ev_atN (cs := [.int .i64 x8.index, .int .i64 x8.term, .int .i64 x8.kind, .string x8.data]) rfl h5 (getMap Entry.cells hx9) many37 rfl rfl (by decide)) rfl rfl rfl ?_
  obtain ⟨b10, H11, he12, b10e, H11n_, hB14, f13⟩ := mem_alloc Hl1 zero37
  refine st_op (he12 _ _ _ _ _ _ _) rfl rfl rfl ?_
  have hx15 : Ext Hl1 H11 := Ext.new (by omega) H11n_ f13
  have H11n : Hl1.next ≤ H11.next := hx15.1
  obtain ⟨H16, he17, H16n_, hB18, f19⟩ := mem_store (v := .agg #[.int .i64 x8.index, .int .i64 x8.term, .int .i64 x8.kind, .string x8.data]) (o := 0) (cs' := [.int .i64 x8.index, .int .i64 x8.term, .int .i64 x8.kind, .string x8.data]) 4 rfl rfl size37 hB14 rfl rfl rfl
  refine st_op0 (he17 _ _ _ _ _ _ _ _ _ rfl rfl) rfl rfl ?_
  have hf20 : Fr (fun q => q = b10) H11 H16 := Fr.write H16n_ f19
  have H16n : H11.next ≤ H16.next := hf20.1
  try show aw _ _ _ _ _ _
  iterate 2 refine aw_seq ?_
  refine aw_reg ?_
  refine st_op (ev_fieldAddr rfl fa37_0 (o' := 0) rfl) rfl rfl rfl ?_
  refine st_op (ev_load rfl (lvar_one one2 hB18 rfl)) rfl rfl rfl ?_
  refine st_op (ev_move rfl) rfl rfl rfl ?_
  iterate 2 refine st_op (ev_int rfl rfl rfl) rfl rfl rfl ?_
  refine st_op (ev_move rfl) rfl rfl rfl ?_
  refine st_bool 20 rfl (fun hb21 => ?_) (fun hb21 => ?_)
  ·
   have hb21 : ¬ (x8.index = (IntKind.i64.wrap (ix + 1))) := by simpa using hb21
   iterate 4 refine st_skip rfl rfl rfl ?_
   refine st_op (ev_pickT rfl rfl) rfl rfl rfl ?_
   try show aw _ _ _ _ _ _
   refine aw_cond (t := true) rfl ?_
   try show aw _ _ _ _ _ _
   refine aw_seq ?_
   refine aw_reg ?_
   refine st_op (ev_assign rfl) rfl rfl rfl ?_
   try show aw _ _ _ _ _ _
   refine aw_ret ?_
   have hx22 : Ext H H16 := (Ext.then (Ext.trans hxl2 hx15) hf20 (fun q hq e => by omega))
   have hres : (Spec.logRow index term es) = false := by rw [hv]; exact Spec.logRow_fail hx9 (by first | exact .inr (by omega) | exact .inl (by assumption) | simp_all)
   exact ⟨.bool false, rfl, by first | (rw [hres]; done) | rw [← hres], hx22⟩
  ·
   have hb21 : (x8.index = (IntKind.i64.wrap (ix + 1))) := by simpa using hb21
   refine st_op (ev_fieldAddr rfl fa37_1 (o' := 1) rfl) rfl rfl rfl ?_
   refine st_op (ev_load rfl (lvar_one one2 hB18 rfl)) rfl rfl rfl ?_
   refine st_op (ev_move rfl) rfl rfl rfl ?_
   refine st_op (ev_int rfl rfl rfl) rfl rfl rfl ?_
   refine st_op (ev_pickF rfl rfl) rfl rfl rfl ?_
   try show aw _ _ _ _ _ _
   by_cases hc23 : (decide (x8.term < tm)) = true
   ·
    refine aw_condT hc23 rfl ?_
    try show aw _ _ _ _ _ _
    have hc23 := of_decide_eq_true hc23
    refine aw_seq ?_
    refine aw_reg ?_
    refine st_op (ev_assign rfl) rfl rfl rfl ?_
    try show aw _ _ _ _ _ _
    refine aw_ret ?_
    have hx24 : Ext H H16 := (Ext.then (Ext.trans hxl2 hx15) hf20 (fun q hq e => by omega))
    have hres : (Spec.logRow index term es) = false := by rw [hv]; exact Spec.logRow_fail hx9 (by first | exact .inr (by omega) | exact .inl (by assumption) | simp_all)
    exact ⟨.bool false, rfl, by first | (rw [hres]; done) | rw [← hres], hx24⟩
   ·
    rw [Bool.not_eq_true] at hc23; refine aw_condF hc23 rfl ?_
    try show aw _ _ _ _ _ _
    have hc23 := of_decide_eq_false hc23
    refine aw_skip ?_
    try show aw _ _ _ _ _ _
    refine aw_marks (fun b => b < H16.next) [(false, false), (false, false), (false, false), (false, false), (false, false), (false, false)] mixed (by kernel_rfl) (by kernel_rfl) ?_
    refine sm_op (ev_fieldAddr rfl fa37_0 (o' := 0) rfl) rfl rfl rfl ?_
    refine sm_op (ev_load rfl (lvar_one one2 hB18 rfl)) rfl rfl rfl ?_
    refine sm_op (ev_fieldAddr rfl fa37_1 (o' := 1) rfl) rfl rfl rfl ?_
    refine sm_op (ev_load rfl (lvar_one one2 hB18 rfl)) rfl rfl rfl ?_
    iterate 2 refine sm_op (ev_assign rfl) rfl rfl rfl ?_
    try show aw _ _ _ _ _ _
    refine aw_reg ?_
    refine st_op (ev_int64 (c := (i : Int) + 1) rfl rfl rfl (by omega) (by omega)) rfl rfl rfl ?_
    refine st_op (ev_move rfl) rfl rfl rfl ?_
    try show aw _ _ _ _ _ _
    have hx25 : Ext H H16 := (Ext.then (Ext.trans hxl2 hx15) hf20 (fun q hq e => by omega))
    refine aw_keep [0, 1, 9, 10, 11] (l' := (.cons 0 (.int .i64 x8.index) (.cons 1 (.int .i64 x8.term) (.cons 9 (.slice esA es.length esc) (.cons 10 (.int .i64 (es.length : Int)) (.cons 11 (.int .i64 ((i : Int) + 1)) .nil)))))) (by repeat (first | exact Up.done | refine Up.then ?_ | refine Up.inBlock ?_)) rfl ?_
    exact ih3 (i + 1, x8.index, x8.term, H16) ⟨(show (i + 1) ≤ es.length from (by omega)), (show Spec.logRow index term es = Spec.logRow x8.index x8.term (es.drop (i + 1)) from (by rw [hv]; exact Spec.logRow_step hx9 (by first | assumption | simp_all) (by omega))), (show Ext H H16 from hx25)⟩ (by simp only; omega)
 ·
  rw [Bool.not_eq_true] at hc4; refine aw_condF hc4 rfl ?_
  try show aw _ _ _ _ _ _
  have hc4 := of_decide_eq_false hc4
  refine aw_exit ?_
  try show aw _ _ _ _ _ _
  refine aw_seq ?_
  refine aw_reg ?_
  refine st_op (ev_assign rfl) rfl rfl rfl ?_
  try show aw _ _ _ _ _ _
  refine aw_ret ?_
  have hres : (Spec.logRow index term es) = true := by rw [hv, List.drop_eq_nil_of_le (by omega)]; rfl
  exact ⟨.bool true, rfl, by first | (rw [hres]; done) | rw [← hres], hxl2⟩
theorem sl_CloneE_spec (H : Heap) (lA : Option Addr) (l : List Entry) (lc : Nat) (hl : Row H lA lc 4 (l.map Entry.cells)) (cl : l.length ≤ lc) (ll : l.length ≤ 1073741824) : ∃ v H', Spec Try.prog 36 [.slice lA l.length lc] H v H' ∧ (∃ rA0 rc0, (v = .slice rA0 l.length rc0) ∧ (My H H' rA0 rc0 4 (l.map Entry.cells)) ∧ (Ext H H')) := by
 refine spec_go1 E0_ok 8 (f := 36) Try.func36 rfl rfl rfl ?_
 refine aw_seq ?_
 refine aw_reg ?_
 refine st_op (ev_assign rfl) rfl rfl rfl ?_
 try show aw _ _ _ _ _ _
 iterate 2 refine aw_seq ?_
 refine aw_reg ?_
 refine st_op (ev_move rfl) rfl rfl rfl ?_
 refine st_op (ev_nilSl rfl rfl Try.underlying24) rfl rfl rfl ?_
 try show aw _ _ _ _ _ _
 by_cases hc1 : (Option.isNone lA) = true
 ·
  refine aw_condT hc1 rfl ?_
  try show aw _ _ _ _ _ _
  refine aw_seq ?_
  refine aw_reg ?_
  refine st_op (ev_assign rfl) rfl rfl rfl ?_
  try show aw _ _ _ _ _ _
  refine aw_ret ?_
  have hm2 : My H H none 0 4 (([] : List Entry).map Entry.cells) := .nil
  have hres : l = ([] : List Entry) := by exact Row.isNone hl (by assumption)
  exact ⟨.slice none 0 0, rfl, none, 0, by first | (rw [hres]; first | done | rfl | simp; done) | rfl, (by rw [hres]; exact hm2), (Ext.refl H)⟩
 ·
  rw [Bool.not_eq_true] at hc1; refine aw_condF hc1 rfl ?_
  try show aw _ _ _ _ _ _
  refine aw_skip ?_
  try show aw _ _ _ _ _ _
  refine aw_seq ?_
  refine aw_reg ?_
  obtain ⟨b3, H4, he5, b3e, H4n_, hm7, f6⟩ := mem_lit H (xs := ([] : List Value)) (m := 0) (rows := ([] : List (List Value))) rfl eok24 (by decide) (by decide) zf37 rfl (allLen rfl) rfl
  replace hm7 : My H H4 (some ⟨b3, 0, none⟩) 0 4 (([] : List Entry).map Entry.cells) := hm7
  refine st_op (he5 _ _ _ _ _ _ _ _ rfl) rfl rfl rfl ?_
  have hx8 : Ext H H4 := Ext.new (by omega) H4n_ f6
  have H4n : H.next ≤ H4.next := hx8.1
  refine st_op (ev_move rfl) rfl rfl rfl ?_
  have h9 := Row.ext hl hx8
  obtain ⟨A10, c11, H12, W13, he14, hm15, hf16⟩ := mem_append (f := Entry.cells) (old := ([] : List Entry)) (new := l) (m := 0) (mx := l.length) (c := 0) (by first | rfl | simp) (by first | rfl | simp) eok24 (by decide) hm7 hm7 (by omega) ((h9).srcF (by decide) (by first | rfl | simp)) rfl Entry.cells_len Entry.cells_one (by first | omega | (simp only [List.length_append, List.length_cons, List.length_nil, List.length_map, List.length_set, List.length_replicate, Spec.bytesOf_length]; omega) | (simp; omega)) (by first | omega | (simp only [List.length_append, List.length_cons, List.length_nil, List.length_map, List.length_set, List.length_replicate, Spec.bytesOf_length]; omega) | (simp; omega))
  refine st_op (he14 _ _ _ _ _ _ _ _ _ _ rfl rfl isrow24) rfl rfl rfl ?_
  have H12n : H4.next ≤ H12.next := hf16.1
  rw [List.nil_append] at hm15
  refine st_op (ev_assign rfl) rfl rfl rfl ?_
  try show aw _ _ _ _ _ _
  refine aw_ret ?_
  have hx17 : Ext H H12 := (Ext.then hx8 hf16 (fun q hq e => by omega))
  have hres : l = l := by rfl
  exact ⟨.slice A10 l.length c11, rfl, A10, c11, by first | (rw [hres]; first | done | rfl | simp; done) | rfl, (by rw [hres]; exact hm15), hx17⟩
theorem rlog_New_spec (H : Heap) (s_index : Int) (s_term : Int) (s_conf : ByteArray) (s_data : ByteArray) (lA : Option Addr) (l : List Entry) (lc : Nat) (hl : Row H lA lc 4 (l.map Entry.cells)) (cl : l.length ≤ lc) (ll : l.length ≤ 140737488355328) (ul : Spec.newOk s_index s_term l = true) : ∃ v H', Spec Try.prog 12 [.agg #[.int .i64 s_index, .int .i64 s_term, .string s_conf, .string s_data], .slice lA l.length lc] H v H' ∧ (∃ rA1 rc1, ∃ rb0, (v = .pointer (some ⟨rb0, 0, none⟩)) ∧ (My H H' rA1 rc1 4 (l.map Entry.cells)) ∧ (H.next ≤ rb0) ∧ (rb0 < H'.next) ∧ (H'.blk rb0 = some ⟨[.int .i64 s_index, .int .i64 s_term, .string s_conf, .string s_data, .slice rA1 l.length rc1], 0, false, false⟩) ∧ (Ext H H')) := by
 refine spec_go2 E0_ok 31 (f := 12) Try.func12 rfl rfl rfl ?_
 refine aw_seq ?_
 refine aw_reg ?_
 obtain ⟨b1, H2, he3, b1e, H2n_, hB5, f4⟩ := mem_box (P := Try.prog) H (v := .agg #[.int .i64 s_index, .int .i64 s_term, .string s_conf, .string s_data]) (cs := [.int .i64 s_index, .int .i64 s_term, .string s_conf, .string s_data]) rfl rfl
 refine st_op (he3 _ _ _ _ _ _ _ _ _ rfl) rfl rfl rfl ?_
 have hx6 : Ext H H2 := Ext.new (by omega) H2n_ f4
 have H2n : H.next ≤ H2.next := hx6.1
 refine st_op (ev_assign rfl) rfl rfl rfl ?_
 try show aw _ _ _ _ _ _
 iterate 2 refine aw_seq ?_
 refine aw_reg ?_
 refine st_op (ev_fieldAddr rfl fa23_0 (o' := 0) rfl) rfl rfl rfl ?_
 refine st_op (ev_load rfl (lvar_one one2 hB5 rfl)) rfl rfl rfl ?_
 refine st_op (ev_fieldAddr rfl fa23_1 (o' := 1) rfl) rfl rfl rfl ?_
 refine st_op (ev_load rfl (lvar_one one2 hB5 rfl)) rfl rfl rfl ?_
 obtain ⟨b7, H8, he9, b7e, H8n_, hm11, f10⟩ := mem_lit H2 (xs := ([.int .i64 s_index, .int .i64 s_term] : List Value)) (m := 2) (rows := [[.int .i64 s_index], [.int .i64 s_term]]) rfl eok71 (by decide) (by decide) zf2 rfl (allLen rfl) rfl
 replace hm11 : My H2 H8 (some ⟨b7, 0, none⟩) 2 1 ([s_index, s_term].map i64c) := hm11
 refine st_op (he9 _ _ _ _ _ _ _ _ rfl) rfl rfl rfl ?_
 have hx12 : Ext H2 H8 := Ext.new (by omega) H8n_ f10
 have H8n : H2.next ≤ H8.next := hx12.1
 refine st_call rfl rfl rfl ent34 rfl rfl rfl ?_
 obtain ⟨_, H14, hs13, hs13v, hx15⟩ := rlog_in_spec H8 (some ⟨b7, 0, none⟩) ([s_index, s_term]) 2 (My.row hm11) (My.capF hm11 (by first | omega | (simp only [List.length_append, List.length_cons, List.length_nil, List.length_map, List.length_set, List.length_replicate, Spec.bytesOf_length]; omega) | (simp; omega))) (by first | omega | (simp only [List.length_append, List.length_cons, List.length_nil, List.length_map, List.length_set, List.length_replicate, Spec.bytesOf_length]; omega) | (simp; omega))
 rw [hs13v] at hs13; clear hs13v
 refine ⟨_, H14, hs13, ?_⟩
 have H14n : H8.next ≤ H14.next := hx15.1
 refine st_op (ev_not rfl) rfl rfl rfl ?_
 refine st_op (ev_move rfl) rfl rfl rfl ?_
 refine st_bool 12 rfl (fun hb16 => ?_) (fun hb16 => ?_)
 ·
  replace hb16 : (Spec.inAll ([s_index, s_term])) = false := by rw [Bool.not_eq_true'] at hb16; exact hb16
  iterate 3 refine st_skip rfl rfl rfl ?_
  refine st_op (ev_pickT rfl rfl) rfl rfl rfl ?_
  refine st_op (ev_move rfl) rfl rfl rfl ?_
  iterate 7 refine st_skip rfl rfl rfl ?_
  refine st_op (ev_pickT rfl rfl) rfl rfl rfl ?_
  try show aw _ _ _ _ _ _
  refine aw_cond (t := true) rfl ?_
  try show aw _ _ _ _ _ _
  refine aw_seq ?_
  refine aw_reg ?_
  refine st_op (ev_assign rfl) rfl rfl rfl ?_
  try show aw _ _ _ _ _ _
  refine aw_ret ?_
  exfalso; have q := ul; rw [Spec.new_is] at q; simp_all; try omega
 ·
  replace hb16 : (Spec.inAll ([s_index, s_term])) = true := by rw [Bool.not_eq_false'] at hb16; exact hb16
  refine st_op (ev_move rfl) rfl rfl rfl ?_
  refine st_op (ev_lenSl rfl Try.underlying24) rfl rfl rfl ?_
  refine st_op (ev_int rfl rfl rfl) rfl rfl rfl ?_
  refine st_op (ev_pickF rfl rfl) rfl rfl rfl ?_
  refine st_op (ev_move rfl) rfl rfl rfl ?_
  refine st_bool 17 rfl (fun hb17 => ?_) (fun hb17 => ?_)
  ·
   have hb17 := of_decide_eq_true hb17
   iterate 7 refine st_skip rfl rfl rfl ?_
   refine st_op (ev_pickT rfl rfl) rfl rfl rfl ?_
   try show aw _ _ _ _ _ _
   refine aw_cond (t := true) rfl ?_
   try show aw _ _ _ _ _ _
   refine aw_seq ?_
   refine aw_reg ?_
   refine st_op (ev_assign rfl) rfl rfl rfl ?_
   try show aw _ _ _ _ _ _
   refine aw_ret ?_
   exfalso; have q := ul; rw [Spec.new_is] at q; simp_all; try omega
  ·
   have hb17 := of_decide_eq_false hb17
   refine st_op (ev_fieldAddr rfl fa23_0 (o' := 0) rfl) rfl rfl rfl ?_
   have hx19 : Ext H2 H14 := (Ext.trans hx12 hx15)
   have h18 := Ext.blk hx19 (by omega) hB5
   refine st_op (ev_load rfl (lvar_one one2 h18 rfl)) rfl rfl rfl ?_
   refine st_op (ev_fieldAddr rfl fa23_1 (o' := 1) rfl) rfl rfl rfl ?_
   refine st_op (ev_load rfl (lvar_one one2 h18 rfl)) rfl rfl rfl ?_
   refine st_op (ev_move rfl) rfl rfl rfl ?_
   refine st_call rfl rfl rfl ent35 rfl rfl rfl ?_
   have hx21 : Ext H H14 := (Ext.trans (Ext.trans hx6 hx12) hx15)
   have h20 := Row.ext hl hx21
   obtain ⟨_, H23, hs22, hs22v, hx24⟩ := rlog_row_spec H14 s_index s_term lA l lc h20 cl (by first | omega | (simp only [List.length_append, List.length_cons, List.length_nil, List.length_map, List.length_set, List.length_replicate, Spec.bytesOf_length]; omega) | (simp; omega))
   rw [hs22v] at hs22; clear hs22v
   refine ⟨_, H23, hs22, ?_⟩
   have H23n : H14.next ≤ H23.next := hx24.1
   refine st_op (ev_not rfl) rfl rfl rfl ?_
   refine st_op (ev_pickF rfl rfl) rfl rfl rfl ?_
   try show aw _ _ _ _ _ _
   by_cases hc25 : (!(Spec.logRow s_index s_term l)) = true
   ·
    refine aw_condT hc25 rfl ?_
    try show aw _ _ _ _ _ _
    replace hc25 : (Spec.logRow s_index s_term l) = false := by rw [Bool.not_eq_true'] at hc25; exact hc25
    refine aw_seq ?_
    refine aw_reg ?_
    refine st_op (ev_assign rfl) rfl rfl rfl ?_
    try show aw _ _ _ _ _ _
    refine aw_ret ?_
    exfalso; have q := ul; rw [Spec.new_is] at q; simp_all; try omega
   ·
    rw [Bool.not_eq_true] at hc25; refine aw_condF hc25 rfl ?_
    try show aw _ _ _ _ _ _
    replace hc25 : (Spec.logRow s_index s_term l) = true := by rw [Bool.not_eq_false'] at hc25; exact hc25
    refine aw_skip ?_
    try show aw _ _ _ _ _ _
    refine aw_seq ?_
    refine aw_marks (fun b => b < H23.next) [(true, false), (false, false), (false, true), (false, false), (false, false), (false, false)] mixed (by kernel_rfl) (by kernel_rfl) ?_
    have h26 := Ext.blk hx24 (by omega) h18
    refine sm_read (ev_load rfl (lvar_part (l := [.int .i64 s_index, .int .i64 s_term, .string s_conf, .string s_data]) many23 h26 rfl rfl (by decide))) rfl rfl rfl (fun b hb => by cases hb; dsimp only <;> omega) ?_
    refine sm_op (ev_move rfl) rfl rfl rfl ?_
    refine sm_call rfl rfl rfl ent36 rfl rfl rfl ?_
    have h27 := Row.ext h20 hx24
    obtain ⟨_, H29, hs28, A31, c32, hs28v, hm33, hx30⟩ := sl_CloneE_spec H23 lA l lc h27 cl (by first | omega | (simp only [List.length_append, List.length_cons, List.length_nil, List.length_map, List.length_set, List.length_replicate, Spec.bytesOf_length]; omega) | (simp; omega))
    rw [hs28v] at hs28; clear hs28v
    refine ⟨_, H29, hs28, (fun _ b hb => hx30.2 b (by omega)), ?_⟩
    have H29n : H23.next ≤ H29.next := hx30.1
    refine sm_op (ev_build zero67 pl67 (parts := [(0, .agg #[.int .i64 s_index, .int .i64 s_term, .string s_conf, .string s_data]), (1, .slice A31 l.length c32)]) rfl (cs := [.int .i64 s_index, .int .i64 s_term, .string s_conf, .string s_data, .slice A31 l.length c32]) rfl) rfl rfl rfl ?_
    obtain ⟨b34, H35, he36, b34e, H35n_, hB38, f37⟩ := mem_box (P := Try.prog) H29 (v := .agg #[.int .i64 s_index, .int .i64 s_term, .string s_conf, .string s_data, .slice A31 l.length c32]) (cs := [.int .i64 s_index, .int .i64 s_term, .string s_conf, .string s_data, .slice A31 l.length c32]) rfl rfl
    refine sm_op (he36 _ _ _ _ _ _ _ _ _ rfl) rfl rfl rfl ?_
    have hx39 : Ext H29 H35 := Ext.new (by omega) H35n_ f37
    have H35n : H29.next ≤ H35.next := hx39.1
    refine sm_op (ev_assign rfl) rfl rfl rfl ?_
    try show aw _ _ _ _ _ _
    refine aw_ret ?_
    have h40 := My.ext hm33 hx39
    have hx41 : Ext H H35 := (Ext.trans (Ext.trans (Ext.trans hx21 hx24) hx30) hx39)
    have hres : l = l := by rfl
    exact ⟨.pointer (some ⟨b34, 0, none⟩), rfl, A31, c32, b34, by first | (rw [hres]; first | done | rfl | simp; done) | rfl, (by first | exact (My.older h40 (by omega)) | (rw [hres]; exact (My.older h40 (by omega)))), (by first | exact (by omega) | (rw [hres]; exact (by omega))), (by first | exact (by omega) | (rw [hres]; exact (by omega))), (by first | exact hB38 | (rw [hres]; exact hB38)), hx41⟩
theorem rlog_New0_spec (H : Heap) (s_index : Int) (s_term : Int) (s_conf : ByteArray) (s_data : ByteArray) (lA : Option Addr) (l : List Entry) (lc : Nat) (hl : Row H lA lc 4 (l.map Entry.cells)) (cl : l.length ≤ lc) (ll : l.length ≤ 140737488355328) (ul : Spec.newOk s_index s_term l = false) : ∃ v H', Spec Try.prog 12 [.agg #[.int .i64 s_index, .int .i64 s_term, .string s_conf, .string s_data], .slice lA l.length lc] H v H' ∧ ((v = .pointer none) ∧ (Ext H H')) := by
 refine spec_go2 E0_ok 31 (f := 12) Try.func12 rfl rfl rfl ?_
 refine aw_seq ?_
 refine aw_reg ?_
 obtain ⟨b1, H2, he3, b1e, H2n_, hB5, f4⟩ := mem_box (P := Try.prog) H (v := .agg #[.int .i64 s_index, .int .i64 s_term, .string s_conf, .string s_data]) (cs := [.int .i64 s_index, .int .i64 s_term, .string s_conf, .string s_data]) rfl rfl
 refine st_op (he3 _ _ _ _ _ _ _ _ _ rfl) rfl rfl rfl ?_
 have hx6 : Ext H H2 := Ext.new (by omega) H2n_ f4
 have H2n : H.next ≤ H2.next := hx6.1
 refine st_op (ev_assign rfl) rfl rfl rfl ?_
 try show aw _ _ _ _ _ _
 iterate 2 refine aw_seq ?_
 refine aw_reg ?_
 refine st_op (ev_fieldAddr rfl fa23_0 (o' := 0) rfl) rfl rfl rfl ?_
 refine st_op (ev_load rfl (lvar_one one2 hB5 rfl)) rfl rfl rfl ?_
 refine st_op (ev_fieldAddr rfl fa23_1 (o' := 1) rfl) rfl rfl rfl ?_
 refine st_op (ev_load rfl (lvar_one one2 hB5 rfl)) rfl rfl rfl ?_
 obtain ⟨b7, H8, he9, b7e, H8n_, hm11, f10⟩ := mem_lit H2 (xs := ([.int .i64 s_index, .int .i64 s_term] : List Value)) (m := 2) (rows := [[.int .i64 s_index], [.int .i64 s_term]]) rfl eok71 (by decide) (by decide) zf2 rfl (allLen rfl) rfl
 replace hm11 : My H2 H8 (some ⟨b7, 0, none⟩) 2 1 ([s_index, s_term].map i64c) := hm11
 refine st_op (he9 _ _ _ _ _ _ _ _ rfl) rfl rfl rfl ?_
 have hx12 : Ext H2 H8 := Ext.new (by omega) H8n_ f10
 have H8n : H2.next ≤ H8.next := hx12.1
 refine st_call rfl rfl rfl ent34 rfl rfl rfl ?_
 obtain ⟨_, H14, hs13, hs13v, hx15⟩ := rlog_in_spec H8 (some ⟨b7, 0, none⟩) ([s_index, s_term]) 2 (My.row hm11) (My.capF hm11 (by first | omega | (simp only [List.length_append, List.length_cons, List.length_nil, List.length_map, List.length_set, List.length_replicate, Spec.bytesOf_length]; omega) | (simp; omega))) (by first | omega | (simp only [List.length_append, List.length_cons, List.length_nil, List.length_map, List.length_set, List.length_replicate, Spec.bytesOf_length]; omega) | (simp; omega))
 rw [hs13v] at hs13; clear hs13v
 refine ⟨_, H14, hs13, ?_⟩
 have H14n : H8.next ≤ H14.next := hx15.1
 refine st_op (ev_not rfl) rfl rfl rfl ?_
 refine st_op (ev_move rfl) rfl rfl rfl ?_
 refine st_bool 12 rfl (fun hb16 => ?_) (fun hb16 => ?_)
 ·
  replace hb16 : (Spec.inAll ([s_index, s_term])) = false := by rw [Bool.not_eq_true'] at hb16; exact hb16
  iterate 3 refine st_skip rfl rfl rfl ?_
  refine st_op (ev_pickT rfl rfl) rfl rfl rfl ?_
  refine st_op (ev_move rfl) rfl rfl rfl ?_
  iterate 7 refine st_skip rfl rfl rfl ?_
  refine st_op (ev_pickT rfl rfl) rfl rfl rfl ?_
  try show aw _ _ _ _ _ _
  refine aw_cond (t := true) rfl ?_
  try show aw _ _ _ _ _ _
  refine aw_seq ?_
  refine aw_reg ?_
  refine st_op (ev_assign rfl) rfl rfl rfl ?_
  try show aw _ _ _ _ _ _
  refine aw_ret ?_
  have hx17 : Ext H H14 := (Ext.trans (Ext.trans hx6 hx12) hx15)
  exact ⟨.pointer none, rfl, rfl, hx17⟩
 ·
  replace hb16 : (Spec.inAll ([s_index, s_term])) = true := by rw [Bool.not_eq_false'] at hb16; exact hb16
  refine st_op (ev_move rfl) rfl rfl rfl ?_
  refine st_op (ev_lenSl rfl Try.underlying24) rfl rfl rfl ?_
  refine st_op (ev_int rfl rfl rfl) rfl rfl rfl ?_
  refine st_op (ev_pickF rfl rfl) rfl rfl rfl ?_
  refine st_op (ev_move rfl) rfl rfl rfl ?_
  refine st_bool 17 rfl (fun hb18 => ?_) (fun hb18 => ?_)
  ·
   have hb18 := of_decide_eq_true hb18
   iterate 7 refine st_skip rfl rfl rfl ?_
   refine st_op (ev_pickT rfl rfl) rfl rfl rfl ?_
   try show aw _ _ _ _ _ _
   refine aw_cond (t := true) rfl ?_
   try show aw _ _ _ _ _ _
   refine aw_seq ?_
   refine aw_reg ?_
   refine st_op (ev_assign rfl) rfl rfl rfl ?_
   try show aw _ _ _ _ _ _
   refine aw_ret ?_
   have hx19 : Ext H H14 := (Ext.trans (Ext.trans hx6 hx12) hx15)
   exact ⟨.pointer none, rfl, rfl, hx19⟩
  ·
   have hb18 := of_decide_eq_false hb18
   refine st_op (ev_fieldAddr rfl fa23_0 (o' := 0) rfl) rfl rfl rfl ?_
   have hx21 : Ext H2 H14 := (Ext.trans hx12 hx15)
   have h20 := Ext.blk hx21 (by omega) hB5
   refine st_op (ev_load rfl (lvar_one one2 h20 rfl)) rfl rfl rfl ?_
   refine st_op (ev_fieldAddr rfl fa23_1 (o' := 1) rfl) rfl rfl rfl ?_
   refine st_op (ev_load rfl (lvar_one one2 h20 rfl)) rfl rfl rfl ?_
   refine st_op (ev_move rfl) rfl rfl rfl ?_
   refine st_call rfl rfl rfl ent35 rfl rfl rfl ?_
   have hx23 : Ext H H14 := (Ext.trans (Ext.trans hx6 hx12) hx15)
   have h22 := Row.ext hl hx23
   obtain ⟨_, H25, hs24, hs24v, hx26⟩ := rlog_row_spec H14 s_index s_term lA l lc h22 cl (by first | omega | (simp only [List.length_append, List.length_cons, List.length_nil, List.length_map, List.length_set, List.length_replicate, Spec.bytesOf_length]; omega) | (simp; omega))
   rw [hs24v] at hs24; clear hs24v
   refine ⟨_, H25, hs24, ?_⟩
   have H25n : H14.next ≤ H25.next := hx26.1
   refine st_op (ev_not rfl) rfl rfl rfl ?_
   refine st_op (ev_pickF rfl rfl) rfl rfl rfl ?_
   try show aw _ _ _ _ _ _
   by_cases hc27 : (!(Spec.logRow s_index s_term l)) = true
   ·
    refine aw_condT hc27 rfl ?_
    try show aw _ _ _ _ _ _
    replace hc27 : (Spec.logRow s_index s_term l) = false := by rw [Bool.not_eq_true'] at hc27; exact hc27
    refine aw_seq ?_
    refine aw_reg ?_
    refine st_op (ev_assign rfl) rfl rfl rfl ?_
    try show aw _ _ _ _ _ _
    refine aw_ret ?_
    have hx28 : Ext H H25 := (Ext.trans hx23 hx26)
    exact ⟨.pointer none, rfl, rfl, hx28⟩
   ·
    rw [Bool.not_eq_true] at hc27; refine aw_condF hc27 rfl ?_
    try show aw _ _ _ _ _ _
    replace hc27 : (Spec.logRow s_index s_term l) = true := by rw [Bool.not_eq_false'] at hc27; exact hc27
    refine aw_skip ?_
    try show aw _ _ _ _ _ _
    refine aw_seq ?_
    refine aw_marks (fun b => b < H25.next) [(true, false), (false, false), (false, true), (false, false), (false, false), (false, false)] mixed (by kernel_rfl) (by kernel_rfl) ?_
    have h29 := Ext.blk hx26 (by omega) h20
    refine sm_read (ev_load rfl (lvar_part (l := [.int .i64 s_index, .int .i64 s_term, .string s_conf, .string s_data]) many23 h29 rfl rfl (by decide))) rfl rfl rfl (fun b hb => by cases hb; dsimp only <;> omega) ?_
    refine sm_op (ev_move rfl) rfl rfl rfl ?_
    refine sm_call rfl rfl rfl ent36 rfl rfl rfl ?_
    have h30 := Row.ext h22 hx26
    obtain ⟨_, H32, hs31, A34, c35, hs31v, hm36, hx33⟩ := sl_CloneE_spec H25 lA l lc h30 cl (by first | omega | (simp only [List.length_append, List.length_cons, List.length_nil, List.length_map, List.length_set, List.length_replicate, Spec.bytesOf_length]; omega) | (simp; omega))
    rw [hs31v] at hs31; clear hs31v
    refine ⟨_, H32, hs31, (fun _ b hb => hx33.2 b (by omega)), ?_⟩
    have H32n : H25.next ≤ H32.next := hx33.1
    refine sm_op (ev_build zero67 pl67 (parts := [(0, .agg #[.int .i64 s_index, .int .i64 s_term, .string s_conf, .string s_data]), (1, .slice A34 l.length c35)]) rfl (cs := [.int .i64 s_index, .int .i64 s_term, .string s_conf, .string s_data, .slice A34 l.length c35]) rfl) rfl rfl rfl ?_
    obtain ⟨b37, H38, he39, b37e, H38n_, hB41, f40⟩ := mem_box (P := Try.prog) H32 (v := .agg #[.int .i64 s_index, .int .i64 s_term, .string s_conf, .string s_data, .slice A34 l.length c35]) (cs := [.int .i64 s_index, .int .i64 s_term, .string s_conf, .string s_data, .slice A34 l.length c35]) rfl rfl
    refine sm_op (he39 _ _ _ _ _ _ _ _ _ rfl) rfl rfl rfl ?_
    have hx42 : Ext H32 H38 := Ext.new (by omega) H38n_ f40
    have H38n : H32.next ≤ H38.next := hx42.1
    refine sm_op (ev_assign rfl) rfl rfl rfl ?_
    try show aw _ _ _ _ _ _
    refine aw_ret ?_
    exfalso; have q := ul; rw [Spec.new_is] at q; simp_all; try omega
theorem rlog_First_spec (H : Heap) (x : Int) (hx : 0 ≤ x ∧ x ≤ 2199023255552) (tm : Int) (cf : ByteArray) (hcf : cf.size ≤ 1073741824) (dt : ByteArray) (lA : Option Addr) (l : List Entry) (lc : Nat) (hl : Row H lA lc 4 (l.map Entry.cells)) (cl : l.length ≤ lc) (ll : l.length ≤ 200) (g : Nat) (hg : g < H.next) (Bg : H.blk g = some ⟨[.int .i64 x, .int .i64 tm, .string cf, .string dt, .slice lA l.length lc], 0, false, false⟩) (uk : Spec.LogOk x tm l) : ∃ v H', Spec Try.prog 14 [.pointer (some ⟨g, 0, none⟩)] H v H' ∧ ((v = .int .i64 (x + 1)) ∧ (Ext H H')) := by
 refine spec_go1 E0_ok 11 (f := 14) Try.func14 rfl rfl rfl ?_
 refine aw_seq ?_
 refine aw_reg ?_
 refine st_op (ev_assign rfl) rfl rfl rfl ?_
 try show aw _ _ _ _ _ _
 iterate 2 refine aw_seq ?_
 refine aw_reg ?_
 refine st_op (ev_move rfl) rfl rfl rfl ?_
 refine st_op (ev_nilEq rfl rfl Try.underlying28) rfl rfl rfl ?_
 try show aw _ _ _ _ _ _
 refine aw_cond (t := false) rfl ?_
 try show aw _ _ _ _ _ _
 refine aw_skip ?_
 try show aw _ _ _ _ _ _
 refine aw_seq ?_
 refine aw_reg ?_
 refine st_op (ev_move rfl) rfl rfl rfl ?_
 refine st_op (ev_nilCheck rfl) rfl rfl rfl ?_
 refine st_op (ev_fieldAddr rfl fa67_0 (o' := 0) rfl) rfl rfl rfl ?_
 refine st_op (ev_fieldAddr rfl fa23_0 (o' := 0) rfl) rfl rfl rfl ?_
 refine st_op (ev_load rfl (lvar_one one2 Bg rfl)) rfl rfl rfl ?_
 refine st_op (ev_int64 (c := x + 1) rfl rfl rfl (by omega) (by omega)) rfl rfl rfl ?_
 refine st_op (ev_assign rfl) rfl rfl rfl ?_
 try show aw _ _ _ _ _ _
 refine aw_ret ?_
 have hres : (x + 1) = x + 1 := by rfl
 exact ⟨.int .i64 (x + 1), rfl, by first | (rw [hres]; done) | rw [← hres], (Ext.refl H)⟩
theorem rlog_Last_spec (H : Heap) (x : Int) (hx : 0 ≤ x ∧ x ≤ 2199023255552) (tm : Int) (cf : ByteArray) (hcf : cf.size ≤ 1073741824) (dt : ByteArray) (lA : Option Addr) (l : List Entry) (lc : Nat) (hl : Row H lA lc 4 (l.map Entry.cells)) (cl : l.length ≤ lc) (ll : l.length ≤ 200) (g : Nat) (hg : g < H.next) (Bg : H.blk g = some ⟨[.int .i64 x, .int .i64 tm, .string cf, .string dt, .slice lA l.length lc], 0, false, false⟩) (uk : Spec.LogOk x tm l) : ∃ v H', Spec Try.prog 16 [.pointer (some ⟨g, 0, none⟩)] H v H' ∧ ((v = .int .i64 (x + (l.length : Int))) ∧ (Ext H H')) := by
 refine spec_go1 E0_ok 16 (f := 16) Try.func16 rfl rfl rfl ?_
 refine aw_seq ?_
 refine aw_reg ?_
 refine st_op (ev_assign rfl) rfl rfl rfl ?_
 try show aw _ _ _ _ _ _
 iterate 2 refine aw_seq ?_
 refine aw_reg ?_
 refine st_op (ev_move rfl) rfl rfl rfl ?_
 refine st_op (ev_nilEq rfl rfl Try.underlying28) rfl rfl rfl ?_
 try show aw _ _ _ _ _ _
 refine aw_cond (t := false) rfl ?_
 try show aw _ _ _ _ _ _
 refine aw_skip ?_
 try show aw _ _ _ _ _ _
 refine aw_seq ?_
 refine aw_marks (fun b => b < H.next) [(false, false), (false, false), (false, false), (false, false), (false, false), (false, false), (false, false), (false, false), (false, false), (false, false), (false, false), (false, false)] mixed (by kernel_rfl) (by kernel_rfl) ?_
 refine sm_op (ev_move rfl) rfl rfl rfl ?_
 refine sm_op (ev_nilCheck rfl) rfl rfl rfl ?_
 refine sm_op (ev_fieldAddr rfl fa67_0 (o' := 0) rfl) rfl rfl rfl ?_
 refine sm_op (ev_fieldAddr rfl fa23_0 (o' := 0) rfl) rfl rfl rfl ?_
 refine sm_op (ev_load rfl (lvar_one one2 Bg rfl)) rfl rfl rfl ?_
 refine sm_op (ev_move rfl) rfl rfl rfl ?_
 refine sm_op (ev_nilCheck rfl) rfl rfl rfl ?_
 refine sm_op (ev_fieldAddr rfl fa67_1 (o' := 4) rfl) rfl rfl rfl ?_
 refine sm_op (ev_load rfl (lvar_one one24 Bg rfl)) rfl rfl rfl ?_
 refine sm_op (ev_lenSl rfl Try.underlying24) rfl rfl rfl ?_
 refine sm_op (ev_int64 (c := x + (l.length : Int)) rfl rfl rfl (by omega) (by omega)) rfl rfl rfl ?_
 refine sm_op (ev_assign rfl) rfl rfl rfl ?_
 try show aw _ _ _ _ _ _
 refine aw_ret ?_
 have hres : (x + (l.length : Int)) = x + (l.length : Int) := by rfl
 exact ⟨.int .i64 (x + (l.length : Int)), rfl, by first | (rw [hres]; done) | rw [← hres], (Ext.refl H)⟩
theorem rlog_Term_spec (H : Heap) (x : Int) (hx : 0 ≤ x ∧ x ≤ 2199023255552) (tm : Int) (cf : ByteArray) (hcf : cf.size ≤ 1073741824) (dt : ByteArray) (lA : Option Addr) (l : List Entry) (lc : Nat) (hl : Row H lA lc 4 (l.map Entry.cells)) (cl : l.length ≤ lc) (ll : l.length ≤ 200) (g : Nat) (hg : g < H.next) (Bg : H.blk g = some ⟨[.int .i64 x, .int .i64 tm, .string cf, .string dt, .slice lA l.length lc], 0, false, false⟩) (uk : Spec.LogOk x tm l) (i : Int) : ∃ v H', Spec Try.prog 18 [.pointer (some ⟨g, 0, none⟩), .int .i64 i] H v H' ∧ ((v = .tuple #[.int .i64 ((Spec.termF x tm l i).1), .bool ((Spec.termF x tm l i).2)]) ∧ (Ext H H')) := by
 refine spec_go2 E0_ok 48 (f := 18) Try.func18 rfl rfl rfl ?_
 refine aw_seq ?_
 refine aw_reg ?_
 iterate 2 refine st_op (ev_assign rfl) rfl rfl rfl ?_
 try show aw _ _ _ _ _ _
 refine aw_seq ?_
 refine aw_block ?_
 refine aw_seq ?_
 refine aw_reg ?_
 refine st_op (ev_move rfl) rfl rfl rfl ?_
 refine st_op (ev_nilEq rfl rfl Try.underlying28) rfl rfl rfl ?_
 iterate 3 refine st_op (ev_move rfl) rfl rfl rfl ?_
 refine st_op (ev_nilCheck rfl) rfl rfl rfl ?_
 refine st_op (ev_fieldAddr rfl fa67_0 (o' := 0) rfl) rfl rfl rfl ?_
 refine st_op (ev_fieldAddr rfl fa23_0 (o' := 0) rfl) rfl rfl rfl ?_
 refine st_op (ev_load rfl (lvar_one one2 Bg rfl)) rfl rfl rfl ?_
 refine st_op (ev_int rfl rfl rfl) rfl rfl rfl ?_
 refine st_op (ev_pickF rfl rfl) rfl rfl rfl ?_
 refine st_op (ev_move rfl) rfl rfl rfl ?_
 refine st_bool 18 rfl (fun hb1 => ?_) (fun hb1 => ?_)
 ·
  have hb1 := of_decide_eq_true hb1
  iterate 4 refine st_skip rfl rfl rfl ?_
  refine st_op (ev_pickT rfl rfl) rfl rfl rfl ?_
  refine st_op (ev_assign rfl) rfl rfl rfl ?_
  try show aw _ _ _ _ _ _
  refine aw_cond (t := true) rfl ?_
  try show aw _ _ _ _ _ _
  refine aw_seq ?_
  refine aw_reg ?_
  iterate 2 refine st_op (ev_assign rfl) rfl rfl rfl ?_
  try show aw _ _ _ _ _ _
  refine aw_ret ?_
  have hres : (Spec.termF x tm l i) = (0, false) := by exact Spec.termF_out (by omega)
  exact ⟨.tuple #[.int .i64 0, .bool false], rfl, by first | (rw [hres]; done) | rw [← hres], (Ext.refl H)⟩
 ·
  have hb1 := of_decide_eq_false hb1
  iterate 2 refine st_op (ev_move rfl) rfl rfl rfl ?_
  refine st_call rfl rfl rfl ent16 rfl rfl rfl ?_
  obtain ⟨_, H3, hs2, hs2v, hx4⟩ := rlog_Last_spec H x ⟨by omega, by omega⟩ tm cf (by omega) dt lA l lc hl cl (by omega) g (by omega) Bg (by assumption)
  rw [hs2v] at hs2; clear hs2v
  refine ⟨_, H3, hs2, ?_⟩
  have H3n : H.next ≤ H3.next := hx4.1
  refine st_op (ev_int rfl rfl rfl) rfl rfl rfl ?_
  refine st_op (ev_pickF rfl rfl) rfl rfl rfl ?_
  refine st_op (ev_assign rfl) rfl rfl rfl ?_
  try show aw _ _ _ _ _ _
  by_cases hc5 : (decide (i > (x + (l.length : Int)))) = true
  ·
   refine aw_condT hc5 rfl ?_
   try show aw _ _ _ _ _ _
   have hc5 := of_decide_eq_true hc5
   refine aw_seq ?_
   refine aw_reg ?_
   iterate 2 refine st_op (ev_assign rfl) rfl rfl rfl ?_
   try show aw _ _ _ _ _ _
   refine aw_ret ?_
   have hres : (Spec.termF x tm l i) = (0, false) := by exact Spec.termF_out (by omega)
   exact ⟨.tuple #[.int .i64 0, .bool false], rfl, by first | (rw [hres]; done) | rw [← hres], hx4⟩
  ·
   rw [Bool.not_eq_true] at hc5; refine aw_condF hc5 rfl ?_
   try show aw _ _ _ _ _ _
   have hc5 := of_decide_eq_false hc5
   refine aw_seq ?_
   refine aw_reg ?_
   iterate 2 refine st_op (ev_move rfl) rfl rfl rfl ?_
   refine st_op (ev_nilCheck rfl) rfl rfl rfl ?_
   refine st_op (ev_fieldAddr rfl fa67_0 (o' := 0) rfl) rfl rfl rfl ?_
   refine st_op (ev_fieldAddr rfl fa23_0 (o' := 0) rfl) rfl rfl rfl ?_
   have h6 := Ext.blk hx4 (by omega) Bg
   refine st_op (ev_load rfl (lvar_one one2 h6 rfl)) rfl rfl rfl ?_
   refine st_op (ev_int rfl rfl rfl) rfl rfl rfl ?_
   refine st_op (ev_assign rfl) rfl rfl rfl ?_
   try show aw _ _ _ _ _ _
   by_cases hc7 : (i == x) = true
   ·
    refine aw_condT hc7 rfl ?_
    try show aw _ _ _ _ _ _
    have hc7 := eq_of_beq hc7
    refine aw_seq ?_
    refine aw_reg ?_
    refine st_op (ev_move rfl) rfl rfl rfl ?_
    refine st_op (ev_nilCheck rfl) rfl rfl rfl ?_
    refine st_op (ev_fieldAddr rfl fa67_0 (o' := 0) rfl) rfl rfl rfl ?_
    refine st_op (ev_fieldAddr rfl fa23_1 (o' := 1) rfl) rfl rfl rfl ?_
    refine st_op (ev_load rfl (lvar_one one2 h6 rfl)) rfl rfl rfl ?_
    iterate 2 refine st_op (ev_assign rfl) rfl rfl rfl ?_
    try show aw _ _ _ _ _ _
    refine aw_ret ?_
    have hres : (Spec.termF x tm l i) = (tm, true) := by rw [show i = x by omega]; exact Spec.termF_base
    exact ⟨.tuple #[.int .i64 tm, .bool true], rfl, by first | (rw [hres]; done) | rw [← hres], hx4⟩
   ·
    rw [Bool.not_eq_true] at hc7; refine aw_condF hc7 rfl ?_
    try show aw _ _ _ _ _ _
    have hc7 := ne_of_beq_false hc7
    refine aw_skip ?_
    try show aw _ _ _ _ _ _
    refine aw_seq ?_
    refine aw_marks (fun b => b < H3.next) [(false, false), (false, false), (false, false), (true, false), (false, false), (false, false), (false, true), (false, false), (false, false), (false, false), (false, false), (false, false), (false, false)] mixed (by kernel_rfl) (by kernel_rfl) ?_
    refine sm_op (ev_move rfl) rfl rfl rfl ?_
    refine sm_op (ev_nilCheck rfl) rfl rfl rfl ?_
    refine sm_op (ev_fieldAddr rfl fa67_1 (o' := 4) rfl) rfl rfl rfl ?_
    refine sm_read (ev_load rfl (lvar_one one24 h6 rfl)) rfl rfl rfl (fun b hb => by cases hb; dsimp only <;> omega) ?_
    iterate 2 refine sm_op (ev_move rfl) rfl rfl rfl ?_
    refine sm_call rfl rfl rfl ent14 rfl rfl rfl ?_
    have h8 := Row.ext hl hx4
    obtain ⟨_, H10, hs9, hs9v, hx11⟩ := rlog_First_spec H3 x ⟨by omega, by omega⟩ tm cf (by omega) dt lA l lc h8 cl (by omega) g (by omega) h6 (by assumption)
    rw [hs9v] at hs9; clear hs9v
    refine ⟨_, H10, hs9, (fun _ b hb => hx11.2 b (by omega)), ?_⟩
    have H10n : H3.next ≤ H10.next := hx11.1
    refine sm_op (ev_int64 (c := i - (x + 1)) rfl rfl rfl (by omega) (by omega)) rfl rfl rfl ?_
    have h12 := Row.ext h8 hx11
    have hi13 : 0 ≤ (i - (x + 1) : Int) := by omega
    have hi14 : (i - (x + 1) : Int) < ((l.length : Nat) : Int) := by omega
    obtain ⟨x15, hx16⟩ : ∃ e, l[((i - (x + 1))).toNat]? = some e := ⟨_, List.getElem?_eq_getElem (by omega)⟩
    have x15i := uk.at_ hx16; have x15d := (uk.ents _ (List.mem_of_getElem? hx16)).2
    refine sm_op (ev_at rfl rfl h12 (getMap Entry.cells hx16) (by first | rfl | omega | simp) hi13 hi14 el24) rfl rfl rfl ?_
    refine sm_op (ev_atF rfl h12 (getMap Entry.cells hx16) fa37_1 rfl) rfl rfl rfl ?_
    refine sm_op (ev_atL rfl h12 (getMap Entry.cells hx16) one2 rfl) rfl rfl rfl ?_
    iterate 2 refine sm_op (ev_assign rfl) rfl rfl rfl ?_
    try show aw _ _ _ _ _ _
    refine aw_ret ?_
    have hx17 : Ext H H10 := (Ext.trans hx4 hx11)
    have hres : (Spec.termF x tm l i) = (x15.term, true) := by exact Spec.termF_at (by omega) (by omega) (by first | exact hx16 | (rw [show (i - (x + 1)).toNat = (i - x - 1).toNat by omega]; exact hx16))
    exact ⟨.tuple #[.int .i64 x15.term, .bool true], rfl, by first | (rw [hres]; done) | rw [← hres], hx17⟩
theorem rlog_Get_spec (H : Heap) (x : Int) (hx : 0 ≤ x ∧ x ≤ 2199023255552) (tm : Int) (cf : ByteArray) (hcf : cf.size ≤ 1073741824) (dt : ByteArray) (lA : Option Addr) (l : List Entry) (lc : Nat) (hl : Row H lA lc 4 (l.map Entry.cells)) (cl : l.length ≤ lc) (ll : l.length ≤ 200) (g : Nat) (hg : g < H.next) (Bg : H.blk g = some ⟨[.int .i64 x, .int .i64 tm, .string cf, .string dt, .slice lA l.length lc], 0, false, false⟩) (uk : Spec.LogOk x tm l) (i : Int) (n : Int) : ∃ v H', Spec Try.prog 13 [.pointer (some ⟨g, 0, none⟩), .int .i64 i, .int .i64 n] H v H' ∧ (∃ rA0 rc0, (v = .slice rA0 ((Spec.getF x l i n).length) rc0) ∧ (My H H' rA0 rc0 4 ((Spec.getF x l i n).map Entry.cells)) ∧ ((Spec.getF x l i n).length ≤ l.length) ∧ (Ext H H')) := by
 refine spec_go3 E0_ok 42 (f := 13) Try.func13 rfl rfl rfl ?_
 refine aw_seq ?_
 refine aw_reg ?_
 refine st_op (ev_assign rfl) rfl rfl rfl ?_
 try show aw _ _ _ _ _ _
 iterate 2 refine aw_seq ?_
 refine aw_reg ?_
 refine st_op (ev_move rfl) rfl rfl rfl ?_
 refine st_op (ev_nilEq rfl rfl Try.underlying28) rfl rfl rfl ?_
 iterate 3 refine st_op (ev_move rfl) rfl rfl rfl ?_
 refine st_call rfl rfl rfl ent14 rfl rfl rfl ?_
 obtain ⟨_, H2, hs1, hs1v, hx3⟩ := rlog_First_spec H x ⟨by omega, by omega⟩ tm cf (by omega) dt lA l lc hl cl (by omega) g (by omega) Bg (by assumption)
 rw [hs1v] at hs1; clear hs1v
 refine ⟨_, H2, hs1, ?_⟩
 have H2n : H.next ≤ H2.next := hx3.1
 refine st_op (ev_int rfl rfl rfl) rfl rfl rfl ?_
 refine st_op (ev_pickF rfl rfl) rfl rfl rfl ?_
 refine st_op (ev_move rfl) rfl rfl rfl ?_
 refine st_bool 16 rfl (fun hb4 => ?_) (fun hb4 => ?_)
 ·
  have hb4 := of_decide_eq_true hb4
  iterate 4 refine st_skip rfl rfl rfl ?_
  refine st_op (ev_pickT rfl rfl) rfl rfl rfl ?_
  refine st_op (ev_move rfl) rfl rfl rfl ?_
  iterate 2 refine st_skip rfl rfl rfl ?_
  refine st_op (ev_pickT rfl rfl) rfl rfl rfl ?_
  try show aw _ _ _ _ _ _
  refine aw_cond (t := true) rfl ?_
  try show aw _ _ _ _ _ _
  refine aw_seq ?_
  refine aw_reg ?_
  refine st_op (ev_assign rfl) rfl rfl rfl ?_
  try show aw _ _ _ _ _ _
  refine aw_ret ?_
  have hm5 : My H2 H2 none 0 4 (([] : List Entry).map Entry.cells) := .nil
  have hres : (Spec.getF x l i n) = ([] : List Entry) := by exact if_pos (by omega)
  exact ⟨.slice none 0 0, rfl, none, 0, by first | (rw [hres]; first | done | rfl | simp; done) | rfl, (by rw [hres]; exact (My.older hm5 (by omega))), (by exact Spec.getF_len _ _ _ _), hx3⟩
 ·
  have hb4 := of_decide_eq_false hb4
  iterate 2 refine st_op (ev_move rfl) rfl rfl rfl ?_
  refine st_call rfl rfl rfl ent16 rfl rfl rfl ?_
  have h6 := Row.ext hl hx3
  have h7 := Ext.blk hx3 (by omega) Bg
  obtain ⟨_, H9, hs8, hs8v, hx10⟩ := rlog_Last_spec H2 x ⟨by omega, by omega⟩ tm cf (by omega) dt lA l lc h6 cl (by omega) g (by omega) h7 (by assumption)
  rw [hs8v] at hs8; clear hs8v
  refine ⟨_, H9, hs8, ?_⟩
  have H9n : H2.next ≤ H9.next := hx10.1
  refine st_op (ev_int rfl rfl rfl) rfl rfl rfl ?_
  refine st_op (ev_pickF rfl rfl) rfl rfl rfl ?_
  refine st_op (ev_move rfl) rfl rfl rfl ?_
  refine st_bool 22 rfl (fun hb11 => ?_) (fun hb11 => ?_)
  ·
   have hb11 := of_decide_eq_true hb11
   iterate 2 refine st_skip rfl rfl rfl ?_
   refine st_op (ev_pickT rfl rfl) rfl rfl rfl ?_
   try show aw _ _ _ _ _ _
   refine aw_cond (t := true) rfl ?_
   try show aw _ _ _ _ _ _
   refine aw_seq ?_
   refine aw_reg ?_
   refine st_op (ev_assign rfl) rfl rfl rfl ?_
   try show aw _ _ _ _ _ _
   refine aw_ret ?_
   have hm12 : My H9 H9 none 0 4 (([] : List Entry).map Entry.cells) := .nil
   have hx13 : Ext H H9 := (Ext.trans hx3 hx10)
   have hres : (Spec.getF x l i n) = ([] : List Entry) := by exact if_pos (by omega)
   exact ⟨.slice none 0 0, rfl, none, 0, by first | (rw [hres]; first | done | rfl | simp; done) | rfl, (by rw [hres]; exact (My.older hm12 (by omega))), (by exact Spec.getF_len _ _ _ _), hx13⟩
  ·
   have hb11 := of_decide_eq_false hb11
   refine st_op (ev_move rfl) rfl rfl rfl ?_
   refine st_op (ev_int rfl rfl rfl) rfl rfl rfl ?_
   refine st_op (ev_pickF rfl rfl) rfl rfl rfl ?_
   try show aw _ _ _ _ _ _
   by_cases hc14 : (decide (n < 1)) = true
   ·
    refine aw_condT hc14 rfl ?_
    try show aw _ _ _ _ _ _
    have hc14 := of_decide_eq_true hc14
    refine aw_seq ?_
    refine aw_reg ?_
    refine st_op (ev_assign rfl) rfl rfl rfl ?_
    try show aw _ _ _ _ _ _
    refine aw_ret ?_
    have hm15 : My H9 H9 none 0 4 (([] : List Entry).map Entry.cells) := .nil
    have hx16 : Ext H H9 := (Ext.trans hx3 hx10)
    have hres : (Spec.getF x l i n) = ([] : List Entry) := by exact if_pos (by omega)
    exact ⟨.slice none 0 0, rfl, none, 0, by first | (rw [hres]; first | done | rfl | simp; done) | rfl, (by rw [hres]; exact (My.older hm15 (by omega))), (by exact Spec.getF_len _ _ _ _), hx16⟩
   ·
    rw [Bool.not_eq_true] at hc14; refine aw_condF hc14 rfl ?_
    try show aw _ _ _ _ _ _
    have hc14 := of_decide_eq_false hc14
    refine aw_skip ?_
    try show aw _ _ _ _ _ _
    refine aw_seq ?_
    refine aw_marks (fun b => b < H9.next) [(false, false), (false, false), (false, false), (true, false), (false, false), (false, false), (false, true), (false, false), (false, false), (false, false)] mixed (by kernel_rfl) (by kernel_rfl) ?_
    refine sm_op (ev_move rfl) rfl rfl rfl ?_
    refine sm_op (ev_nilCheck rfl) rfl rfl rfl ?_
    refine sm_op (ev_fieldAddr rfl fa67_1 (o' := 4) rfl) rfl rfl rfl ?_
    have h17 := Ext.blk hx10 (by omega) h7
    refine sm_read (ev_load rfl (lvar_one one24 h17 rfl)) rfl rfl rfl (fun b hb => by cases hb; dsimp only <;> omega) ?_
    iterate 2 refine sm_op (ev_move rfl) rfl rfl rfl ?_
    refine sm_call rfl rfl rfl ent14 rfl rfl rfl ?_
    have h18 := Row.ext h6 hx10
    obtain ⟨_, H20, hs19, hs19v, hx21⟩ := rlog_First_spec H9 x ⟨by omega, by omega⟩ tm cf (by omega) dt lA l lc h18 cl (by omega) g (by omega) h17 (by assumption)
    rw [hs19v] at hs19; clear hs19v
    refine ⟨_, H20, hs19, (fun _ b hb => hx21.2 b (by omega)), ?_⟩
    have H20n : H9.next ≤ H20.next := hx21.1
    refine sm_op (ev_int64 (c := i - (x + 1)) rfl rfl rfl (by omega) (by omega)) rfl rfl rfl ?_
    have h30 := Row.ext h18 hx21
    obtain ⟨A22, c23, L24, hL25, hl26, hs27, hr28, hc29⟩ := sliceA_typed Entry.cells el24 (by decide) h30 cl (lo := some (.int .i64 (i - (x + 1)))) (hi := none) (l := ((i - (x + 1))).toNat) (h := l.length) rfl (bound_int (by omega) (by omega) (by first | rfl | omega)) (by omega) (by omega)
    refine sm_op (ev_slice rfl rfl rfl rfl hs27) rfl rfl rfl ?_
    refine sm_op (ev_assign rfl) rfl rfl rfl ?_
    try show aw _ _ _ _ _ _
    refine aw_seq ?_
    refine aw_reg ?_
    iterate 3 refine st_op (ev_move rfl) rfl rfl rfl ?_
    refine st_op (ev_lenSl rfl Try.underlying24) rfl rfl rfl ?_
    obtain ⟨z31, hz32, hz33⟩ : ∃ z, (if (L24.length : Int) < n then (L24.length : Int) else n) = z ∧ (n ≥ z ∧ (L24.length : Int) ≥ z ∧ (z = n ∨ z = (L24.length : Int))) := ⟨_, rfl, by split <;> omega⟩
    refine st_op (ev_minE hz32 rfl rfl) rfl rfl rfl ?_
    obtain ⟨A34, c35, L36, hL37, hl38, hs39, hr40, hc41⟩ := sliceA_typed Entry.cells el24 (by decide) hr28 hc29 (lo := none) (hi := some (.int .i64 z31)) (l := 0) (h := (z31).toNat) (by rw [Option.isSome_some, if_pos rfl]; exact bound_int (by omega) (by omega) (by first | rfl | omega)) rfl (by omega) (by omega)
    refine st_op (ev_slice rfl rfl rfl rfl hs39) rfl rfl rfl ?_
    refine st_call rfl rfl rfl ent36 rfl rfl rfl ?_
    obtain ⟨_, H43, hs42, A45, c46, hs42v, hm47, hx44⟩ := sl_CloneE_spec H20 A34 L36 c35 hr40 hc41 (by omega)
    rw [hs42v] at hs42; clear hs42v
    refine ⟨_, H43, hs42, ?_⟩
    have H43n : H20.next ≤ H43.next := hx44.1
    refine st_op (ev_assign rfl) rfl rfl rfl ?_
    try show aw _ _ _ _ _ _
    refine aw_ret ?_
    have hx48 : Ext H H43 := (Ext.trans (Ext.trans (Ext.trans hx3 hx10) hx21) hx44)
    have hres : (Spec.getF x l i n) = L36 := by have e1 : L24 = l.drop (i - (x + 1)).toNat := (by rw [hL25]; exact List.take_of_length_le (by rw [List.length_drop]; omega)); unfold Spec.getF; rw [if_neg (by omega), hL37, e1, List.drop_zero, Nat.sub_zero, List.take_eq_take_iff]; simp only [List.length_drop] at *; omega
    exact ⟨.slice A45 L36.length c46, rfl, A45, c46, by first | (rw [hres]; first | done | rfl | simp; done) | rfl, (by rw [hres]; exact (My.older hm47 (by omega))), (by exact Spec.getF_len _ _ _ _), hx48⟩
theorem rlog_Fits_spec (H : Heap) (x : Int) (hx : 0 ≤ x ∧ x ≤ 2199023255552) (tm : Int) (cf : ByteArray) (hcf : cf.size ≤ 1073741824) (dt : ByteArray) (lA : Option Addr) (l : List Entry) (lc : Nat) (hl : Row H lA lc 4 (l.map Entry.cells)) (cl : l.length ≤ lc) (ll : l.length ≤ 200) (g : Nat) (hg : g < H.next) (Bg : H.blk g = some ⟨[.int .i64 x, .int .i64 tm, .string cf, .string dt, .slice lA l.length lc], 0, false, false⟩) (uk : Spec.LogOk x tm l) (i : Int) (t : Int) : ∃ v H', Spec Try.prog 27 [.pointer (some ⟨g, 0, none⟩), .int .i64 i, .int .i64 t] H v H' ∧ ((v = .bool (Spec.fitsF x tm l i t)) ∧ (Ext H H')) := by
 refine spec_go3 E0_ok 21 (f := 27) Try.func27 rfl rfl rfl ?_
 refine aw_seq ?_
 refine aw_reg ?_
 refine st_op (ev_assign rfl) rfl rfl rfl ?_
 try show aw _ _ _ _ _ _
 refine aw_seq ?_
 refine aw_reg ?_
 iterate 2 refine st_op (ev_move rfl) rfl rfl rfl ?_
 refine st_call rfl rfl rfl ent18 rfl rfl rfl ?_
 obtain ⟨_, H2, hs1, hs1v, hx3⟩ := rlog_Term_spec H x ⟨by omega, by omega⟩ tm cf (by omega) dt lA l lc hl cl (by omega) g (by omega) Bg (by assumption) i
 rw [hs1v] at hs1; clear hs1v
 refine ⟨_, H2, hs1, ?_⟩
 have H2n : H.next ≤ H2.next := hx3.1
 refine st_op (ev_move rfl) rfl rfl rfl ?_
 iterate 2 refine st_op (ev_extract rfl rfl) rfl rfl rfl ?_
 iterate 2 refine st_op (ev_assign rfl) rfl rfl rfl ?_
 try show aw _ _ _ _ _ _
 refine aw_seq ?_
 refine aw_reg ?_
 iterate 2 refine st_op (ev_move rfl) rfl rfl rfl ?_
 refine st_bool 16 rfl (fun hb4 => ?_) (fun hb4 => ?_)
 ·
  iterate 2 refine st_op (ev_move rfl) rfl rfl rfl ?_
  refine st_op (ev_int rfl rfl rfl) rfl rfl rfl ?_
  refine st_op (ev_pickT rfl rfl) rfl rfl rfl ?_
  refine st_op (ev_assign rfl) rfl rfl rfl ?_
  try show aw _ _ _ _ _ _
  refine aw_ret ?_
  have hres : (Spec.fitsF x tm l i t) = (((Spec.termF x tm l i).1) == t) := by simp_all [Spec.fitsF]
  exact ⟨.bool (((Spec.termF x tm l i).1) == t), rfl, by first | (rw [hres]; done) | rw [← hres], hx3⟩
 ·
  iterate 3 refine st_skip rfl rfl rfl ?_
  refine st_op (ev_pickF rfl rfl) rfl rfl rfl ?_
  refine st_op (ev_assign rfl) rfl rfl rfl ?_
  try show aw _ _ _ _ _ _
  refine aw_ret ?_
  have hres : (Spec.fitsF x tm l i t) = false := by simp_all [Spec.fitsF]
  exact ⟨.bool false, rfl, by first | (rw [hres]; done) | rw [← hres], hx3⟩
theorem rlog_Newer_spec (H : Heap) (x : Int) (hx : 0 ≤ x ∧ x ≤ 2199023255552) (tm : Int) (cf : ByteArray) (hcf : cf.size ≤ 1073741824) (dt : ByteArray) (lA : Option Addr) (l : List Entry) (lc : Nat) (hl : Row H lA lc 4 (l.map Entry.cells)) (cl : l.length ≤ lc) (ll : l.length ≤ 200) (g : Nat) (hg : g < H.next) (Bg : H.blk g = some ⟨[.int .i64 x, .int .i64 tm, .string cf, .string dt, .slice lA l.length lc], 0, false, false⟩) (uk : Spec.LogOk x tm l) (i : Int) (t : Int) : ∃ v H', Spec Try.prog 19 [.pointer (some ⟨g, 0, none⟩), .int .i64 i, .int .i64 t] H v H' ∧ ((v = .bool (Spec.newerF x tm l i t)) ∧ (Ext H H')) := by
 refine spec_go3 E0_ok 32 (f := 19) Try.func19 rfl rfl rfl ?_
 refine aw_seq ?_
 refine aw_reg ?_
 refine st_op (ev_assign rfl) rfl rfl rfl ?_
 try show aw _ _ _ _ _ _
 iterate 2 refine aw_seq ?_
 refine aw_reg ?_
 refine st_op (ev_move rfl) rfl rfl rfl ?_
 refine st_op (ev_nilEq rfl rfl Try.underlying28) rfl rfl rfl ?_
 try show aw _ _ _ _ _ _
 refine aw_cond (t := false) rfl ?_
 try show aw _ _ _ _ _ _
 refine aw_skip ?_
 try show aw _ _ _ _ _ _
 refine aw_seq ?_
 refine aw_reg ?_
 iterate 2 refine st_op (ev_move rfl) rfl rfl rfl ?_
 refine st_call rfl rfl rfl ent16 rfl rfl rfl ?_
 obtain ⟨_, H2, hs1, hs1v, hx3⟩ := rlog_Last_spec H x ⟨by omega, by omega⟩ tm cf (by omega) dt lA l lc hl cl (by omega) g (by omega) Bg (by assumption)
 rw [hs1v] at hs1; clear hs1v
 refine ⟨_, H2, hs1, ?_⟩
 have H2n : H.next ≤ H2.next := hx3.1
 refine st_call rfl rfl rfl ent18 rfl rfl rfl ?_
 have h4 := Row.ext hl hx3
 have h5 := Ext.blk hx3 (by omega) Bg
 obtain ⟨_, H7, hs6, hs6v, hx8⟩ := rlog_Term_spec H2 x ⟨by omega, by omega⟩ tm cf (by omega) dt lA l lc h4 cl (by omega) g (by omega) h5 (by assumption) (x + (l.length : Int))
 rw [hs6v] at hs6; clear hs6v
 refine ⟨_, H7, hs6, ?_⟩
 have H7n : H2.next ≤ H7.next := hx8.1
 refine st_op (ev_move rfl) rfl rfl rfl ?_
 iterate 2 refine st_op (ev_extract rfl rfl) rfl rfl rfl ?_
 iterate 2 refine st_op (ev_assign rfl) rfl rfl rfl ?_
 try show aw _ _ _ _ _ _
 refine aw_seq ?_
 refine aw_reg ?_
 iterate 2 refine st_op (ev_move rfl) rfl rfl rfl ?_
 refine st_op (ev_int rfl rfl rfl) rfl rfl rfl ?_
 refine st_op (ev_move rfl) rfl rfl rfl ?_
 refine st_bool 21 rfl (fun hb9 => ?_) (fun hb9 => ?_)
 ·
  have hb9 := of_decide_eq_true hb9
  iterate 9 refine st_skip rfl rfl rfl ?_
  refine st_op (ev_pickT rfl rfl) rfl rfl rfl ?_
  refine st_op (ev_assign rfl) rfl rfl rfl ?_
  try show aw _ _ _ _ _ _
  refine aw_ret ?_
  have hx10 : Ext H H7 := (Ext.trans hx3 hx8)
  have hres : (Spec.newerF x tm l i t) = true := by unfold Spec.newerF; rw [Bool.eq_iff_iff]; simp only [decide_eq_true_eq, Bool.false_eq_true, iff_false, iff_true, not_or, not_and, Int.not_le, gt_iff_lt, ge_iff_le] at *; omega
  exact ⟨.bool true, rfl, by first | (rw [hres]; done) | rw [← hres], hx10⟩
 ·
  have hb9 := of_decide_eq_false hb9
  iterate 2 refine st_op (ev_move rfl) rfl rfl rfl ?_
  refine st_op (ev_int rfl rfl rfl) rfl rfl rfl ?_
  refine st_op (ev_move rfl) rfl rfl rfl ?_
  refine st_bool 25 rfl (fun hb11 => ?_) (fun hb11 => ?_)
  ·
   have hb11 := eq_of_beq hb11
   iterate 2 refine st_op (ev_move rfl) rfl rfl rfl ?_
   refine st_call rfl rfl rfl ent16 rfl rfl rfl ?_
   have h12 := Row.ext h4 hx8
   have h13 := Ext.blk hx8 (by omega) h5
   obtain ⟨_, H15, hs14, hs14v, hx16⟩ := rlog_Last_spec H7 x ⟨by omega, by omega⟩ tm cf (by omega) dt lA l lc h12 cl (by omega) g (by omega) h13 (by assumption)
   rw [hs14v] at hs14; clear hs14v
   refine ⟨_, H15, hs14, ?_⟩
   have H15n : H7.next ≤ H15.next := hx16.1
   refine st_op (ev_int rfl rfl rfl) rfl rfl rfl ?_
   refine st_op (ev_pickT rfl rfl) rfl rfl rfl ?_
   refine st_op (ev_pickF rfl rfl) rfl rfl rfl ?_
   refine st_op (ev_assign rfl) rfl rfl rfl ?_
   try show aw _ _ _ _ _ _
   refine aw_ret ?_
   have hx17 : Ext H H15 := (Ext.trans (Ext.trans hx3 hx8) hx16)
   have hres : (Spec.newerF x tm l i t) = (decide (i ≥ (x + (l.length : Int)))) := by unfold Spec.newerF; rw [Bool.eq_iff_iff]; simp only [decide_eq_true_eq, Bool.false_eq_true, iff_false, iff_true, not_or, not_and, Int.not_le, gt_iff_lt, ge_iff_le] at *; omega
   exact ⟨.bool (decide (i ≥ (x + (l.length : Int)))), rfl, by first | (rw [hres]; done) | rw [← hres], hx17⟩
  ·
   have hb11 := ne_of_beq_false hb11
   iterate 4 refine st_skip rfl rfl rfl ?_
   iterate 2 refine st_op (ev_pickF rfl rfl) rfl rfl rfl ?_
   refine st_op (ev_assign rfl) rfl rfl rfl ?_
   try show aw _ _ _ _ _ _
   refine aw_ret ?_
   have hx18 : Ext H H7 := (Ext.trans hx3 hx8)
   have hres : (Spec.newerF x tm l i t) = false := by unfold Spec.newerF; rw [Bool.eq_iff_iff]; simp only [decide_eq_true_eq, Bool.false_eq_true, iff_false, iff_true, not_or, not_and, Int.not_le, gt_iff_lt, ge_iff_le] at *; omega
   exact ⟨.bool false, rfl, by first | (rw [hres]; done) | rw [← hres], hx18⟩
theorem rlog_Snap_spec (H : Heap) (x : Int) (hx : 0 ≤ x ∧ x ≤ 2199023255552) (tm : Int) (cf : ByteArray) (hcf : cf.size ≤ 1073741824) (dt : ByteArray) (lA : Option Addr) (l : List Entry) (lc : Nat) (hl : Row H lA lc 4 (l.map Entry.cells)) (cl : l.length ≤ lc) (ll : l.length ≤ 200) (g : Nat) (hg : g < H.next) (Bg : H.blk g = some ⟨[.int .i64 x, .int .i64 tm, .string cf, .string dt, .slice lA l.length lc], 0, false, false⟩) (uk : Spec.LogOk x tm l) : ∃ v H', Spec Try.prog 32 [.pointer (some ⟨g, 0, none⟩)] H v H' ∧ ((v = .agg #[.int .i64 x, .int .i64 tm, .string cf, .string dt]) ∧ (Ext H H')) := by
 refine spec_go1 E0_ok 10 (f := 32) Try.func32 rfl rfl rfl ?_
 refine aw_seq ?_
 refine aw_reg ?_
 obtain ⟨b1, H2, he3, b1e, H2n_, hB5, f4⟩ := mem_alloc H zero23
 refine st_op (he3 _ _ _ _ _ _ _) rfl rfl rfl ?_
 have hx6 : Ext H H2 := Ext.new (by omega) H2n_ f4
 have H2n : H.next ≤ H2.next := hx6.1
 try show aw _ _ _ _ _ _
 iterate 2 refine aw_seq ?_
 refine aw_reg ?_
 refine st_op (ev_move rfl) rfl rfl rfl ?_
 refine st_op (ev_nilEq rfl rfl Try.underlying28) rfl rfl rfl ?_
 try show aw _ _ _ _ _ _
 refine aw_cond (t := false) rfl ?_
 try show aw _ _ _ _ _ _
 refine aw_skip ?_
 try show aw _ _ _ _ _ _
 refine aw_seq ?_
 refine aw_reg ?_
 refine st_op (ev_move rfl) rfl rfl rfl ?_
 refine st_op (ev_nilCheck rfl) rfl rfl rfl ?_
 refine st_op (ev_fieldAddr rfl fa67_0 (o' := 0) rfl) rfl rfl rfl ?_
 have h7 := Ext.blk hx6 (by omega) Bg
 refine st_op (ev_load rfl (lvar_part (l := [.int .i64 x, .int .i64 tm, .string cf, .string dt]) many23 h7 rfl rfl (by decide))) rfl rfl rfl ?_
 obtain ⟨H8, he9, H8n_, hB10, f11⟩ := mem_store (v := .agg #[.int .i64 x, .int .i64 tm, .string cf, .string dt]) (o := 0) (cs' := [.int .i64 x, .int .i64 tm, .string cf, .string dt]) 4 rfl rfl size23 hB5 rfl rfl rfl
 refine st_op0 (he9 _ _ _ _ _ _ _ _ _ rfl rfl) rfl rfl ?_
 have hf12 : Fr (fun q => q = b1) H2 H8 := Fr.write H8n_ f11
 have H8n : H2.next ≤ H8.next := hf12.1
 try show aw _ _ _ _ _ _
 refine aw_ret ?_
 have hx13 : Ext H H8 := (Ext.then hx6 hf12 (fun q hq e => by omega))
 exact ⟨.agg #[.int .i64 x, .int .i64 tm, .string cf, .string dt], (resA_of (resL_cell rfl (lvar_part (l := [.int .i64 x, .int .i64 tm, .string cf, .string dt]) many23 hB10 rfl rfl (by decide)) resL_nil) rfl), rfl, hx13⟩
theorem conf_May_spec (H : Heap) (lA : Option Addr) (l : List Int) (lc : Nat) (hl : Row H lA lc 1 (l.map i64c)) (cl : l.length ≤ lc) (ll : l.length ≤ 274877906944) : ∃ v H', Spec Try.prog 49 [.slice lA l.length lc] H v H' ∧ ((v = .bool (Spec.mayC l)) ∧ (Ext H H')) := by
 refine spec_go1 E0_ok 35 (f := 49) Try.func49 rfl rfl rfl ?_
 refine aw_seq ?_
 refine aw_reg ?_
 refine st_op (ev_assign rfl) rfl rfl rfl ?_
 try show aw _ _ _ _ _ _
 iterate 2 refine aw_seq ?_
 refine aw_reg ?_
 refine st_op (ev_move rfl) rfl rfl rfl ?_
 refine st_op (ev_lenSl rfl Try.underlying42) rfl rfl rfl ?_
 refine st_op (ev_move rfl) rfl rfl rfl ?_
 try show aw _ _ _ _ _ _
 refine aw_block ?_
 refine aw_keep [0, 5, 6, 7] (l' := (.cons 0 (.slice lA l.length lc) (.cons 5 (.slice lA l.length lc) (.cons 6 (.int .i64 (l.length : Int)) (.cons 7 (.int .i64 0) .nil))))) (by repeat (first | exact Up.done | refine Up.then ?_ | refine Up.inBlock ?_)) rfl ?_
 refine aw_iter (α := Nat × Int × Heap) (fun a => l.length - a.1) (fun a => (.cons 0 (.slice lA l.length lc) (.cons 5 (.slice lA l.length lc) (.cons 6 (.int .i64 (l.length : Int)) (.cons 7 (.int .i64 (a.1 : Int)) .nil))))) (fun a => a.2.2) (fun a => (a.1 ≤ l.length) ∧ (Spec.upF 0 l = Spec.upF a.2.1 (l.drop a.1)) ∧ ((a.1 = 0 → a.2.1 = 0) ∧ (0 < a.1 → l[a.1 - 1]? = some a.2.1)) ∧ (Ext H a.2.2)) (0, (0 : Int), H) ⟨(show 0 ≤ l.length from Nat.zero_le _), (show Spec.upF 0 l = Spec.upF (0 : Int) (l.drop 0) from rfl), (show (0 = 0 → (0 : Int) = 0) ∧ (0 < 0 → l[0 - 1]? = some (0 : Int)) from ⟨fun _ => rfl, fun h => absurd h (by decide)⟩), (show Ext H H from (Ext.refl H))⟩ ?_
 rintro ⟨i, pv, Hl1⟩ ⟨hi, hv, hpv, hxl2⟩ ih3
 replace hi : i ≤ l.length := hi
 replace hv : Spec.upF 0 l = Spec.upF pv (l.drop i) := hv
 replace hpv : (i = 0 → pv = 0) ∧ (0 < i → l[i - 1]? = some pv) := hpv
 replace hxl2 : Ext H Hl1 := hxl2
 show aw _ _ _ (RL _ (.cons 0 (.slice lA l.length lc) (.cons 5 (.slice lA l.length lc) (.cons 6 (.int .i64 (l.length : Int)) (.cons 7 (.int .i64 (i : Int)) .nil))))) Hl1 _
 have Hl1n : H.next ≤ Hl1.next := hxl2.1
 refine aw_seq ?_
 refine aw_reg ?_
 refine st_op (ev_int rfl rfl rfl) rfl rfl rfl ?_
 try show aw _ _ _ _ _ _
 refine aw_seq ?_
 by_cases hc4 : (decide ((i : Int) < (l.length : Int))) = true
 ·
  refine aw_condT hc4 rfl ?_
  try show aw _ _ _ _ _ _
  have hc4 := of_decide_eq_true hc4
  refine aw_skip ?_
  try show aw _ _ _ _ _ _
  refine aw_seq ?_
  refine aw_block ?_
  refine aw_seq ?_
  refine aw_reg ?_
  refine st_op (ev_move rfl) rfl rfl rfl ?_
  have h5 := Row.ext hl hxl2
  have hi6 : 0 ≤ ((i : Int) : Int) := by omega
  have hi7 : ((i : Int) : Int) < ((l.length : Nat) : Int) := by omega
  obtain ⟨x8, hx9⟩ : ∃ e, l[i]? = some e := ⟨_, List.getElem?_eq_getElem (by omega)⟩
  refine st_op (ev_at rfl rfl h5 (getMap i64c hx9) (by first | rfl | omega | simp) hi6 hi7 el42) rfl rfl rfl ?_
  refine st_op (ev_atL rfl h5 (getMap i64c hx9) one3 rfl) rfl rfl rfl ?_
  iterate 2 refine st_op (ev_assign rfl) rfl rfl rfl ?_
  try show aw _ _ _ _ _ _
  refine aw_seq ?_
  refine aw_reg ?_
  refine st_op (ev_move rfl) rfl rfl rfl ?_
  refine st_op (ev_int rfl rfl rfl) rfl rfl rfl ?_
  refine st_op (ev_move rfl) rfl rfl rfl ?_
  refine st_bool 14 rfl (fun hb10 => ?_) (fun hb10 => ?_)
  ·
   have hb10 := of_decide_eq_true hb10
   iterate 2 refine st_skip rfl rfl rfl ?_
   refine st_op (ev_pickT rfl rfl) rfl rfl rfl ?_
   refine st_op (ev_move rfl) rfl rfl rfl ?_
   iterate 11 refine st_skip rfl rfl rfl ?_
   refine st_op (ev_pickT rfl rfl) rfl rfl rfl ?_
   try show aw _ _ _ _ _ _
   refine aw_cond (t := true) rfl ?_
   try show aw _ _ _ _ _ _
   refine aw_seq ?_
   refine aw_reg ?_
   refine st_op (ev_assign rfl) rfl rfl rfl ?_
   try show aw _ _ _ _ _ _
   refine aw_ret ?_
   have hres : (Spec.mayC l) = false := by unfold Spec.mayC; rw [hv, drop_at hx9, Spec.upF, if_pos (by omega)]; rfl
   exact ⟨.bool false, rfl, by first | (rw [hres]; done) | rw [← hres], hxl2⟩
  ·
   have hb10 := of_decide_eq_false hb10
   refine st_op (ev_move rfl) rfl rfl rfl ?_
   refine st_op (ev_int rfl rfl rfl) rfl rfl rfl ?_
   refine st_op (ev_pickF rfl rfl) rfl rfl rfl ?_
   refine st_op (ev_move rfl) rfl rfl rfl ?_
   refine st_bool 18 rfl (fun hb11 => ?_) (fun hb11 => ?_)
   ·
    have hb11 := of_decide_eq_true hb11
    iterate 11 refine st_skip rfl rfl rfl ?_
    refine st_op (ev_pickT rfl rfl) rfl rfl rfl ?_
    try show aw _ _ _ _ _ _
    refine aw_cond (t := true) rfl ?_
    try show aw _ _ _ _ _ _
    refine aw_seq ?_
    refine aw_reg ?_
    refine st_op (ev_assign rfl) rfl rfl rfl ?_
    try show aw _ _ _ _ _ _
    refine aw_ret ?_
    have hres : (Spec.mayC l) = false := by unfold Spec.mayC; rw [hv, drop_at hx9, Spec.upF, if_pos (by omega)]; rfl
    exact ⟨.bool false, rfl, by first | (rw [hres]; done) | rw [← hres], hxl2⟩
   ·
    have hb11 := of_decide_eq_false hb11
    refine st_op (ev_move rfl) rfl rfl rfl ?_
    refine st_op (ev_int rfl rfl rfl) rfl rfl rfl ?_
    refine st_op (ev_move rfl) rfl rfl rfl ?_
    refine st_bool 21 rfl (fun hb12 => ?_) (fun hb12 => ?_)
    ·
     have hb12 := of_decide_eq_true hb12
     iterate 2 refine st_op (ev_move rfl) rfl rfl rfl ?_
     refine st_op (ev_int64 (c := (i : Int) - 1) rfl rfl rfl (by omega) (by omega)) rfl rfl rfl ?_
     have hi13 : 0 ≤ ((i : Int) - 1 : Int) := by omega
     have hi14 : ((i : Int) - 1 : Int) < ((l.length : Nat) : Int) := by omega
     obtain ⟨x15, hx16⟩ : ∃ e, l[(((i : Int) - 1)).toNat]? = some e := ⟨_, List.getElem?_eq_getElem (by omega)⟩
     have x15p : x15 = pv := by have q := hpv.2 (by omega); rw [show (((((i : Int) - 1)).toNat) : Nat) = i - 1 by omega] at hx16; rw [hx16] at q; cases q; rfl
     refine st_op (ev_at rfl rfl h5 (getMap i64c hx16) (by first | rfl | omega | simp) hi13 hi14 el42) rfl rfl rfl ?_
     refine st_op (ev_atL rfl h5 (getMap i64c hx16) one3 rfl) rfl rfl rfl ?_
     refine st_op (ev_move rfl) rfl rfl rfl ?_
     refine st_op (ev_int rfl rfl rfl) rfl rfl rfl ?_
     refine st_op (ev_pickT rfl rfl) rfl rfl rfl ?_
     refine st_op (ev_pickF rfl rfl) rfl rfl rfl ?_
     try show aw _ _ _ _ _ _
     by_cases hc17 : (decide (x15 ≥ x8)) = true
     ·
      refine aw_condT hc17 rfl ?_
      try show aw _ _ _ _ _ _
      have hc17 := of_decide_eq_true hc17
      refine aw_seq ?_
      refine aw_reg ?_
      refine st_op (ev_assign rfl) rfl rfl rfl ?_
      try show aw _ _ _ _ _ _
      refine aw_ret ?_
      have hres : (Spec.mayC l) = false := by unfold Spec.mayC; rw [hv, drop_at hx9, Spec.upF, if_pos (by omega)]; rfl
      exact ⟨.bool false, rfl, by first | (rw [hres]; done) | rw [← hres], hxl2⟩
     ·
      rw [Bool.not_eq_true] at hc17; refine aw_condF hc17 rfl ?_
      try show aw _ _ _ _ _ _
      have hc17 := of_decide_eq_false hc17
      refine aw_skip ?_
      try show aw _ _ _ _ _ _
      refine aw_reg ?_
      refine st_op (ev_int64 (c := (i : Int) + 1) rfl rfl rfl (by omega) (by omega)) rfl rfl rfl ?_
      refine st_op (ev_move rfl) rfl rfl rfl ?_
      try show aw _ _ _ _ _ _
      refine aw_keep [0, 5, 6, 7] (l' := (.cons 0 (.slice lA l.length lc) (.cons 5 (.slice lA l.length lc) (.cons 6 (.int .i64 (l.length : Int)) (.cons 7 (.int .i64 ((i : Int) + 1)) .nil))))) (by repeat (first | exact Up.done | refine Up.then ?_ | refine Up.inBlock ?_)) rfl ?_
      exact ih3 (i + 1, x8, Hl1) ⟨(show (i + 1) ≤ l.length from (by omega)), (show Spec.upF 0 l = Spec.upF x8 (l.drop (i + 1)) from (by rw [hv, drop_at hx9, Spec.upF, if_neg (by omega)])), (show ((i + 1) = 0 → x8 = 0) ∧ (0 < (i + 1) → l[(i + 1) - 1]? = some x8) from ⟨fun h => absurd h (by omega), fun _ => by rw [Nat.add_sub_cancel]; exact hx9⟩), (show Ext H Hl1 from hxl2)⟩ (by simp only; omega)
    ·
     have hb12 := of_decide_eq_false hb12
     iterate 7 refine st_skip rfl rfl rfl ?_
     iterate 2 refine st_op (ev_pickF rfl rfl) rfl rfl rfl ?_
     try show aw _ _ _ _ _ _
     refine aw_cond (t := false) rfl ?_
     try show aw _ _ _ _ _ _
     refine aw_skip ?_
     try show aw _ _ _ _ _ _
     refine aw_reg ?_
     refine st_op (ev_int64 (c := (i : Int) + 1) rfl rfl rfl (by omega) (by omega)) rfl rfl rfl ?_
     refine st_op (ev_move rfl) rfl rfl rfl ?_
     try show aw _ _ _ _ _ _
     refine aw_keep [0, 5, 6, 7] (l' := (.cons 0 (.slice lA l.length lc) (.cons 5 (.slice lA l.length lc) (.cons 6 (.int .i64 (l.length : Int)) (.cons 7 (.int .i64 ((i : Int) + 1)) .nil))))) (by repeat (first | exact Up.done | refine Up.then ?_ | refine Up.inBlock ?_)) rfl ?_
     exact ih3 (i + 1, x8, Hl1) ⟨(show (i + 1) ≤ l.length from (by omega)), (show Spec.upF 0 l = Spec.upF x8 (l.drop (i + 1)) from (by rw [hv, drop_at hx9, Spec.upF, if_neg (by have := hpv.1 (by omega); omega)])), (show ((i + 1) = 0 → x8 = 0) ∧ (0 < (i + 1) → l[(i + 1) - 1]? = some x8) from ⟨fun h => absurd h (by omega), fun _ => by rw [Nat.add_sub_cancel]; exact hx9⟩), (show Ext H Hl1 from hxl2)⟩ (by simp only; omega)
 ·
  rw [Bool.not_eq_true] at hc4; refine aw_condF hc4 rfl ?_
  try show aw _ _ _ _ _ _
  have hc4 := of_decide_eq_false hc4
  refine aw_exit ?_
  try show aw _ _ _ _ _ _
  refine aw_seq ?_
  refine aw_reg ?_
  refine st_op (ev_move rfl) rfl rfl rfl ?_
  refine st_op (ev_lenSl rfl Try.underlying42) rfl rfl rfl ?_
  refine st_op (ev_int rfl rfl rfl) rfl rfl rfl ?_
  refine st_op (ev_assign rfl) rfl rfl rfl ?_
  try show aw _ _ _ _ _ _
  refine aw_ret ?_
  have hres : (Spec.mayC l) = (decide ((l.length : Int) > 0)) := by unfold Spec.mayC; rw [hv, List.drop_eq_nil_of_le (by omega)]; simp [Spec.upF]
  exact ⟨.bool (decide ((l.length : Int) > 0)), rfl, by first | (rw [hres]; done) | rw [← hres], hxl2⟩
theorem conf_Decode_spec (H : Heap) (s : ByteArray) (hs : s.size ≤ 1073741824) : ∃ v H', Spec Try.prog 46 [.string s] H v H' ∧ (∃ rA0 rc0, (v = .tuple #[.slice rA0 (((Spec.decC s).1).length) rc0, .bool ((Spec.decC s).2)]) ∧ (My H H' rA0 rc0 1 (((Spec.decC s).1).map i64c)) ∧ (Ext H H')) := by
 refine spec_go1 E0_ok 24 (f := 46) Try.func46 rfl rfl rfl ?_
 refine aw_seq ?_
 refine aw_reg ?_
 iterate 2 refine st_op (ev_assign rfl) rfl rfl rfl ?_
 try show aw _ _ _ _ _ _
 refine aw_seq ?_
 refine aw_reg ?_
 refine st_op (ev_assign rfl) rfl rfl rfl ?_
 try show aw _ _ _ _ _ _
 iterate 2 refine aw_seq ?_
 refine aw_reg ?_
 refine st_op (ev_move rfl) rfl rfl rfl ?_
 refine st_op (ev_lenStr rfl Try.underlying9) rfl rfl rfl ?_
 refine st_op (ev_move rfl) rfl rfl rfl ?_
 try show aw _ _ _ _ _ _
 refine aw_block ?_
 have hm2 : My H H none 0 1 (([] : List Int).map i64c) := .nil
 refine aw_keep [0, 4, 7, 8] (l' := (.cons 0 (.string s) (.cons 4 (.slice none 0 0) (.cons 7 (.int .i64 ((s).size : Int)) (.cons 8 (.int .i64 0) .nil))))) (by repeat (first | exact Up.done | refine Up.then ?_ | refine Up.inBlock ?_)) rfl ?_
 refine aw_iter (α := Nat × Option Addr × Nat × List Int × Heap) (fun a => s.size - a.1) (fun a => (.cons 0 (.string s) (.cons 4 (.slice a.2.1 a.2.2.2.1.length a.2.2.1) (.cons 7 (.int .i64 ((s).size : Int)) (.cons 8 (.int .i64 (a.1 : Int)) .nil))))) (fun a => a.2.2.2.2) (fun a => (a.1 ≤ s.size) ∧ (a.2.2.2.1 = (Spec.digits s).take a.1) ∧ (My H a.2.2.2.2 a.2.1 a.2.2.1 1 (a.2.2.2.1.map i64c)) ∧ (Ext H a.2.2.2.2)) (0, none, 0, ([] : List Int), H) ⟨(show 0 ≤ s.size from Nat.zero_le _), (show ([] : List Int) = (Spec.digits s).take 0 from rfl), (show My H H none 0 1 (([] : List Int).map i64c) from hm2), (show Ext H H from (Ext.refl H))⟩ ?_
 rintro ⟨i, A, cp, l, Hl1⟩ ⟨hi, hl, hm3, hxl4⟩ ih5
 replace hi : i ≤ s.size := hi
 replace hl : l = (Spec.digits s).take i := hl
 replace hm3 : My H Hl1 A cp 1 (l.map i64c) := hm3
 replace hxl4 : Ext H Hl1 := hxl4
 show aw _ _ _ (RL _ (.cons 0 (.string s) (.cons 4 (.slice A l.length cp) (.cons 7 (.int .i64 ((s).size : Int)) (.cons 8 (.int .i64 (i : Int)) .nil))))) Hl1 _
 have Hl1n : H.next ≤ Hl1.next := hxl4.1
 have hll : l.length = i := by rw [hl, List.length_take, Spec.digits_len]; omega
 refine aw_seq ?_
 refine aw_reg ?_
 refine st_op (ev_int rfl rfl rfl) rfl rfl rfl ?_
 try show aw _ _ _ _ _ _
 refine aw_seq ?_
 by_cases hc6 : (decide ((i : Int) < ((s).size : Int))) = true
 ·
  refine aw_condT hc6 rfl ?_
  try show aw _ _ _ _ _ _
  have hc6 := of_decide_eq_true hc6
  refine aw_skip ?_
  try show aw _ _ _ _ _ _
  refine aw_seq ?_
  refine aw_block ?_
  refine aw_seq ?_
  refine aw_reg ?_
  refine st_op (ev_move rfl) rfl rfl rfl ?_
  refine st_op (ev_assign rfl) rfl rfl rfl ?_
  try show aw _ _ _ _ _ _
  refine aw_reg ?_
  iterate 3 refine st_op (ev_move rfl) rfl rfl rfl ?_
  obtain ⟨y7, hy8⟩ : ∃ y, (s).data.toList[i]? = some y := ⟨_, List.getElem?_eq_getElem (by simp; omega)⟩
  have y7t := y7.toNat_lt
  refine st_op (ev_ixStr Try.underlying9 rfl rfl (ba_get hy8)) rfl rfl rfl ?_
  refine st_op (ev_convI Try.underlying5 Try.underlying3 rfl (wrI64 (by omega) (by omega))) rfl rfl rfl ?_
  refine st_op (ev_int64 (c := (y7.toNat : Int) - 48) rfl rfl rfl (by omega) (by omega)) rfl rfl rfl ?_
  obtain ⟨b9, H10, he11, b9e, H10n_, hm13, f12⟩ := mem_lit Hl1 (xs := ([.int .i64 ((y7.toNat : Int) - 48)] : List Value)) (m := 1) (rows := [[.int .i64 ((y7.toNat : Int) - 48)]]) rfl eok42 (by decide) (by decide) zf3 rfl (allLen rfl) rfl
  replace hm13 : My Hl1 H10 (some ⟨b9, 0, none⟩) 1 1 ([(y7.toNat : Int) - 48].map i64c) := hm13
  refine st_op (he11 _ _ _ _ _ _ _ _ rfl) rfl rfl rfl ?_
  have hx14 : Ext Hl1 H10 := Ext.new (by omega) H10n_ f12
  have H10n : Hl1.next ≤ H10.next := hx14.1
  have h15 := My.ext hm3 hx14
  obtain ⟨A16, c17, H18, W19, he20, hm21, hf22⟩ := mem_append (f := i64c) (old := l) (new := [(y7.toNat : Int) - 48]) (m := l.length) (mx := 1) (c := cp) (by first | rfl | simp) (by first | rfl | simp) eok42 (by decide) hm3 h15 (by omega) (((My.row hm13)).srcF (by decide) (by first | rfl | simp)) rfl i64c_len i64c_one (by first | omega | (simp only [List.length_append, List.length_cons, List.length_nil, List.length_map, List.length_set, List.length_replicate, Spec.bytesOf_length]; omega) | (simp; omega)) (by first | omega | (simp only [List.length_append, List.length_cons, List.length_nil, List.length_map, List.length_set, List.length_replicate, Spec.bytesOf_length]; omega) | (simp; omega))
  refine st_op (he20 _ _ _ _ _ _ _ _ _ _ rfl rfl isrow42) rfl rfl rfl ?_
  have H18n : H10.next ≤ H18.next := hf22.1
  refine st_op (ev_assign rfl) rfl rfl rfl ?_
  try show aw _ _ _ _ _ _
  refine aw_reg ?_
  refine st_op (ev_int64 (c := (i : Int) + 1) rfl rfl rfl (by omega) (by omega)) rfl rfl rfl ?_
  refine st_op (ev_move rfl) rfl rfl rfl ?_
  try show aw _ _ _ _ _ _
  have hx23 : Ext H H18 := (Ext.then (Ext.trans hxl4 hx14) hf22 (fun q hq e => by omega))
  refine aw_keep [0, 4, 7, 8] (l' := (.cons 0 (.string s) (.cons 4 (.slice A16 ((l ++ [(y7.toNat : Int) - 48]).length) c17) (.cons 7 (.int .i64 ((s).size : Int)) (.cons 8 (.int .i64 ((i : Int) + 1)) .nil))))) (by repeat (first | exact Up.done | refine Up.then ?_ | refine Up.inBlock ?_)) rfl ?_
  exact ih5 (i + 1, A16, c17, (l ++ [(y7.toNat : Int) - 48]), H18) ⟨(show (i + 1) ≤ s.size from (by omega)), (show (l ++ [(y7.toNat : Int) - 48]) = (Spec.digits s).take (i + 1) from (by rw [List.take_add_one, ← hl, Spec.digits_at hy8]; rfl)), (show My H H18 A16 c17 1 ((l ++ [(y7.toNat : Int) - 48]).map i64c) from hm21), (show Ext H H18 from hx23)⟩ (by simp only; omega)
 ·
  rw [Bool.not_eq_true] at hc6; refine aw_condF hc6 rfl ?_
  try show aw _ _ _ _ _ _
  have hc6 := of_decide_eq_false hc6
  refine aw_exit ?_
  try show aw _ _ _ _ _ _
  iterate 2 refine aw_seq ?_
  refine aw_reg ?_
  refine st_op (ev_move rfl) rfl rfl rfl ?_
  refine st_call rfl rfl rfl ent49 rfl rfl rfl ?_
  obtain ⟨_, H25, hs24, hs24v, hx26⟩ := conf_May_spec Hl1 A l cp (My.row hm3) (My.capF hm3 (by omega)) (by omega)
  rw [hs24v] at hs24; clear hs24v
  refine ⟨_, H25, hs24, ?_⟩
  have H25n : Hl1.next ≤ H25.next := hx26.1
  refine st_op (ev_not rfl) rfl rfl rfl ?_
  try show aw _ _ _ _ _ _
  by_cases hc27 : (!(Spec.mayC l)) = true
  ·
   refine aw_condT hc27 rfl ?_
   try show aw _ _ _ _ _ _
   replace hc27 : (Spec.mayC l) = false := by rw [Bool.not_eq_true'] at hc27; exact hc27
   refine aw_seq ?_
   refine aw_reg ?_
   iterate 2 refine st_op (ev_assign rfl) rfl rfl rfl ?_
   try show aw _ _ _ _ _ _
   refine aw_ret ?_
   have hm28 : My H25 H25 none 0 1 (([] : List Int).map i64c) := .nil
   have hx29 : Ext H H25 := (Ext.trans hxl4 hx26)
   have hres : (Spec.decC s) = (([] : List Int), false) := by (have hd : l = Spec.digits s := by rw [hl, List.take_of_length_le (by rw [Spec.digits_len]; omega)]); unfold Spec.decC; rw [← hd]; first | (rw [if_pos (by assumption)]; done) | (rw [if_neg (fun h => Bool.noConfusion (h.symm.trans (show _ = false by assumption)))]; done)
   exact ⟨.tuple #[.slice none 0 0, .bool false], rfl, none, 0, by first | (rw [hres]; first | done | rfl | simp; done) | rfl, (by rw [hres]; exact (My.older hm28 (by omega))), hx29⟩
  ·
   rw [Bool.not_eq_true] at hc27; refine aw_condF hc27 rfl ?_
   try show aw _ _ _ _ _ _
   replace hc27 : (Spec.mayC l) = true := by rw [Bool.not_eq_false'] at hc27; exact hc27
   refine aw_skip ?_
   try show aw _ _ _ _ _ _
   refine aw_seq ?_
   refine aw_reg ?_
   refine st_op (ev_move rfl) rfl rfl rfl ?_
   iterate 2 refine st_op (ev_assign rfl) rfl rfl rfl ?_
   try show aw _ _ _ _ _ _
   refine aw_ret ?_
   have h30 := My.ext hm3 hx26
   have hx31 : Ext H H25 := (Ext.trans hxl4 hx26)
   have hres : (Spec.decC s) = (l, true) := by (have hd : l = Spec.digits s := by rw [hl, List.take_of_length_le (by rw [Spec.digits_len]; omega)]); unfold Spec.decC; rw [← hd]; first | (rw [if_pos (by assumption)]; done) | (rw [if_neg (fun h => Bool.noConfusion (h.symm.trans (show _ = false by assumption)))]; done)
   exact ⟨.tuple #[.slice A l.length cp, .bool true], rfl, A, cp, by first | (rw [hres]; first | done | rfl | simp; done) | rfl, (by rw [hres]; exact h30), hx31⟩
theorem ref21_MayConf_spec (H : Heap) (lA : Option Addr) (l : List Int) (lc : Nat) (hl : Row H lA lc 1 (l.map i64c)) (cl : l.length ≤ lc) (ll : l.length ≤ 274877906944) : ∃ v H', Spec Try.prog 51 [.slice lA l.length lc] H v H' ∧ ((v = .bool (Spec.mayC l)) ∧ (Ext H H')) := by
 refine spec_go1 E0_ok 41 (f := 51) Try.func51 rfl rfl rfl ?_
 refine aw_seq ?_
 refine aw_reg ?_
 refine st_op (ev_assign rfl) rfl rfl rfl ?_
 try show aw _ _ _ _ _ _
 iterate 2 refine aw_seq ?_
 refine aw_reg ?_
 refine st_op (ev_assign rfl) rfl rfl rfl ?_
 try show aw _ _ _ _ _ _
 refine aw_block ?_
 refine aw_keep [0, 3] (l' := (.cons 0 (.slice lA l.length lc) (.cons 3 (.int .i64 0) .nil))) (by repeat (first | exact Up.done | refine Up.then ?_ | refine Up.inBlock ?_)) rfl ?_
 refine aw_iter (α := Nat × Int × Heap) (fun a => l.length - a.1) (fun a => (.cons 0 (.slice lA l.length lc) (.cons 3 (.int .i64 (a.1 : Int)) .nil))) (fun a => a.2.2) (fun a => (a.1 ≤ l.length) ∧ (Spec.upF 0 l = Spec.upF a.2.1 (l.drop a.1)) ∧ ((a.1 = 0 → a.2.1 = 0) ∧ (0 < a.1 → l[a.1 - 1]? = some a.2.1)) ∧ (Ext H a.2.2)) (0, (0 : Int), H) ⟨(show 0 ≤ l.length from Nat.zero_le _), (show Spec.upF 0 l = Spec.upF (0 : Int) (l.drop 0) from rfl), (show (0 = 0 → (0 : Int) = 0) ∧ (0 < 0 → l[0 - 1]? = some (0 : Int)) from ⟨fun _ => rfl, fun h => absurd h (by decide)⟩), (show Ext H H from (Ext.refl H))⟩ ?_
 rintro ⟨i, pv, Hl1⟩ ⟨hi, hv, hpv, hxl2⟩ ih3
 replace hi : i ≤ l.length := hi
 replace hv : Spec.upF 0 l = Spec.upF pv (l.drop i) := hv
 replace hpv : (i = 0 → pv = 0) ∧ (0 < i → l[i - 1]? = some pv) := hpv
 replace hxl2 : Ext H Hl1 := hxl2
 show aw _ _ _ (RL _ (.cons 0 (.slice lA l.length lc) (.cons 3 (.int .i64 (i : Int)) .nil))) Hl1 _
 have Hl1n : H.next ≤ Hl1.next := hxl2.1
 iterate 2 refine aw_seq ?_
 refine aw_reg ?_
 iterate 2 refine st_op (ev_move rfl) rfl rfl rfl ?_
 refine st_op (ev_lenSl rfl Try.underlying42) rfl rfl rfl ?_
 refine st_op (ev_int rfl rfl rfl) rfl rfl rfl ?_
 try show aw _ _ _ _ _ _
 by_cases hc4 : (decide ((i : Int) < (l.length : Int))) = true
 ·
  refine aw_condT hc4 rfl ?_
  try show aw _ _ _ _ _ _
  have hc4 := of_decide_eq_true hc4
  refine aw_skip ?_
  try show aw _ _ _ _ _ _
  refine aw_seq ?_
  refine aw_block ?_
  refine aw_seq ?_
  refine aw_marks (fun b => b < Hl1.next) [(false, false), (false, false), (false, false), (false, false), (false, false), (false, false), (false, false), (false, false), (false, false), (false, false), (false, false), (false, false), (false, false), (false, false), (false, false), (false, false), (false, false), (false, false), (false, false), (false, false), (false, false), (false, false), (false, false), (false, false), (false, false), (false, false), (false, false), (false, false)] mixed (by kernel_rfl) (by kernel_rfl) ?_
  iterate 2 refine sm_op (ev_move rfl) rfl rfl rfl ?_
  have h5 := Row.ext hl hxl2
  have hi6 : 0 ≤ ((i : Int) : Int) := by omega
  have hi7 : ((i : Int) : Int) < ((l.length : Nat) : Int) := by omega
  obtain ⟨x8, hx9⟩ : ∃ e, l[i]? = some e := ⟨_, List.getElem?_eq_getElem (by omega)⟩
  refine sm_op (ev_at rfl rfl h5 (getMap i64c hx9) (by first | rfl | omega | simp) hi6 hi7 el42) rfl rfl rfl ?_
  refine sm_op (ev_atL rfl h5 (getMap i64c hx9) one3 rfl) rfl rfl rfl ?_
  refine sm_op (ev_int rfl rfl rfl) rfl rfl rfl ?_
  refine sm_op (ev_move rfl) rfl rfl rfl ?_
  refine sm_bool 15 rfl (fun hb10 => ?_) (fun hb10 => ?_)
  ·
   have hb10 := of_decide_eq_true hb10
   iterate 5 refine sm_skip rfl rfl rfl ?_
   refine sm_op (ev_pickT rfl rfl) rfl rfl rfl ?_
   refine sm_op (ev_move rfl) rfl rfl rfl ?_
   iterate 14 refine sm_skip rfl rfl rfl ?_
   refine sm_op (ev_pickT rfl rfl) rfl rfl rfl ?_
   try show aw _ _ _ _ _ _
   refine aw_cond (t := true) rfl ?_
   try show aw _ _ _ _ _ _
   refine aw_seq ?_
   refine aw_reg ?_
   refine st_op (ev_assign rfl) rfl rfl rfl ?_
   try show aw _ _ _ _ _ _
   refine aw_ret ?_
   have hres : (Spec.mayC l) = false := by unfold Spec.mayC; rw [hv, drop_at hx9, Spec.upF, if_pos (by omega)]; rfl
   exact ⟨.bool false, rfl, by first | (rw [hres]; done) | rw [← hres], hxl2⟩
  ·
   have hb10 := of_decide_eq_false hb10
   iterate 2 refine sm_op (ev_move rfl) rfl rfl rfl ?_
   have hi11 : 0 ≤ ((i : Int) : Int) := by omega
   have hi12 : ((i : Int) : Int) < ((l.length : Nat) : Int) := by omega
   refine sm_op (ev_at rfl rfl h5 (getMap i64c hx9) (by first | rfl | omega | simp) hi11 hi12 el42) rfl rfl rfl ?_
   refine sm_op (ev_atL rfl h5 (getMap i64c hx9) one3 rfl) rfl rfl rfl ?_
   refine sm_op (ev_int rfl rfl rfl) rfl rfl rfl ?_
   refine sm_op (ev_pickF rfl rfl) rfl rfl rfl ?_
   refine sm_op (ev_move rfl) rfl rfl rfl ?_
   refine sm_bool 22 rfl (fun hb13 => ?_) (fun hb13 => ?_)
   ·
    have hb13 := of_decide_eq_true hb13
    iterate 14 refine sm_skip rfl rfl rfl ?_
    refine sm_op (ev_pickT rfl rfl) rfl rfl rfl ?_
    try show aw _ _ _ _ _ _
    refine aw_cond (t := true) rfl ?_
    try show aw _ _ _ _ _ _
    refine aw_seq ?_
    refine aw_reg ?_
    refine st_op (ev_assign rfl) rfl rfl rfl ?_
    try show aw _ _ _ _ _ _
    refine aw_ret ?_
    have hres : (Spec.mayC l) = false := by unfold Spec.mayC; rw [hv, drop_at hx9, Spec.upF, if_pos (by omega)]; rfl
    exact ⟨.bool false, rfl, by first | (rw [hres]; done) | rw [← hres], hxl2⟩
   ·
    have hb13 := of_decide_eq_false hb13
    refine sm_op (ev_move rfl) rfl rfl rfl ?_
    refine sm_op (ev_int rfl rfl rfl) rfl rfl rfl ?_
    refine sm_op (ev_move rfl) rfl rfl rfl ?_
    refine sm_bool 25 rfl (fun hb14 => ?_) (fun hb14 => ?_)
    ·
     have hb14 := of_decide_eq_true hb14
     iterate 2 refine sm_op (ev_move rfl) rfl rfl rfl ?_
     have hi15 : 0 ≤ ((i : Int) : Int) := by omega
     have hi16 : ((i : Int) : Int) < ((l.length : Nat) : Int) := by omega
     refine sm_op (ev_at rfl rfl h5 (getMap i64c hx9) (by first | rfl | omega | simp) hi15 hi16 el42) rfl rfl rfl ?_
     refine sm_op (ev_atL rfl h5 (getMap i64c hx9) one3 rfl) rfl rfl rfl ?_
     iterate 2 refine sm_op (ev_move rfl) rfl rfl rfl ?_
     refine sm_op (ev_int64 (c := (i : Int) - 1) rfl rfl rfl (by omega) (by omega)) rfl rfl rfl ?_
     have hi17 : 0 ≤ ((i : Int) - 1 : Int) := by omega
     have hi18 : ((i : Int) - 1 : Int) < ((l.length : Nat) : Int) := by omega
     obtain ⟨x19, hx20⟩ : ∃ e, l[(((i : Int) - 1)).toNat]? = some e := ⟨_, List.getElem?_eq_getElem (by omega)⟩
     have x19p : x19 = pv := by have q := hpv.2 (by omega); rw [show (((((i : Int) - 1)).toNat) : Nat) = i - 1 by omega] at hx20; rw [hx20] at q; cases q; rfl
     refine sm_op (ev_at rfl rfl h5 (getMap i64c hx20) (by first | rfl | omega | simp) hi17 hi18 el42) rfl rfl rfl ?_
     refine sm_op (ev_atL rfl h5 (getMap i64c hx20) one3 rfl) rfl rfl rfl ?_
     refine sm_op (ev_int rfl rfl rfl) rfl rfl rfl ?_
     refine sm_op (ev_pickT rfl rfl) rfl rfl rfl ?_
     refine sm_op (ev_pickF rfl rfl) rfl rfl rfl ?_
     try show aw _ _ _ _ _ _
     by_cases hc21 : (decide (x8 ≤ x19)) = true
     ·
      refine aw_condT hc21 rfl ?_
      try show aw _ _ _ _ _ _
      have hc21 := of_decide_eq_true hc21
      refine aw_seq ?_
      refine aw_reg ?_
      refine st_op (ev_assign rfl) rfl rfl rfl ?_
      try show aw _ _ _ _ _ _
      refine aw_ret ?_
      have hres : (Spec.mayC l) = false := by unfold Spec.mayC; rw [hv, drop_at hx9, Spec.upF, if_pos (by omega)]; rfl
      exact ⟨.bool false, rfl, by first | (rw [hres]; done) | rw [← hres], hxl2⟩
     ·
      rw [Bool.not_eq_true] at hc21; refine aw_condF hc21 rfl ?_
      try show aw _ _ _ _ _ _
      have hc21 := of_decide_eq_false hc21
      refine aw_skip ?_
      try show aw _ _ _ _ _ _
      refine aw_reg ?_
      refine st_op (ev_move rfl) rfl rfl rfl ?_
      refine st_op (ev_int64 (c := (i : Int) + 1) rfl rfl rfl (by omega) (by omega)) rfl rfl rfl ?_
      refine st_op (ev_assign rfl) rfl rfl rfl ?_
      try show aw _ _ _ _ _ _
      refine aw_keep [0, 3] (l' := (.cons 0 (.slice lA l.length lc) (.cons 3 (.int .i64 ((i : Int) + 1)) .nil))) (by repeat (first | exact Up.done | refine Up.then ?_ | refine Up.inBlock ?_)) rfl ?_
      exact ih3 (i + 1, x8, Hl1) ⟨(show (i + 1) ≤ l.length from (by omega)), (show Spec.upF 0 l = Spec.upF x8 (l.drop (i + 1)) from (by rw [hv, drop_at hx9, Spec.upF, if_neg (by omega)])), (show ((i + 1) = 0 → x8 = 0) ∧ (0 < (i + 1) → l[(i + 1) - 1]? = some x8) from ⟨fun h => absurd h (by omega), fun _ => by rw [Nat.add_sub_cancel]; exact hx9⟩), (show Ext H Hl1 from hxl2)⟩ (by simp only; omega)
    ·
     have hb14 := of_decide_eq_false hb14
     iterate 10 refine sm_skip rfl rfl rfl ?_
     iterate 2 refine sm_op (ev_pickF rfl rfl) rfl rfl rfl ?_
     try show aw _ _ _ _ _ _
     refine aw_cond (t := false) rfl ?_
     try show aw _ _ _ _ _ _
     refine aw_skip ?_
     try show aw _ _ _ _ _ _
     refine aw_reg ?_
     refine st_op (ev_move rfl) rfl rfl rfl ?_
     refine st_op (ev_int64 (c := (i : Int) + 1) rfl rfl rfl (by omega) (by omega)) rfl rfl rfl ?_
     refine st_op (ev_assign rfl) rfl rfl rfl ?_
     try show aw _ _ _ _ _ _
     refine aw_keep [0, 3] (l' := (.cons 0 (.slice lA l.length lc) (.cons 3 (.int .i64 ((i : Int) + 1)) .nil))) (by repeat (first | exact Up.done | refine Up.then ?_ | refine Up.inBlock ?_)) rfl ?_
     exact ih3 (i + 1, x8, Hl1) ⟨(show (i + 1) ≤ l.length from (by omega)), (show Spec.upF 0 l = Spec.upF x8 (l.drop (i + 1)) from (by rw [hv, drop_at hx9, Spec.upF, if_neg (by have := hpv.1 (by omega); omega)])), (show ((i + 1) = 0 → x8 = 0) ∧ (0 < (i + 1) → l[(i + 1) - 1]? = some x8) from ⟨fun h => absurd h (by omega), fun _ => by rw [Nat.add_sub_cancel]; exact hx9⟩), (show Ext H Hl1 from hxl2)⟩ (by simp only; omega)
 ·
  rw [Bool.not_eq_true] at hc4; refine aw_condF hc4 rfl ?_
  try show aw _ _ _ _ _ _
  have hc4 := of_decide_eq_false hc4
  refine aw_exit ?_
  try show aw _ _ _ _ _ _
  refine aw_seq ?_
  refine aw_reg ?_
  refine st_op (ev_move rfl) rfl rfl rfl ?_
  refine st_op (ev_lenSl rfl Try.underlying42) rfl rfl rfl ?_
  refine st_op (ev_int rfl rfl rfl) rfl rfl rfl ?_
  refine st_op (ev_assign rfl) rfl rfl rfl ?_
  try show aw _ _ _ _ _ _
  refine aw_ret ?_
  have hres : (Spec.mayC l) = (decide ((l.length : Int) > 0)) := by unfold Spec.mayC; rw [hv, List.drop_eq_nil_of_le (by omega)]; simp [Spec.upF]
  exact ⟨.bool (decide ((l.length : Int) > 0)), rfl, by first | (rw [hres]; done) | rw [← hres], hxl2⟩
theorem ref21_DecodeConf_spec (H : Heap) (s : ByteArray) (hs : s.size ≤ 1073741824) : ∃ v H', Spec Try.prog 50 [.string s] H v H' ∧ (∃ rA0 rc0, (v = .tuple #[.slice rA0 (((Spec.decC s).1).length) rc0, .bool ((Spec.decC s).2)]) ∧ (My H H' rA0 rc0 1 (((Spec.decC s).1).map i64c)) ∧ (Ext H H')) := by
 refine spec_go1 E0_ok 24 (f := 50) Try.func50 rfl rfl rfl ?_
 refine aw_seq ?_
 refine aw_reg ?_
 iterate 2 refine st_op (ev_assign rfl) rfl rfl rfl ?_
 try show aw _ _ _ _ _ _
 refine aw_seq ?_
 refine aw_reg ?_
 refine st_op (ev_assign rfl) rfl rfl rfl ?_
 try show aw _ _ _ _ _ _
 iterate 2 refine aw_seq ?_
 refine aw_reg ?_
 refine st_op (ev_assign rfl) rfl rfl rfl ?_
 try show aw _ _ _ _ _ _
 refine aw_block ?_
 have hm2 : My H H none 0 1 (([] : List Int).map i64c) := .nil
 refine aw_keep [0, 4, 5] (l' := (.cons 0 (.string s) (.cons 4 (.slice none 0 0) (.cons 5 (.int .i64 0) .nil)))) (by repeat (first | exact Up.done | refine Up.then ?_ | refine Up.inBlock ?_)) rfl ?_
 refine aw_iter (α := Nat × Option Addr × Nat × List Int × Heap) (fun a => s.size - a.1) (fun a => (.cons 0 (.string s) (.cons 4 (.slice a.2.1 a.2.2.2.1.length a.2.2.1) (.cons 5 (.int .i64 (a.1 : Int)) .nil)))) (fun a => a.2.2.2.2) (fun a => (a.1 ≤ s.size) ∧ (a.2.2.2.1 = (Spec.digits s).take a.1) ∧ (My H a.2.2.2.2 a.2.1 a.2.2.1 1 (a.2.2.2.1.map i64c)) ∧ (Ext H a.2.2.2.2)) (0, none, 0, ([] : List Int), H) ⟨(show 0 ≤ s.size from Nat.zero_le _), (show ([] : List Int) = (Spec.digits s).take 0 from rfl), (show My H H none 0 1 (([] : List Int).map i64c) from hm2), (show Ext H H from (Ext.refl H))⟩ ?_
 rintro ⟨i, A, cp, l, Hl1⟩ ⟨hi, hl, hm3, hxl4⟩ ih5
 replace hi : i ≤ s.size := hi
 replace hl : l = (Spec.digits s).take i := hl
 replace hm3 : My H Hl1 A cp 1 (l.map i64c) := hm3
 replace hxl4 : Ext H Hl1 := hxl4
 show aw _ _ _ (RL _ (.cons 0 (.string s) (.cons 4 (.slice A l.length cp) (.cons 5 (.int .i64 (i : Int)) .nil)))) Hl1 _
 have Hl1n : H.next ≤ Hl1.next := hxl4.1
 have hll : l.length = i := by rw [hl, List.length_take, Spec.digits_len]; omega
 iterate 2 refine aw_seq ?_
 refine aw_reg ?_
 iterate 2 refine st_op (ev_move rfl) rfl rfl rfl ?_
 refine st_op (ev_lenStr rfl Try.underlying9) rfl rfl rfl ?_
 refine st_op (ev_int rfl rfl rfl) rfl rfl rfl ?_
 try show aw _ _ _ _ _ _
 by_cases hc6 : (decide ((i : Int) < ((s).size : Int))) = true
 ·
  refine aw_condT hc6 rfl ?_
  try show aw _ _ _ _ _ _
  have hc6 := of_decide_eq_true hc6
  refine aw_skip ?_
  try show aw _ _ _ _ _ _
  refine aw_seq ?_
  refine aw_block ?_
  refine aw_reg ?_
  iterate 3 refine st_op (ev_move rfl) rfl rfl rfl ?_
  obtain ⟨y7, hy8⟩ : ∃ y, (s).data.toList[i]? = some y := ⟨_, List.getElem?_eq_getElem (by simp; omega)⟩
  have y7t := y7.toNat_lt
  refine st_op (ev_ixStr Try.underlying9 rfl rfl (ba_get hy8)) rfl rfl rfl ?_
  refine st_op (ev_convI Try.underlying5 Try.underlying3 rfl (wrI64 (by omega) (by omega))) rfl rfl rfl ?_
  refine st_op (ev_int64 (c := (y7.toNat : Int) - 48) rfl rfl rfl (by omega) (by omega)) rfl rfl rfl ?_
  obtain ⟨b9, H10, he11, b9e, H10n_, hm13, f12⟩ := mem_lit Hl1 (xs := ([.int .i64 ((y7.toNat : Int) - 48)] : List Value)) (m := 1) (rows := [[.int .i64 ((y7.toNat : Int) - 48)]]) rfl eok42 (by decide) (by decide) zf3 rfl (allLen rfl) rfl
  replace hm13 : My Hl1 H10 (some ⟨b9, 0, none⟩) 1 1 ([(y7.toNat : Int) - 48].map i64c) := hm13
  refine st_op (he11 _ _ _ _ _ _ _ _ rfl) rfl rfl rfl ?_
  have hx14 : Ext Hl1 H10 := Ext.new (by omega) H10n_ f12
  have H10n : Hl1.next ≤ H10.next := hx14.1
  have h15 := My.ext hm3 hx14
  obtain ⟨A16, c17, H18, W19, he20, hm21, hf22⟩ := mem_append (f := i64c) (old := l) (new := [(y7.toNat : Int) - 48]) (m := l.length) (mx := 1) (c := cp) (by first | rfl | simp) (by first | rfl | simp) eok42 (by decide) hm3 h15 (by omega) (((My.row hm13)).srcF (by decide) (by first | rfl | simp)) rfl i64c_len i64c_one (by first | omega | (simp only [List.length_append, List.length_cons, List.length_nil, List.length_map, List.length_set, List.length_replicate, Spec.bytesOf_length]; omega) | (simp; omega)) (by first | omega | (simp only [List.length_append, List.length_cons, List.length_nil, List.length_map, List.length_set, List.length_replicate, Spec.bytesOf_length]; omega) | (simp; omega))
  refine st_op (he20 _ _ _ _ _ _ _ _ _ _ rfl rfl isrow42) rfl rfl rfl ?_
  have H18n : H10.next ≤ H18.next := hf22.1
  refine st_op (ev_assign rfl) rfl rfl rfl ?_
  try show aw _ _ _ _ _ _
  refine aw_reg ?_
  refine st_op (ev_move rfl) rfl rfl rfl ?_
  refine st_op (ev_int64 (c := (i : Int) + 1) rfl rfl rfl (by omega) (by omega)) rfl rfl rfl ?_
  refine st_op (ev_assign rfl) rfl rfl rfl ?_
  try show aw _ _ _ _ _ _
  have hx23 : Ext H H18 := (Ext.then (Ext.trans hxl4 hx14) hf22 (fun q hq e => by omega))
  refine aw_keep [0, 4, 5] (l' := (.cons 0 (.string s) (.cons 4 (.slice A16 ((l ++ [(y7.toNat : Int) - 48]).length) c17) (.cons 5 (.int .i64 ((i : Int) + 1)) .nil)))) (by repeat (first | exact Up.done | refine Up.then ?_ | refine Up.inBlock ?_)) rfl ?_
  exact ih5 (i + 1, A16, c17, (l ++ [(y7.toNat : Int) - 48]), H18) ⟨(show (i + 1) ≤ s.size from (by omega)), (show (l ++ [(y7.toNat : Int) - 48]) = (Spec.digits s).take (i + 1) from (by rw [List.take_add_one, ← hl, Spec.digits_at hy8]; rfl)), (show My H H18 A16 c17 1 ((l ++ [(y7.toNat : Int) - 48]).map i64c) from hm21), (show Ext H H18 from hx23)⟩ (by simp only; omega)
 ·
  rw [Bool.not_eq_true] at hc6; refine aw_condF hc6 rfl ?_
  try show aw _ _ _ _ _ _
  have hc6 := of_decide_eq_false hc6
  refine aw_exit ?_
  try show aw _ _ _ _ _ _
  iterate 2 refine aw_seq ?_
  refine aw_reg ?_
  refine st_op (ev_move rfl) rfl rfl rfl ?_
  refine st_call rfl rfl rfl ent51 rfl rfl rfl ?_
  obtain ⟨_, H25, hs24, hs24v, hx26⟩ := ref21_MayConf_spec Hl1 A l cp (My.row hm3) (My.capF hm3 (by omega)) (by omega)
  rw [hs24v] at hs24; clear hs24v
  refine ⟨_, H25, hs24, ?_⟩
  have H25n : Hl1.next ≤ H25.next := hx26.1
  refine st_op (ev_not rfl) rfl rfl rfl ?_
  try show aw _ _ _ _ _ _
  by_cases hc27 : (!(Spec.mayC l)) = true
  ·
   refine aw_condT hc27 rfl ?_
   try show aw _ _ _ _ _ _
   replace hc27 : (Spec.mayC l) = false := by rw [Bool.not_eq_true'] at hc27; exact hc27
   refine aw_seq ?_
   refine aw_reg ?_
   iterate 2 refine st_op (ev_assign rfl) rfl rfl rfl ?_
   try show aw _ _ _ _ _ _
   refine aw_ret ?_
   have hm28 : My H25 H25 none 0 1 (([] : List Int).map i64c) := .nil
   have hx29 : Ext H H25 := (Ext.trans hxl4 hx26)
   have hres : (Spec.decC s) = (([] : List Int), false) := by (have hd : l = Spec.digits s := by rw [hl, List.take_of_length_le (by rw [Spec.digits_len]; omega)]); unfold Spec.decC; rw [← hd]; first | (rw [if_pos (by assumption)]; done) | (rw [if_neg (fun h => Bool.noConfusion (h.symm.trans (show _ = false by assumption)))]; done)
   exact ⟨.tuple #[.slice none 0 0, .bool false], rfl, none, 0, by first | (rw [hres]; first | done | rfl | simp; done) | rfl, (by rw [hres]; exact (My.older hm28 (by omega))), hx29⟩
  ·
   rw [Bool.not_eq_true] at hc27; refine aw_condF hc27 rfl ?_
   try show aw _ _ _ _ _ _
   replace hc27 : (Spec.mayC l) = true := by rw [Bool.not_eq_false'] at hc27; exact hc27
   refine aw_skip ?_
   try show aw _ _ _ _ _ _
   refine aw_seq ?_
   refine aw_reg ?_
   refine st_op (ev_move rfl) rfl rfl rfl ?_
   iterate 2 refine st_op (ev_assign rfl) rfl rfl rfl ?_
   try show aw _ _ _ _ _ _
   refine aw_ret ?_
   have h30 := My.ext hm3 hx26
   have hx31 : Ext H H25 := (Ext.trans hxl4 hx26)
   have hres : (Spec.decC s) = (l, true) := by (have hd : l = Spec.digits s := by rw [hl, List.take_of_length_le (by rw [Spec.digits_len]; omega)]); unfold Spec.decC; rw [← hd]; first | (rw [if_pos (by assumption)]; done) | (rw [if_neg (fun h => Bool.noConfusion (h.symm.trans (show _ = false by assumption)))]; done)
   exact ⟨.tuple #[.slice A l.length cp, .bool true], rfl, A, cp, by first | (rw [hres]; first | done | rfl | simp; done) | rfl, (by rw [hres]; exact h30), hx31⟩
theorem rlog_Put_spec (H : Heap) (x : Int) (hx : 0 ≤ x ∧ x ≤ 2199023255552) (tm : Int) (cf : ByteArray) (hcf : cf.size ≤ 1073741824) (dt : ByteArray) (lA : Option Addr) (l : List Entry) (lc : Nat) (hl : Row H lA lc 4 (l.map Entry.cells)) (cl : l.length ≤ lc) (ll : l.length ≤ 200) (g : Nat) (hg : g < H.next) (Bg : H.blk g = some ⟨[.int .i64 x, .int .i64 tm, .string cf, .string dt, .slice lA l.length lc], 0, false, false⟩) (uk : Spec.LogOk x tm l) (usA : Option Addr) (us : List Entry) (usc : Nat) (hus : Row H usA usc 4 (us.map Entry.cells)) (cus : us.length ≤ usc) (lus : us.length ≤ 1048576) (bus : Spec.Ents us) : ∃ v H', Spec Try.prog 15 [.pointer (some ⟨g, 0, none⟩), .slice usA us.length usc] H v H' ∧ (∃ rA2 rc2, (v = .tuple #[.int .i64 ((Spec.putF x tm l us).1), .bool ((Spec.putF x tm l us).2.1)]) ∧ (Row H' rA2 rc2 4 (((Spec.putF x tm l us).2.2).map Entry.cells)) ∧ (((Spec.putF x tm l us).2.2).length ≤ rc2) ∧ (H'.blk g = some ⟨[.int .i64 x, .int .i64 tm, .string cf, .string dt, .slice rA2 (((Spec.putF x tm l us).2.2).length) rc2], 0, false, false⟩) ∧ (Spec.LogOk x tm (Spec.putF x tm l us).2.2) ∧ ((Spec.putF x tm l us).2.2.length ≤ 200) ∧ ((((Spec.putF x tm l us).2.2.length : Nat) : Int) ≤ (l.length : Int) + (us.length : Int)) ∧ (Fr (fun q => q = g) H H')) := by
 refine spec_go2 E0_ok 110 (f := 15) Try.func15 rfl rfl rfl ?_
 refine aw_seq ?_
 refine aw_reg ?_
 iterate 2 refine st_op (ev_assign rfl) rfl rfl rfl ?_
 try show aw _ _ _ _ _ _
 iterate 2 refine aw_seq ?_
 refine aw_reg ?_
 refine st_op (ev_move rfl) rfl rfl rfl ?_
 refine st_op (ev_nilEq rfl rfl Try.underlying28) rfl rfl rfl ?_
 try show aw _ _ _ _ _ _
 refine aw_cond (t := false) rfl ?_
 try show aw _ _ _ _ _ _
 refine aw_skip ?_
 try show aw _ _ _ _ _ _
 iterate 2 refine aw_seq ?_
 refine aw_reg ?_
 refine st_op (ev_move rfl) rfl rfl rfl ?_
 refine st_op (ev_lenSl rfl Try.underlying24) rfl rfl rfl ?_
 refine st_op (ev_int rfl rfl rfl) rfl rfl rfl ?_
 try show aw _ _ _ _ _ _
 by_cases hc1 : ((us.length : Int) == 0) = true
 ·
  refine aw_condT hc1 rfl ?_
  try show aw _ _ _ _ _ _
  have hc1 := eq_of_beq hc1
  refine aw_seq ?_
  refine aw_reg ?_
  iterate 2 refine st_op (ev_assign rfl) rfl rfl rfl ?_
  try show aw _ _ _ _ _ _
  refine aw_ret ?_
  have hres : (Spec.putF x tm l us) = (0, true, l) := by (obtain rfl : us = [] := List.eq_nil_of_length_eq_zero (by omega)); rfl
  exact ⟨.tuple #[.int .i64 0, .bool true], rfl, lA, lc, by first | (rw [hres]; first | done | rfl | simp; done) | rfl, (by rw [hres]; exact hl), (by rw [hres]; exact cl), (by rw [hres]; exact Bg), (by exact Spec.put_ok uk bus), (by exact Spec.put_len uk bus), (by exact Spec.put_last), (Fr.refl (fun q => q = g) H)⟩
 ·
  rw [Bool.not_eq_true] at hc1; refine aw_condF hc1 rfl ?_
  try show aw _ _ _ _ _ _
  have hc1 := ne_of_beq_false hc1
  refine aw_skip ?_
  try show aw _ _ _ _ _ _
  iterate 2 refine aw_seq ?_
  refine aw_marks (fun b => b < H.next) [(false, false), (false, false), (false, false), (true, false), (false, false), (false, true), (false, false), (false, false), (false, false), (false, false), (false, false), (false, false), (false, false), (false, false), (false, false), (false, false), (false, false), (false, false), (false, false), (false, false), (false, false), (false, false)] mixed (by kernel_rfl) (by kernel_rfl) ?_
  refine sm_op (ev_move rfl) rfl rfl rfl ?_
  have hi2 : 0 ≤ (0 : Int) := by omega
  have hi3 : (0 : Int) < ((us.length : Nat) : Int) := by omega
  obtain ⟨x4, hx5⟩ : ∃ e, us[0]? = some e := ⟨_, List.getElem?_eq_getElem (by omega)⟩
  refine sm_op (ev_at rfl rfl hus (getMap Entry.cells hx5) (by first | rfl | omega | simp) hi2 hi3 el24) rfl rfl rfl ?_
  refine sm_op (ev_atF rfl hus (getMap Entry.cells hx5) fa37_0 rfl) rfl rfl rfl ?_
  refine sm_read (ev_atL rfl hus (getMap Entry.cells hx5) one2 rfl) rfl rfl rfl (fun q hq => Nat.lt_of_lt_of_le (rd_at rfl rfl hus (getMap Entry.cells hx5) hq) (by omega)) ?_
  refine sm_op (ev_move rfl) rfl rfl rfl ?_
  refine sm_call rfl rfl rfl ent16 rfl rfl rfl ?_
  obtain ⟨_, H7, hs6, hs6v, hx8⟩ := rlog_Last_spec H x ⟨by omega, by omega⟩ tm cf (by omega) dt lA l lc hl cl (by omega) g (by omega) Bg (by assumption)
  rw [hs6v] at hs6; clear hs6v
  refine ⟨_, H7, hs6, (fun _ b hb => hx8.2 b (by omega)), ?_⟩
  have H7n : H.next ≤ H7.next := hx8.1
  refine sm_op (ev_int64 (c := (x + (l.length : Int)) + 1) rfl rfl rfl (by omega) (by omega)) rfl rfl rfl ?_
  refine sm_op (ev_int rfl rfl rfl) rfl rfl rfl ?_
  refine sm_op (ev_move rfl) rfl rfl rfl ?_
  refine sm_bool 23 rfl (fun hb9 => ?_) (fun hb9 => ?_)
  ·
   have hb9 := of_decide_eq_true hb9
   iterate 12 refine sm_skip rfl rfl rfl ?_
   refine sm_op (ev_pickT rfl rfl) rfl rfl rfl ?_
   try show aw _ _ _ _ _ _
   refine aw_cond (t := true) rfl ?_
   try show aw _ _ _ _ _ _
   refine aw_seq ?_
   refine aw_reg ?_
   iterate 2 refine st_op (ev_assign rfl) rfl rfl rfl ?_
   try show aw _ _ _ _ _ _
   refine aw_ret ?_
   have h10 := Row.ext hl hx8
   have h11 := Ext.blk hx8 (by omega) Bg
   have hres : (Spec.putF x tm l us) = (0, false, l) := by exact Spec.put_bad hx5 (by first | exact .inl (by omega) | exact .inr (by assumption))
   exact ⟨.tuple #[.int .i64 0, .bool false], rfl, lA, lc, by first | (rw [hres]; first | done | rfl | simp; done) | rfl, (by rw [hres]; exact h10), (by rw [hres]; exact cl), (by rw [hres]; exact h11), (by exact Spec.put_ok uk bus), (by exact Spec.put_len uk bus), (by exact Spec.put_last), (Fr.trans (Fr.refl (fun q => q = g) H) (hx8.fr fun _ => False) (fun q hq (e : False) => e.elim))⟩
  ·
   have hb9 := of_decide_eq_false hb9
   refine sm_op (ev_move rfl) rfl rfl rfl ?_
   have h12 := Row.ext hus hx8
   have hi13 : 0 ≤ (0 : Int) := by omega
   have hi14 : (0 : Int) < ((us.length : Nat) : Int) := by omega
   refine sm_op (ev_at rfl rfl h12 (getMap Entry.cells hx5) (by first | rfl | omega | simp) hi13 hi14 el24) rfl rfl rfl ?_
   refine sm_op (ev_atF rfl h12 (getMap Entry.cells hx5) fa37_0 rfl) rfl rfl rfl ?_
   refine sm_op (ev_atL rfl h12 (getMap Entry.cells hx5) one2 rfl) rfl rfl rfl ?_
   refine sm_op (ev_int rfl rfl rfl) rfl rfl rfl ?_
   refine sm_op (ev_move rfl) rfl rfl rfl ?_
   have hi15 : 0 ≤ (0 : Int) := by omega
   have hi16 : (0 : Int) < ((us.length : Nat) : Int) := by omega
   refine sm_op (ev_at rfl rfl h12 (getMap Entry.cells hx5) (by first | rfl | omega | simp) hi15 hi16 el24) rfl rfl rfl ?_
   refine sm_op (ev_atF rfl h12 (getMap Entry.cells hx5) fa37_1 rfl) rfl rfl rfl ?_
   refine sm_op (ev_atL rfl h12 (getMap Entry.cells hx5) one2 rfl) rfl rfl rfl ?_
   refine sm_op (ev_move rfl) rfl rfl rfl ?_
   refine sm_call rfl rfl rfl ent35 rfl rfl rfl ?_
   obtain ⟨_, H18, hs17, hs17v, hx19⟩ := rlog_row_spec H7 (IntKind.i64.wrap (x4.index - 1)) x4.term usA us usc h12 cus (by omega)
   rw [hs17v] at hs17; clear hs17v
   refine ⟨_, H18, hs17, (fun _ b hb => hx19.2 b (by omega)), ?_⟩
   have H18n : H7.next ≤ H18.next := hx19.1
   refine sm_op (ev_not rfl) rfl rfl rfl ?_
   refine sm_op (ev_pickF rfl rfl) rfl rfl rfl ?_
   try show aw _ _ _ _ _ _
   by_cases hc20 : (!(Spec.logRow (IntKind.i64.wrap (x4.index - 1)) x4.term us)) = true
   ·
    refine aw_condT hc20 rfl ?_
    try show aw _ _ _ _ _ _
    replace hc20 : (Spec.logRow (IntKind.i64.wrap (x4.index - 1)) x4.term us) = false := by rw [Bool.not_eq_true'] at hc20; exact hc20
    refine aw_seq ?_
    refine aw_reg ?_
    iterate 2 refine st_op (ev_assign rfl) rfl rfl rfl ?_
    try show aw _ _ _ _ _ _
    refine aw_ret ?_
    have hx22 : Ext H H18 := (Ext.trans hx8 hx19)
    have h21 := Row.ext hl hx22
    have h23 := Ext.blk hx22 (by omega) Bg
    have hres : (Spec.putF x tm l us) = (0, false, l) := by exact Spec.put_bad hx5 (by first | exact .inl (by omega) | exact .inr (by assumption))
    exact ⟨.tuple #[.int .i64 0, .bool false], rfl, lA, lc, by first | (rw [hres]; first | done | rfl | simp; done) | rfl, (by rw [hres]; exact h21), (by rw [hres]; exact cl), (by rw [hres]; exact h23), (by exact Spec.put_ok uk bus), (by exact Spec.put_len uk bus), (by exact Spec.put_last), (Fr.trans (Fr.trans (Fr.refl (fun q => q = g) H) (hx8.fr fun _ => False) (fun q hq (e : False) => e.elim)) (hx19.fr fun _ => False) (fun q hq (e : False) => e.elim))⟩
   ·
    rw [Bool.not_eq_true] at hc20; refine aw_condF hc20 rfl ?_
    try show aw _ _ _ _ _ _
    replace hc20 : (Spec.logRow (IntKind.i64.wrap (x4.index - 1)) x4.term us) = true := by rw [Bool.not_eq_false'] at hc20; exact hc20
    refine aw_skip ?_
    try show aw _ _ _ _ _ _
    refine aw_seq ?_
    refine aw_block ?_
    have hrok : Spec.logRow (IntKind.i64.wrap (x4.index - 1)) x4.term us = true := by assumption
    have h27 := Row.ext h12 hx19
    refine aw_keep [0, 1] (l' := (.cons 0 (.pointer (some ⟨g, 0, none⟩)) (.cons 1 (.slice usA us.length usc) .nil))) (by repeat (first | exact Up.done | refine Up.then ?_ | refine Up.inBlock ?_)) rfl ?_
    refine aw_iter (α := Option Addr × Nat × List Entry × Heap) (fun a => a.2.2.1.length) (fun a => (.cons 0 (.pointer (some ⟨g, 0, none⟩)) (.cons 1 (.slice a.1 a.2.2.1.length a.2.1) .nil))) (fun a => a.2.2.2) (fun a => (us.dropWhile (Spec.stays x tm l) = a.2.2.1.dropWhile (Spec.stays x tm l)) ∧ (a.2.2.1.length ≤ us.length) ∧ (Spec.conseq a.2.2.1) ∧ (Spec.Ents a.2.2.1) ∧ (∀ u, a.2.2.1[0]? = some u → u.index ≤ x + l.length + 1) ∧ (Row a.2.2.2 a.1 a.2.1 4 (a.2.2.1.map Entry.cells)) ∧ (a.2.2.1.length ≤ a.2.1) ∧ (Ext H18 a.2.2.2)) (usA, usc, us, H18) ⟨(show us.dropWhile (Spec.stays x tm l) = us.dropWhile (Spec.stays x tm l) from rfl), (show us.length ≤ us.length from (Nat.le_refl _)), (show Spec.conseq us from (Spec.row_conseq hrok)), (show Spec.Ents us from bus), (show ∀ u, us[0]? = some u → u.index ≤ x + l.length + 1 from (fun u hu => by rw [hx5] at hu; cases hu; omega)), (show Row H18 usA usc 4 (us.map Entry.cells) from h27), (show us.length ≤ usc from cus), (show Ext H18 H18 from (Ext.refl H18))⟩ ?_
    rintro ⟨As, cs, L, Hl24⟩ ⟨hv, hll, hcq, hwL, hK, hr25, hr26, hxl28⟩ ih29
    replace hv : us.dropWhile (Spec.stays x tm l) = L.dropWhile (Spec.stays x tm l) := hv
    replace hll : L.length ≤ us.length := hll
    replace hcq : Spec.conseq L := hcq
    replace hwL : Spec.Ents L := hwL
    replace hK : ∀ u, L[0]? = some u → u.index ≤ x + l.length + 1 := hK
    replace hr25 : Row Hl24 As cs 4 (L.map Entry.cells) := hr25
    replace hr26 : L.length ≤ cs := hr26
    replace hxl28 : Ext H18 Hl24 := hxl28
    show aw _ _ _ (RL _ (.cons 0 (.pointer (some ⟨g, 0, none⟩)) (.cons 1 (.slice As L.length cs) .nil))) Hl24 _
    have Hl24n : H18.next ≤ Hl24.next := hxl28.1
    iterate 2 refine aw_seq ?_
    refine aw_marks (fun b => b < Hl24.next) [(false, false), (false, false), (false, false), (false, false), (false, false), (false, false), (false, false), (false, false), (false, false), (false, false), (false, false), (false, false), (false, false), (false, false), (false, false), (false, false), (false, false), (false, false), (false, false), (false, false), (false, false), (false, false), (false, false), (false, false), (false, false), (false, false), (false, false)] mixed (by kernel_rfl) (by kernel_rfl) ?_
    refine sm_op (ev_move rfl) rfl rfl rfl ?_
    refine sm_op (ev_lenSl rfl Try.underlying24) rfl rfl rfl ?_
    refine sm_op (ev_int rfl rfl rfl) rfl rfl rfl ?_
    refine sm_op (ev_move rfl) rfl rfl rfl ?_
    refine sm_bool 40 rfl (fun hb30 => ?_) (fun hb30 => ?_)
    ·
     have hb30 := of_decide_eq_true hb30
     refine sm_op (ev_move rfl) rfl rfl rfl ?_
     have hi31 : 0 ≤ (0 : Int) := by omega
     have hi32 : (0 : Int) < ((L.length : Nat) : Int) := by omega
     obtain ⟨x33, hx34⟩ : ∃ e, L[0]? = some e := ⟨_, List.getElem?_eq_getElem (by omega)⟩
     have x33w := hwL _ (List.mem_of_getElem? hx34); have x33d := x33w.2; replace x33w := x33w.1
     have x33k := hK _ hx34
     refine sm_op (ev_at rfl rfl hr25 (getMap Entry.cells hx34) (by first | rfl | omega | simp) hi31 hi32 el24) rfl rfl rfl ?_
     refine sm_op (ev_atF rfl hr25 (getMap Entry.cells hx34) fa37_0 rfl) rfl rfl rfl ?_
     refine sm_op (ev_atL rfl hr25 (getMap Entry.cells hx34) one2 rfl) rfl rfl rfl ?_
     refine sm_op (ev_move rfl) rfl rfl rfl ?_
     refine sm_op (ev_nilCheck rfl) rfl rfl rfl ?_
     refine sm_op (ev_fieldAddr rfl fa67_0 (o' := 0) rfl) rfl rfl rfl ?_
     refine sm_op (ev_fieldAddr rfl fa23_0 (o' := 0) rfl) rfl rfl rfl ?_
     have hx36 : Ext H Hl24 := (Ext.trans (Ext.trans hx8 hx19) hxl28)
     have h35 := Ext.blk hx36 (by omega) Bg
     refine sm_op (ev_load rfl (lvar_one one2 h35 rfl)) rfl rfl rfl ?_
     refine sm_op (ev_int rfl rfl rfl) rfl rfl rfl ?_
     refine sm_op (ev_move rfl) rfl rfl rfl ?_
     refine sm_bool 51 rfl (fun hb37 => ?_) (fun hb37 => ?_)
     ·
      have hb37 := of_decide_eq_true hb37
      iterate 10 refine sm_skip rfl rfl rfl ?_
      iterate 2 refine sm_op (ev_pickT rfl rfl) rfl rfl rfl ?_
      try show aw _ _ _ _ _ _
      refine aw_cond (t := true) rfl ?_
      try show aw _ _ _ _ _ _
      refine aw_skip ?_
      try show aw _ _ _ _ _ _
      refine aw_block ?_
      refine aw_reg ?_
      refine st_op (ev_move rfl) rfl rfl rfl ?_
      obtain ⟨A38, c39, L40, hL41, hl42, hs43, hr44, hc45⟩ := sliceA_typed Entry.cells el24 (by decide) hr25 hr26 (lo := some (.int .i64 1)) (hi := none) (l := 1) (h := L.length) rfl (bound_int (by omega) (by omega) (by first | rfl | omega)) (by omega) (by omega)
      refine st_op (ev_slice rfl rfl rfl rfl hs43) rfl rfl rfl ?_
      refine st_op (ev_assign rfl) rfl rfl rfl ?_
      try show aw _ _ _ _ _ _
      have hLc : L = x33 :: L40 := by have h0 := Spec.head_drop hx34; rw [hL41, List.take_of_length_le (by simp)]; exact h0
      have hst : Spec.stays x tm l x33 = true := by simp only [Spec.stays, Bool.or_eq_true, decide_eq_true_eq]; first | exact .inl (by omega) | exact .inr (by assumption)
      refine aw_keep [0, 1] (l' := (.cons 0 (.pointer (some ⟨g, 0, none⟩)) (.cons 1 (.slice A38 L40.length c39) .nil))) (by repeat (first | exact Up.done | refine Up.then ?_ | refine Up.inBlock ?_)) rfl ?_
      exact ih29 (A38, c39, L40, Hl24) ⟨(show us.dropWhile (Spec.stays x tm l) = L40.dropWhile (Spec.stays x tm l) from (by rw [hv, hLc, List.dropWhile_cons_of_pos hst])), (show L40.length ≤ us.length from (by omega)), (show Spec.conseq L40 from (Spec.conseq_tail (hLc ▸ hcq))), (show Spec.Ents L40 from (fun u hu => hwL u (by rw [hLc]; exact List.mem_cons_of_mem _ hu))), (show ∀ u, L40[0]? = some u → u.index ≤ x + l.length + 1 from (Spec.next_le (m := x + l.length) (hLc ▸ hcq) x33w.1 (by first | omega | exact Spec.fits_le (by assumption)) (by omega))), (show Row Hl24 A38 c39 4 (L40.map Entry.cells) from hr44), (show L40.length ≤ c39 from hc45), (show Ext H18 Hl24 from hxl28)⟩ (by simp only; omega)
     ·
      have hb37 := of_decide_eq_false hb37
      iterate 2 refine sm_op (ev_move rfl) rfl rfl rfl ?_
      have hi46 : 0 ≤ (0 : Int) := by omega
      have hi47 : (0 : Int) < ((L.length : Nat) : Int) := by omega
      refine sm_op (ev_at rfl rfl hr25 (getMap Entry.cells hx34) (by first | rfl | omega | simp) hi46 hi47 el24) rfl rfl rfl ?_
      refine sm_op (ev_atF rfl hr25 (getMap Entry.cells hx34) fa37_0 rfl) rfl rfl rfl ?_
      refine sm_op (ev_atL rfl hr25 (getMap Entry.cells hx34) one2 rfl) rfl rfl rfl ?_
      refine sm_op (ev_move rfl) rfl rfl rfl ?_
      have hi48 : 0 ≤ (0 : Int) := by omega
      have hi49 : (0 : Int) < ((L.length : Nat) : Int) := by omega
      refine sm_op (ev_at rfl rfl hr25 (getMap Entry.cells hx34) (by first | rfl | omega | simp) hi48 hi49 el24) rfl rfl rfl ?_
      refine sm_op (ev_atF rfl hr25 (getMap Entry.cells hx34) fa37_1 rfl) rfl rfl rfl ?_
      refine sm_op (ev_atL rfl hr25 (getMap Entry.cells hx34) one2 rfl) rfl rfl rfl ?_
      refine sm_call rfl rfl rfl ent27 rfl rfl rfl ?_
      have h50 := Row.ext hl hx36
      obtain ⟨_, H52, hs51, hs51v, hx53⟩ := rlog_Fits_spec Hl24 x ⟨by omega, by omega⟩ tm cf (by omega) dt lA l lc h50 cl (by omega) g (by omega) h35 (by assumption) x33.index x33.term
      rw [hs51v] at hs51; clear hs51v
      refine ⟨_, H52, hs51, (fun _ b hb => hx53.2 b (by omega)), ?_⟩
      have H52n : Hl24.next ≤ H52.next := hx53.1
      refine sm_op (ev_pickF rfl rfl) rfl rfl rfl ?_
      refine sm_op (ev_pickT rfl rfl) rfl rfl rfl ?_
      try show aw _ _ _ _ _ _
      by_cases hc54 : (Spec.fitsF x tm l x33.index x33.term) = true
      ·
       refine aw_condT hc54 rfl ?_
       try show aw _ _ _ _ _ _
       have hc54m := Spec.fits_le hc54
       refine aw_skip ?_
       try show aw _ _ _ _ _ _
       refine aw_block ?_
       refine aw_reg ?_
       refine st_op (ev_move rfl) rfl rfl rfl ?_
       have h63 := Row.ext hr25 hx53
       obtain ⟨A55, c56, L57, hL58, hl59, hs60, hr61, hc62⟩ := sliceA_typed Entry.cells el24 (by decide) h63 hr26 (lo := some (.int .i64 1)) (hi := none) (l := 1) (h := L.length) rfl (bound_int (by omega) (by omega) (by first | rfl | omega)) (by omega) (by omega)
       refine st_op (ev_slice rfl rfl rfl rfl hs60) rfl rfl rfl ?_
       refine st_op (ev_assign rfl) rfl rfl rfl ?_
       try show aw _ _ _ _ _ _
       have hLc : L = x33 :: L57 := by have h0 := Spec.head_drop hx34; rw [hL58, List.take_of_length_le (by simp)]; exact h0
       have hst : Spec.stays x tm l x33 = true := by simp only [Spec.stays, Bool.or_eq_true, decide_eq_true_eq]; first | exact .inl (by omega) | exact .inr (by assumption)
       have hx64 : Ext H18 H52 := (Ext.trans hxl28 hx53)
       refine aw_keep [0, 1] (l' := (.cons 0 (.pointer (some ⟨g, 0, none⟩)) (.cons 1 (.slice A55 L57.length c56) .nil))) (by repeat (first | exact Up.done | refine Up.then ?_ | refine Up.inBlock ?_)) rfl ?_
       exact ih29 (A55, c56, L57, H52) ⟨(show us.dropWhile (Spec.stays x tm l) = L57.dropWhile (Spec.stays x tm l) from (by rw [hv, hLc, List.dropWhile_cons_of_pos hst])), (show L57.length ≤ us.length from (by omega)), (show Spec.conseq L57 from (Spec.conseq_tail (hLc ▸ hcq))), (show Spec.Ents L57 from (fun u hu => hwL u (by rw [hLc]; exact List.mem_cons_of_mem _ hu))), (show ∀ u, L57[0]? = some u → u.index ≤ x + l.length + 1 from (Spec.next_le (m := x + l.length) (hLc ▸ hcq) x33w.1 (by first | omega | exact Spec.fits_le (by assumption)) (by omega))), (show Row H52 A55 c56 4 (L57.map Entry.cells) from hr61), (show L57.length ≤ c56 from hc62), (show Ext H18 H52 from hx64)⟩ (by simp only; omega)
      ·
       rw [Bool.not_eq_true] at hc54; refine aw_condF hc54 rfl ?_
       try show aw _ _ _ _ _ _
       refine aw_exit ?_
       try show aw _ _ _ _ _ _
       iterate 2 refine aw_seq ?_
       refine aw_reg ?_
       refine st_op (ev_move rfl) rfl rfl rfl ?_
       refine st_op (ev_lenSl rfl Try.underlying24) rfl rfl rfl ?_
       refine st_op (ev_int rfl rfl rfl) rfl rfl rfl ?_
       try show aw _ _ _ _ _ _
       by_cases hc65 : ((L.length : Int) == 0) = true
       ·
        refine aw_condT hc65 rfl ?_
        try show aw _ _ _ _ _ _
        have hc65 := eq_of_beq hc65
        exfalso; omega
       ·
        rw [Bool.not_eq_true] at hc65; refine aw_condF hc65 rfl ?_
        try show aw _ _ _ _ _ _
        have hc65 := ne_of_beq_false hc65
        refine aw_skip ?_
        try show aw _ _ _ _ _ _
        refine aw_seq ?_
        refine aw_reg ?_
        refine st_op (ev_move rfl) rfl rfl rfl ?_
        have h66 := Row.ext hr25 hx53
        have hi67 : 0 ≤ (0 : Int) := by omega
        have hi68 : (0 : Int) < ((L.length : Nat) : Int) := by omega
        refine st_op (ev_at rfl rfl h66 (getMap Entry.cells hx34) (by first | rfl | omega | simp) hi67 hi68 el24) rfl rfl rfl ?_
        refine st_op (ev_atF rfl h66 (getMap Entry.cells hx34) fa37_0 rfl) rfl rfl rfl ?_
        refine st_op (ev_atL rfl h66 (getMap Entry.cells hx34) one2 rfl) rfl rfl rfl ?_
        refine st_op (ev_assign rfl) rfl rfl rfl ?_
        try show aw _ _ _ _ _ _
        refine aw_seq ?_
        refine aw_reg ?_
        iterate 2 refine st_op (ev_move rfl) rfl rfl rfl ?_
        refine st_call rfl rfl rfl ent14 rfl rfl rfl ?_
        have h69 := Row.ext h50 hx53
        have h70 := Ext.blk hx53 (by omega) h35
        obtain ⟨_, H72, hs71, hs71v, hx73⟩ := rlog_First_spec H52 x ⟨by omega, by omega⟩ tm cf (by omega) dt lA l lc h69 cl (by omega) g (by omega) h70 (by assumption)
        rw [hs71v] at hs71; clear hs71v
        refine ⟨_, H72, hs71, ?_⟩
        have H72n : H52.next ≤ H72.next := hx73.1
        refine st_op (ev_int64 (c := x33.index - (x + 1)) rfl rfl rfl (by omega) (by omega)) rfl rfl rfl ?_
        refine st_op (ev_assign rfl) rfl rfl rfl ?_
        try show aw _ _ _ _ _ _
        iterate 2 refine aw_seq ?_
        refine aw_reg ?_
        iterate 2 refine st_op (ev_move rfl) rfl rfl rfl ?_
        refine st_op (ev_int64 (c := x33.index - 1) rfl rfl rfl (by omega) (by omega)) rfl rfl rfl ?_
        refine st_call rfl rfl rfl ent18 rfl rfl rfl ?_
        have h74 := Row.ext h69 hx73
        have h75 := Ext.blk hx73 (by omega) h70
        obtain ⟨_, H77, hs76, hs76v, hx78⟩ := rlog_Term_spec H72 x ⟨by omega, by omega⟩ tm cf (by omega) dt lA l lc h74 cl (by omega) g (by omega) h75 (by assumption) (x33.index - 1)
        rw [hs76v] at hs76; clear hs76v
        refine ⟨_, H77, hs76, ?_⟩
        have H77n : H72.next ≤ H77.next := hx78.1
        refine st_op (ev_move rfl) rfl rfl rfl ?_
        iterate 2 refine st_op (ev_extract rfl rfl) rfl rfl rfl ?_
        iterate 2 refine st_op (ev_assign rfl) rfl rfl rfl ?_
        try show aw _ _ _ _ _ _
        refine aw_seq ?_
        refine aw_reg ?_
        refine st_op (ev_move rfl) rfl rfl rfl ?_
        have hx80 : Ext H52 H77 := (Ext.trans hx73 hx78)
        have h79 := Row.ext h66 hx80
        have hi81 : 0 ≤ (0 : Int) := by omega
        have hi82 : (0 : Int) < ((L.length : Nat) : Int) := by omega
        refine st_op (ev_at rfl rfl h79 (getMap Entry.cells hx34) (by first | rfl | omega | simp) hi81 hi82 el24) rfl rfl rfl ?_
        refine st_op (ev_atF rfl h79 (getMap Entry.cells hx34) fa37_1 rfl) rfl rfl rfl ?_
        refine st_op (ev_atL rfl h79 (getMap Entry.cells hx34) one2 rfl) rfl rfl rfl ?_
        refine st_op (ev_move rfl) rfl rfl rfl ?_
        refine st_op (ev_int rfl rfl rfl) rfl rfl rfl ?_
        refine st_op (ev_move rfl) rfl rfl rfl ?_
        refine st_bool 90 rfl (fun hb83 => ?_) (fun hb83 => ?_)
        ·
         have hb83 := of_decide_eq_true hb83
         iterate 5 refine st_skip rfl rfl rfl ?_
         refine st_op (ev_pickT rfl rfl) rfl rfl rfl ?_
         try show aw _ _ _ _ _ _
         refine aw_cond (t := true) rfl ?_
         try show aw _ _ _ _ _ _
         refine aw_seq ?_
         refine aw_reg ?_
         iterate 2 refine st_op (ev_assign rfl) rfl rfl rfl ?_
         try show aw _ _ _ _ _ _
         refine aw_ret ?_
         have h84 := Row.ext h74 hx78
         have h85 := Ext.blk hx78 (by omega) h75
         have hres : (Spec.putF x tm l us) = (0, false, l) := by have hdw : us.dropWhile (Spec.stays x tm l) = x33 :: L.drop 1 := (by rw [hv]; exact Spec.dw_head hx34 (show Spec.stays x tm l x33 = false by simp only [Spec.stays, Bool.or_eq_false_iff, decide_eq_false_iff_not]; exact ⟨by omega, by assumption⟩)); have hll1 : (L.drop 1).length + 1 = L.length := (by rw [List.length_drop]; omega); exact Spec.put_full hx5 (by omega) hrok hdw (by omega)
         exact ⟨.tuple #[.int .i64 0, .bool false], rfl, lA, lc, by first | (rw [hres]; first | done | rfl | simp; done) | rfl, (by rw [hres]; exact h84), (by rw [hres]; exact cl), (by rw [hres]; exact h85), (by exact Spec.put_ok uk bus), (by exact Spec.put_len uk bus), (by exact Spec.put_last), (Fr.trans (Fr.trans (Fr.trans (Fr.trans (Fr.trans (Fr.trans (Fr.refl (fun q => q = g) H) (hx8.fr fun _ => False) (fun q hq (e : False) => e.elim)) (hx19.fr fun _ => False) (fun q hq (e : False) => e.elim)) (hxl28.fr fun _ => False) (fun q hq (e : False) => e.elim)) (hx53.fr fun _ => False) (fun q hq (e : False) => e.elim)) (hx73.fr fun _ => False) (fun q hq (e : False) => e.elim)) (hx78.fr fun _ => False) (fun q hq (e : False) => e.elim))⟩
        ·
         have hb83 := of_decide_eq_false hb83
         iterate 2 refine st_op (ev_move rfl) rfl rfl rfl ?_
         refine st_op (ev_lenSl rfl Try.underlying24) rfl rfl rfl ?_
         refine st_op (ev_int64 (c := (x33.index - (x + 1)) + (L.length : Int)) rfl rfl rfl (by omega) (by omega)) rfl rfl rfl ?_
         refine st_op (ev_int rfl rfl rfl) rfl rfl rfl ?_
         refine st_op (ev_pickF rfl rfl) rfl rfl rfl ?_
         try show aw _ _ _ _ _ _
         by_cases hc86 : (decide ((x33.index - (x + 1)) + (L.length : Int) > 200)) = true
         ·
          refine aw_condT hc86 rfl ?_
          try show aw _ _ _ _ _ _
          have hc86 := of_decide_eq_true hc86
          refine aw_seq ?_
          refine aw_reg ?_
          iterate 2 refine st_op (ev_assign rfl) rfl rfl rfl ?_
          try show aw _ _ _ _ _ _
          refine aw_ret ?_
          have h87 := Row.ext h74 hx78
          have h88 := Ext.blk hx78 (by omega) h75
          have hres : (Spec.putF x tm l us) = (0, false, l) := by have hdw : us.dropWhile (Spec.stays x tm l) = x33 :: L.drop 1 := (by rw [hv]; exact Spec.dw_head hx34 (show Spec.stays x tm l x33 = false by simp only [Spec.stays, Bool.or_eq_false_iff, decide_eq_false_iff_not]; exact ⟨by omega, by assumption⟩)); have hll1 : (L.drop 1).length + 1 = L.length := (by rw [List.length_drop]; omega); exact Spec.put_full hx5 (by omega) hrok hdw (by omega)
          exact ⟨.tuple #[.int .i64 0, .bool false], rfl, lA, lc, by first | (rw [hres]; first | done | rfl | simp; done) | rfl, (by rw [hres]; exact h87), (by rw [hres]; exact cl), (by rw [hres]; exact h88), (by exact Spec.put_ok uk bus), (by exact Spec.put_len uk bus), (by exact Spec.put_last), (Fr.trans (Fr.trans (Fr.trans (Fr.trans (Fr.trans (Fr.trans (Fr.refl (fun q => q = g) H) (hx8.fr fun _ => False) (fun q hq (e : False) => e.elim)) (hx19.fr fun _ => False) (fun q hq (e : False) => e.elim)) (hxl28.fr fun _ => False) (fun q hq (e : False) => e.elim)) (hx53.fr fun _ => False) (fun q hq (e : False) => e.elim)) (hx73.fr fun _ => False) (fun q hq (e : False) => e.elim)) (hx78.fr fun _ => False) (fun q hq (e : False) => e.elim))⟩
         ·
          rw [Bool.not_eq_true] at hc86; refine aw_condF hc86 rfl ?_
          try show aw _ _ _ _ _ _
          have hc86 := of_decide_eq_false hc86
          refine aw_skip ?_
          try show aw _ _ _ _ _ _
          refine aw_seq ?_
          refine aw_reg ?_
          iterate 2 refine st_op (ev_move rfl) rfl rfl rfl ?_
          refine st_op (ev_nilCheck rfl) rfl rfl rfl ?_
          refine st_op (ev_fieldAddr rfl fa67_1 (o' := 4) rfl) rfl rfl rfl ?_
          have h89 := Ext.blk hx78 (by omega) h75
          refine st_op (ev_load rfl (lvar_one one24 h89 rfl)) rfl rfl rfl ?_
          iterate 2 refine st_op (ev_move rfl) rfl rfl rfl ?_
          have h108 := Row.ext h74 hx78
          obtain ⟨A98, c99, L100, hL101, hl102, hs103, hr104, hc105, hO106, hA107⟩ := sliceA_cap Entry.cells el24 (by decide) h108 cl (k1 := .i64) (k2 := .i64) (i := x33.index - (x + 1)) (by omega) (by omega) (by omega)
          refine st_op (ev_slice rfl rfl rfl rfl hs103) rfl rfl rfl ?_
          refine st_op (ev_move rfl) rfl rfl rfl ?_
          obtain ⟨b109, H110, he111, hm112, hx113⟩ := mem_append_cap (f := Entry.cells) (old := L100) (new := L) (m := L100.length) (mx := L.length) (c := c99) rfl (by first | rfl | simp) eok24 (by decide) hr104 h79 (by omega) hO106 hc105 hA107 Entry.cells_len Entry.cells_one (by omega) (by omega)
          refine st_op (he111 _ _ _ _ _ _ _ _ _ _ rfl rfl isrow24) rfl rfl rfl ?_
          have H110n : H77.next ≤ H110.next := hx113.1
          refine st_op (ev_nilCheck rfl) rfl rfl rfl ?_
          refine st_op (ev_fieldAddr rfl fa67_1 (o' := 4) rfl) rfl rfl rfl ?_
          have h114 := Ext.blk hx113 (by omega) h89
          obtain ⟨H115, he116, H115n_, hB117, f118⟩ := mem_store (v := .slice (some ⟨b109, 0, none⟩) ((L100 ++ L).length) OPEN) (o := 4) (cs' := [.int .i64 x, .int .i64 tm, .string cf, .string dt, .slice (some ⟨b109, 0, none⟩) ((L100 ++ L).length) OPEN]) 1 rfl rfl size24 h114 rfl rfl rfl
          refine st_op0 (he116 _ _ _ _ _ _ _ _ _ rfl rfl) rfl rfl ?_
          have hf119 : Fr (fun q => q = g) H110 H115 := Fr.write H115n_ f118
          have H115n : H110.next ≤ H115.next := hf119.1
          try show aw _ _ _ _ _ _
          refine aw_seq ?_
          refine aw_reg ?_
          refine st_op (ev_move rfl) rfl rfl rfl ?_
          iterate 2 refine st_op (ev_assign rfl) rfl rfl rfl ?_
          try show aw _ _ _ _ _ _
          refine aw_ret ?_
          have h120 := My.frS hm112 hf119 (fun q hq e => ⟨_, e ▸ h114, show (0 : Nat) ≠ 4 by decide⟩)
          have hk121 : (L100 ++ L).length ≤ OPEN := (My.capF h120 (by first | omega | (simp only [List.length_append, List.length_cons, List.length_nil, List.length_map, List.length_set, List.length_replicate, Spec.bytesOf_length]; omega) | (simp; omega)))
          have hres : (Spec.putF x tm l us) = (x33.index, true, (L100 ++ L)) := by have hdw : us.dropWhile (Spec.stays x tm l) = x33 :: L.drop 1 := (by rw [hv]; exact Spec.dw_head hx34 (show Spec.stays x tm l x33 = false by simp only [Spec.stays, Bool.or_eq_false_iff, decide_eq_false_iff_not]; exact ⟨by omega, by assumption⟩)); have hll1 : (L.drop 1).length + 1 = L.length := (by rw [List.length_drop]; omega); rw [Spec.put_go hx5 (by omega) hrok hdw (by omega), hL101, ← Spec.head_drop hx34]
          exact ⟨.tuple #[.int .i64 x33.index, .bool true], rfl, (some ⟨b109, 0, none⟩), OPEN, by first | (rw [hres]; first | done | rfl | simp; done) | rfl, (by rw [hres]; exact (My.row h120)), (by rw [hres]; exact hk121), (by rw [hres]; exact hB117), (by exact Spec.put_ok uk bus), (by exact Spec.put_len uk bus), (by exact Spec.put_last), (Fr.transG (Fr.trans (Fr.trans (Fr.trans (Fr.trans (Fr.trans (Fr.trans (Fr.trans (Fr.refl (fun q => q = g) H) (hx8.fr fun _ => False) (fun q hq (e : False) => e.elim)) (hx19.fr fun _ => False) (fun q hq (e : False) => e.elim)) (hxl28.fr fun _ => False) (fun q hq (e : False) => e.elim)) (hx53.fr fun _ => False) (fun q hq (e : False) => e.elim)) (hx73.fr fun _ => False) (fun q hq (e : False) => e.elim)) (hx78.fr fun _ => False) (fun q hq (e : False) => e.elim)) (hx113.fr fun _ => False) (fun q hq (e : False) => e.elim)) hf119 (fun q hq hE e => (e)))⟩
    ·
     have hb30 := of_decide_eq_false hb30
     iterate 22 refine sm_skip rfl rfl rfl ?_
     refine sm_op (ev_pickF rfl rfl) rfl rfl rfl ?_
     try show aw _ _ _ _ _ _
     refine aw_cond (t := false) rfl ?_
     try show aw _ _ _ _ _ _
     refine aw_exit ?_
     try show aw _ _ _ _ _ _
     iterate 2 refine aw_seq ?_
     refine aw_reg ?_
     refine st_op (ev_move rfl) rfl rfl rfl ?_
     refine st_op (ev_lenSl rfl Try.underlying24) rfl rfl rfl ?_
     refine st_op (ev_int rfl rfl rfl) rfl rfl rfl ?_
     try show aw _ _ _ _ _ _
     by_cases hc122 : ((L.length : Int) == 0) = true
     ·
      refine aw_condT hc122 rfl ?_
      try show aw _ _ _ _ _ _
      have hc122 := eq_of_beq hc122
      refine aw_seq ?_
      refine aw_reg ?_
      iterate 2 refine st_op (ev_assign rfl) rfl rfl rfl ?_
      try show aw _ _ _ _ _ _
      refine aw_ret ?_
      have hx124 : Ext H Hl24 := (Ext.trans (Ext.trans hx8 hx19) hxl28)
      have h123 := Row.ext hl hx124
      have h125 := Ext.blk hx124 (by omega) Bg
      have hres : (Spec.putF x tm l us) = (0, true, l) := by exact Spec.put_none hx5 (by omega) hrok (by rw [hv, show L = [] from List.eq_nil_of_length_eq_zero (by omega)]; rfl)
      exact ⟨.tuple #[.int .i64 0, .bool true], rfl, lA, lc, by first | (rw [hres]; first | done | rfl | simp; done) | rfl, (by rw [hres]; exact h123), (by rw [hres]; exact cl), (by rw [hres]; exact h125), (by exact Spec.put_ok uk bus), (by exact Spec.put_len uk bus), (by exact Spec.put_last), (Fr.trans (Fr.trans (Fr.trans (Fr.refl (fun q => q = g) H) (hx8.fr fun _ => False) (fun q hq (e : False) => e.elim)) (hx19.fr fun _ => False) (fun q hq (e : False) => e.elim)) (hxl28.fr fun _ => False) (fun q hq (e : False) => e.elim))⟩
     ·
      rw [Bool.not_eq_true] at hc122; refine aw_condF hc122 rfl ?_
      try show aw _ _ _ _ _ _
      have hc122 := ne_of_beq_false hc122
      exfalso; omega
theorem rlog_Pack_spec (H : Heap) (x : Int) (hx : 0 ≤ x ∧ x ≤ 2199023255552) (tm : Int) (cf : ByteArray) (hcf : cf.size ≤ 1073741824) (dt : ByteArray) (lA : Option Addr) (l : List Entry) (lc : Nat) (hl : Row H lA lc 4 (l.map Entry.cells)) (cl : l.length ≤ lc) (ll : l.length ≤ 200) (g : Nat) (hg : g < H.next) (Bg : H.blk g = some ⟨[.int .i64 x, .int .i64 tm, .string cf, .string dt, .slice lA l.length lc], 0, false, false⟩) (uk : Spec.LogOk x tm l) (s_index : Int) (s_term : Int) (s_conf : ByteArray) (s_data : ByteArray) : ∃ v H', Spec Try.prog 24 [.pointer (some ⟨g, 0, none⟩), .agg #[.int .i64 s_index, .int .i64 s_term, .string s_conf, .string s_data]] H v H' ∧ (∃ rA5 rc5, (v = .bool ((Spec.packF x tm cf dt l s_index s_term s_conf s_data).1)) ∧ (Row H' rA5 rc5 4 (((Spec.packF x tm cf dt l s_index s_term s_conf s_data).2.2.2.2.2).map Entry.cells)) ∧ (((Spec.packF x tm cf dt l s_index s_term s_conf s_data).2.2.2.2.2).length ≤ rc5) ∧ (H'.blk g = some ⟨[.int .i64 ((Spec.packF x tm cf dt l s_index s_term s_conf s_data).2.1), .int .i64 ((Spec.packF x tm cf dt l s_index s_term s_conf s_data).2.2.1), .string ((Spec.packF x tm cf dt l s_index s_term s_conf s_data).2.2.2.1), .string ((Spec.packF x tm cf dt l s_index s_term s_conf s_data).2.2.2.2.1), .slice rA5 (((Spec.packF x tm cf dt l s_index s_term s_conf s_data).2.2.2.2.2).length) rc5], 0, false, false⟩) ∧ (0 ≤ (Spec.packF x tm cf dt l s_index s_term s_conf s_data).2.1 ∧ (Spec.packF x tm cf dt l s_index s_term s_conf s_data).2.1 ≤ x + (l.length : Int) ∧ (Spec.packF x tm cf dt l s_index s_term s_conf s_data).2.1 + (((Spec.packF x tm cf dt l s_index s_term s_conf s_data).2.2.2.2.2.length : Nat) : Int) = x + (l.length : Int)) ∧ ((Spec.packF x tm cf dt l s_index s_term s_conf s_data).2.2.2.2.2.length ≤ 200) ∧ (Fr (fun q => q = g) H H')) := by
 refine spec_go2 E0_ok 44 (f := 24) Try.func24 rfl rfl rfl ?_
 refine aw_seq ?_
 refine aw_reg ?_
 obtain ⟨b1, H2, he3, b1e, H2n_, hB5, f4⟩ := mem_box (P := Try.prog) H (v := .agg #[.int .i64 s_index, .int .i64 s_term, .string s_conf, .string s_data]) (cs := [.int .i64 s_index, .int .i64 s_term, .string s_conf, .string s_data]) rfl rfl
 refine st_op (he3 _ _ _ _ _ _ _ _ _ rfl) rfl rfl rfl ?_
 have hx6 : Ext H H2 := Ext.new (by omega) H2n_ f4
 have H2n : H.next ≤ H2.next := hx6.1
 refine st_op (ev_assign rfl) rfl rfl rfl ?_
 try show aw _ _ _ _ _ _
 iterate 2 refine aw_seq ?_
 refine aw_marks (fun b => b < H2.next) [(false, false), (false, false), (false, false), (false, false), (true, false), (false, false), (false, true), (false, false), (false, false), (false, false), (false, false), (false, false), (false, false), (false, false), (false, false), (false, false), (false, false), (false, false)] mixed (by kernel_rfl) (by kernel_rfl) ?_
 refine sm_op (ev_move rfl) rfl rfl rfl ?_
 refine sm_op (ev_nilEq rfl rfl Try.underlying28) rfl rfl rfl ?_
 refine sm_op (ev_move rfl) rfl rfl rfl ?_
 refine sm_op (ev_fieldAddr rfl fa23_0 (o' := 0) rfl) rfl rfl rfl ?_
 refine sm_read (ev_load rfl (lvar_one one2 hB5 rfl)) rfl rfl rfl (fun b hb => by cases hb; dsimp only <;> omega) ?_
 refine sm_op (ev_move rfl) rfl rfl rfl ?_
 refine sm_call rfl rfl rfl ent14 rfl rfl rfl ?_
 have h7 := Row.ext hl hx6
 have h8 := Ext.blk hx6 (by omega) Bg
 obtain ⟨_, H10, hs9, hs9v, hx11⟩ := rlog_First_spec H2 x ⟨by omega, by omega⟩ tm cf (by omega) dt lA l lc h7 cl (by omega) g (by omega) h8 (by assumption)
 rw [hs9v] at hs9; clear hs9v
 refine ⟨_, H10, hs9, (fun _ b hb => hx11.2 b (by omega)), ?_⟩
 have H10n : H2.next ≤ H10.next := hx11.1
 refine sm_op (ev_int rfl rfl rfl) rfl rfl rfl ?_
 refine sm_op (ev_pickF rfl rfl) rfl rfl rfl ?_
 refine sm_op (ev_move rfl) rfl rfl rfl ?_
 refine sm_bool 14 rfl (fun hb12 => ?_) (fun hb12 => ?_)
 ·
  have hb12 := of_decide_eq_true hb12
  iterate 7 refine sm_skip rfl rfl rfl ?_
  refine sm_op (ev_pickT rfl rfl) rfl rfl rfl ?_
  try show aw _ _ _ _ _ _
  refine aw_cond (t := true) rfl ?_
  try show aw _ _ _ _ _ _
  refine aw_seq ?_
  refine aw_reg ?_
  refine st_op (ev_assign rfl) rfl rfl rfl ?_
  try show aw _ _ _ _ _ _
  refine aw_ret ?_
  have h13 := Row.ext h7 hx11
  have h14 := Ext.blk hx11 (by omega) h8
  have hres : (Spec.packF x tm cf dt l s_index s_term s_conf s_data) = (false, x, tm, cf, dt, l) := by first | exact Spec.pack_no1 (by omega) | exact Spec.pack_no2 (by assumption)
  exact ⟨.bool false, rfl, lA, lc, by first | (rw [hres]; first | done | rfl | simp; done) | rfl, (by first | exact h13 | (rw [hres]; exact h13)), (by first | exact cl | (rw [hres]; exact cl)), (by first | exact h14 | (rw [hres]; exact h14)), (by exact Spec.packF_x hx.1), (by exact Spec.packF_len ll), (Fr.trans (Fr.trans (Fr.refl (fun q => q = g) H) (hx6.fr fun _ => False) (fun q hq (e : False) => e.elim)) (hx11.fr fun _ => False) (fun q hq (e : False) => e.elim))⟩
 ·
  have hb12 := of_decide_eq_false hb12
  refine sm_op (ev_move rfl) rfl rfl rfl ?_
  refine sm_op (ev_fieldAddr rfl fa23_0 (o' := 0) rfl) rfl rfl rfl ?_
  have h15 := Ext.blk hx11 (by omega) hB5
  refine sm_op (ev_load rfl (lvar_one one2 h15 rfl)) rfl rfl rfl ?_
  refine sm_op (ev_fieldAddr rfl fa23_1 (o' := 1) rfl) rfl rfl rfl ?_
  refine sm_op (ev_load rfl (lvar_one one2 h15 rfl)) rfl rfl rfl ?_
  refine sm_call rfl rfl rfl ent27 rfl rfl rfl ?_
  have h16 := Row.ext h7 hx11
  have h17 := Ext.blk hx11 (by omega) h8
  obtain ⟨_, H19, hs18, hs18v, hx20⟩ := rlog_Fits_spec H10 x ⟨by omega, by omega⟩ tm cf (by omega) dt lA l lc h16 cl (by omega) g (by omega) h17 (by assumption) s_index s_term
  rw [hs18v] at hs18; clear hs18v
  refine ⟨_, H19, hs18, (fun _ b hb => hx20.2 b (by omega)), ?_⟩
  have H19n : H10.next ≤ H19.next := hx20.1
  refine sm_op (ev_not rfl) rfl rfl rfl ?_
  refine sm_op (ev_pickF rfl rfl) rfl rfl rfl ?_
  try show aw _ _ _ _ _ _
  by_cases hc21 : (!(Spec.fitsF x tm l s_index s_term)) = true
  ·
   refine aw_condT hc21 rfl ?_
   try show aw _ _ _ _ _ _
   replace hc21 : (Spec.fitsF x tm l s_index s_term) = false := by rw [Bool.not_eq_true'] at hc21; exact hc21
   refine aw_seq ?_
   refine aw_reg ?_
   refine st_op (ev_assign rfl) rfl rfl rfl ?_
   try show aw _ _ _ _ _ _
   refine aw_ret ?_
   have h22 := Row.ext h16 hx20
   have h23 := Ext.blk hx20 (by omega) h17
   have hres : (Spec.packF x tm cf dt l s_index s_term s_conf s_data) = (false, x, tm, cf, dt, l) := by first | exact Spec.pack_no1 (by omega) | exact Spec.pack_no2 (by assumption)
   exact ⟨.bool false, rfl, lA, lc, by first | (rw [hres]; first | done | rfl | simp; done) | rfl, (by first | exact h22 | (rw [hres]; exact h22)), (by first | exact cl | (rw [hres]; exact cl)), (by first | exact h23 | (rw [hres]; exact h23)), (by exact Spec.packF_x hx.1), (by exact Spec.packF_len ll), (Fr.trans (Fr.trans (Fr.trans (Fr.refl (fun q => q = g) H) (hx6.fr fun _ => False) (fun q hq (e : False) => e.elim)) (hx11.fr fun _ => False) (fun q hq (e : False) => e.elim)) (hx20.fr fun _ => False) (fun q hq (e : False) => e.elim))⟩
  ·
   rw [Bool.not_eq_true] at hc21; refine aw_condF hc21 rfl ?_
   try show aw _ _ _ _ _ _
   replace hc21 : (Spec.fitsF x tm l s_index s_term) = true := by rw [Bool.not_eq_false'] at hc21; exact hc21
   have hc21m := Spec.fits_le hc21
   refine aw_skip ?_
   try show aw _ _ _ _ _ _
   refine aw_seq ?_
   refine aw_marks (fun b => b < H19.next) [(false, false), (false, false), (false, false), (false, false), (false, false), (false, false), (false, false), (false, false), (false, false), (false, false), (false, false), (false, false), (false, false), (false, false), (false, false), (false, false), (false, false), (false, false)] mixed (by kernel_rfl) (by kernel_rfl) ?_
   iterate 2 refine sm_op (ev_move rfl) rfl rfl rfl ?_
   refine sm_op (ev_nilCheck rfl) rfl rfl rfl ?_
   refine sm_op (ev_fieldAddr rfl fa67_1 (o' := 4) rfl) rfl rfl rfl ?_
   have h24 := Ext.blk hx20 (by omega) h17
   refine sm_op (ev_load rfl (lvar_one one24 h24 rfl)) rfl rfl rfl ?_
   refine sm_op (ev_fieldAddr rfl fa23_0 (o' := 0) rfl) rfl rfl rfl ?_
   have h25 := Ext.blk hx20 (by omega) h15
   refine sm_op (ev_load rfl (lvar_one one2 h25 rfl)) rfl rfl rfl ?_
   refine sm_op (ev_move rfl) rfl rfl rfl ?_
   refine sm_op (ev_nilCheck rfl) rfl rfl rfl ?_
   refine sm_op (ev_fieldAddr rfl fa67_0 (o' := 0) rfl) rfl rfl rfl ?_
   refine sm_op (ev_fieldAddr rfl fa23_0 (o' := 0) rfl) rfl rfl rfl ?_
   refine sm_op (ev_load rfl (lvar_one one2 h24 rfl)) rfl rfl rfl ?_
   refine sm_op (ev_int64 (c := s_index - x) rfl rfl rfl (by omega) (by omega)) rfl rfl rfl ?_
   have h34 := Row.ext h16 hx20
   obtain ⟨A26, c27, L28, hL29, hl30, hs31, hr32, hc33⟩ := sliceA_typed Entry.cells el24 (by decide) h34 cl (lo := some (.int .i64 (s_index - x))) (hi := none) (l := ((s_index - x)).toNat) (h := l.length) rfl (bound_int (by omega) (by omega) (by first | rfl | omega)) (by omega) (by omega)
   refine sm_op (ev_slice rfl rfl rfl rfl hs31) rfl rfl rfl ?_
   refine sm_call rfl rfl rfl ent36 rfl rfl rfl ?_
   obtain ⟨_, H36, hs35, A38, c39, hs35v, hm40, hx37⟩ := sl_CloneE_spec H19 A26 L28 c27 hr32 hc33 (by omega)
   rw [hs35v] at hs35; clear hs35v
   refine ⟨_, H36, hs35, (fun _ b hb => hx37.2 b (by omega)), ?_⟩
   have H36n : H19.next ≤ H36.next := hx37.1
   refine sm_op (ev_nilCheck rfl) rfl rfl rfl ?_
   refine sm_op (ev_fieldAddr rfl fa67_1 (o' := 4) rfl) rfl rfl rfl ?_
   have h41 := Ext.blk hx37 (by omega) h24
   obtain ⟨H42, he43, H42n_, hB44, f45⟩ := mem_store (v := .slice A38 L28.length c39) (o := 4) (cs' := [.int .i64 x, .int .i64 tm, .string cf, .string dt, .slice A38 L28.length c39]) 1 rfl rfl size24 h41 rfl rfl rfl
   refine sm_op0 (he43 _ _ _ _ _ _ _ _ _ rfl rfl) rfl rfl ?_
   have hf46 : Fr (fun q => q = g) H36 H42 := Fr.write H42n_ f45
   have H42n : H36.next ≤ H42.next := hf46.1
   try show aw _ _ _ _ _ _
   refine aw_seq ?_
   refine aw_reg ?_
   refine st_op (ev_move rfl) rfl rfl rfl ?_
   have h47 := Ext.blk hx37 (by omega) h25
   have h48 := Fr.blk hf46 (by omega) (fun e => (by omega)) h47
   refine st_op (ev_load rfl (lvar_part (l := [.int .i64 s_index, .int .i64 s_term, .string s_conf, .string s_data]) many23 h48 rfl rfl (by decide))) rfl rfl rfl ?_
   refine st_op (ev_nilCheck rfl) rfl rfl rfl ?_
   refine st_op (ev_fieldAddr rfl fa67_0 (o' := 0) rfl) rfl rfl rfl ?_
   obtain ⟨H49, he50, H49n_, hB51, f52⟩ := mem_store (v := .agg #[.int .i64 s_index, .int .i64 s_term, .string s_conf, .string s_data]) (o := 0) (cs' := [.int .i64 s_index, .int .i64 s_term, .string s_conf, .string s_data, .slice A38 L28.length c39]) 4 rfl rfl size23 hB44 rfl rfl rfl
   refine st_op0 (he50 _ _ _ _ _ _ _ _ _ rfl rfl) rfl rfl ?_
   have hf53 : Fr (fun q => q = g) H42 H49 := Fr.write H49n_ f52
   have H49n : H42.next ≤ H49.next := hf53.1
   try show aw _ _ _ _ _ _
   refine aw_seq ?_
   refine aw_reg ?_
   refine st_op (ev_assign rfl) rfl rfl rfl ?_
   try show aw _ _ _ _ _ _
   refine aw_ret ?_
   have h54 := My.frS hm40 hf46 (fun q hq e => ⟨_, e ▸ h41, show (0 : Nat) ≠ 4 by decide⟩)
   have h55 := My.frS h54 hf53 (fun q hq e => ⟨_, e ▸ hB44, show (0 : Nat) ≠ 4 by decide⟩)
   have hk56 : L28.length ≤ c39 := (My.capF h55 (by omega))
   have hres : (Spec.packF x tm cf dt l s_index s_term s_conf s_data) = (true, s_index, s_term, s_conf, s_data, L28) := by exact Spec.pack_yes (by omega) (by assumption) hL29
   exact ⟨.bool true, rfl, A38, c39, by first | (rw [hres]; first | done | rfl | simp; done) | rfl, (by first | exact (My.row h55) | (rw [hres]; exact (My.row h55))), (by first | exact hk56 | (rw [hres]; exact hk56)), (by first | exact hB51 | (rw [hres]; exact hB51)), (by exact Spec.packF_x hx.1), (by exact Spec.packF_len ll), (Fr.transG (Fr.transG (Fr.trans (Fr.trans (Fr.trans (Fr.trans (Fr.refl (fun q => q = g) H) (hx6.fr fun _ => False) (fun q hq (e : False) => e.elim)) (hx11.fr fun _ => False) (fun q hq (e : False) => e.elim)) (hx20.fr fun _ => False) (fun q hq (e : False) => e.elim)) (hx37.fr fun _ => False) (fun q hq (e : False) => e.elim)) hf46 (fun q hq hE e => (e))) hf53 (fun q hq hE e => (e)))⟩
theorem rlog_Set_spec (H : Heap) (x : Int) (hx : 0 ≤ x ∧ x ≤ 2199023255552) (tm : Int) (cf : ByteArray) (hcf : cf.size ≤ 1073741824) (dt : ByteArray) (lA : Option Addr) (l : List Entry) (lc : Nat) (hl : Row H lA lc 4 (l.map Entry.cells)) (cl : l.length ≤ lc) (ll : l.length ≤ 200) (g : Nat) (hg : g < H.next) (Bg : H.blk g = some ⟨[.int .i64 x, .int .i64 tm, .string cf, .string dt, .slice lA l.length lc], 0, false, false⟩) (uk : Spec.LogOk x tm l) (s_index : Int) (s_term : Int) (s_conf : ByteArray) (s_data : ByteArray) : ∃ v H', Spec Try.prog 25 [.pointer (some ⟨g, 0, none⟩), .agg #[.int .i64 s_index, .int .i64 s_term, .string s_conf, .string s_data]] H v H' ∧ (∃ rA4 rc4, (v = .tuple #[]) ∧ (Row H' rA4 rc4 4 (([] : List Entry).map Entry.cells)) ∧ (([] : List Entry).length ≤ rc4) ∧ (H'.blk g = some ⟨[.int .i64 s_index, .int .i64 s_term, .string s_conf, .string s_data, .slice rA4 (([] : List Entry).length) rc4], 0, false, false⟩) ∧ (Fr (fun q => q = g) H H')) := by
 refine spec_go2 E0_ok 13 (f := 25) Try.func25 rfl rfl rfl ?_
 refine aw_seq ?_
 refine aw_reg ?_
 obtain ⟨b1, H2, he3, b1e, H2n_, hB5, f4⟩ := mem_box (P := Try.prog) H (v := .agg #[.int .i64 s_index, .int .i64 s_term, .string s_conf, .string s_data]) (cs := [.int .i64 s_index, .int .i64 s_term, .string s_conf, .string s_data]) rfl rfl
 refine st_op (he3 _ _ _ _ _ _ _ _ _ rfl) rfl rfl rfl ?_
 have hx6 : Ext H H2 := Ext.new (by omega) H2n_ f4
 have H2n : H.next ≤ H2.next := hx6.1
 try show aw _ _ _ _ _ _
 refine aw_seq ?_
 refine aw_reg ?_
 refine st_op (ev_move rfl) rfl rfl rfl ?_
 refine st_op (ev_nilNe rfl rfl Try.underlying28) rfl rfl rfl ?_
 try show aw _ _ _ _ _ _
 refine aw_cond (t := true) rfl ?_
 try show aw _ _ _ _ _ _
 refine aw_reg ?_
 iterate 2 refine st_op (ev_move rfl) rfl rfl rfl ?_
 refine st_op (ev_load rfl (lvar_part (l := [.int .i64 s_index, .int .i64 s_term, .string s_conf, .string s_data]) many23 hB5 rfl rfl (by decide))) rfl rfl rfl ?_
 refine st_op (ev_nilCheck rfl) rfl rfl rfl ?_
 refine st_op (ev_fieldAddr rfl fa67_0 (o' := 0) rfl) rfl rfl rfl ?_
 have h7 := Ext.blk hx6 (by omega) Bg
 obtain ⟨H8, he9, H8n_, hB10, f11⟩ := mem_store (v := .agg #[.int .i64 s_index, .int .i64 s_term, .string s_conf, .string s_data]) (o := 0) (cs' := [.int .i64 s_index, .int .i64 s_term, .string s_conf, .string s_data, .slice lA l.length lc]) 4 rfl rfl size23 h7 rfl rfl rfl
 refine st_op0 (he9 _ _ _ _ _ _ _ _ _ rfl rfl) rfl rfl ?_
 have hf12 : Fr (fun q => q = g) H2 H8 := Fr.write H8n_ f11
 have H8n : H2.next ≤ H8.next := hf12.1
 refine st_op (ev_nilCheck rfl) rfl rfl rfl ?_
 refine st_op (ev_fieldAddr rfl fa67_1 (o' := 4) rfl) rfl rfl rfl ?_
 obtain ⟨H13, he14, H13n_, hB15, f16⟩ := mem_store (v := .slice none 0 0) (o := 4) (cs' := [.int .i64 s_index, .int .i64 s_term, .string s_conf, .string s_data, .slice none 0 0]) 1 rfl rfl size24 hB10 rfl rfl rfl
 refine st_op0 (he14 _ _ _ _ _ _ _ _ _ rfl rfl) rfl rfl ?_
 have hf17 : Fr (fun q => q = g) H8 H13 := Fr.write H13n_ f16
 have H13n : H8.next ≤ H13.next := hf17.1
 try show aw _ _ _ _ _ _
 have hr18 : Row H13 none 0 4 (([] : List Entry).map Entry.cells) := .nil
 have hres : ([] : List Entry) = ([] : List Entry) := by rfl
 exact ⟨.tuple #[], rfl, none, 0, rfl, (by rw [hres]; exact hr18), (by rw [hres]; exact (Nat.le_refl 0)), (by rw [hres]; exact hB15), (Fr.transG (Fr.transG (Fr.trans (Fr.refl (fun q => q = g) H) (hx6.fr fun _ => False) (fun q hq (e : False) => e.elim)) hf12 (fun q hq hE e => (e))) hf17 (fun q hq hE e => (e)))⟩
theorem rlog_ConfAt_spec (H : Heap) (x : Int) (hx : 0 ≤ x ∧ x ≤ 2199023255552) (tm : Int) (cf : ByteArray) (hcf : cf.size ≤ 1073741824) (dt : ByteArray) (lA : Option Addr) (l : List Entry) (lc : Nat) (hl : Row H lA lc 4 (l.map Entry.cells)) (cl : l.length ≤ lc) (ll : l.length ≤ 200) (g : Nat) (hg : g < H.next) (Bg : H.blk g = some ⟨[.int .i64 x, .int .i64 tm, .string cf, .string dt, .slice lA l.length lc], 0, false, false⟩) (uk : Spec.LogOk x tm l) (i : Int) : ∃ v H', Spec Try.prog 38 [.pointer (some ⟨g, 0, none⟩), .int .i64 i] H v H' ∧ (∃ rA0 rc0, (v = .tuple #[.slice rA0 (((Spec.confAt x cf l i).1).length) rc0, .int .i64 ((Spec.confAt x cf l i).2)]) ∧ (My H H' rA0 rc0 1 (((Spec.confAt x cf l i).1).map i64c)) ∧ (((Spec.confAt x cf l i)).1.length ≤ 7) ∧ (0 ≤ ((Spec.confAt x cf l i)).2 ∧ ((Spec.confAt x cf l i)).2 ≤ x + (l.length : Int)) ∧ (Ext H H')) := by
 refine spec_go2 E0_ok 64 (f := 38) Try.func38 rfl rfl rfl ?_
 refine aw_seq ?_
 refine aw_reg ?_
 iterate 2 refine st_op (ev_assign rfl) rfl rfl rfl ?_
 try show aw _ _ _ _ _ _
 iterate 2 refine aw_seq ?_
 refine aw_reg ?_
 refine st_op (ev_move rfl) rfl rfl rfl ?_
 refine st_op (ev_nilEq rfl rfl Try.underlying28) rfl rfl rfl ?_
 try show aw _ _ _ _ _ _
 refine aw_cond (t := false) rfl ?_
 try show aw _ _ _ _ _ _
 refine aw_skip ?_
 try show aw _ _ _ _ _ _
 iterate 2 refine aw_seq ?_
 refine aw_reg ?_
 iterate 2 refine st_op (ev_move rfl) rfl rfl rfl ?_
 refine st_call rfl rfl rfl ent16 rfl rfl rfl ?_
 obtain ⟨_, H2, hs1, hs1v, hx3⟩ := rlog_Last_spec H x ⟨by omega, by omega⟩ tm cf (by omega) dt lA l lc hl cl (by omega) g (by omega) Bg (by assumption)
 rw [hs1v] at hs1; clear hs1v
 refine ⟨_, H2, hs1, ?_⟩
 have H2n : H.next ≤ H2.next := hx3.1
 obtain ⟨z4, hz5, hz6⟩ : ∃ z, (if (x + (l.length : Int)) < i then (x + (l.length : Int)) else i) = z ∧ (i ≥ z ∧ (x + (l.length : Int)) ≥ z ∧ (z = i ∨ z = (x + (l.length : Int)))) := ⟨_, rfl, by split <;> omega⟩
 refine st_op (ev_minE hz5 rfl rfl) rfl rfl rfl ?_
 refine st_op (ev_assign rfl) rfl rfl rfl ?_
 try show aw _ _ _ _ _ _
 refine aw_block ?_
 refine aw_keep [0, 6] (l' := (.cons 0 (.pointer (some ⟨g, 0, none⟩)) (.cons 6 (.int .i64 z4) .nil))) (by repeat (first | exact Up.done | refine Up.then ?_ | refine Up.inBlock ?_)) rfl ?_
 refine aw_iter (α := Int × Heap) (fun a => (a.1 - x).toNat) (fun a => (.cons 0 (.pointer (some ⟨g, 0, none⟩)) (.cons 6 (.int .i64 a.1) .nil))) (fun a => a.2) (fun a => (a.1 ≤ x + l.length) ∧ (Spec.confAt x cf l i = Spec.confN x cf l (a.1 - x).toNat) ∧ (Ext H2 a.2)) (z4, H2) ⟨(show z4 ≤ x + l.length from (by omega)), (show Spec.confAt x cf l i = Spec.confN x cf l (z4 - x).toNat from (by unfold Spec.confAt; congr 1; omega)), (show Ext H2 H2 from (Ext.refl H2))⟩ ?_
 rintro ⟨k, Hl7⟩ ⟨hk, hv, hxl8⟩ ih9
 replace hk : k ≤ x + l.length := hk
 replace hv : Spec.confAt x cf l i = Spec.confN x cf l (k - x).toNat := hv
 replace hxl8 : Ext H2 Hl7 := hxl8
 show aw _ _ _ (RL _ (.cons 0 (.pointer (some ⟨g, 0, none⟩)) (.cons 6 (.int .i64 k) .nil))) Hl7 _
 have Hl7n : H2.next ≤ Hl7.next := hxl8.1
 iterate 2 refine aw_seq ?_
 refine aw_reg ?_
 iterate 2 refine st_op (ev_move rfl) rfl rfl rfl ?_
 refine st_call rfl rfl rfl ent14 rfl rfl rfl ?_
 have hx11 : Ext H Hl7 := (Ext.trans hx3 hxl8)
 have h10 := Row.ext hl hx11
 have h12 := Ext.blk hx11 (by omega) Bg
 obtain ⟨_, H14, hs13, hs13v, hx15⟩ := rlog_First_spec Hl7 x ⟨by omega, by omega⟩ tm cf (by omega) dt lA l lc h10 cl (by omega) g (by omega) h12 (by assumption)
 rw [hs13v] at hs13; clear hs13v
 refine ⟨_, H14, hs13, ?_⟩
 have H14n : Hl7.next ≤ H14.next := hx15.1
 refine st_op (ev_int rfl rfl rfl) rfl rfl rfl ?_
 try show aw _ _ _ _ _ _
 by_cases hc16 : (decide (k ≥ (x + 1))) = true
 ·
  refine aw_condT hc16 rfl ?_
  try show aw _ _ _ _ _ _
  have hc16 := of_decide_eq_true hc16
  refine aw_skip ?_
  try show aw _ _ _ _ _ _
  refine aw_seq ?_
  refine aw_block ?_
  refine aw_seq ?_
  refine aw_marksN (fun b => b < H14.next) 12 [false, false, false, false, false, false, false, false, false, false, true, false] [(false, false, false), (false, false, false), (false, false, false), (true, false, false), (false, false, false), (false, false, false), (false, true, false), (false, false, false), (false, false, false), (true, false, false), (false, true, true), (false, false, false)] rfl mixed (by kernel_rfl) (by kernel_rfl) (fun base18 H17 base18e H17n hx19 => ?_)
  have H17n : H14.next ≤ H17.next := hx19.1
  refine sn_op (ev_move rfl) rfl rfl rfl rfl (fun h => nomatch h) ?_
  refine sn_op (ev_nilCheck rfl) rfl rfl rfl rfl (fun h => nomatch h) ?_
  refine sn_op (ev_fieldAddr rfl fa67_1 (o' := 4) rfl) rfl rfl rfl rfl (fun h => nomatch h) ?_
  have hx21 : Ext Hl7 H17 := (Ext.trans hx15 hx19)
  have h20 := Ext.blk hx21 (by omega) h12
  refine sn_read 12 rfl (ev_load rfl (lvar_one one24 h20 rfl)) rfl rfl rfl (fun b hb => by cases hb; dsimp only; exact ⟨by omega, by omega⟩) (fun h => nomatch h) ?_
  iterate 2 refine sn_op (ev_move rfl) rfl rfl rfl rfl (fun h => nomatch h) ?_
  refine sn_call rfl rfl rfl ent14 rfl rfl rfl ?_
  have h22 := Row.ext h10 hx21
  obtain ⟨_, H24, hs23, hs23v, hx25⟩ := rlog_First_spec H17 x ⟨by omega, by omega⟩ tm cf (by omega) dt lA l lc h22 cl (by omega) g (by omega) h20 (by assumption)
  rw [hs23v] at hs23; clear hs23v
  refine ⟨_, H24, hs23, (fun _ b hb => hx25.2 b (by omega)), ?_⟩
  have H24n : H17.next ≤ H24.next := hx25.1
  refine sn_op (ev_int64 (c := k - (x + 1)) rfl rfl rfl (by omega) (by omega)) rfl rfl rfl rfl (fun h => nomatch h) ?_
  have h26 := Row.ext h22 hx25
  have hi27 : 0 ≤ (k - (x + 1) : Int) := by omega
  have hi28 : (k - (x + 1) : Int) < ((l.length : Nat) : Int) := by omega
  obtain ⟨x29, hx30⟩ : ∃ e, l[((k - (x + 1))).toNat]? = some e := ⟨_, List.getElem?_eq_getElem (by omega)⟩
  have x29i := uk.at_ hx30; have x29d := (uk.ents _ (List.mem_of_getElem? hx30)).2
  refine sn_op (ev_at rfl rfl h26 (getMap Entry.cells hx30) (by first | rfl | omega | simp) hi27 hi28 el24) rfl rfl rfl rfl (fun h => nomatch h) ?_
  refine sn_read 12 rfl (ev_atN (cs := [.int .i64 x29.index, .int .i64 x29.term, .int .i64 x29.kind, .string x29.data]) rfl h26 (getMap Entry.cells hx30) many37 rfl rfl (by decide)) rfl rfl rfl (fun q hq => have h9 : q < H14.next := (fun q hq => Nat.lt_of_lt_of_le (rd_at rfl rfl h10 (getMap Entry.cells hx30) hq) (by omega)) q hq; ⟨h9, by omega⟩) (fun h => nomatch h) ?_
  obtain ⟨b31, b31e⟩ : ∃ b, base18 + 10 = b := ⟨_, rfl⟩
  refine sn_alloc b31 b31e zero37 rfl rfl rfl rfl (fun _ b (hb : b < H14.next) => by omega) (fun H32 H32n_ hB34 f33 => ?_)
  have hf35 : Fr (fun q => q = b31) H24 H32 := Fr.write H32n_ f33
  have H32n : H24.next ≤ H32.next := hf35.1
  obtain ⟨H36, he37, H36n_, hB38, f39⟩ := mem_store (v := .agg #[.int .i64 x29.index, .int .i64 x29.term, .int .i64 x29.kind, .string x29.data]) (o := 0) (cs' := [.int .i64 x29.index, .int .i64 x29.term, .int .i64 x29.kind, .string x29.data]) 4 rfl rfl size37 hB34 rfl rfl rfl
  refine sn_op0 (he37 _ _ _ _ _ _ _ _ _ rfl rfl) rfl rfl rfl (fun h => nomatch h) ?_
  have hf40 : Fr (fun q => q = b31) H32 H36 := Fr.write H36n_ f39
  have H36n : H32.next ≤ H36.next := hf40.1
  try show aw _ _ _ _ _ _
  refine aw_seq ?_
  refine aw_reg ?_
  refine st_op (ev_fieldAddr rfl fa37_3 (o' := 3) rfl) rfl rfl rfl ?_
  refine st_op (ev_load rfl (lvar_one one9 hB38 rfl)) rfl rfl rfl ?_
  refine st_call rfl rfl rfl ent46 rfl rfl rfl ?_
  obtain ⟨_, H42, hs41, A44, c45, hs41v, hm46, hx43⟩ := conf_Decode_spec H36 x29.data (by omega)
  rw [hs41v] at hs41; clear hs41v
  refine ⟨_, H42, hs41, ?_⟩
  have H42n : H36.next ≤ H42.next := hx43.1
  refine st_op (ev_move rfl) rfl rfl rfl ?_
  iterate 2 refine st_op (ev_extract rfl rfl) rfl rfl rfl ?_
  iterate 2 refine st_op (ev_assign rfl) rfl rfl rfl ?_
  try show aw _ _ _ _ _ _
  refine aw_seq ?_
  refine aw_reg ?_
  iterate 2 refine st_op (ev_move rfl) rfl rfl rfl ?_
  refine st_bool 41 rfl (fun hb47 => ?_) (fun hb47 => ?_)
  ·
   refine st_op (ev_fieldAddr rfl fa37_2 (o' := 2) rfl) rfl rfl rfl ?_
   have h48 := Ext.blk hx43 (by omega) hB38
   refine st_op (ev_load rfl (lvar_one one3 h48 rfl)) rfl rfl rfl ?_
   refine st_op (ev_int rfl rfl rfl) rfl rfl rfl ?_
   refine st_op (ev_pickT rfl rfl) rfl rfl rfl ?_
   try show aw _ _ _ _ _ _
   by_cases hc49 : (x29.kind == 3) = true
   ·
    refine aw_condT hc49 rfl ?_
    try show aw _ _ _ _ _ _
    have hc49 := eq_of_beq hc49
    refine aw_seq ?_
    refine aw_reg ?_
    iterate 2 refine st_op (ev_move rfl) rfl rfl rfl ?_
    iterate 2 refine st_op (ev_assign rfl) rfl rfl rfl ?_
    try show aw _ _ _ _ _ _
    refine aw_ret ?_
    have hx50 : Ext H H42 := (Ext.trans (Ext.then (Ext.then (Ext.trans (Ext.trans (Ext.trans hx11 hx15) hx19) hx25) hf35 (fun q hq e => by omega)) hf40 (fun q hq e => by omega)) hx43)
    have hres : (Spec.confAt x cf l i) = (((Spec.decC x29.data).1), k) := by rw [hv, show (k - x).toNat = (k - (x + 1)).toNat + 1 by omega, Spec.confN_hit hx30 (by simp_all) (by assumption)]; simp only [Prod.mk.injEq, true_and]; omega
    exact ⟨.tuple #[.slice A44 (((Spec.decC x29.data).1).length) c45, .int .i64 k], rfl, A44, c45, by first | (rw [hres]; first | done | rfl | simp; done) | rfl, (by first | exact (My.older hm46 (by omega)) | (rw [hres]; exact (My.older hm46 (by omega)))), (by exact Spec.confN_len _), (by exact Spec.confAt_bd uk.x0), hx50⟩
   ·
    rw [Bool.not_eq_true] at hc49; refine aw_condF hc49 rfl ?_
    try show aw _ _ _ _ _ _
    have hc49 := ne_of_beq_false hc49
    refine aw_skip ?_
    try show aw _ _ _ _ _ _
    refine aw_reg ?_
    refine st_op (ev_move rfl) rfl rfl rfl ?_
    refine st_op (ev_int64 (c := k - 1) rfl rfl rfl (by omega) (by omega)) rfl rfl rfl ?_
    refine st_op (ev_assign rfl) rfl rfl rfl ?_
    try show aw _ _ _ _ _ _
    have hx51 : Ext H2 H42 := (Ext.trans (Ext.then (Ext.then (Ext.trans (Ext.trans (Ext.trans hxl8 hx15) hx19) hx25) hf35 (fun q hq e => by omega)) hf40 (fun q hq e => by omega)) hx43)
    refine aw_keep [0, 6] (l' := (.cons 0 (.pointer (some ⟨g, 0, none⟩)) (.cons 6 (.int .i64 (k - 1)) .nil))) (by repeat (first | exact Up.done | refine Up.then ?_ | refine Up.inBlock ?_)) rfl ?_
    exact ih9 (k - 1, H42) ⟨(show (k - 1) ≤ x + l.length from (by omega)), (show Spec.confAt x cf l i = Spec.confN x cf l ((k - 1) - x).toNat from (by rw [hv, show (k - x).toNat = (k - (x + 1)).toNat + 1 by omega, Spec.confN_miss hx30 (by rintro ⟨q1, q2⟩; simp_all), show (k - 1 - x).toNat = (k - (x + 1)).toNat by omega])), (show Ext H2 H42 from hx51)⟩ (by simp only; omega)
  ·
   iterate 3 refine st_skip rfl rfl rfl ?_
   refine st_op (ev_pickF rfl rfl) rfl rfl rfl ?_
   try show aw _ _ _ _ _ _
   refine aw_cond (t := false) rfl ?_
   try show aw _ _ _ _ _ _
   refine aw_skip ?_
   try show aw _ _ _ _ _ _
   refine aw_reg ?_
   refine st_op (ev_move rfl) rfl rfl rfl ?_
   refine st_op (ev_int64 (c := k - 1) rfl rfl rfl (by omega) (by omega)) rfl rfl rfl ?_
   refine st_op (ev_assign rfl) rfl rfl rfl ?_
   try show aw _ _ _ _ _ _
   have hx52 : Ext H2 H42 := (Ext.trans (Ext.then (Ext.then (Ext.trans (Ext.trans (Ext.trans hxl8 hx15) hx19) hx25) hf35 (fun q hq e => by omega)) hf40 (fun q hq e => by omega)) hx43)
   refine aw_keep [0, 6] (l' := (.cons 0 (.pointer (some ⟨g, 0, none⟩)) (.cons 6 (.int .i64 (k - 1)) .nil))) (by repeat (first | exact Up.done | refine Up.then ?_ | refine Up.inBlock ?_)) rfl ?_
   exact ih9 (k - 1, H42) ⟨(show (k - 1) ≤ x + l.length from (by omega)), (show Spec.confAt x cf l i = Spec.confN x cf l ((k - 1) - x).toNat from (by rw [hv, show (k - x).toNat = (k - (x + 1)).toNat + 1 by omega, Spec.confN_miss hx30 (by rintro ⟨q1, q2⟩; simp_all), show (k - 1 - x).toNat = (k - (x + 1)).toNat by omega])), (show Ext H2 H42 from hx52)⟩ (by simp only; omega)
 ·
  rw [Bool.not_eq_true] at hc16; refine aw_condF hc16 rfl ?_
  try show aw _ _ _ _ _ _
  have hc16 := of_decide_eq_false hc16
  refine aw_exit ?_
  try show aw _ _ _ _ _ _
  iterate 2 refine aw_seq ?_
  refine aw_reg ?_
  refine st_op (ev_move rfl) rfl rfl rfl ?_
  refine st_op (ev_nilCheck rfl) rfl rfl rfl ?_
  refine st_op (ev_fieldAddr rfl fa67_0 (o' := 0) rfl) rfl rfl rfl ?_
  refine st_op (ev_fieldAddr rfl fa23_2 (o' := 2) rfl) rfl rfl rfl ?_
  have h53 := Ext.blk hx15 (by omega) h12
  refine st_op (ev_load rfl (lvar_one one9 h53 rfl)) rfl rfl rfl ?_
  refine st_call rfl rfl rfl ent46 rfl rfl rfl ?_
  obtain ⟨_, H55, hs54, A57, c58, hs54v, hm59, hx56⟩ := conf_Decode_spec H14 cf (by omega)
  rw [hs54v] at hs54; clear hs54v
  refine ⟨_, H55, hs54, ?_⟩
  have H55n : H14.next ≤ H55.next := hx56.1
  refine st_op (ev_move rfl) rfl rfl rfl ?_
  iterate 2 refine st_op (ev_extract rfl rfl) rfl rfl rfl ?_
  iterate 2 refine st_op (ev_assign rfl) rfl rfl rfl ?_
  try show aw _ _ _ _ _ _
  refine aw_seq ?_
  refine aw_reg ?_
  refine st_op (ev_move rfl) rfl rfl rfl ?_
  try show aw _ _ _ _ _ _
  by_cases hc60 : ((Spec.decC cf).2) = true
  ·
   refine aw_condT hc60 rfl ?_
   try show aw _ _ _ _ _ _
   refine aw_seq ?_
   refine aw_marks (fun b => b < H55.next) [(false, false), (false, false), (false, false), (false, false), (false, false), (false, false), (false, false), (false, false)] mixed (by kernel_rfl) (by kernel_rfl) ?_
   iterate 2 refine sm_op (ev_move rfl) rfl rfl rfl ?_
   refine sm_op (ev_nilCheck rfl) rfl rfl rfl ?_
   refine sm_op (ev_fieldAddr rfl fa67_0 (o' := 0) rfl) rfl rfl rfl ?_
   refine sm_op (ev_fieldAddr rfl fa23_0 (o' := 0) rfl) rfl rfl rfl ?_
   have h61 := Ext.blk hx56 (by omega) h53
   refine sm_op (ev_load rfl (lvar_one one2 h61 rfl)) rfl rfl rfl ?_
   iterate 2 refine sm_op (ev_assign rfl) rfl rfl rfl ?_
   try show aw _ _ _ _ _ _
   refine aw_ret ?_
   have hx62 : Ext H H55 := (Ext.trans (Ext.trans hx11 hx15) hx56)
   have hres : (Spec.confAt x cf l i) = (((Spec.decC cf).1), x) := by rw [hv, show (k - x).toNat = 0 by omega, Spec.confN]; first | (rw [if_pos (by assumption)]; done) | (rw [if_neg (fun h => Bool.noConfusion (h.symm.trans (show _ = false by assumption)))]; done)
   exact ⟨.tuple #[.slice A57 (((Spec.decC cf).1).length) c58, .int .i64 x], rfl, A57, c58, by first | (rw [hres]; first | done | rfl | simp; done) | rfl, (by first | exact (My.older hm59 (by omega)) | (rw [hres]; exact (My.older hm59 (by omega)))), (by exact Spec.confN_len _), (by exact Spec.confAt_bd uk.x0), hx62⟩
  ·
   rw [Bool.not_eq_true] at hc60; refine aw_condF hc60 rfl ?_
   try show aw _ _ _ _ _ _
   refine aw_skip ?_
   try show aw _ _ _ _ _ _
   refine aw_seq ?_
   refine aw_reg ?_
   iterate 2 refine st_op (ev_assign rfl) rfl rfl rfl ?_
   try show aw _ _ _ _ _ _
   refine aw_ret ?_
   have hm63 : My H55 H55 none 0 1 (([] : List Int).map i64c) := .nil
   have hx64 : Ext H H55 := (Ext.trans (Ext.trans hx11 hx15) hx56)
   have hres : (Spec.confAt x cf l i) = (([] : List Int), 0) := by rw [hv, show (k - x).toNat = 0 by omega, Spec.confN]; first | (rw [if_pos (by assumption)]; done) | (rw [if_neg (fun h => Bool.noConfusion (h.symm.trans (show _ = false by assumption)))]; done)
   exact ⟨.tuple #[.slice none 0 0, .int .i64 0], rfl, none, 0, by first | (rw [hres]; first | done | rfl | simp; done) | rfl, (by first | exact (My.older hm63 (by omega)) | (rw [hres]; exact (My.older hm63 (by omega)))), (by exact Spec.confN_len _), (by exact Spec.confAt_bd uk.x0), hx64⟩
theorem rlog_Conf_spec (H : Heap) (x : Int) (hx : 0 ≤ x ∧ x ≤ 2199023255552) (tm : Int) (cf : ByteArray) (hcf : cf.size ≤ 1073741824) (dt : ByteArray) (lA : Option Addr) (l : List Entry) (lc : Nat) (hl : Row H lA lc 4 (l.map Entry.cells)) (cl : l.length ≤ lc) (ll : l.length ≤ 200) (g : Nat) (hg : g < H.next) (Bg : H.blk g = some ⟨[.int .i64 x, .int .i64 tm, .string cf, .string dt, .slice lA l.length lc], 0, false, false⟩) (uk : Spec.LogOk x tm l) : ∃ v H', Spec Try.prog 20 [.pointer (some ⟨g, 0, none⟩)] H v H' ∧ (∃ rA0 rc0, (v = .tuple #[.slice rA0 (((Spec.confAt x cf l (x + (l.length : Int))).1).length) rc0, .int .i64 ((Spec.confAt x cf l (x + (l.length : Int))).2)]) ∧ (My H H' rA0 rc0 1 (((Spec.confAt x cf l (x + (l.length : Int))).1).map i64c)) ∧ (((Spec.confAt x cf l (x + (l.length : Int)))).1.length ≤ 7) ∧ (0 ≤ ((Spec.confAt x cf l (x + (l.length : Int)))).2 ∧ ((Spec.confAt x cf l (x + (l.length : Int)))).2 ≤ x + (l.length : Int)) ∧ (Ext H H')) := by
 refine spec_go1 E0_ok 10 (f := 20) Try.func20 rfl rfl rfl ?_
 refine aw_seq ?_
 refine aw_reg ?_
 iterate 2 refine st_op (ev_assign rfl) rfl rfl rfl ?_
 try show aw _ _ _ _ _ _
 refine aw_seq ?_
 refine aw_reg ?_
 iterate 2 refine st_op (ev_move rfl) rfl rfl rfl ?_
 refine st_call rfl rfl rfl ent16 rfl rfl rfl ?_
 obtain ⟨_, H2, hs1, hs1v, hx3⟩ := rlog_Last_spec H x ⟨by omega, by omega⟩ tm cf (by omega) dt lA l lc hl cl (by omega) g (by omega) Bg (by assumption)
 rw [hs1v] at hs1; clear hs1v
 refine ⟨_, H2, hs1, ?_⟩
 have H2n : H.next ≤ H2.next := hx3.1
 refine st_call rfl rfl rfl ent38 rfl rfl rfl ?_
 have h4 := Row.ext hl hx3
 have h5 := Ext.blk hx3 (by omega) Bg
 obtain ⟨_, H7, hs6, A9, c10, hs6v, hm11, hq12, hq13, hx8⟩ := rlog_ConfAt_spec H2 x ⟨by omega, by omega⟩ tm cf (by omega) dt lA l lc h4 cl (by omega) g (by omega) h5 (by assumption) (x + (l.length : Int))
 rw [hs6v] at hs6; clear hs6v
 refine ⟨_, H7, hs6, ?_⟩
 have H7n : H2.next ≤ H7.next := hx8.1
 iterate 2 refine st_op (ev_extract rfl rfl) rfl rfl rfl ?_
 iterate 2 refine st_op (ev_assign rfl) rfl rfl rfl ?_
 try show aw _ _ _ _ _ _
 refine aw_ret ?_
 have hx14 : Ext H H7 := (Ext.trans hx3 hx8)
 have hres : (Spec.confAt x cf l (x + (l.length : Int))) = (((Spec.confAt x cf l (x + (l.length : Int))).1), ((Spec.confAt x cf l (x + (l.length : Int))).2)) := by rfl
 exact ⟨.tuple #[.slice A9 (((Spec.confAt x cf l (x + (l.length : Int))).1).length) c10, .int .i64 ((Spec.confAt x cf l (x + (l.length : Int))).2)], rfl, A9, c10, by first | (rw [hres]; first | done | rfl | simp; done) | rfl, (by first | exact (My.older hm11 (by omega)) | (rw [hres]; exact (My.older hm11 (by omega)))), (by exact Spec.confN_len _), (by exact Spec.confAt_bd uk.x0), hx14⟩
theorem ref21_NewLog_spec (H : Heap) (s_index : Int) (s_term : Int) (s_conf : ByteArray) (s_data : ByteArray) (lA : Option Addr) (l : List Entry) (lc : Nat) (hl : Row H lA lc 4 (l.map Entry.cells)) (cl : l.length ≤ lc) (ll : l.length ≤ 140737488355328) (ul : Spec.newOk s_index s_term l = true) : ∃ v H', Spec Try.prog 21 [.agg #[.int .i64 s_index, .int .i64 s_term, .string s_conf, .string s_data], .slice lA l.length lc] H v H' ∧ (∃ rA4 rc4, (v = .tuple #[.agg #[.int .i64 s_index, .int .i64 s_term, .string s_conf, .string s_data, .slice rA4 l.length rc4], .bool true]) ∧ (Row H' rA4 rc4 4 (l.map Entry.cells)) ∧ (l.length ≤ rc4) ∧ (Ext H H')) := by
 refine spec_go2 E0_ok 70 (f := 21) Try.func21 rfl rfl rfl ?_
 refine aw_seq ?_
 refine aw_reg ?_
 obtain ⟨b1, H2, he3, b1e, H2n_, hB5, f4⟩ := mem_box (P := Try.prog) H (v := .agg #[.int .i64 s_index, .int .i64 s_term, .string s_conf, .string s_data]) (cs := [.int .i64 s_index, .int .i64 s_term, .string s_conf, .string s_data]) rfl rfl
 refine st_op (he3 _ _ _ _ _ _ _ _ _ rfl) rfl rfl rfl ?_
 have hx6 : Ext H H2 := Ext.new (by omega) H2n_ f4
 have H2n : H.next ≤ H2.next := hx6.1
 obtain ⟨b7, H8, he9, b7e, H8n_, hB11, f10⟩ := mem_alloc H2 zero49
 refine st_op (he9 _ _ _ _ _ _ _) rfl rfl rfl ?_
 have hx12 : Ext H2 H8 := Ext.new (by omega) H8n_ f10
 have H8n : H2.next ≤ H8.next := hx12.1
 refine st_op (ev_assign rfl) rfl rfl rfl ?_
 try show aw _ _ _ _ _ _
 iterate 2 refine aw_seq ?_
 refine aw_reg ?_
 refine st_op (ev_fieldAddr rfl fa23_0 (o' := 0) rfl) rfl rfl rfl ?_
 have h13 := Ext.blk hx12 (by omega) hB5
 refine st_op (ev_load rfl (lvar_one one2 h13 rfl)) rfl rfl rfl ?_
 refine st_op (ev_int rfl rfl rfl) rfl rfl rfl ?_
 refine st_op (ev_move rfl) rfl rfl rfl ?_
 refine st_bool 11 rfl (fun hb14 => ?_) (fun hb14 => ?_)
 ·
  have hb14 := of_decide_eq_true hb14
  iterate 3 refine st_skip rfl rfl rfl ?_
  refine st_op (ev_pickT rfl rfl) rfl rfl rfl ?_
  refine st_op (ev_move rfl) rfl rfl rfl ?_
  iterate 3 refine st_skip rfl rfl rfl ?_
  refine st_op (ev_pickT rfl rfl) rfl rfl rfl ?_
  refine st_op (ev_move rfl) rfl rfl rfl ?_
  iterate 3 refine st_skip rfl rfl rfl ?_
  refine st_op (ev_pickT rfl rfl) rfl rfl rfl ?_
  refine st_op (ev_move rfl) rfl rfl rfl ?_
  iterate 3 refine st_skip rfl rfl rfl ?_
  refine st_op (ev_pickT rfl rfl) rfl rfl rfl ?_
  try show aw _ _ _ _ _ _
  refine aw_cond (t := true) rfl ?_
  try show aw _ _ _ _ _ _
  refine aw_seq ?_
  refine aw_reg ?_
  refine st_op (ev_build zero49 pl49 (parts := []) rfl (cs := [.int .i64 0, .int .i64 0, .string (⟨#[]⟩), .string (⟨#[]⟩), .slice none 0 0]) rfl) rfl rfl rfl ?_
  obtain ⟨H15, he16, H15n_, hB17, f18⟩ := mem_store (v := .agg #[.int .i64 0, .int .i64 0, .string (⟨#[]⟩), .string (⟨#[]⟩), .slice none 0 0]) (o := 0) (cs' := [.int .i64 0, .int .i64 0, .string (⟨#[]⟩), .string (⟨#[]⟩), .slice none 0 0]) 5 rfl rfl size49 hB11 rfl rfl rfl
  refine st_op0 (he16 _ _ _ _ _ _ _ _ _ rfl rfl) rfl rfl ?_
  have hf19 : Fr (fun q => q = b7) H8 H15 := Fr.write H15n_ f18
  have H15n : H8.next ≤ H15.next := hf19.1
  refine st_op (ev_assign rfl) rfl rfl rfl ?_
  try show aw _ _ _ _ _ _
  refine aw_ret ?_
  exfalso; have q := ul; simp only [Spec.newOk, Bool.and_eq_true, decide_eq_true_eq] at q; omega
 ·
  have hb14 := of_decide_eq_false hb14
  refine st_op (ev_fieldAddr rfl fa23_0 (o' := 0) rfl) rfl rfl rfl ?_
  refine st_op (ev_load rfl (lvar_one one2 h13 rfl)) rfl rfl rfl ?_
  refine st_op (ev_int rfl rfl rfl) rfl rfl rfl ?_
  refine st_op (ev_pickF rfl rfl) rfl rfl rfl ?_
  refine st_op (ev_move rfl) rfl rfl rfl ?_
  refine st_bool 16 rfl (fun hb20 => ?_) (fun hb20 => ?_)
  ·
   have hb20 := of_decide_eq_true hb20
   iterate 3 refine st_skip rfl rfl rfl ?_
   refine st_op (ev_pickT rfl rfl) rfl rfl rfl ?_
   refine st_op (ev_move rfl) rfl rfl rfl ?_
   iterate 3 refine st_skip rfl rfl rfl ?_
   refine st_op (ev_pickT rfl rfl) rfl rfl rfl ?_
   refine st_op (ev_move rfl) rfl rfl rfl ?_
   iterate 3 refine st_skip rfl rfl rfl ?_
   refine st_op (ev_pickT rfl rfl) rfl rfl rfl ?_
   try show aw _ _ _ _ _ _
   refine aw_cond (t := true) rfl ?_
   try show aw _ _ _ _ _ _
   refine aw_seq ?_
   refine aw_reg ?_
   refine st_op (ev_build zero49 pl49 (parts := []) rfl (cs := [.int .i64 0, .int .i64 0, .string (⟨#[]⟩), .string (⟨#[]⟩), .slice none 0 0]) rfl) rfl rfl rfl ?_
   obtain ⟨H21, he22, H21n_, hB23, f24⟩ := mem_store (v := .agg #[.int .i64 0, .int .i64 0, .string (⟨#[]⟩), .string (⟨#[]⟩), .slice none 0 0]) (o := 0) (cs' := [.int .i64 0, .int .i64 0, .string (⟨#[]⟩), .string (⟨#[]⟩), .slice none 0 0]) 5 rfl rfl size49 hB11 rfl rfl rfl
   refine st_op0 (he22 _ _ _ _ _ _ _ _ _ rfl rfl) rfl rfl ?_
   have hf25 : Fr (fun q => q = b7) H8 H21 := Fr.write H21n_ f24
   have H21n : H8.next ≤ H21.next := hf25.1
   refine st_op (ev_assign rfl) rfl rfl rfl ?_
   try show aw _ _ _ _ _ _
   refine aw_ret ?_
   exfalso; have q := ul; simp only [Spec.newOk, Bool.and_eq_true, decide_eq_true_eq] at q; omega
  ·
   have hb20 := of_decide_eq_false hb20
   refine st_op (ev_fieldAddr rfl fa23_1 (o' := 1) rfl) rfl rfl rfl ?_
   refine st_op (ev_load rfl (lvar_one one2 h13 rfl)) rfl rfl rfl ?_
   refine st_op (ev_int rfl rfl rfl) rfl rfl rfl ?_
   refine st_op (ev_pickF rfl rfl) rfl rfl rfl ?_
   refine st_op (ev_move rfl) rfl rfl rfl ?_
   refine st_bool 21 rfl (fun hb26 => ?_) (fun hb26 => ?_)
   ·
    have hb26 := of_decide_eq_true hb26
    iterate 3 refine st_skip rfl rfl rfl ?_
    refine st_op (ev_pickT rfl rfl) rfl rfl rfl ?_
    refine st_op (ev_move rfl) rfl rfl rfl ?_
    iterate 3 refine st_skip rfl rfl rfl ?_
    refine st_op (ev_pickT rfl rfl) rfl rfl rfl ?_
    try show aw _ _ _ _ _ _
    refine aw_cond (t := true) rfl ?_
    try show aw _ _ _ _ _ _
    refine aw_seq ?_
    refine aw_reg ?_
    refine st_op (ev_build zero49 pl49 (parts := []) rfl (cs := [.int .i64 0, .int .i64 0, .string (⟨#[]⟩), .string (⟨#[]⟩), .slice none 0 0]) rfl) rfl rfl rfl ?_
    obtain ⟨H27, he28, H27n_, hB29, f30⟩ := mem_store (v := .agg #[.int .i64 0, .int .i64 0, .string (⟨#[]⟩), .string (⟨#[]⟩), .slice none 0 0]) (o := 0) (cs' := [.int .i64 0, .int .i64 0, .string (⟨#[]⟩), .string (⟨#[]⟩), .slice none 0 0]) 5 rfl rfl size49 hB11 rfl rfl rfl
    refine st_op0 (he28 _ _ _ _ _ _ _ _ _ rfl rfl) rfl rfl ?_
    have hf31 : Fr (fun q => q = b7) H8 H27 := Fr.write H27n_ f30
    have H27n : H8.next ≤ H27.next := hf31.1
    refine st_op (ev_assign rfl) rfl rfl rfl ?_
    try show aw _ _ _ _ _ _
    refine aw_ret ?_
    exfalso; have q := ul; simp only [Spec.newOk, Bool.and_eq_true, decide_eq_true_eq] at q; omega
   ·
    have hb26 := of_decide_eq_false hb26
    refine st_op (ev_fieldAddr rfl fa23_1 (o' := 1) rfl) rfl rfl rfl ?_
    refine st_op (ev_load rfl (lvar_one one2 h13 rfl)) rfl rfl rfl ?_
    refine st_op (ev_int rfl rfl rfl) rfl rfl rfl ?_
    refine st_op (ev_pickF rfl rfl) rfl rfl rfl ?_
    refine st_op (ev_move rfl) rfl rfl rfl ?_
    refine st_bool 26 rfl (fun hb32 => ?_) (fun hb32 => ?_)
    ·
     have hb32 := of_decide_eq_true hb32
     iterate 3 refine st_skip rfl rfl rfl ?_
     refine st_op (ev_pickT rfl rfl) rfl rfl rfl ?_
     try show aw _ _ _ _ _ _
     refine aw_cond (t := true) rfl ?_
     try show aw _ _ _ _ _ _
     refine aw_seq ?_
     refine aw_reg ?_
     refine st_op (ev_build zero49 pl49 (parts := []) rfl (cs := [.int .i64 0, .int .i64 0, .string (⟨#[]⟩), .string (⟨#[]⟩), .slice none 0 0]) rfl) rfl rfl rfl ?_
     obtain ⟨H33, he34, H33n_, hB35, f36⟩ := mem_store (v := .agg #[.int .i64 0, .int .i64 0, .string (⟨#[]⟩), .string (⟨#[]⟩), .slice none 0 0]) (o := 0) (cs' := [.int .i64 0, .int .i64 0, .string (⟨#[]⟩), .string (⟨#[]⟩), .slice none 0 0]) 5 rfl rfl size49 hB11 rfl rfl rfl
     refine st_op0 (he34 _ _ _ _ _ _ _ _ _ rfl rfl) rfl rfl ?_
     have hf37 : Fr (fun q => q = b7) H8 H33 := Fr.write H33n_ f36
     have H33n : H8.next ≤ H33.next := hf37.1
     refine st_op (ev_assign rfl) rfl rfl rfl ?_
     try show aw _ _ _ _ _ _
     refine aw_ret ?_
     exfalso; have q := ul; simp only [Spec.newOk, Bool.and_eq_true, decide_eq_true_eq] at q; omega
    ·
     have hb32 := of_decide_eq_false hb32
     refine st_op (ev_move rfl) rfl rfl rfl ?_
     refine st_op (ev_lenSl rfl Try.underlying24) rfl rfl rfl ?_
     refine st_op (ev_int rfl rfl rfl) rfl rfl rfl ?_
     refine st_op (ev_pickF rfl rfl) rfl rfl rfl ?_
     try show aw _ _ _ _ _ _
     by_cases hc38 : (decide ((l.length : Int) > 200)) = true
     ·
      refine aw_condT hc38 rfl ?_
      try show aw _ _ _ _ _ _
      have hc38 := of_decide_eq_true hc38
      refine aw_seq ?_
      refine aw_reg ?_
      refine st_op (ev_build zero49 pl49 (parts := []) rfl (cs := [.int .i64 0, .int .i64 0, .string (⟨#[]⟩), .string (⟨#[]⟩), .slice none 0 0]) rfl) rfl rfl rfl ?_
      obtain ⟨H39, he40, H39n_, hB41, f42⟩ := mem_store (v := .agg #[.int .i64 0, .int .i64 0, .string (⟨#[]⟩), .string (⟨#[]⟩), .slice none 0 0]) (o := 0) (cs' := [.int .i64 0, .int .i64 0, .string (⟨#[]⟩), .string (⟨#[]⟩), .slice none 0 0]) 5 rfl rfl size49 hB11 rfl rfl rfl
      refine st_op0 (he40 _ _ _ _ _ _ _ _ _ rfl rfl) rfl rfl ?_
      have hf43 : Fr (fun q => q = b7) H8 H39 := Fr.write H39n_ f42
      have H39n : H8.next ≤ H39.next := hf43.1
      refine st_op (ev_assign rfl) rfl rfl rfl ?_
      try show aw _ _ _ _ _ _
      refine aw_ret ?_
      exfalso; have q := ul; simp only [Spec.newOk, Bool.and_eq_true, decide_eq_true_eq] at q; omega
     ·
      rw [Bool.not_eq_true] at hc38; refine aw_condF hc38 rfl ?_
      try show aw _ _ _ _ _ _
      have hc38 := of_decide_eq_false hc38
      refine aw_skip ?_
      try show aw _ _ _ _ _ _
      refine aw_seq ?_
      refine aw_reg ?_
      refine st_op (ev_fieldAddr rfl fa23_1 (o' := 1) rfl) rfl rfl rfl ?_
      refine st_op (ev_load rfl (lvar_one one2 h13 rfl)) rfl rfl rfl ?_
      refine st_op (ev_assign rfl) rfl rfl rfl ?_
      try show aw _ _ _ _ _ _
      iterate 2 refine aw_seq ?_
      refine aw_reg ?_
      refine st_op (ev_assign rfl) rfl rfl rfl ?_
      try show aw _ _ _ _ _ _
      refine aw_block ?_
      have hno : 0 ≤ s_index ∧ s_index ≤ 1099511627776 := by omega
      refine aw_keep [1, 2, 4, 6, 7] (l' := (.cons 1 (.slice lA l.length lc) (.cons 2 (.pointer (some ⟨b1, 0, none⟩)) (.cons 4 (.pointer (some ⟨b7, 0, none⟩)) (.cons 6 (.int .i64 s_term) (.cons 7 (.int .i64 0) .nil)))))) (by repeat (first | exact Up.done | refine Up.then ?_ | refine Up.inBlock ?_)) rfl ?_
      refine aw_iter (α := Nat × Int × Heap) (fun a => l.length - a.1) (fun a => (.cons 1 (.slice lA l.length lc) (.cons 2 (.pointer (some ⟨b1, 0, none⟩)) (.cons 4 (.pointer (some ⟨b7, 0, none⟩)) (.cons 6 (.int .i64 a.2.1) (.cons 7 (.int .i64 (a.1 : Int)) .nil)))))) (fun a => a.2.2) (fun a => (a.1 ≤ l.length) ∧ (Spec.logRow s_index s_term l = Spec.logRow (s_index + (a.1 : Int)) a.2.1 (l.drop a.1)) ∧ (Ext H8 a.2.2)) (0, s_term, H8) ⟨(show 0 ≤ l.length from Nat.zero_le _), (show Spec.logRow s_index s_term l = Spec.logRow (s_index + (0 : Int)) s_term (l.drop 0) from (by simp)), (show Ext H8 H8 from (Ext.refl H8))⟩ ?_
      rintro ⟨i, t, Hl44⟩ ⟨hi, hv, hxl45⟩ ih46
      replace hi : i ≤ l.length := hi
      replace hv : Spec.logRow s_index s_term l = Spec.logRow (s_index + (i : Int)) t (l.drop i) := hv
      replace hxl45 : Ext H8 Hl44 := hxl45
      show aw _ _ _ (RL _ (.cons 1 (.slice lA l.length lc) (.cons 2 (.pointer (some ⟨b1, 0, none⟩)) (.cons 4 (.pointer (some ⟨b7, 0, none⟩)) (.cons 6 (.int .i64 t) (.cons 7 (.int .i64 (i : Int)) .nil)))))) Hl44 _
      have Hl44n : H8.next ≤ Hl44.next := hxl45.1
      iterate 2 refine aw_seq ?_
      refine aw_reg ?_
      iterate 2 refine st_op (ev_move rfl) rfl rfl rfl ?_
      refine st_op (ev_lenSl rfl Try.underlying24) rfl rfl rfl ?_
      refine st_op (ev_int rfl rfl rfl) rfl rfl rfl ?_
      try show aw _ _ _ _ _ _
      by_cases hc47 : (decide ((i : Int) < (l.length : Int))) = true
      ·
       refine aw_condT hc47 rfl ?_
       try show aw _ _ _ _ _ _
       have hc47 := of_decide_eq_true hc47
       refine aw_skip ?_
       try show aw _ _ _ _ _ _
       refine aw_seq ?_
       refine aw_block ?_
       iterate 2 refine aw_seq ?_
       refine aw_marks (fun b => b < Hl44.next) [(false, false), (false, false), (false, false), (false, false), (false, false), (false, false), (false, false), (false, false), (false, false), (false, false), (false, false), (false, false), (false, false), (false, false), (false, false), (false, false), (false, false), (false, false), (false, false), (false, false)] mixed (by kernel_rfl) (by kernel_rfl) ?_
       iterate 2 refine sm_op (ev_move rfl) rfl rfl rfl ?_
       have hx49 : Ext H Hl44 := (Ext.trans (Ext.trans hx6 hx12) hxl45)
       have h48 := Row.ext hl hx49
       have hi50 : 0 ≤ ((i : Int) : Int) := by omega
       have hi51 : ((i : Int) : Int) < ((l.length : Nat) : Int) := by omega
       obtain ⟨x52, hx53⟩ : ∃ e, l[i]? = some e := ⟨_, List.getElem?_eq_getElem (by omega)⟩
       refine sm_op (ev_at rfl rfl h48 (getMap Entry.cells hx53) (by first | rfl | omega | simp) hi50 hi51 el24) rfl rfl rfl ?_
       refine sm_op (ev_atF rfl h48 (getMap Entry.cells hx53) fa37_0 rfl) rfl rfl rfl ?_
       refine sm_op (ev_atL rfl h48 (getMap Entry.cells hx53) one2 rfl) rfl rfl rfl ?_
       refine sm_op (ev_fieldAddr rfl fa23_0 (o' := 0) rfl) rfl rfl rfl ?_
       have h54 := Ext.blk hxl45 (by omega) h13
       refine sm_op (ev_load rfl (lvar_one one2 h54 rfl)) rfl rfl rfl ?_
       refine sm_op (ev_int64 (c := s_index + 1) rfl rfl rfl (by omega) (by omega)) rfl rfl rfl ?_
       refine sm_op (ev_move rfl) rfl rfl rfl ?_
       refine sm_op (ev_int64 (c := (s_index + 1) + (i : Int)) rfl rfl rfl (by omega) (by omega)) rfl rfl rfl ?_
       refine sm_op (ev_int rfl rfl rfl) rfl rfl rfl ?_
       refine sm_op (ev_move rfl) rfl rfl rfl ?_
       refine sm_bool 51 rfl (fun hb55 => ?_) (fun hb55 => ?_)
       ·
        have hb55 : ¬ (x52.index = (s_index + 1) + (i : Int)) := by simpa using hb55
        iterate 7 refine sm_skip rfl rfl rfl ?_
        refine sm_op (ev_pickT rfl rfl) rfl rfl rfl ?_
        try show aw _ _ _ _ _ _
        refine aw_cond (t := true) rfl ?_
        try show aw _ _ _ _ _ _
        refine aw_seq ?_
        refine aw_reg ?_
        refine st_op (ev_build zero49 pl49 (parts := []) rfl (cs := [.int .i64 0, .int .i64 0, .string (⟨#[]⟩), .string (⟨#[]⟩), .slice none 0 0]) rfl) rfl rfl rfl ?_
        have h56 := Ext.blk hxl45 (by omega) hB11
        obtain ⟨H57, he58, H57n_, hB59, f60⟩ := mem_store (v := .agg #[.int .i64 0, .int .i64 0, .string (⟨#[]⟩), .string (⟨#[]⟩), .slice none 0 0]) (o := 0) (cs' := [.int .i64 0, .int .i64 0, .string (⟨#[]⟩), .string (⟨#[]⟩), .slice none 0 0]) 5 rfl rfl size49 h56 rfl rfl rfl
        refine st_op0 (he58 _ _ _ _ _ _ _ _ _ rfl rfl) rfl rfl ?_
        have hf61 : Fr (fun q => q = b7) Hl44 H57 := Fr.write H57n_ f60
        have H57n : Hl44.next ≤ H57.next := hf61.1
        refine st_op (ev_assign rfl) rfl rfl rfl ?_
        try show aw _ _ _ _ _ _
        refine aw_ret ?_
        exfalso; have q := ul; simp only [Spec.newOk, Bool.and_eq_true, decide_eq_true_eq] at q; have q2 : Spec.logRow s_index s_term l = false := (by rw [hv]; exact Spec.logRow_fail hx53 (by rw [Spec.wrap_id (by omega) (by omega)]; omega)); rw [q.2] at q2; cases q2
       ·
        have hb55 : (x52.index = (s_index + 1) + (i : Int)) := by simpa using hb55
        iterate 2 refine sm_op (ev_move rfl) rfl rfl rfl ?_
        have hi62 : 0 ≤ ((i : Int) : Int) := by omega
        have hi63 : ((i : Int) : Int) < ((l.length : Nat) : Int) := by omega
        refine sm_op (ev_at rfl rfl h48 (getMap Entry.cells hx53) (by first | rfl | omega | simp) hi62 hi63 el24) rfl rfl rfl ?_
        refine sm_op (ev_atF rfl h48 (getMap Entry.cells hx53) fa37_1 rfl) rfl rfl rfl ?_
        refine sm_op (ev_atL rfl h48 (getMap Entry.cells hx53) one2 rfl) rfl rfl rfl ?_
        refine sm_op (ev_move rfl) rfl rfl rfl ?_
        refine sm_op (ev_int rfl rfl rfl) rfl rfl rfl ?_
        refine sm_op (ev_pickF rfl rfl) rfl rfl rfl ?_
        try show aw _ _ _ _ _ _
        by_cases hc64 : (decide (x52.term < t)) = true
        ·
         refine aw_condT hc64 rfl ?_
         try show aw _ _ _ _ _ _
         have hc64 := of_decide_eq_true hc64
         refine aw_seq ?_
         refine aw_reg ?_
         refine st_op (ev_build zero49 pl49 (parts := []) rfl (cs := [.int .i64 0, .int .i64 0, .string (⟨#[]⟩), .string (⟨#[]⟩), .slice none 0 0]) rfl) rfl rfl rfl ?_
         have h65 := Ext.blk hxl45 (by omega) hB11
         obtain ⟨H66, he67, H66n_, hB68, f69⟩ := mem_store (v := .agg #[.int .i64 0, .int .i64 0, .string (⟨#[]⟩), .string (⟨#[]⟩), .slice none 0 0]) (o := 0) (cs' := [.int .i64 0, .int .i64 0, .string (⟨#[]⟩), .string (⟨#[]⟩), .slice none 0 0]) 5 rfl rfl size49 h65 rfl rfl rfl
         refine st_op0 (he67 _ _ _ _ _ _ _ _ _ rfl rfl) rfl rfl ?_
         have hf70 : Fr (fun q => q = b7) Hl44 H66 := Fr.write H66n_ f69
         have H66n : Hl44.next ≤ H66.next := hf70.1
         refine st_op (ev_assign rfl) rfl rfl rfl ?_
         try show aw _ _ _ _ _ _
         refine aw_ret ?_
         exfalso; have q := ul; simp only [Spec.newOk, Bool.and_eq_true, decide_eq_true_eq] at q; have q2 : Spec.logRow s_index s_term l = false := (by rw [hv]; exact Spec.logRow_fail hx53 (by rw [Spec.wrap_id (by omega) (by omega)]; omega)); rw [q.2] at q2; cases q2
        ·
         rw [Bool.not_eq_true] at hc64; refine aw_condF hc64 rfl ?_
         try show aw _ _ _ _ _ _
         have hc64 := of_decide_eq_false hc64
         refine aw_skip ?_
         try show aw _ _ _ _ _ _
         refine aw_reg ?_
         iterate 2 refine st_op (ev_move rfl) rfl rfl rfl ?_
         have hi71 : 0 ≤ ((i : Int) : Int) := by omega
         have hi72 : ((i : Int) : Int) < ((l.length : Nat) : Int) := by omega
         refine st_op (ev_at rfl rfl h48 (getMap Entry.cells hx53) (by first | rfl | omega | simp) hi71 hi72 el24) rfl rfl rfl ?_
         refine st_op (ev_atF rfl h48 (getMap Entry.cells hx53) fa37_1 rfl) rfl rfl rfl ?_
         refine st_op (ev_atL rfl h48 (getMap Entry.cells hx53) one2 rfl) rfl rfl rfl ?_
         refine st_op (ev_assign rfl) rfl rfl rfl ?_
         try show aw _ _ _ _ _ _
         refine aw_reg ?_
         refine st_op (ev_move rfl) rfl rfl rfl ?_
         refine st_op (ev_int64 (c := (i : Int) + 1) rfl rfl rfl (by omega) (by omega)) rfl rfl rfl ?_
         refine st_op (ev_assign rfl) rfl rfl rfl ?_
         try show aw _ _ _ _ _ _
         refine aw_keep [1, 2, 4, 6, 7] (l' := (.cons 1 (.slice lA l.length lc) (.cons 2 (.pointer (some ⟨b1, 0, none⟩)) (.cons 4 (.pointer (some ⟨b7, 0, none⟩)) (.cons 6 (.int .i64 x52.term) (.cons 7 (.int .i64 ((i : Int) + 1)) .nil)))))) (by repeat (first | exact Up.done | refine Up.then ?_ | refine Up.inBlock ?_)) rfl ?_
         exact ih46 (i + 1, x52.term, Hl44) ⟨(show (i + 1) ≤ l.length from (by omega)), (show Spec.logRow s_index s_term l = Spec.logRow (s_index + ((i + 1) : Int)) x52.term (l.drop (i + 1)) from (by rw [hv, Spec.logRow_step hx53 (by rw [Spec.wrap_id (by omega) (by omega)]; omega) (by omega)]; congr 1; omega)), (show Ext H8 Hl44 from hxl45)⟩ (by simp only; omega)
      ·
       rw [Bool.not_eq_true] at hc47; refine aw_condF hc47 rfl ?_
       try show aw _ _ _ _ _ _
       have hc47 := of_decide_eq_false hc47
       refine aw_exit ?_
       try show aw _ _ _ _ _ _
       refine aw_seq ?_
       refine aw_marks (fun b => b < Hl44.next) [(true, false), (false, false), (false, true), (false, false), (false, false), (false, false)] mixed (by kernel_rfl) (by kernel_rfl) ?_
       have h73 := Ext.blk hxl45 (by omega) h13
       refine sm_read (ev_load rfl (lvar_part (l := [.int .i64 s_index, .int .i64 s_term, .string s_conf, .string s_data]) many23 h73 rfl rfl (by decide))) rfl rfl rfl (fun b hb => by cases hb; dsimp only <;> omega) ?_
       refine sm_op (ev_move rfl) rfl rfl rfl ?_
       have hm74 : My Hl44 Hl44 none 0 4 (([] : List Entry).map Entry.cells) := .nil
       have hx76 : Ext H Hl44 := (Ext.trans (Ext.trans hx6 hx12) hxl45)
       have h75 := Row.ext hl hx76
       obtain ⟨A77, c78, H79, W80, he81, hm82, hf83⟩ := mem_append (f := Entry.cells) (old := ([] : List Entry)) (new := l) (m := 0) (mx := l.length) (c := 0) (by first | rfl | simp) (by first | rfl | simp) eok24 (by decide) hm74 hm74 (by omega) ((h75).srcF (by decide) (by first | rfl | simp)) rfl Entry.cells_len Entry.cells_one (by omega) (by omega)
       refine sm_act (he81 _ _ _ _ _ _ _ _ _ _ rfl rfl isrow24) rfl rfl rfl (fun q hq => hf83.2 q (by omega) (fun e => by omega)) ?_
       have H79n : Hl44.next ≤ H79.next := hf83.1
       rw [List.nil_append] at hm82
       refine sm_op (ev_build zero49 pl49 (parts := [(0, .agg #[.int .i64 s_index, .int .i64 s_term, .string s_conf, .string s_data]), (1, .slice A77 l.length c78)]) rfl (cs := [.int .i64 s_index, .int .i64 s_term, .string s_conf, .string s_data, .slice A77 l.length c78]) rfl) rfl rfl rfl ?_
       have hx85 : Ext H8 H79 := (Ext.then hxl45 hf83 (fun q hq e => by omega))
       have h84 := Ext.blk hx85 (by omega) hB11
       obtain ⟨H86, he87, H86n_, hB88, f89⟩ := mem_store (v := .agg #[.int .i64 s_index, .int .i64 s_term, .string s_conf, .string s_data, .slice A77 l.length c78]) (o := 0) (cs' := [.int .i64 s_index, .int .i64 s_term, .string s_conf, .string s_data, .slice A77 l.length c78]) 5 rfl rfl size49 h84 rfl rfl rfl
       refine sm_op0 (he87 _ _ _ _ _ _ _ _ _ rfl rfl) rfl rfl ?_
       have hf90 : Fr (fun q => q = b7) H79 H86 := Fr.write H86n_ f89
       have H86n : H79.next ≤ H86.next := hf90.1
       refine sm_op (ev_assign rfl) rfl rfl rfl ?_
       try show aw _ _ _ _ _ _
       refine aw_ret ?_
       have h91 := My.frS hm82 hf90 (fun q hq e => ⟨_, e ▸ h84, show (0 : Nat) ≠ 4 by decide⟩)
       have hk92 : l.length ≤ c78 := (My.capF h91 (by omega))
       have hx93 : Ext H H86 := (Ext.then (Ext.then hx76 hf83 (fun q hq e => by omega)) hf90 (fun q hq e => by omega))
       have hres : l = l := by rfl
       exact ⟨.tuple #[.agg #[.int .i64 s_index, .int .i64 s_term, .string s_conf, .string s_data, .slice A77 l.length c78], .bool true], (resA_of (resL_cell rfl (lvar_part (l := [.int .i64 s_index, .int .i64 s_term, .string s_conf, .string s_data, .slice A77 l.length c78]) many49 hB88 rfl rfl (by decide)) (resL_tmp rfl resL_nil)) rfl), A77, c78, by first | (rw [hres]; first | done | rfl | simp; done) | rfl, (by rw [hres]; exact (My.row h91)), (by rw [hres]; exact hk92), hx93⟩
theorem ref21_NewLog0_spec (H : Heap) (s_index : Int) (s_term : Int) (s_conf : ByteArray) (s_data : ByteArray) (lA : Option Addr) (l : List Entry) (lc : Nat) (hl : Row H lA lc 4 (l.map Entry.cells)) (cl : l.length ≤ lc) (ll : l.length ≤ 140737488355328) (ul : Spec.newOk s_index s_term l = false) : ∃ v H', Spec Try.prog 21 [.agg #[.int .i64 s_index, .int .i64 s_term, .string s_conf, .string s_data], .slice lA l.length lc] H v H' ∧ ((v = .tuple #[.agg #[.int .i64 0, .int .i64 0, .string (⟨#[]⟩), .string (⟨#[]⟩), .slice none 0 0], .bool false]) ∧ (Ext H H')) := by
 refine spec_go2 E0_ok 70 (f := 21) Try.func21 rfl rfl rfl ?_
 refine aw_seq ?_
 refine aw_reg ?_
 obtain ⟨b1, H2, he3, b1e, H2n_, hB5, f4⟩ := mem_box (P := Try.prog) H (v := .agg #[.int .i64 s_index, .int .i64 s_term, .string s_conf, .string s_data]) (cs := [.int .i64 s_index, .int .i64 s_term, .string s_conf, .string s_data]) rfl rfl
 refine st_op (he3 _ _ _ _ _ _ _ _ _ rfl) rfl rfl rfl ?_
 have hx6 : Ext H H2 := Ext.new (by omega) H2n_ f4
 have H2n : H.next ≤ H2.next := hx6.1
 obtain ⟨b7, H8, he9, b7e, H8n_, hB11, f10⟩ := mem_alloc H2 zero49
 refine st_op (he9 _ _ _ _ _ _ _) rfl rfl rfl ?_
 have hx12 : Ext H2 H8 := Ext.new (by omega) H8n_ f10
 have H8n : H2.next ≤ H8.next := hx12.1
 refine st_op (ev_assign rfl) rfl rfl rfl ?_
 try show aw _ _ _ _ _ _
 iterate 2 refine aw_seq ?_
 refine aw_reg ?_
 refine st_op (ev_fieldAddr rfl fa23_0 (o' := 0) rfl) rfl rfl rfl ?_
 have h13 := Ext.blk hx12 (by omega) hB5
 refine st_op (ev_load rfl (lvar_one one2 h13 rfl)) rfl rfl rfl ?_
 refine st_op (ev_int rfl rfl rfl) rfl rfl rfl ?_
 refine st_op (ev_move rfl) rfl rfl rfl ?_
 refine st_bool 11 rfl (fun hb14 => ?_) (fun hb14 => ?_)
 ·
  have hb14 := of_decide_eq_true hb14
  iterate 3 refine st_skip rfl rfl rfl ?_
  refine st_op (ev_pickT rfl rfl) rfl rfl rfl ?_
  refine st_op (ev_move rfl) rfl rfl rfl ?_
  iterate 3 refine st_skip rfl rfl rfl ?_
  refine st_op (ev_pickT rfl rfl) rfl rfl rfl ?_
  refine st_op (ev_move rfl) rfl rfl rfl ?_
  iterate 3 refine st_skip rfl rfl rfl ?_
  refine st_op (ev_pickT rfl rfl) rfl rfl rfl ?_
  refine st_op (ev_move rfl) rfl rfl rfl ?_
  iterate 3 refine st_skip rfl rfl rfl ?_
  refine st_op (ev_pickT rfl rfl) rfl rfl rfl ?_
  try show aw _ _ _ _ _ _
  refine aw_cond (t := true) rfl ?_
  try show aw _ _ _ _ _ _
  refine aw_seq ?_
  refine aw_reg ?_
  refine st_op (ev_build zero49 pl49 (parts := []) rfl (cs := [.int .i64 0, .int .i64 0, .string (⟨#[]⟩), .string (⟨#[]⟩), .slice none 0 0]) rfl) rfl rfl rfl ?_
  obtain ⟨H15, he16, H15n_, hB17, f18⟩ := mem_store (v := .agg #[.int .i64 0, .int .i64 0, .string (⟨#[]⟩), .string (⟨#[]⟩), .slice none 0 0]) (o := 0) (cs' := [.int .i64 0, .int .i64 0, .string (⟨#[]⟩), .string (⟨#[]⟩), .slice none 0 0]) 5 rfl rfl size49 hB11 rfl rfl rfl
  refine st_op0 (he16 _ _ _ _ _ _ _ _ _ rfl rfl) rfl rfl ?_
  have hf19 : Fr (fun q => q = b7) H8 H15 := Fr.write H15n_ f18
  have H15n : H8.next ≤ H15.next := hf19.1
  refine st_op (ev_assign rfl) rfl rfl rfl ?_
  try show aw _ _ _ _ _ _
  refine aw_ret ?_
  have hx20 : Ext H H15 := (Ext.then (Ext.trans hx6 hx12) hf19 (fun q hq e => by omega))
  exact ⟨.tuple #[.agg #[.int .i64 0, .int .i64 0, .string (⟨#[]⟩), .string (⟨#[]⟩), .slice none 0 0], .bool false], (resA_of (resL_cell rfl (lvar_part (l := [.int .i64 0, .int .i64 0, .string (⟨#[]⟩), .string (⟨#[]⟩), .slice none 0 0]) many49 hB17 rfl rfl (by decide)) (resL_tmp rfl resL_nil)) rfl), rfl, hx20⟩
 ·
  have hb14 := of_decide_eq_false hb14
  refine st_op (ev_fieldAddr rfl fa23_0 (o' := 0) rfl) rfl rfl rfl ?_
  refine st_op (ev_load rfl (lvar_one one2 h13 rfl)) rfl rfl rfl ?_
  refine st_op (ev_int rfl rfl rfl) rfl rfl rfl ?_
  refine st_op (ev_pickF rfl rfl) rfl rfl rfl ?_
  refine st_op (ev_move rfl) rfl rfl rfl ?_
  refine st_bool 16 rfl (fun hb21 => ?_) (fun hb21 => ?_)
  ·
   have hb21 := of_decide_eq_true hb21
   iterate 3 refine st_skip rfl rfl rfl ?_
   refine st_op (ev_pickT rfl rfl) rfl rfl rfl ?_
   refine st_op (ev_move rfl) rfl rfl rfl ?_
   iterate 3 refine st_skip rfl rfl rfl ?_
   refine st_op (ev_pickT rfl rfl) rfl rfl rfl ?_
   refine st_op (ev_move rfl) rfl rfl rfl ?_
   iterate 3 refine st_skip rfl rfl rfl ?_
   refine st_op (ev_pickT rfl rfl) rfl rfl rfl ?_
   try show aw _ _ _ _ _ _
   refine aw_cond (t := true) rfl ?_
   try show aw _ _ _ _ _ _
   refine aw_seq ?_
   refine aw_reg ?_
   refine st_op (ev_build zero49 pl49 (parts := []) rfl (cs := [.int .i64 0, .int .i64 0, .string (⟨#[]⟩), .string (⟨#[]⟩), .slice none 0 0]) rfl) rfl rfl rfl ?_
   obtain ⟨H22, he23, H22n_, hB24, f25⟩ := mem_store (v := .agg #[.int .i64 0, .int .i64 0, .string (⟨#[]⟩), .string (⟨#[]⟩), .slice none 0 0]) (o := 0) (cs' := [.int .i64 0, .int .i64 0, .string (⟨#[]⟩), .string (⟨#[]⟩), .slice none 0 0]) 5 rfl rfl size49 hB11 rfl rfl rfl
   refine st_op0 (he23 _ _ _ _ _ _ _ _ _ rfl rfl) rfl rfl ?_
   have hf26 : Fr (fun q => q = b7) H8 H22 := Fr.write H22n_ f25
   have H22n : H8.next ≤ H22.next := hf26.1
   refine st_op (ev_assign rfl) rfl rfl rfl ?_
   try show aw _ _ _ _ _ _
   refine aw_ret ?_
   have hx27 : Ext H H22 := (Ext.then (Ext.trans hx6 hx12) hf26 (fun q hq e => by omega))
   exact ⟨.tuple #[.agg #[.int .i64 0, .int .i64 0, .string (⟨#[]⟩), .string (⟨#[]⟩), .slice none 0 0], .bool false], (resA_of (resL_cell rfl (lvar_part (l := [.int .i64 0, .int .i64 0, .string (⟨#[]⟩), .string (⟨#[]⟩), .slice none 0 0]) many49 hB24 rfl rfl (by decide)) (resL_tmp rfl resL_nil)) rfl), rfl, hx27⟩
  ·
   have hb21 := of_decide_eq_false hb21
   refine st_op (ev_fieldAddr rfl fa23_1 (o' := 1) rfl) rfl rfl rfl ?_
   refine st_op (ev_load rfl (lvar_one one2 h13 rfl)) rfl rfl rfl ?_
   refine st_op (ev_int rfl rfl rfl) rfl rfl rfl ?_
   refine st_op (ev_pickF rfl rfl) rfl rfl rfl ?_
   refine st_op (ev_move rfl) rfl rfl rfl ?_
   refine st_bool 21 rfl (fun hb28 => ?_) (fun hb28 => ?_)
   ·
    have hb28 := of_decide_eq_true hb28
    iterate 3 refine st_skip rfl rfl rfl ?_
    refine st_op (ev_pickT rfl rfl) rfl rfl rfl ?_
    refine st_op (ev_move rfl) rfl rfl rfl ?_
    iterate 3 refine st_skip rfl rfl rfl ?_
    refine st_op (ev_pickT rfl rfl) rfl rfl rfl ?_
    try show aw _ _ _ _ _ _
    refine aw_cond (t := true) rfl ?_
    try show aw _ _ _ _ _ _
    refine aw_seq ?_
    refine aw_reg ?_
    refine st_op (ev_build zero49 pl49 (parts := []) rfl (cs := [.int .i64 0, .int .i64 0, .string (⟨#[]⟩), .string (⟨#[]⟩), .slice none 0 0]) rfl) rfl rfl rfl ?_
    obtain ⟨H29, he30, H29n_, hB31, f32⟩ := mem_store (v := .agg #[.int .i64 0, .int .i64 0, .string (⟨#[]⟩), .string (⟨#[]⟩), .slice none 0 0]) (o := 0) (cs' := [.int .i64 0, .int .i64 0, .string (⟨#[]⟩), .string (⟨#[]⟩), .slice none 0 0]) 5 rfl rfl size49 hB11 rfl rfl rfl
    refine st_op0 (he30 _ _ _ _ _ _ _ _ _ rfl rfl) rfl rfl ?_
    have hf33 : Fr (fun q => q = b7) H8 H29 := Fr.write H29n_ f32
    have H29n : H8.next ≤ H29.next := hf33.1
    refine st_op (ev_assign rfl) rfl rfl rfl ?_
    try show aw _ _ _ _ _ _
    refine aw_ret ?_
    have hx34 : Ext H H29 := (Ext.then (Ext.trans hx6 hx12) hf33 (fun q hq e => by omega))
    exact ⟨.tuple #[.agg #[.int .i64 0, .int .i64 0, .string (⟨#[]⟩), .string (⟨#[]⟩), .slice none 0 0], .bool false], (resA_of (resL_cell rfl (lvar_part (l := [.int .i64 0, .int .i64 0, .string (⟨#[]⟩), .string (⟨#[]⟩), .slice none 0 0]) many49 hB31 rfl rfl (by decide)) (resL_tmp rfl resL_nil)) rfl), rfl, hx34⟩
   ·
    have hb28 := of_decide_eq_false hb28
    refine st_op (ev_fieldAddr rfl fa23_1 (o' := 1) rfl) rfl rfl rfl ?_
    refine st_op (ev_load rfl (lvar_one one2 h13 rfl)) rfl rfl rfl ?_
    refine st_op (ev_int rfl rfl rfl) rfl rfl rfl ?_
    refine st_op (ev_pickF rfl rfl) rfl rfl rfl ?_
    refine st_op (ev_move rfl) rfl rfl rfl ?_
    refine st_bool 26 rfl (fun hb35 => ?_) (fun hb35 => ?_)
    ·
     have hb35 := of_decide_eq_true hb35
     iterate 3 refine st_skip rfl rfl rfl ?_
     refine st_op (ev_pickT rfl rfl) rfl rfl rfl ?_
     try show aw _ _ _ _ _ _
     refine aw_cond (t := true) rfl ?_
     try show aw _ _ _ _ _ _
     refine aw_seq ?_
     refine aw_reg ?_
     refine st_op (ev_build zero49 pl49 (parts := []) rfl (cs := [.int .i64 0, .int .i64 0, .string (⟨#[]⟩), .string (⟨#[]⟩), .slice none 0 0]) rfl) rfl rfl rfl ?_
     obtain ⟨H36, he37, H36n_, hB38, f39⟩ := mem_store (v := .agg #[.int .i64 0, .int .i64 0, .string (⟨#[]⟩), .string (⟨#[]⟩), .slice none 0 0]) (o := 0) (cs' := [.int .i64 0, .int .i64 0, .string (⟨#[]⟩), .string (⟨#[]⟩), .slice none 0 0]) 5 rfl rfl size49 hB11 rfl rfl rfl
     refine st_op0 (he37 _ _ _ _ _ _ _ _ _ rfl rfl) rfl rfl ?_
     have hf40 : Fr (fun q => q = b7) H8 H36 := Fr.write H36n_ f39
     have H36n : H8.next ≤ H36.next := hf40.1
     refine st_op (ev_assign rfl) rfl rfl rfl ?_
     try show aw _ _ _ _ _ _
     refine aw_ret ?_
     have hx41 : Ext H H36 := (Ext.then (Ext.trans hx6 hx12) hf40 (fun q hq e => by omega))
     exact ⟨.tuple #[.agg #[.int .i64 0, .int .i64 0, .string (⟨#[]⟩), .string (⟨#[]⟩), .slice none 0 0], .bool false], (resA_of (resL_cell rfl (lvar_part (l := [.int .i64 0, .int .i64 0, .string (⟨#[]⟩), .string (⟨#[]⟩), .slice none 0 0]) many49 hB38 rfl rfl (by decide)) (resL_tmp rfl resL_nil)) rfl), rfl, hx41⟩
    ·
     have hb35 := of_decide_eq_false hb35
     refine st_op (ev_move rfl) rfl rfl rfl ?_
     refine st_op (ev_lenSl rfl Try.underlying24) rfl rfl rfl ?_
     refine st_op (ev_int rfl rfl rfl) rfl rfl rfl ?_
     refine st_op (ev_pickF rfl rfl) rfl rfl rfl ?_
     try show aw _ _ _ _ _ _
     by_cases hc42 : (decide ((l.length : Int) > 200)) = true
     ·
      refine aw_condT hc42 rfl ?_
      try show aw _ _ _ _ _ _
      have hc42 := of_decide_eq_true hc42
      refine aw_seq ?_
      refine aw_reg ?_
      refine st_op (ev_build zero49 pl49 (parts := []) rfl (cs := [.int .i64 0, .int .i64 0, .string (⟨#[]⟩), .string (⟨#[]⟩), .slice none 0 0]) rfl) rfl rfl rfl ?_
      obtain ⟨H43, he44, H43n_, hB45, f46⟩ := mem_store (v := .agg #[.int .i64 0, .int .i64 0, .string (⟨#[]⟩), .string (⟨#[]⟩), .slice none 0 0]) (o := 0) (cs' := [.int .i64 0, .int .i64 0, .string (⟨#[]⟩), .string (⟨#[]⟩), .slice none 0 0]) 5 rfl rfl size49 hB11 rfl rfl rfl
      refine st_op0 (he44 _ _ _ _ _ _ _ _ _ rfl rfl) rfl rfl ?_
      have hf47 : Fr (fun q => q = b7) H8 H43 := Fr.write H43n_ f46
      have H43n : H8.next ≤ H43.next := hf47.1
      refine st_op (ev_assign rfl) rfl rfl rfl ?_
      try show aw _ _ _ _ _ _
      refine aw_ret ?_
      have hx48 : Ext H H43 := (Ext.then (Ext.trans hx6 hx12) hf47 (fun q hq e => by omega))
      exact ⟨.tuple #[.agg #[.int .i64 0, .int .i64 0, .string (⟨#[]⟩), .string (⟨#[]⟩), .slice none 0 0], .bool false], (resA_of (resL_cell rfl (lvar_part (l := [.int .i64 0, .int .i64 0, .string (⟨#[]⟩), .string (⟨#[]⟩), .slice none 0 0]) many49 hB45 rfl rfl (by decide)) (resL_tmp rfl resL_nil)) rfl), rfl, hx48⟩
     ·
      rw [Bool.not_eq_true] at hc42; refine aw_condF hc42 rfl ?_
      try show aw _ _ _ _ _ _
      have hc42 := of_decide_eq_false hc42
      refine aw_skip ?_
      try show aw _ _ _ _ _ _
      refine aw_seq ?_
      refine aw_reg ?_
      refine st_op (ev_fieldAddr rfl fa23_1 (o' := 1) rfl) rfl rfl rfl ?_
      refine st_op (ev_load rfl (lvar_one one2 h13 rfl)) rfl rfl rfl ?_
      refine st_op (ev_assign rfl) rfl rfl rfl ?_
      try show aw _ _ _ _ _ _
      iterate 2 refine aw_seq ?_
      refine aw_reg ?_
      refine st_op (ev_assign rfl) rfl rfl rfl ?_
      try show aw _ _ _ _ _ _
      refine aw_block ?_
      have hno : 0 ≤ s_index ∧ s_index ≤ 1099511627776 := by omega
      refine aw_keep [1, 2, 4, 6, 7] (l' := (.cons 1 (.slice lA l.length lc) (.cons 2 (.pointer (some ⟨b1, 0, none⟩)) (.cons 4 (.pointer (some ⟨b7, 0, none⟩)) (.cons 6 (.int .i64 s_term) (.cons 7 (.int .i64 0) .nil)))))) (by repeat (first | exact Up.done | refine Up.then ?_ | refine Up.inBlock ?_)) rfl ?_
      refine aw_iter (α := Nat × Int × Heap) (fun a => l.length - a.1) (fun a => (.cons 1 (.slice lA l.length lc) (.cons 2 (.pointer (some ⟨b1, 0, none⟩)) (.cons 4 (.pointer (some ⟨b7, 0, none⟩)) (.cons 6 (.int .i64 a.2.1) (.cons 7 (.int .i64 (a.1 : Int)) .nil)))))) (fun a => a.2.2) (fun a => (a.1 ≤ l.length) ∧ (Spec.logRow s_index s_term l = Spec.logRow (s_index + (a.1 : Int)) a.2.1 (l.drop a.1)) ∧ (Ext H8 a.2.2)) (0, s_term, H8) ⟨(show 0 ≤ l.length from Nat.zero_le _), (show Spec.logRow s_index s_term l = Spec.logRow (s_index + (0 : Int)) s_term (l.drop 0) from (by simp)), (show Ext H8 H8 from (Ext.refl H8))⟩ ?_
      rintro ⟨i, t, Hl49⟩ ⟨hi, hv, hxl50⟩ ih51
      replace hi : i ≤ l.length := hi
      replace hv : Spec.logRow s_index s_term l = Spec.logRow (s_index + (i : Int)) t (l.drop i) := hv
      replace hxl50 : Ext H8 Hl49 := hxl50
      show aw _ _ _ (RL _ (.cons 1 (.slice lA l.length lc) (.cons 2 (.pointer (some ⟨b1, 0, none⟩)) (.cons 4 (.pointer (some ⟨b7, 0, none⟩)) (.cons 6 (.int .i64 t) (.cons 7 (.int .i64 (i : Int)) .nil)))))) Hl49 _
      have Hl49n : H8.next ≤ Hl49.next := hxl50.1
      iterate 2 refine aw_seq ?_
      refine aw_reg ?_
      iterate 2 refine st_op (ev_move rfl) rfl rfl rfl ?_
      refine st_op (ev_lenSl rfl Try.underlying24) rfl rfl rfl ?_
      refine st_op (ev_int rfl rfl rfl) rfl rfl rfl ?_
      try show aw _ _ _ _ _ _
      by_cases hc52 : (decide ((i : Int) < (l.length : Int))) = true
      ·
       refine aw_condT hc52 rfl ?_
       try show aw _ _ _ _ _ _
       have hc52 := of_decide_eq_true hc52
       refine aw_skip ?_
       try show aw _ _ _ _ _ _
       refine aw_seq ?_
       refine aw_block ?_
       iterate 2 refine aw_seq ?_
       refine aw_marks (fun b => b < Hl49.next) [(false, false), (false, false), (false, false), (false, false), (false, false), (false, false), (false, false), (false, false), (false, false), (false, false), (false, false), (false, false), (false, false), (false, false), (false, false), (false, false), (false, false), (false, false), (false, false), (false, false)] mixed (by kernel_rfl) (by kernel_rfl) ?_
       iterate 2 refine sm_op (ev_move rfl) rfl rfl rfl ?_
       have hx54 : Ext H Hl49 := (Ext.trans (Ext.trans hx6 hx12) hxl50)
       have h53 := Row.ext hl hx54
       have hi55 : 0 ≤ ((i : Int) : Int) := by omega
       have hi56 : ((i : Int) : Int) < ((l.length : Nat) : Int) := by omega
       obtain ⟨x57, hx58⟩ : ∃ e, l[i]? = some e := ⟨_, List.getElem?_eq_getElem (by omega)⟩
       refine sm_op (ev_at rfl rfl h53 (getMap Entry.cells hx58) (by first | rfl | omega | simp) hi55 hi56 el24) rfl rfl rfl ?_
       refine sm_op (ev_atF rfl h53 (getMap Entry.cells hx58) fa37_0 rfl) rfl rfl rfl ?_
       refine sm_op (ev_atL rfl h53 (getMap Entry.cells hx58) one2 rfl) rfl rfl rfl ?_
       refine sm_op (ev_fieldAddr rfl fa23_0 (o' := 0) rfl) rfl rfl rfl ?_
       have h59 := Ext.blk hxl50 (by omega) h13
       refine sm_op (ev_load rfl (lvar_one one2 h59 rfl)) rfl rfl rfl ?_
       refine sm_op (ev_int64 (c := s_index + 1) rfl rfl rfl (by omega) (by omega)) rfl rfl rfl ?_
       refine sm_op (ev_move rfl) rfl rfl rfl ?_
       refine sm_op (ev_int64 (c := (s_index + 1) + (i : Int)) rfl rfl rfl (by omega) (by omega)) rfl rfl rfl ?_
       refine sm_op (ev_int rfl rfl rfl) rfl rfl rfl ?_
       refine sm_op (ev_move rfl) rfl rfl rfl ?_
       refine sm_bool 51 rfl (fun hb60 => ?_) (fun hb60 => ?_)
       ·
        have hb60 : ¬ (x57.index = (s_index + 1) + (i : Int)) := by simpa using hb60
        iterate 7 refine sm_skip rfl rfl rfl ?_
        refine sm_op (ev_pickT rfl rfl) rfl rfl rfl ?_
        try show aw _ _ _ _ _ _
        refine aw_cond (t := true) rfl ?_
        try show aw _ _ _ _ _ _
        refine aw_seq ?_
        refine aw_reg ?_
        refine st_op (ev_build zero49 pl49 (parts := []) rfl (cs := [.int .i64 0, .int .i64 0, .string (⟨#[]⟩), .string (⟨#[]⟩), .slice none 0 0]) rfl) rfl rfl rfl ?_
        have h61 := Ext.blk hxl50 (by omega) hB11
        obtain ⟨H62, he63, H62n_, hB64, f65⟩ := mem_store (v := .agg #[.int .i64 0, .int .i64 0, .string (⟨#[]⟩), .string (⟨#[]⟩), .slice none 0 0]) (o := 0) (cs' := [.int .i64 0, .int .i64 0, .string (⟨#[]⟩), .string (⟨#[]⟩), .slice none 0 0]) 5 rfl rfl size49 h61 rfl rfl rfl
        refine st_op0 (he63 _ _ _ _ _ _ _ _ _ rfl rfl) rfl rfl ?_
        have hf66 : Fr (fun q => q = b7) Hl49 H62 := Fr.write H62n_ f65
        have H62n : Hl49.next ≤ H62.next := hf66.1
        refine st_op (ev_assign rfl) rfl rfl rfl ?_
        try show aw _ _ _ _ _ _
        refine aw_ret ?_
        have hx67 : Ext H H62 := (Ext.then hx54 hf66 (fun q hq e => by omega))
        exact ⟨.tuple #[.agg #[.int .i64 0, .int .i64 0, .string (⟨#[]⟩), .string (⟨#[]⟩), .slice none 0 0], .bool false], (resA_of (resL_cell rfl (lvar_part (l := [.int .i64 0, .int .i64 0, .string (⟨#[]⟩), .string (⟨#[]⟩), .slice none 0 0]) many49 hB64 rfl rfl (by decide)) (resL_tmp rfl resL_nil)) rfl), rfl, hx67⟩
       ·
        have hb60 : (x57.index = (s_index + 1) + (i : Int)) := by simpa using hb60
        iterate 2 refine sm_op (ev_move rfl) rfl rfl rfl ?_
        have hi68 : 0 ≤ ((i : Int) : Int) := by omega
        have hi69 : ((i : Int) : Int) < ((l.length : Nat) : Int) := by omega
        refine sm_op (ev_at rfl rfl h53 (getMap Entry.cells hx58) (by first | rfl | omega | simp) hi68 hi69 el24) rfl rfl rfl ?_
        refine sm_op (ev_atF rfl h53 (getMap Entry.cells hx58) fa37_1 rfl) rfl rfl rfl ?_
        refine sm_op (ev_atL rfl h53 (getMap Entry.cells hx58) one2 rfl) rfl rfl rfl ?_
        refine sm_op (ev_move rfl) rfl rfl rfl ?_
        refine sm_op (ev_int rfl rfl rfl) rfl rfl rfl ?_
        refine sm_op (ev_pickF rfl rfl) rfl rfl rfl ?_
        try show aw _ _ _ _ _ _
        by_cases hc70 : (decide (x57.term < t)) = true
        ·
         refine aw_condT hc70 rfl ?_
         try show aw _ _ _ _ _ _
         have hc70 := of_decide_eq_true hc70
         refine aw_seq ?_
         refine aw_reg ?_
         refine st_op (ev_build zero49 pl49 (parts := []) rfl (cs := [.int .i64 0, .int .i64 0, .string (⟨#[]⟩), .string (⟨#[]⟩), .slice none 0 0]) rfl) rfl rfl rfl ?_
         have h71 := Ext.blk hxl50 (by omega) hB11
         obtain ⟨H72, he73, H72n_, hB74, f75⟩ := mem_store (v := .agg #[.int .i64 0, .int .i64 0, .string (⟨#[]⟩), .string (⟨#[]⟩), .slice none 0 0]) (o := 0) (cs' := [.int .i64 0, .int .i64 0, .string (⟨#[]⟩), .string (⟨#[]⟩), .slice none 0 0]) 5 rfl rfl size49 h71 rfl rfl rfl
         refine st_op0 (he73 _ _ _ _ _ _ _ _ _ rfl rfl) rfl rfl ?_
         have hf76 : Fr (fun q => q = b7) Hl49 H72 := Fr.write H72n_ f75
         have H72n : Hl49.next ≤ H72.next := hf76.1
         refine st_op (ev_assign rfl) rfl rfl rfl ?_
         try show aw _ _ _ _ _ _
         refine aw_ret ?_
         have hx77 : Ext H H72 := (Ext.then hx54 hf76 (fun q hq e => by omega))
         exact ⟨.tuple #[.agg #[.int .i64 0, .int .i64 0, .string (⟨#[]⟩), .string (⟨#[]⟩), .slice none 0 0], .bool false], (resA_of (resL_cell rfl (lvar_part (l := [.int .i64 0, .int .i64 0, .string (⟨#[]⟩), .string (⟨#[]⟩), .slice none 0 0]) many49 hB74 rfl rfl (by decide)) (resL_tmp rfl resL_nil)) rfl), rfl, hx77⟩
        ·
         rw [Bool.not_eq_true] at hc70; refine aw_condF hc70 rfl ?_
         try show aw _ _ _ _ _ _
         have hc70 := of_decide_eq_false hc70
         refine aw_skip ?_
         try show aw _ _ _ _ _ _
         refine aw_reg ?_
         iterate 2 refine st_op (ev_move rfl) rfl rfl rfl ?_
         have hi78 : 0 ≤ ((i : Int) : Int) := by omega
         have hi79 : ((i : Int) : Int) < ((l.length : Nat) : Int) := by omega
         refine st_op (ev_at rfl rfl h53 (getMap Entry.cells hx58) (by first | rfl | omega | simp) hi78 hi79 el24) rfl rfl rfl ?_
         refine st_op (ev_atF rfl h53 (getMap Entry.cells hx58) fa37_1 rfl) rfl rfl rfl ?_
         refine st_op (ev_atL rfl h53 (getMap Entry.cells hx58) one2 rfl) rfl rfl rfl ?_
         refine st_op (ev_assign rfl) rfl rfl rfl ?_
         try show aw _ _ _ _ _ _
         refine aw_reg ?_
         refine st_op (ev_move rfl) rfl rfl rfl ?_
         refine st_op (ev_int64 (c := (i : Int) + 1) rfl rfl rfl (by omega) (by omega)) rfl rfl rfl ?_
         refine st_op (ev_assign rfl) rfl rfl rfl ?_
         try show aw _ _ _ _ _ _
         refine aw_keep [1, 2, 4, 6, 7] (l' := (.cons 1 (.slice lA l.length lc) (.cons 2 (.pointer (some ⟨b1, 0, none⟩)) (.cons 4 (.pointer (some ⟨b7, 0, none⟩)) (.cons 6 (.int .i64 x57.term) (.cons 7 (.int .i64 ((i : Int) + 1)) .nil)))))) (by repeat (first | exact Up.done | refine Up.then ?_ | refine Up.inBlock ?_)) rfl ?_
         exact ih51 (i + 1, x57.term, Hl49) ⟨(show (i + 1) ≤ l.length from (by omega)), (show Spec.logRow s_index s_term l = Spec.logRow (s_index + ((i + 1) : Int)) x57.term (l.drop (i + 1)) from (by rw [hv, Spec.logRow_step hx58 (by rw [Spec.wrap_id (by omega) (by omega)]; omega) (by omega)]; congr 1; omega)), (show Ext H8 Hl49 from hxl50)⟩ (by simp only; omega)
      ·
       rw [Bool.not_eq_true] at hc52; refine aw_condF hc52 rfl ?_
       try show aw _ _ _ _ _ _
       have hc52 := of_decide_eq_false hc52
       refine aw_exit ?_
       try show aw _ _ _ _ _ _
       refine aw_seq ?_
       refine aw_marks (fun b => b < Hl49.next) [(true, false), (false, false), (false, true), (false, false), (false, false), (false, false)] mixed (by kernel_rfl) (by kernel_rfl) ?_
       have h80 := Ext.blk hxl50 (by omega) h13
       refine sm_read (ev_load rfl (lvar_part (l := [.int .i64 s_index, .int .i64 s_term, .string s_conf, .string s_data]) many23 h80 rfl rfl (by decide))) rfl rfl rfl (fun b hb => by cases hb; dsimp only <;> omega) ?_
       refine sm_op (ev_move rfl) rfl rfl rfl ?_
       have hm81 : My Hl49 Hl49 none 0 4 (([] : List Entry).map Entry.cells) := .nil
       have hx83 : Ext H Hl49 := (Ext.trans (Ext.trans hx6 hx12) hxl50)
       have h82 := Row.ext hl hx83
       obtain ⟨A84, c85, H86, W87, he88, hm89, hf90⟩ := mem_append (f := Entry.cells) (old := ([] : List Entry)) (new := l) (m := 0) (mx := l.length) (c := 0) (by first | rfl | simp) (by first | rfl | simp) eok24 (by decide) hm81 hm81 (by omega) ((h82).srcF (by decide) (by first | rfl | simp)) rfl Entry.cells_len Entry.cells_one (by omega) (by omega)
       refine sm_act (he88 _ _ _ _ _ _ _ _ _ _ rfl rfl isrow24) rfl rfl rfl (fun q hq => hf90.2 q (by omega) (fun e => by omega)) ?_
       have H86n : Hl49.next ≤ H86.next := hf90.1
       rw [List.nil_append] at hm89
       refine sm_op (ev_build zero49 pl49 (parts := [(0, .agg #[.int .i64 s_index, .int .i64 s_term, .string s_conf, .string s_data]), (1, .slice A84 l.length c85)]) rfl (cs := [.int .i64 s_index, .int .i64 s_term, .string s_conf, .string s_data, .slice A84 l.length c85]) rfl) rfl rfl rfl ?_
       have hx92 : Ext H8 H86 := (Ext.then hxl50 hf90 (fun q hq e => by omega))
       have h91 := Ext.blk hx92 (by omega) hB11
       obtain ⟨H93, he94, H93n_, hB95, f96⟩ := mem_store (v := .agg #[.int .i64 s_index, .int .i64 s_term, .string s_conf, .string s_data, .slice A84 l.length c85]) (o := 0) (cs' := [.int .i64 s_index, .int .i64 s_term, .string s_conf, .string s_data, .slice A84 l.length c85]) 5 rfl rfl size49 h91 rfl rfl rfl
       refine sm_op0 (he94 _ _ _ _ _ _ _ _ _ rfl rfl) rfl rfl ?_
       have hf97 : Fr (fun q => q = b7) H86 H93 := Fr.write H93n_ f96
       have H93n : H86.next ≤ H93.next := hf97.1
       refine sm_op (ev_assign rfl) rfl rfl rfl ?_
       try show aw _ _ _ _ _ _
       refine aw_ret ?_
       exfalso; have q2 : Spec.logRow s_index s_term l = true := (by rw [hv, List.drop_eq_nil_of_le (by omega)]; rfl); have q := ul; rw [Spec.newOk, q2, Bool.and_true, decide_eq_false_iff_not] at q; omega
theorem ref21_First_spec (H : Heap) (x : Int) (hx : 0 ≤ x ∧ x ≤ 2199023255552) (tm : Int) (cf : ByteArray) (hcf : cf.size ≤ 1073741824) (dt : ByteArray) (lA : Option Addr) (l : List Entry) (lc : Nat) (hl : Row H lA lc 4 (l.map Entry.cells)) (cl : l.length ≤ lc) (ll : l.length ≤ 200) (uk : Spec.LogOk x tm l) : ∃ v H', Spec Try.prog 40 [.agg #[.int .i64 x, .int .i64 tm, .string cf, .string dt, .slice lA l.length lc]] H v H' ∧ ((v = .int .i64 (x + 1)) ∧ (Ext H H')) := by
 refine spec_go1 E0_ok 7 (f := 40) Try.func40 rfl rfl rfl ?_
 refine aw_seq ?_
 refine aw_reg ?_
 obtain ⟨b1, H2, he3, b1e, H2n_, hB5, f4⟩ := mem_box (P := Try.prog) H (v := .agg #[.int .i64 x, .int .i64 tm, .string cf, .string dt, .slice lA l.length lc]) (cs := [.int .i64 x, .int .i64 tm, .string cf, .string dt, .slice lA l.length lc]) rfl rfl
 refine st_op (he3 _ _ _ _ _ _ _ _ _ rfl) rfl rfl rfl ?_
 have hx6 : Ext H H2 := Ext.new (by omega) H2n_ f4
 have H2n : H.next ≤ H2.next := hx6.1
 refine st_op (ev_assign rfl) rfl rfl rfl ?_
 try show aw _ _ _ _ _ _
 refine aw_seq ?_
 refine aw_reg ?_
 refine st_op (ev_fieldAddr rfl fa49_0 (o' := 0) rfl) rfl rfl rfl ?_
 refine st_op (ev_fieldAddr rfl fa23_0 (o' := 0) rfl) rfl rfl rfl ?_
 refine st_op (ev_load rfl (lvar_one one2 hB5 rfl)) rfl rfl rfl ?_
 refine st_op (ev_int64 (c := x + 1) rfl rfl rfl (by omega) (by omega)) rfl rfl rfl ?_
 refine st_op (ev_assign rfl) rfl rfl rfl ?_
 try show aw _ _ _ _ _ _
 refine aw_ret ?_
 have hres : (x + 1) = x + 1 := by rfl
 exact ⟨.int .i64 (x + 1), rfl, by first | (rw [hres]; done) | rw [← hres], hx6⟩
theorem ref21_Last_spec (H : Heap) (x : Int) (hx : 0 ≤ x ∧ x ≤ 2199023255552) (tm : Int) (cf : ByteArray) (hcf : cf.size ≤ 1073741824) (dt : ByteArray) (lA : Option Addr) (l : List Entry) (lc : Nat) (hl : Row H lA lc 4 (l.map Entry.cells)) (cl : l.length ≤ lc) (ll : l.length ≤ 200) (uk : Spec.LogOk x tm l) : ∃ v H', Spec Try.prog 39 [.agg #[.int .i64 x, .int .i64 tm, .string cf, .string dt, .slice lA l.length lc]] H v H' ∧ ((v = .int .i64 (x + (l.length : Int))) ∧ (Ext H H')) := by
 refine spec_go1 E0_ok 10 (f := 39) Try.func39 rfl rfl rfl ?_
 refine aw_seq ?_
 refine aw_reg ?_
 obtain ⟨b1, H2, he3, b1e, H2n_, hB5, f4⟩ := mem_box (P := Try.prog) H (v := .agg #[.int .i64 x, .int .i64 tm, .string cf, .string dt, .slice lA l.length lc]) (cs := [.int .i64 x, .int .i64 tm, .string cf, .string dt, .slice lA l.length lc]) rfl rfl
 refine st_op (he3 _ _ _ _ _ _ _ _ _ rfl) rfl rfl rfl ?_
 have hx6 : Ext H H2 := Ext.new (by omega) H2n_ f4
 have H2n : H.next ≤ H2.next := hx6.1
 refine st_op (ev_assign rfl) rfl rfl rfl ?_
 try show aw _ _ _ _ _ _
 refine aw_seq ?_
 refine aw_reg ?_
 refine st_op (ev_fieldAddr rfl fa49_0 (o' := 0) rfl) rfl rfl rfl ?_
 refine st_op (ev_fieldAddr rfl fa23_0 (o' := 0) rfl) rfl rfl rfl ?_
 refine st_op (ev_load rfl (lvar_one one2 hB5 rfl)) rfl rfl rfl ?_
 refine st_op (ev_fieldAddr rfl fa49_1 (o' := 4) rfl) rfl rfl rfl ?_
 refine st_op (ev_load rfl (lvar_one one24 hB5 rfl)) rfl rfl rfl ?_
 refine st_op (ev_lenSl rfl Try.underlying24) rfl rfl rfl ?_
 refine st_op (ev_int64 (c := x + (l.length : Int)) rfl rfl rfl (by omega) (by omega)) rfl rfl rfl ?_
 refine st_op (ev_assign rfl) rfl rfl rfl ?_
 try show aw _ _ _ _ _ _
 refine aw_ret ?_
 have hres : (x + (l.length : Int)) = x + (l.length : Int) := by rfl
 exact ⟨.int .i64 (x + (l.length : Int)), rfl, by first | (rw [hres]; done) | rw [← hres], hx6⟩
theorem ref21_Get_spec (H : Heap) (x : Int) (hx : 0 ≤ x ∧ x ≤ 2199023255552) (tm : Int) (cf : ByteArray) (hcf : cf.size ≤ 1073741824) (dt : ByteArray) (lA : Option Addr) (l : List Entry) (lc : Nat) (hl : Row H lA lc 4 (l.map Entry.cells)) (cl : l.length ≤ lc) (ll : l.length ≤ 200) (uk : Spec.LogOk x tm l) (i : Int) (n : Int) : ∃ v H', Spec Try.prog 30 [.agg #[.int .i64 x, .int .i64 tm, .string cf, .string dt, .slice lA l.length lc], .int .i64 i, .int .i64 n] H v H' ∧ (∃ rA0 rc0, (v = .slice rA0 ((Spec.getF x l i n).length) rc0) ∧ (My H H' rA0 rc0 4 ((Spec.getF x l i n).map Entry.cells)) ∧ ((Spec.getF x l i n).length ≤ l.length) ∧ (Ext H H')) := by
 refine spec_go3 E0_ok 36 (f := 30) Try.func30 rfl rfl rfl ?_
 refine aw_seq ?_
 refine aw_reg ?_
 obtain ⟨b1, H2, he3, b1e, H2n_, hB5, f4⟩ := mem_box (P := Try.prog) H (v := .agg #[.int .i64 x, .int .i64 tm, .string cf, .string dt, .slice lA l.length lc]) (cs := [.int .i64 x, .int .i64 tm, .string cf, .string dt, .slice lA l.length lc]) rfl rfl
 refine st_op (he3 _ _ _ _ _ _ _ _ _ rfl) rfl rfl rfl ?_
 have hx6 : Ext H H2 := Ext.new (by omega) H2n_ f4
 have H2n : H.next ≤ H2.next := hx6.1
 refine st_op (ev_assign rfl) rfl rfl rfl ?_
 try show aw _ _ _ _ _ _
 iterate 2 refine aw_seq ?_
 refine aw_reg ?_
 refine st_op (ev_move rfl) rfl rfl rfl ?_
 refine st_op (ev_load rfl (lvar_part (l := [.int .i64 x, .int .i64 tm, .string cf, .string dt, .slice lA l.length lc]) many49 hB5 rfl rfl (by decide))) rfl rfl rfl ?_
 refine st_call rfl rfl rfl ent40 rfl rfl rfl ?_
 have h7 := Row.ext hl hx6
 obtain ⟨_, H9, hs8, hs8v, hx10⟩ := ref21_First_spec H2 x ⟨by omega, by omega⟩ tm cf (by omega) dt lA l lc h7 cl (by omega) (by assumption)
 rw [hs8v] at hs8; clear hs8v
 refine ⟨_, H9, hs8, ?_⟩
 have H9n : H2.next ≤ H9.next := hx10.1
 refine st_op (ev_int rfl rfl rfl) rfl rfl rfl ?_
 refine st_op (ev_move rfl) rfl rfl rfl ?_
 refine st_bool 12 rfl (fun hb11 => ?_) (fun hb11 => ?_)
 ·
  have hb11 := of_decide_eq_true hb11
  iterate 4 refine st_skip rfl rfl rfl ?_
  refine st_op (ev_pickT rfl rfl) rfl rfl rfl ?_
  refine st_op (ev_move rfl) rfl rfl rfl ?_
  iterate 2 refine st_skip rfl rfl rfl ?_
  refine st_op (ev_pickT rfl rfl) rfl rfl rfl ?_
  try show aw _ _ _ _ _ _
  refine aw_cond (t := true) rfl ?_
  try show aw _ _ _ _ _ _
  refine aw_seq ?_
  refine aw_reg ?_
  refine st_op (ev_assign rfl) rfl rfl rfl ?_
  try show aw _ _ _ _ _ _
  refine aw_ret ?_
  have hm12 : My H9 H9 none 0 4 (([] : List Entry).map Entry.cells) := .nil
  have hx13 : Ext H H9 := (Ext.trans hx6 hx10)
  have hres : (Spec.getF x l i n) = ([] : List Entry) := by exact if_pos (by omega)
  exact ⟨.slice none 0 0, rfl, none, 0, by first | (rw [hres]; first | done | rfl | simp; done) | rfl, (by rw [hres]; exact (My.older hm12 (by omega))), (by exact Spec.getF_len _ _ _ _), hx13⟩
 ·
  have hb11 := of_decide_eq_false hb11
  refine st_op (ev_move rfl) rfl rfl rfl ?_
  have h14 := Ext.blk hx10 (by omega) hB5
  refine st_op (ev_load rfl (lvar_part (l := [.int .i64 x, .int .i64 tm, .string cf, .string dt, .slice lA l.length lc]) many49 h14 rfl rfl (by decide))) rfl rfl rfl ?_
  refine st_call rfl rfl rfl ent39 rfl rfl rfl ?_
  have h15 := Row.ext h7 hx10
  obtain ⟨_, H17, hs16, hs16v, hx18⟩ := ref21_Last_spec H9 x ⟨by omega, by omega⟩ tm cf (by omega) dt lA l lc h15 cl (by omega) (by assumption)
  rw [hs16v] at hs16; clear hs16v
  refine ⟨_, H17, hs16, ?_⟩
  have H17n : H9.next ≤ H17.next := hx18.1
  refine st_op (ev_int rfl rfl rfl) rfl rfl rfl ?_
  refine st_op (ev_pickF rfl rfl) rfl rfl rfl ?_
  refine st_op (ev_move rfl) rfl rfl rfl ?_
  refine st_bool 18 rfl (fun hb19 => ?_) (fun hb19 => ?_)
  ·
   have hb19 := of_decide_eq_true hb19
   iterate 2 refine st_skip rfl rfl rfl ?_
   refine st_op (ev_pickT rfl rfl) rfl rfl rfl ?_
   try show aw _ _ _ _ _ _
   refine aw_cond (t := true) rfl ?_
   try show aw _ _ _ _ _ _
   refine aw_seq ?_
   refine aw_reg ?_
   refine st_op (ev_assign rfl) rfl rfl rfl ?_
   try show aw _ _ _ _ _ _
   refine aw_ret ?_
   have hm20 : My H17 H17 none 0 4 (([] : List Entry).map Entry.cells) := .nil
   have hx21 : Ext H H17 := (Ext.trans (Ext.trans hx6 hx10) hx18)
   have hres : (Spec.getF x l i n) = ([] : List Entry) := by exact if_pos (by omega)
   exact ⟨.slice none 0 0, rfl, none, 0, by first | (rw [hres]; first | done | rfl | simp; done) | rfl, (by rw [hres]; exact (My.older hm20 (by omega))), (by exact Spec.getF_len _ _ _ _), hx21⟩
  ·
   have hb19 := of_decide_eq_false hb19
   refine st_op (ev_move rfl) rfl rfl rfl ?_
   refine st_op (ev_int rfl rfl rfl) rfl rfl rfl ?_
   refine st_op (ev_pickF rfl rfl) rfl rfl rfl ?_
   try show aw _ _ _ _ _ _
   by_cases hc22 : (decide (n < 1)) = true
   ·
    refine aw_condT hc22 rfl ?_
    try show aw _ _ _ _ _ _
    have hc22 := of_decide_eq_true hc22
    refine aw_seq ?_
    refine aw_reg ?_
    refine st_op (ev_assign rfl) rfl rfl rfl ?_
    try show aw _ _ _ _ _ _
    refine aw_ret ?_
    have hm23 : My H17 H17 none 0 4 (([] : List Entry).map Entry.cells) := .nil
    have hx24 : Ext H H17 := (Ext.trans (Ext.trans hx6 hx10) hx18)
    have hres : (Spec.getF x l i n) = ([] : List Entry) := by exact if_pos (by omega)
    exact ⟨.slice none 0 0, rfl, none, 0, by first | (rw [hres]; first | done | rfl | simp; done) | rfl, (by rw [hres]; exact (My.older hm23 (by omega))), (by exact Spec.getF_len _ _ _ _), hx24⟩
   ·
    rw [Bool.not_eq_true] at hc22; refine aw_condF hc22 rfl ?_
    try show aw _ _ _ _ _ _
    have hc22 := of_decide_eq_false hc22
    refine aw_skip ?_
    try show aw _ _ _ _ _ _
    refine aw_seq ?_
    refine aw_marks (fun b => b < H17.next) [(false, false), (true, false), (false, false), (false, false), (false, true), (false, false), (false, false), (false, false)] mixed (by kernel_rfl) (by kernel_rfl) ?_
    refine sm_op (ev_fieldAddr rfl fa49_1 (o' := 4) rfl) rfl rfl rfl ?_
    have h25 := Ext.blk hx18 (by omega) h14
    refine sm_read (ev_load rfl (lvar_one one24 h25 rfl)) rfl rfl rfl (fun b hb => by cases hb; dsimp only <;> omega) ?_
    refine sm_op (ev_move rfl) rfl rfl rfl ?_
    refine sm_op (ev_load rfl (lvar_part (l := [.int .i64 x, .int .i64 tm, .string cf, .string dt, .slice lA l.length lc]) many49 h25 rfl rfl (by decide))) rfl rfl rfl ?_
    refine sm_call rfl rfl rfl ent40 rfl rfl rfl ?_
    have h26 := Row.ext h15 hx18
    obtain ⟨_, H28, hs27, hs27v, hx29⟩ := ref21_First_spec H17 x ⟨by omega, by omega⟩ tm cf (by omega) dt lA l lc h26 cl (by omega) (by assumption)
    rw [hs27v] at hs27; clear hs27v
    refine ⟨_, H28, hs27, (fun _ b hb => hx29.2 b (by omega)), ?_⟩
    have H28n : H17.next ≤ H28.next := hx29.1
    refine sm_op (ev_int64 (c := i - (x + 1)) rfl rfl rfl (by omega) (by omega)) rfl rfl rfl ?_
    have h38 := Row.ext h26 hx29
    obtain ⟨A30, c31, L32, hL33, hl34, hs35, hr36, hc37⟩ := sliceA_typed Entry.cells el24 (by decide) h38 cl (lo := some (.int .i64 (i - (x + 1)))) (hi := none) (l := ((i - (x + 1))).toNat) (h := l.length) rfl (bound_int (by omega) (by omega) (by first | rfl | omega)) (by omega) (by omega)
    refine sm_op (ev_slice rfl rfl rfl rfl hs35) rfl rfl rfl ?_
    refine sm_op (ev_assign rfl) rfl rfl rfl ?_
    try show aw _ _ _ _ _ _
    refine aw_seq ?_
    refine aw_reg ?_
    iterate 3 refine st_op (ev_move rfl) rfl rfl rfl ?_
    refine st_op (ev_lenSl rfl Try.underlying24) rfl rfl rfl ?_
    obtain ⟨z39, hz40, hz41⟩ : ∃ z, (if (L32.length : Int) < n then (L32.length : Int) else n) = z ∧ (n ≥ z ∧ (L32.length : Int) ≥ z ∧ (z = n ∨ z = (L32.length : Int))) := ⟨_, rfl, by split <;> omega⟩
    refine st_op (ev_minE hz40 rfl rfl) rfl rfl rfl ?_
    obtain ⟨A42, c43, L44, hL45, hl46, hs47, hr48, hc49⟩ := sliceA_typed Entry.cells el24 (by decide) hr36 hc37 (lo := none) (hi := some (.int .i64 z39)) (l := 0) (h := (z39).toNat) (by rw [Option.isSome_some, if_pos rfl]; exact bound_int (by omega) (by omega) (by first | rfl | omega)) rfl (by omega) (by omega)
    refine st_op (ev_slice rfl rfl rfl rfl hs47) rfl rfl rfl ?_
    have hm50 : My H28 H28 none 0 4 (([] : List Entry).map Entry.cells) := .nil
    obtain ⟨A51, c52, H53, W54, he55, hm56, hf57⟩ := mem_append (f := Entry.cells) (old := ([] : List Entry)) (new := L44) (m := 0) (mx := L44.length) (c := 0) (by first | rfl | simp) (by first | rfl | simp) eok24 (by decide) hm50 hm50 (by omega) ((hr48).srcF (by decide) (by first | rfl | simp)) rfl Entry.cells_len Entry.cells_one (by omega) (by omega)
    refine st_op (he55 _ _ _ _ _ _ _ _ _ _ rfl rfl isrow24) rfl rfl rfl ?_
    have H53n : H28.next ≤ H53.next := hf57.1
    rw [List.nil_append] at hm56
    refine st_op (ev_assign rfl) rfl rfl rfl ?_
    try show aw _ _ _ _ _ _
    refine aw_ret ?_
    have hx58 : Ext H H53 := (Ext.then (Ext.trans (Ext.trans (Ext.trans hx6 hx10) hx18) hx29) hf57 (fun q hq e => by omega))
    have hres : (Spec.getF x l i n) = L44 := by have e1 : L32 = l.drop (i - (x + 1)).toNat := (by rw [hL33]; exact List.take_of_length_le (by rw [List.length_drop]; omega)); unfold Spec.getF; rw [if_neg (by omega), hL45, e1, List.drop_zero, Nat.sub_zero, List.take_eq_take_iff]; simp only [List.length_drop] at *; omega
    exact ⟨.slice A51 L44.length c52, rfl, A51, c52, by first | (rw [hres]; first | done | rfl | simp; done) | rfl, (by rw [hres]; exact (My.older hm56 (by omega))), (by exact Spec.getF_len _ _ _ _), hx58⟩
theorem ref21_Term_spec (H : Heap) (x : Int) (hx : 0 ≤ x ∧ x ≤ 2199023255552) (tm : Int) (cf : ByteArray) (hcf : cf.size ≤ 1073741824) (dt : ByteArray) (lA : Option Addr) (l : List Entry) (lc : Nat) (hl : Row H lA lc 4 (l.map Entry.cells)) (cl : l.length ≤ lc) (ll : l.length ≤ 200) (uk : Spec.LogOk x tm l) (i : Int) : ∃ v H', Spec Try.prog 26 [.agg #[.int .i64 x, .int .i64 tm, .string cf, .string dt, .slice lA l.length lc], .int .i64 i] H v H' ∧ ((v = .tuple #[.int .i64 ((Spec.termF x tm l i).1), .bool ((Spec.termF x tm l i).2)]) ∧ (Ext H H')) := by
 refine spec_go2 E0_ok 36 (f := 26) Try.func26 rfl rfl rfl ?_
 refine aw_seq ?_
 refine aw_reg ?_
 obtain ⟨b1, H2, he3, b1e, H2n_, hB5, f4⟩ := mem_box (P := Try.prog) H (v := .agg #[.int .i64 x, .int .i64 tm, .string cf, .string dt, .slice lA l.length lc]) (cs := [.int .i64 x, .int .i64 tm, .string cf, .string dt, .slice lA l.length lc]) rfl rfl
 refine st_op (he3 _ _ _ _ _ _ _ _ _ rfl) rfl rfl rfl ?_
 have hx6 : Ext H H2 := Ext.new (by omega) H2n_ f4
 have H2n : H.next ≤ H2.next := hx6.1
 iterate 2 refine st_op (ev_assign rfl) rfl rfl rfl ?_
 try show aw _ _ _ _ _ _
 iterate 2 refine aw_seq ?_
 refine aw_reg ?_
 refine st_op (ev_move rfl) rfl rfl rfl ?_
 refine st_op (ev_fieldAddr rfl fa49_0 (o' := 0) rfl) rfl rfl rfl ?_
 refine st_op (ev_fieldAddr rfl fa23_0 (o' := 0) rfl) rfl rfl rfl ?_
 refine st_op (ev_load rfl (lvar_one one2 hB5 rfl)) rfl rfl rfl ?_
 refine st_op (ev_int rfl rfl rfl) rfl rfl rfl ?_
 try show aw _ _ _ _ _ _
 by_cases hc7 : (i == x) = true
 ·
  refine aw_condT hc7 rfl ?_
  try show aw _ _ _ _ _ _
  have hc7 := eq_of_beq hc7
  refine aw_seq ?_
  refine aw_reg ?_
  refine st_op (ev_fieldAddr rfl fa49_0 (o' := 0) rfl) rfl rfl rfl ?_
  refine st_op (ev_fieldAddr rfl fa23_1 (o' := 1) rfl) rfl rfl rfl ?_
  refine st_op (ev_load rfl (lvar_one one2 hB5 rfl)) rfl rfl rfl ?_
  iterate 2 refine st_op (ev_assign rfl) rfl rfl rfl ?_
  try show aw _ _ _ _ _ _
  refine aw_ret ?_
  have hres : (Spec.termF x tm l i) = (tm, true) := by rw [show i = x by omega]; exact Spec.termF_base
  exact ⟨.tuple #[.int .i64 tm, .bool true], rfl, by first | (rw [hres]; done) | rw [← hres], hx6⟩
 ·
  rw [Bool.not_eq_true] at hc7; refine aw_condF hc7 rfl ?_
  try show aw _ _ _ _ _ _
  have hc7 := ne_of_beq_false hc7
  refine aw_skip ?_
  try show aw _ _ _ _ _ _
  iterate 2 refine aw_seq ?_
  refine aw_reg ?_
  refine st_op (ev_move rfl) rfl rfl rfl ?_
  refine st_op (ev_fieldAddr rfl fa49_0 (o' := 0) rfl) rfl rfl rfl ?_
  refine st_op (ev_fieldAddr rfl fa23_0 (o' := 0) rfl) rfl rfl rfl ?_
  refine st_op (ev_load rfl (lvar_one one2 hB5 rfl)) rfl rfl rfl ?_
  refine st_op (ev_int rfl rfl rfl) rfl rfl rfl ?_
  refine st_op (ev_move rfl) rfl rfl rfl ?_
  refine st_bool 19 rfl (fun hb8 => ?_) (fun hb8 => ?_)
  ·
   have hb8 := of_decide_eq_true hb8
   iterate 4 refine st_skip rfl rfl rfl ?_
   refine st_op (ev_pickT rfl rfl) rfl rfl rfl ?_
   try show aw _ _ _ _ _ _
   refine aw_cond (t := true) rfl ?_
   try show aw _ _ _ _ _ _
   refine aw_seq ?_
   refine aw_reg ?_
   iterate 2 refine st_op (ev_assign rfl) rfl rfl rfl ?_
   try show aw _ _ _ _ _ _
   refine aw_ret ?_
   have hres : (Spec.termF x tm l i) = (0, false) := by exact Spec.termF_out (by omega)
   exact ⟨.tuple #[.int .i64 0, .bool false], rfl, by first | (rw [hres]; done) | rw [← hres], hx6⟩
  ·
   have hb8 := of_decide_eq_false hb8
   refine st_op (ev_move rfl) rfl rfl rfl ?_
   refine st_op (ev_load rfl (lvar_part (l := [.int .i64 x, .int .i64 tm, .string cf, .string dt, .slice lA l.length lc]) many49 hB5 rfl rfl (by decide))) rfl rfl rfl ?_
   refine st_call rfl rfl rfl ent39 rfl rfl rfl ?_
   have h9 := Row.ext hl hx6
   obtain ⟨_, H11, hs10, hs10v, hx12⟩ := ref21_Last_spec H2 x ⟨by omega, by omega⟩ tm cf (by omega) dt lA l lc h9 cl (by omega) (by assumption)
   rw [hs10v] at hs10; clear hs10v
   refine ⟨_, H11, hs10, ?_⟩
   have H11n : H2.next ≤ H11.next := hx12.1
   refine st_op (ev_int rfl rfl rfl) rfl rfl rfl ?_
   refine st_op (ev_pickF rfl rfl) rfl rfl rfl ?_
   try show aw _ _ _ _ _ _
   by_cases hc13 : (decide (i > (x + (l.length : Int)))) = true
   ·
    refine aw_condT hc13 rfl ?_
    try show aw _ _ _ _ _ _
    have hc13 := of_decide_eq_true hc13
    refine aw_seq ?_
    refine aw_reg ?_
    iterate 2 refine st_op (ev_assign rfl) rfl rfl rfl ?_
    try show aw _ _ _ _ _ _
    refine aw_ret ?_
    have hx14 : Ext H H11 := (Ext.trans hx6 hx12)
    have hres : (Spec.termF x tm l i) = (0, false) := by exact Spec.termF_out (by omega)
    exact ⟨.tuple #[.int .i64 0, .bool false], rfl, by first | (rw [hres]; done) | rw [← hres], hx14⟩
   ·
    rw [Bool.not_eq_true] at hc13; refine aw_condF hc13 rfl ?_
    try show aw _ _ _ _ _ _
    have hc13 := of_decide_eq_false hc13
    refine aw_skip ?_
    try show aw _ _ _ _ _ _
    refine aw_seq ?_
    refine aw_reg ?_
    refine st_op (ev_fieldAddr rfl fa49_1 (o' := 4) rfl) rfl rfl rfl ?_
    have h15 := Ext.blk hx12 (by omega) hB5
    refine st_op (ev_load rfl (lvar_one one24 h15 rfl)) rfl rfl rfl ?_
    refine st_op (ev_move rfl) rfl rfl rfl ?_
    refine st_op (ev_fieldAddr rfl fa49_0 (o' := 0) rfl) rfl rfl rfl ?_
    refine st_op (ev_fieldAddr rfl fa23_0 (o' := 0) rfl) rfl rfl rfl ?_
    refine st_op (ev_load rfl (lvar_one one2 h15 rfl)) rfl rfl rfl ?_
    refine st_op (ev_int64 (c := i - x) rfl rfl rfl (by omega) (by omega)) rfl rfl rfl ?_
    refine st_op (ev_int64 (c := (i - x) - 1) rfl rfl rfl (by omega) (by omega)) rfl rfl rfl ?_
    have h16 := Row.ext h9 hx12
    have hi17 : 0 ≤ ((i - x) - 1 : Int) := by omega
    have hi18 : ((i - x) - 1 : Int) < ((l.length : Nat) : Int) := by omega
    obtain ⟨x19, hx20⟩ : ∃ e, l[(((i - x) - 1)).toNat]? = some e := ⟨_, List.getElem?_eq_getElem (by omega)⟩
    have x19i := uk.at_ hx20; have x19d := (uk.ents _ (List.mem_of_getElem? hx20)).2
    refine st_op (ev_at rfl rfl h16 (getMap Entry.cells hx20) (by first | rfl | omega | simp) hi17 hi18 el24) rfl rfl rfl ?_
    refine st_op (ev_atF rfl h16 (getMap Entry.cells hx20) fa37_1 rfl) rfl rfl rfl ?_
    refine st_op (ev_atL rfl h16 (getMap Entry.cells hx20) one2 rfl) rfl rfl rfl ?_
    iterate 2 refine st_op (ev_assign rfl) rfl rfl rfl ?_
    try show aw _ _ _ _ _ _
    refine aw_ret ?_
    have hx21 : Ext H H11 := (Ext.trans hx6 hx12)
    have hres : (Spec.termF x tm l i) = (x19.term, true) := by exact Spec.termF_at (by omega) (by omega) (by first | exact hx20 | (rw [show (i - (x + 1)).toNat = (i - x - 1).toNat by omega]; exact hx20))
    exact ⟨.tuple #[.int .i64 x19.term, .bool true], rfl, by first | (rw [hres]; done) | rw [← hres], hx21⟩
theorem ref21_end_spec (H : Heap) (x : Int) (hx : 0 ≤ x ∧ x ≤ 2199023255552) (tm : Int) (cf : ByteArray) (hcf : cf.size ≤ 1073741824) (dt : ByteArray) (lA : Option Addr) (l : List Entry) (lc : Nat) (hl : Row H lA lc 4 (l.map Entry.cells)) (cl : l.length ≤ lc) (ll : l.length ≤ 200) (uk : Spec.LogOk x tm l) : ∃ v H', Spec Try.prog 41 [.agg #[.int .i64 x, .int .i64 tm, .string cf, .string dt, .slice lA l.length lc]] H v H' ∧ ((v = .int .i64 ((Spec.termF x tm l (x + (l.length : Int))).1)) ∧ (Ext H H')) := by
 refine spec_go1 E0_ok 13 (f := 41) Try.func41 rfl rfl rfl ?_
 refine aw_seq ?_
 refine aw_reg ?_
 obtain ⟨b1, H2, he3, b1e, H2n_, hB5, f4⟩ := mem_box (P := Try.prog) H (v := .agg #[.int .i64 x, .int .i64 tm, .string cf, .string dt, .slice lA l.length lc]) (cs := [.int .i64 x, .int .i64 tm, .string cf, .string dt, .slice lA l.length lc]) rfl rfl
 refine st_op (he3 _ _ _ _ _ _ _ _ _ rfl) rfl rfl rfl ?_
 have hx6 : Ext H H2 := Ext.new (by omega) H2n_ f4
 have H2n : H.next ≤ H2.next := hx6.1
 refine st_op (ev_assign rfl) rfl rfl rfl ?_
 try show aw _ _ _ _ _ _
 refine aw_seq ?_
 refine aw_marks (fun b => b < H2.next) [(true, false), (false, false), (false, true), (false, false), (false, false), (false, false), (false, false), (false, false), (false, false)] mixed (by kernel_rfl) (by kernel_rfl) ?_
 refine sm_read (ev_load rfl (lvar_part (l := [.int .i64 x, .int .i64 tm, .string cf, .string dt, .slice lA l.length lc]) many49 hB5 rfl rfl (by decide))) rfl rfl rfl (fun b hb => by cases hb; dsimp only <;> omega) ?_
 refine sm_op (ev_load rfl (lvar_part (l := [.int .i64 x, .int .i64 tm, .string cf, .string dt, .slice lA l.length lc]) many49 hB5 rfl rfl (by decide))) rfl rfl rfl ?_
 refine sm_call rfl rfl rfl ent39 rfl rfl rfl ?_
 have h7 := Row.ext hl hx6
 obtain ⟨_, H9, hs8, hs8v, hx10⟩ := ref21_Last_spec H2 x ⟨by omega, by omega⟩ tm cf (by omega) dt lA l lc h7 cl (by omega) (by assumption)
 rw [hs8v] at hs8; clear hs8v
 refine ⟨_, H9, hs8, (fun _ b hb => hx10.2 b (by omega)), ?_⟩
 have H9n : H2.next ≤ H9.next := hx10.1
 refine sm_call rfl rfl rfl ent26 rfl rfl rfl ?_
 have h11 := Row.ext h7 hx10
 obtain ⟨_, H13, hs12, hs12v, hx14⟩ := ref21_Term_spec H9 x ⟨by omega, by omega⟩ tm cf (by omega) dt lA l lc h11 cl (by omega) (by assumption) (x + (l.length : Int))
 rw [hs12v] at hs12; clear hs12v
 refine ⟨_, H13, hs12, (fun _ b hb => hx14.2 b (by omega)), ?_⟩
 have H13n : H9.next ≤ H13.next := hx14.1
 refine sm_op (ev_move rfl) rfl rfl rfl ?_
 iterate 2 refine sm_op (ev_extract rfl rfl) rfl rfl rfl ?_
 iterate 2 refine sm_op (ev_assign rfl) rfl rfl rfl ?_
 try show aw _ _ _ _ _ _
 refine aw_seq ?_
 refine aw_reg ?_
 refine st_op (ev_move rfl) rfl rfl rfl ?_
 refine st_op (ev_assign rfl) rfl rfl rfl ?_
 try show aw _ _ _ _ _ _
 refine aw_ret ?_
 have hx15 : Ext H H13 := (Ext.trans (Ext.trans hx6 hx10) hx14)
 have hres : ((Spec.termF x tm l (x + (l.length : Int))).1) = ((Spec.termF x tm l (x + (l.length : Int))).1) := by rfl
 exact ⟨.int .i64 ((Spec.termF x tm l (x + (l.length : Int))).1), rfl, by first | (rw [hres]; done) | rw [← hres], hx15⟩
theorem ref21_Newer_spec (H : Heap) (x : Int) (hx : 0 ≤ x ∧ x ≤ 2199023255552) (tm : Int) (cf : ByteArray) (hcf : cf.size ≤ 1073741824) (dt : ByteArray) (lA : Option Addr) (l : List Entry) (lc : Nat) (hl : Row H lA lc 4 (l.map Entry.cells)) (cl : l.length ≤ lc) (ll : l.length ≤ 200) (uk : Spec.LogOk x tm l) (i : Int) (t : Int) : ∃ v H', Spec Try.prog 29 [.agg #[.int .i64 x, .int .i64 tm, .string cf, .string dt, .slice lA l.length lc], .int .i64 i, .int .i64 t] H v H' ∧ ((v = .bool (Spec.newerF x tm l i t)) ∧ (Ext H H')) := by
 refine spec_go3 E0_ok 23 (f := 29) Try.func29 rfl rfl rfl ?_
 refine aw_seq ?_
 refine aw_reg ?_
 obtain ⟨b1, H2, he3, b1e, H2n_, hB5, f4⟩ := mem_box (P := Try.prog) H (v := .agg #[.int .i64 x, .int .i64 tm, .string cf, .string dt, .slice lA l.length lc]) (cs := [.int .i64 x, .int .i64 tm, .string cf, .string dt, .slice lA l.length lc]) rfl rfl
 refine st_op (he3 _ _ _ _ _ _ _ _ _ rfl) rfl rfl rfl ?_
 have hx6 : Ext H H2 := Ext.new (by omega) H2n_ f4
 have H2n : H.next ≤ H2.next := hx6.1
 refine st_op (ev_assign rfl) rfl rfl rfl ?_
 try show aw _ _ _ _ _ _
 refine aw_seq ?_
 refine aw_reg ?_
 refine st_op (ev_move rfl) rfl rfl rfl ?_
 refine st_op (ev_load rfl (lvar_part (l := [.int .i64 x, .int .i64 tm, .string cf, .string dt, .slice lA l.length lc]) many49 hB5 rfl rfl (by decide))) rfl rfl rfl ?_
 refine st_call rfl rfl rfl ent41 rfl rfl rfl ?_
 have h7 := Row.ext hl hx6
 obtain ⟨_, H9, hs8, hs8v, hx10⟩ := ref21_end_spec H2 x ⟨by omega, by omega⟩ tm cf (by omega) dt lA l lc h7 cl (by omega) (by assumption)
 rw [hs8v] at hs8; clear hs8v
 refine ⟨_, H9, hs8, ?_⟩
 have H9n : H2.next ≤ H9.next := hx10.1
 refine st_op (ev_int rfl rfl rfl) rfl rfl rfl ?_
 refine st_op (ev_move rfl) rfl rfl rfl ?_
 refine st_bool 11 rfl (fun hb11 => ?_) (fun hb11 => ?_)
 ·
  have hb11 := of_decide_eq_true hb11
  iterate 10 refine st_skip rfl rfl rfl ?_
  refine st_op (ev_pickT rfl rfl) rfl rfl rfl ?_
  refine st_op (ev_assign rfl) rfl rfl rfl ?_
  try show aw _ _ _ _ _ _
  refine aw_ret ?_
  have hx12 : Ext H H9 := (Ext.trans hx6 hx10)
  have hres : (Spec.newerF x tm l i t) = true := by unfold Spec.newerF; rw [Bool.eq_iff_iff]; simp only [decide_eq_true_eq, Bool.false_eq_true, iff_false, iff_true, not_or, not_and, Int.not_le, gt_iff_lt, ge_iff_le] at *; omega
  exact ⟨.bool true, rfl, by first | (rw [hres]; done) | rw [← hres], hx12⟩
 ·
  have hb11 := of_decide_eq_false hb11
  refine st_op (ev_move rfl) rfl rfl rfl ?_
  have h13 := Ext.blk hx10 (by omega) hB5
  refine st_op (ev_load rfl (lvar_part (l := [.int .i64 x, .int .i64 tm, .string cf, .string dt, .slice lA l.length lc]) many49 h13 rfl rfl (by decide))) rfl rfl rfl ?_
  refine st_call rfl rfl rfl ent41 rfl rfl rfl ?_
  have h14 := Row.ext h7 hx10
  obtain ⟨_, H16, hs15, hs15v, hx17⟩ := ref21_end_spec H9 x ⟨by omega, by omega⟩ tm cf (by omega) dt lA l lc h14 cl (by omega) (by assumption)
  rw [hs15v] at hs15; clear hs15v
  refine ⟨_, H16, hs15, ?_⟩
  have H16n : H9.next ≤ H16.next := hx17.1
  refine st_op (ev_int rfl rfl rfl) rfl rfl rfl ?_
  refine st_op (ev_move rfl) rfl rfl rfl ?_
  refine st_bool 16 rfl (fun hb18 => ?_) (fun hb18 => ?_)
  ·
   have hb18 := eq_of_beq hb18
   refine st_op (ev_move rfl) rfl rfl rfl ?_
   have h19 := Ext.blk hx17 (by omega) h13
   refine st_op (ev_load rfl (lvar_part (l := [.int .i64 x, .int .i64 tm, .string cf, .string dt, .slice lA l.length lc]) many49 h19 rfl rfl (by decide))) rfl rfl rfl ?_
   refine st_call rfl rfl rfl ent39 rfl rfl rfl ?_
   have h20 := Row.ext h14 hx17
   obtain ⟨_, H22, hs21, hs21v, hx23⟩ := ref21_Last_spec H16 x ⟨by omega, by omega⟩ tm cf (by omega) dt lA l lc h20 cl (by omega) (by assumption)
   rw [hs21v] at hs21; clear hs21v
   refine ⟨_, H22, hs21, ?_⟩
   have H22n : H16.next ≤ H22.next := hx23.1
   refine st_op (ev_int rfl rfl rfl) rfl rfl rfl ?_
   refine st_op (ev_pickT rfl rfl) rfl rfl rfl ?_
   refine st_op (ev_pickF rfl rfl) rfl rfl rfl ?_
   refine st_op (ev_assign rfl) rfl rfl rfl ?_
   try show aw _ _ _ _ _ _
   refine aw_ret ?_
   have hx24 : Ext H H22 := (Ext.trans (Ext.trans (Ext.trans hx6 hx10) hx17) hx23)
   have hres : (Spec.newerF x tm l i t) = (decide (i ≥ (x + (l.length : Int)))) := by unfold Spec.newerF; rw [Bool.eq_iff_iff]; simp only [decide_eq_true_eq, Bool.false_eq_true, iff_false, iff_true, not_or, not_and, Int.not_le, gt_iff_lt, ge_iff_le] at *; omega
   exact ⟨.bool (decide (i ≥ (x + (l.length : Int)))), rfl, by first | (rw [hres]; done) | rw [← hres], hx24⟩
  ·
   have hb18 := ne_of_beq_false hb18
   iterate 4 refine st_skip rfl rfl rfl ?_
   iterate 2 refine st_op (ev_pickF rfl rfl) rfl rfl rfl ?_
   refine st_op (ev_assign rfl) rfl rfl rfl ?_
   try show aw _ _ _ _ _ _
   refine aw_ret ?_
   have hx25 : Ext H H16 := (Ext.trans (Ext.trans hx6 hx10) hx17)
   have hres : (Spec.newerF x tm l i t) = false := by unfold Spec.newerF; rw [Bool.eq_iff_iff]; simp only [decide_eq_true_eq, Bool.false_eq_true, iff_false, iff_true, not_or, not_and, Int.not_le, gt_iff_lt, ge_iff_le] at *; omega
   exact ⟨.bool false, rfl, by first | (rw [hres]; done) | rw [← hres], hx25⟩
theorem ref21_Fits_spec (H : Heap) (x : Int) (hx : 0 ≤ x ∧ x ≤ 2199023255552) (tm : Int) (cf : ByteArray) (hcf : cf.size ≤ 1073741824) (dt : ByteArray) (lA : Option Addr) (l : List Entry) (lc : Nat) (hl : Row H lA lc 4 (l.map Entry.cells)) (cl : l.length ≤ lc) (ll : l.length ≤ 200) (uk : Spec.LogOk x tm l) (i : Int) (t : Int) : ∃ v H', Spec Try.prog 28 [.agg #[.int .i64 x, .int .i64 tm, .string cf, .string dt, .slice lA l.length lc], .int .i64 i, .int .i64 t] H v H' ∧ ((v = .bool (Spec.fitsF x tm l i t)) ∧ (Ext H H')) := by
 refine spec_go3 E0_ok 21 (f := 28) Try.func28 rfl rfl rfl ?_
 refine aw_seq ?_
 refine aw_reg ?_
 obtain ⟨b1, H2, he3, b1e, H2n_, hB5, f4⟩ := mem_box (P := Try.prog) H (v := .agg #[.int .i64 x, .int .i64 tm, .string cf, .string dt, .slice lA l.length lc]) (cs := [.int .i64 x, .int .i64 tm, .string cf, .string dt, .slice lA l.length lc]) rfl rfl
 refine st_op (he3 _ _ _ _ _ _ _ _ _ rfl) rfl rfl rfl ?_
 have hx6 : Ext H H2 := Ext.new (by omega) H2n_ f4
 have H2n : H.next ≤ H2.next := hx6.1
 refine st_op (ev_assign rfl) rfl rfl rfl ?_
 try show aw _ _ _ _ _ _
 refine aw_seq ?_
 refine aw_reg ?_
 refine st_op (ev_load rfl (lvar_part (l := [.int .i64 x, .int .i64 tm, .string cf, .string dt, .slice lA l.length lc]) many49 hB5 rfl rfl (by decide))) rfl rfl rfl ?_
 refine st_op (ev_move rfl) rfl rfl rfl ?_
 refine st_call rfl rfl rfl ent26 rfl rfl rfl ?_
 have h7 := Row.ext hl hx6
 obtain ⟨_, H9, hs8, hs8v, hx10⟩ := ref21_Term_spec H2 x ⟨by omega, by omega⟩ tm cf (by omega) dt lA l lc h7 cl (by omega) (by assumption) i
 rw [hs8v] at hs8; clear hs8v
 refine ⟨_, H9, hs8, ?_⟩
 have H9n : H2.next ≤ H9.next := hx10.1
 refine st_op (ev_move rfl) rfl rfl rfl ?_
 iterate 2 refine st_op (ev_extract rfl rfl) rfl rfl rfl ?_
 iterate 2 refine st_op (ev_assign rfl) rfl rfl rfl ?_
 try show aw _ _ _ _ _ _
 refine aw_seq ?_
 refine aw_reg ?_
 iterate 2 refine st_op (ev_move rfl) rfl rfl rfl ?_
 refine st_bool 16 rfl (fun hb11 => ?_) (fun hb11 => ?_)
 ·
  iterate 2 refine st_op (ev_move rfl) rfl rfl rfl ?_
  refine st_op (ev_int rfl rfl rfl) rfl rfl rfl ?_
  refine st_op (ev_pickT rfl rfl) rfl rfl rfl ?_
  refine st_op (ev_assign rfl) rfl rfl rfl ?_
  try show aw _ _ _ _ _ _
  refine aw_ret ?_
  have hx12 : Ext H H9 := (Ext.trans hx6 hx10)
  have hres : (Spec.fitsF x tm l i t) = (((Spec.termF x tm l i).1) == t) := by simp_all [Spec.fitsF]
  exact ⟨.bool (((Spec.termF x tm l i).1) == t), rfl, by first | (rw [hres]; done) | rw [← hres], hx12⟩
 ·
  iterate 3 refine st_skip rfl rfl rfl ?_
  refine st_op (ev_pickF rfl rfl) rfl rfl rfl ?_
  refine st_op (ev_assign rfl) rfl rfl rfl ?_
  try show aw _ _ _ _ _ _
  refine aw_ret ?_
  have hx13 : Ext H H9 := (Ext.trans hx6 hx10)
  have hres : (Spec.fitsF x tm l i t) = false := by simp_all [Spec.fitsF]
  exact ⟨.bool false, rfl, by first | (rw [hres]; done) | rw [← hres], hx13⟩

end Go.AM
