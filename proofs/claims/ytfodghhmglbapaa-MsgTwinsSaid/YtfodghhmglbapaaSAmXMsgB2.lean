/- Part of a machine of its own for this claim: the program's code over memory without draws. -/
import Derived.Test.YtfodghhmglbapaaSAmXMsgB1
set_option linter.unusedVariables false
set_option linter.unusedSimpArgs false
set_option linter.unnecessarySimpa false
set_option linter.unusedVariables false
set_option linter.unusedSimpArgs false
set_option linter.unnecessarySimpa false
namespace Go.AM
open Go Go.Proofs
theorem raft_server_spec (H : Heap) (id : Int) : ∃ v H', Spec Try.prog 40 [.int .i64 id] H v H' ∧ ((v = .bool (decide (1 ≤ id ∧ id ≤ 7))) ∧ (Ext H H')) := by
 refine spec_go1 E0_ok 9 (f := 40) Try.func40 rfl rfl rfl ?_
 refine aw_seq ?_
 refine aw_reg ?_
 refine st_op (ev_assign rfl) rfl rfl rfl ?_
 try show aw _ _ _ _ _ _
 refine aw_seq ?_
 refine aw_reg ?_
 refine st_op (ev_move rfl) rfl rfl rfl ?_
 refine st_op (ev_int rfl rfl rfl) rfl rfl rfl ?_
 refine st_op (ev_move rfl) rfl rfl rfl ?_
 refine st_bool 5 rfl (fun hb1 => ?_) (fun hb1 => ?_)
 ·
  have hb1 := of_decide_eq_true hb1
  refine st_op (ev_move rfl) rfl rfl rfl ?_
  refine st_op (ev_int rfl rfl rfl) rfl rfl rfl ?_
  refine st_op (ev_pickT rfl rfl) rfl rfl rfl ?_
  refine st_op (ev_assign rfl) rfl rfl rfl ?_
  try show aw _ _ _ _ _ _
  refine aw_ret ?_
  have hres : (decide (1 ≤ id ∧ id ≤ 7)) = (decide (id ≤ 7)) := by simp_all <;> omega
  exact ⟨.bool (decide (id ≤ 7)), rfl, by first | (rw [hres]; done) | rw [← hres], (Ext.refl H)⟩
 ·
  have hb1 := of_decide_eq_false hb1
  iterate 2 refine st_skip rfl rfl rfl ?_
  refine st_op (ev_pickF rfl rfl) rfl rfl rfl ?_
  refine st_op (ev_assign rfl) rfl rfl rfl ?_
  try show aw _ _ _ _ _ _
  refine aw_ret ?_
  have hres : (decide (1 ≤ id ∧ id ≤ 7)) = false := by simp_all <;> omega
  exact ⟨.bool false, rfl, by first | (rw [hres]; done) | rw [← hres], (Ext.refl H)⟩
theorem raft_in_spec (H : Heap) (least : Int) (hleast : -9223372036854775808 ≤ least ∧ least ≤ 9223372036854775807) (lA : Option Addr) (l : List Int) (lc : Nat) (hl : Row H lA lc 1 (l.map i64c)) (cl : l.length ≤ lc) (ll : l.length ≤ 1099511627776) : ∃ v H', Spec Try.prog 41 [.int .i64 least, .slice lA l.length lc] H v H' ∧ ((v = .bool (Spec.inF least 1099511627776 l)) ∧ (Ext H H')) := by
 refine spec_go2 E0_ok 21 (f := 41) Try.func41 rfl rfl rfl ?_
 refine aw_seq ?_
 refine aw_reg ?_
 refine st_op (ev_assign rfl) rfl rfl rfl ?_
 try show aw _ _ _ _ _ _
 iterate 2 refine aw_seq ?_
 refine aw_reg ?_
 refine st_op (ev_move rfl) rfl rfl rfl ?_
 refine st_op (ev_lenSl rfl Try.underlying77) rfl rfl rfl ?_
 refine st_op (ev_move rfl) rfl rfl rfl ?_
 try show aw _ _ _ _ _ _
 refine aw_block ?_
 refine aw_keep [0, 7, 8, 9] (l' := (.cons 0 (.int .i64 least) (.cons 7 (.slice lA l.length lc) (.cons 8 (.int .i64 (l.length : Int)) (.cons 9 (.int .i64 0) .nil))))) (by repeat (first | exact Up.done | refine Up.then ?_ | refine Up.inBlock ?_)) rfl ?_
 refine aw_iter (α := Nat × Heap) (fun a => l.length - a.1) (fun a => (.cons 0 (.int .i64 least) (.cons 7 (.slice lA l.length lc) (.cons 8 (.int .i64 (l.length : Int)) (.cons 9 (.int .i64 (a.1 : Int)) .nil))))) (fun a => a.2) (fun a => (a.1 ≤ l.length) ∧ (Spec.inF least 1099511627776 l = Spec.inF least 1099511627776 (l.drop a.1)) ∧ (Ext H a.2)) (0, H) ⟨(show 0 ≤ l.length from Nat.zero_le _), (show Spec.inF least 1099511627776 l = Spec.inF least 1099511627776 (l.drop 0) from rfl), (show Ext H H from (Ext.refl H))⟩ ?_
 rintro ⟨i, Hl1⟩ ⟨hi, hv, hxl2⟩ ih3
 replace hi : i ≤ l.length := hi
 replace hv : Spec.inF least 1099511627776 l = Spec.inF least 1099511627776 (l.drop i) := hv
 replace hxl2 : Ext H Hl1 := hxl2
 show aw _ _ _ (RL _ (.cons 0 (.int .i64 least) (.cons 7 (.slice lA l.length lc) (.cons 8 (.int .i64 (l.length : Int)) (.cons 9 (.int .i64 (i : Int)) .nil))))) Hl1 _
 have Hl1n : H.next ≤ Hl1.next := hxl2.1
 refine aw_seq ?_
 refine aw_reg ?_
 refine st_op (ev_int rfl rfl rfl) rfl rfl rfl ?_
 try show aw _ _ _ _ _ _
 refine aw_seq ?_
 by_cases hc4 : (decide ((i : Int) < (l.length : Int))) = true
 ·
  refine aw_condT hc4 rfl ?_
  try show aw _ _ _ _ _ _
  have hc4 := of_decide_eq_true hc4
  refine aw_skip ?_
  try show aw _ _ _ _ _ _
  refine aw_seq ?_
  refine aw_block ?_
  refine aw_seq ?_
  refine aw_reg ?_
  have h5 := Row.ext hl hxl2
  have hi6 : 0 ≤ ((i : Int) : Int) := by omega
  have hi7 : ((i : Int) : Int) < ((l.length : Nat) : Int) := by omega
  obtain ⟨x8, hx9⟩ : ∃ e, l[i]? = some e := ⟨_, List.getElem?_eq_getElem (by omega)⟩
  refine st_op (ev_at rfl rfl h5 (getMap i64c hx9) (by first | rfl | omega | simp) hi6 hi7 el77) rfl rfl rfl ?_
  refine st_op (ev_atL rfl h5 (getMap i64c hx9) one2 rfl) rfl rfl rfl ?_
  refine st_op (ev_assign rfl) rfl rfl rfl ?_
  try show aw _ _ _ _ _ _
  refine aw_seq ?_
  refine aw_reg ?_
  iterate 2 refine st_op (ev_move rfl) rfl rfl rfl ?_
  refine st_op (ev_int rfl rfl rfl) rfl rfl rfl ?_
  refine st_op (ev_move rfl) rfl rfl rfl ?_
  refine st_bool 16 rfl (fun hb10 => ?_) (fun hb10 => ?_)
  ·
   have hb10 := of_decide_eq_true hb10
   iterate 2 refine st_skip rfl rfl rfl ?_
   refine st_op (ev_pickT rfl rfl) rfl rfl rfl ?_
   try show aw _ _ _ _ _ _
   refine aw_cond (t := true) rfl ?_
   try show aw _ _ _ _ _ _
   refine aw_seq ?_
   refine aw_reg ?_
   refine st_op (ev_assign rfl) rfl rfl rfl ?_
   try show aw _ _ _ _ _ _
   refine aw_ret ?_
   have hres : (Spec.inF least 1099511627776 l) = false := by rw [hv, drop_at hx9, Spec.inF]; first | (rw [if_pos (by omega)]; done) | (rw [if_neg (by omega), if_pos (by omega)]; done)
   exact ⟨.bool false, rfl, by first | (rw [hres]; done) | rw [← hres], hxl2⟩
  ·
   have hb10 := of_decide_eq_false hb10
   refine st_op (ev_move rfl) rfl rfl rfl ?_
   refine st_op (ev_int rfl rfl rfl) rfl rfl rfl ?_
   refine st_op (ev_pickF rfl rfl) rfl rfl rfl ?_
   try show aw _ _ _ _ _ _
   by_cases hc11 : (decide (x8 > 1099511627776)) = true
   ·
    refine aw_condT hc11 rfl ?_
    try show aw _ _ _ _ _ _
    have hc11 := of_decide_eq_true hc11
    refine aw_seq ?_
    refine aw_reg ?_
    refine st_op (ev_assign rfl) rfl rfl rfl ?_
    try show aw _ _ _ _ _ _
    refine aw_ret ?_
    have hres : (Spec.inF least 1099511627776 l) = false := by rw [hv, drop_at hx9, Spec.inF]; first | (rw [if_pos (by omega)]; done) | (rw [if_neg (by omega), if_pos (by omega)]; done)
    exact ⟨.bool false, rfl, by first | (rw [hres]; done) | rw [← hres], hxl2⟩
   ·
    rw [Bool.not_eq_true] at hc11; refine aw_condF hc11 rfl ?_
    try show aw _ _ _ _ _ _
    have hc11 := of_decide_eq_false hc11
    refine aw_skip ?_
    try show aw _ _ _ _ _ _
    refine aw_reg ?_
    refine st_op (ev_int64 (c := (i : Int) + 1) rfl rfl rfl (by omega) (by omega)) rfl rfl rfl ?_
    refine st_op (ev_move rfl) rfl rfl rfl ?_
    try show aw _ _ _ _ _ _
    refine aw_keep [0, 7, 8, 9] (l' := (.cons 0 (.int .i64 least) (.cons 7 (.slice lA l.length lc) (.cons 8 (.int .i64 (l.length : Int)) (.cons 9 (.int .i64 ((i : Int) + 1)) .nil))))) (by repeat (first | exact Up.done | refine Up.then ?_ | refine Up.inBlock ?_)) rfl ?_
    exact ih3 (i + 1, Hl1) ⟨(show (i + 1) ≤ l.length from (by omega)), (show Spec.inF least 1099511627776 l = Spec.inF least 1099511627776 (l.drop (i + 1)) from (by rw [hv, drop_at hx9, Spec.inF, if_neg (by omega), if_neg (by omega)])), (show Ext H Hl1 from hxl2)⟩ (by simp only; omega)
 ·
  rw [Bool.not_eq_true] at hc4; refine aw_condF hc4 rfl ?_
  try show aw _ _ _ _ _ _
  have hc4 := of_decide_eq_false hc4
  refine aw_exit ?_
  try show aw _ _ _ _ _ _
  refine aw_seq ?_
  refine aw_reg ?_
  refine st_op (ev_assign rfl) rfl rfl rfl ?_
  try show aw _ _ _ _ _ _
  refine aw_ret ?_
  have hres : (Spec.inF least 1099511627776 l) = true := by rw [hv, List.drop_eq_nil_of_le (by omega)]; rfl
  exact ⟨.bool true, rfl, by first | (rw [hres]; done) | rw [← hres], hxl2⟩
theorem raft_entries_spec (H : Heap) (kind : Int) (from_ : Int) (to_ : Int) (term : Int) (index : Int) (hindex : 0 ≤ index ∧ index ≤ 1099511627776) (logterm : Int) (commit : Int) (yes : Bool) (esA : Option Addr) (es : List Entry) (esc : Nat) (hes : Row H esA esc 4 (es.map Entry.cells)) (ces : es.length ≤ esc) (les : es.length ≤ 1048576) (s_index : Int) (s_term : Int) (s_conf : ByteArray) (hs_conf : s_conf.size ≤ 1073741824) (s_data : ByteArray) (hs_data : s_data.size ≤ 1073741824) : ∃ v H', Spec Try.prog 42 [.agg #[.int .i64 kind, .int .i64 from_, .int .i64 to_, .int .i64 term, .int .i64 index, .int .i64 logterm, .int .i64 commit, .bool yes, .slice esA es.length esc, .int .i64 s_index, .int .i64 s_term, .string s_conf, .string s_data]] H v H' ∧ ((v = .bool (Spec.entR term index logterm es && decide (es.length ≤ 8 ∧ (es.length = 0 ∨ kind = 3)))) ∧ (Ext H H')) := by
 refine spec_go1 E0_ok 62 (f := 42) Try.func42 rfl rfl rfl ?_
 refine aw_seq ?_
 refine aw_reg ?_
 obtain ⟨b1, H2, he3, b1e, H2n_, hB5, f4⟩ := mem_box (P := Try.prog) H (v := .agg #[.int .i64 kind, .int .i64 from_, .int .i64 to_, .int .i64 term, .int .i64 index, .int .i64 logterm, .int .i64 commit, .bool yes, .slice esA es.length esc, .int .i64 s_index, .int .i64 s_term, .string s_conf, .string s_data]) (cs := [.int .i64 kind, .int .i64 from_, .int .i64 to_, .int .i64 term, .int .i64 index, .int .i64 logterm, .int .i64 commit, .bool yes, .slice esA es.length esc, .int .i64 s_index, .int .i64 s_term, .string s_conf, .string s_data]) rfl rfl
 refine st_op (he3 _ _ _ _ _ _ _ _ _ rfl) rfl rfl rfl ?_
 have hx6 : Ext H H2 := Ext.new (by omega) H2n_ f4
 have H2n : H.next ≤ H2.next := hx6.1
 refine st_op (ev_assign rfl) rfl rfl rfl ?_
 try show aw _ _ _ _ _ _
 refine aw_seq ?_
 refine aw_marks (fun b => b < H2.next) [(false, false), (false, false), (false, false), (false, false), (false, false), (false, false)] mixed (by kernel_rfl) (by kernel_rfl) ?_
 refine sm_op (ev_fieldAddr rfl fa26_4 (o' := 4) rfl) rfl rfl rfl ?_
 refine sm_op (ev_load rfl (lvar_one one2 hB5 rfl)) rfl rfl rfl ?_
 refine sm_op (ev_fieldAddr rfl fa26_5 (o' := 5) rfl) rfl rfl rfl ?_
 refine sm_op (ev_load rfl (lvar_one one2 hB5 rfl)) rfl rfl rfl ?_
 iterate 2 refine sm_op (ev_assign rfl) rfl rfl rfl ?_
 try show aw _ _ _ _ _ _
 iterate 2 refine aw_seq ?_
 refine aw_reg ?_
 refine st_op (ev_fieldAddr rfl fa26_8 (o' := 8) rfl) rfl rfl rfl ?_
 refine st_op (ev_load rfl (lvar_one one22 hB5 rfl)) rfl rfl rfl ?_
 refine st_op (ev_lenSl rfl Try.underlying22) rfl rfl rfl ?_
 refine st_op (ev_move rfl) rfl rfl rfl ?_
 try show aw _ _ _ _ _ _
 refine aw_block ?_
 refine aw_keep [1, 3, 4, 12, 13, 14] (l' := (.cons 1 (.pointer (some ⟨b1, 0, none⟩)) (.cons 3 (.int .i64 index) (.cons 4 (.int .i64 logterm) (.cons 12 (.slice esA es.length esc) (.cons 13 (.int .i64 (es.length : Int)) (.cons 14 (.int .i64 0) .nil))))))) (by repeat (first | exact Up.done | refine Up.then ?_ | refine Up.inBlock ?_)) rfl ?_
 refine aw_iter (α := Nat × Int × Int × Heap) (fun a => es.length - a.1) (fun a => (.cons 1 (.pointer (some ⟨b1, 0, none⟩)) (.cons 3 (.int .i64 a.2.1) (.cons 4 (.int .i64 a.2.2.1) (.cons 12 (.slice esA es.length esc) (.cons 13 (.int .i64 (es.length : Int)) (.cons 14 (.int .i64 (a.1 : Int)) .nil))))))) (fun a => a.2.2.2) (fun a => (a.1 ≤ es.length) ∧ (Spec.entR term index logterm es = Spec.entR term a.2.1 a.2.2.1 (es.drop a.1)) ∧ (0 ≤ a.2.1 ∧ a.2.1 ≤ 1099511627776) ∧ (Ext H2 a.2.2.2)) (0, index, logterm, H2) ⟨(show 0 ≤ es.length from Nat.zero_le _), (show Spec.entR term index logterm es = Spec.entR term index logterm (es.drop 0) from rfl), (show 0 ≤ index ∧ index ≤ 1099511627776 from ⟨by omega, by omega⟩), (show Ext H2 H2 from (Ext.refl H2))⟩ ?_
 rintro ⟨i, ix, tm, Hl7⟩ ⟨hi, hv, hn8, hxl9⟩ ih10
 replace hi : i ≤ es.length := hi
 replace hv : Spec.entR term index logterm es = Spec.entR term ix tm (es.drop i) := hv
 replace hn8 : 0 ≤ ix ∧ ix ≤ 1099511627776 := hn8
 replace hxl9 : Ext H2 Hl7 := hxl9
 show aw _ _ _ (RL _ (.cons 1 (.pointer (some ⟨b1, 0, none⟩)) (.cons 3 (.int .i64 ix) (.cons 4 (.int .i64 tm) (.cons 12 (.slice esA es.length esc) (.cons 13 (.int .i64 (es.length : Int)) (.cons 14 (.int .i64 (i : Int)) .nil))))))) Hl7 _
 have Hl7n : H2.next ≤ Hl7.next := hxl9.1
 refine aw_seq ?_
 refine aw_reg ?_
 refine st_op (ev_int rfl rfl rfl) rfl rfl rfl ?_
 try show aw _ _ _ _ _ _
 refine aw_seq ?_
 by_cases hc11 : (decide ((i : Int) < (es.length : Int))) = true
 ·
  refine aw_condT hc11 rfl ?_
  try show aw _ _ _ _ _ _
  have hc11 := of_decide_eq_true hc11
  refine aw_skip ?_
  try show aw _ _ _ _ _ _
  refine aw_seq ?_
  refine aw_block ?_
  refine aw_seq ?_
  refine aw_reg ?_
  have hx13 : Ext H Hl7 := (Ext.trans hx6 hxl9)
  have h12 := Row.ext hes hx13
  have hi14 : 0 ≤ ((i : Int) : Int) := by omega
  have hi15 : ((i : Int) : Int) < ((es.length : Nat) : Int) := by omega
  obtain ⟨x16, hx17⟩ : ∃ e, es[i]? = some e := ⟨_, List.getElem?_eq_getElem (by omega)⟩
  refine st_op (ev_at rfl rfl h12 (getMap Entry.cells hx17) (by first | rfl | omega | simp) hi14 hi15 el22) rfl rfl rfl ?_
  refine st_op (ev_atN (cs := [.int .i64 x16.index, .int .i64 x16.term, .int .i64 x16.kind, .string x16.data]) rfl h12 (getMap Entry.cells hx17) many45 rfl rfl (by decide)) rfl rfl rfl ?_
  obtain ⟨b18, H19, he20, b18e, H19n_, hB22, f21⟩ := mem_alloc Hl7 zero45
  refine st_op (he20 _ _ _ _ _ _ _) rfl rfl rfl ?_
  have hx23 : Ext Hl7 H19 := Ext.new (by omega) H19n_ f21
  have H19n : Hl7.next ≤ H19.next := hx23.1
  obtain ⟨H24, he25, H24n_, hB26, f27⟩ := mem_store (v := .agg #[.int .i64 x16.index, .int .i64 x16.term, .int .i64 x16.kind, .string x16.data]) (o := 0) (cs' := [.int .i64 x16.index, .int .i64 x16.term, .int .i64 x16.kind, .string x16.data]) 4 rfl rfl size45 hB22 rfl rfl rfl
  refine st_op0 (he25 _ _ _ _ _ _ _ _ _ rfl rfl) rfl rfl ?_
  have hf28 : Fr (fun q => q = b18) H19 H24 := Fr.write H24n_ f27
  have H24n : H19.next ≤ H24.next := hf28.1
  try show aw _ _ _ _ _ _
  iterate 2 refine aw_seq ?_
  refine aw_reg ?_
  refine st_op (ev_fieldAddr rfl fa45_0 (o' := 0) rfl) rfl rfl rfl ?_
  refine st_op (ev_load rfl (lvar_one one2 hB26 rfl)) rfl rfl rfl ?_
  refine st_op (ev_move rfl) rfl rfl rfl ?_
  refine st_op (ev_int64 (c := ix + 1) rfl rfl rfl (by omega) (by omega)) rfl rfl rfl ?_
  refine st_op (ev_int rfl rfl rfl) rfl rfl rfl ?_
  refine st_op (ev_move rfl) rfl rfl rfl ?_
  refine st_bool 23 rfl (fun hb29 => ?_) (fun hb29 => ?_)
  ·
   have hb29 : ¬ (x16.index = ix + 1) := by simpa using hb29
   iterate 4 refine st_skip rfl rfl rfl ?_
   refine st_op (ev_pickT rfl rfl) rfl rfl rfl ?_
   refine st_op (ev_move rfl) rfl rfl rfl ?_
   iterate 5 refine st_skip rfl rfl rfl ?_
   refine st_op (ev_pickT rfl rfl) rfl rfl rfl ?_
   refine st_op (ev_move rfl) rfl rfl rfl ?_
   iterate 4 refine st_skip rfl rfl rfl ?_
   refine st_op (ev_pickT rfl rfl) rfl rfl rfl ?_
   try show aw _ _ _ _ _ _
   refine aw_cond (t := true) rfl ?_
   try show aw _ _ _ _ _ _
   refine aw_seq ?_
   refine aw_reg ?_
   refine st_op (ev_assign rfl) rfl rfl rfl ?_
   try show aw _ _ _ _ _ _
   refine aw_ret ?_
   have hx30 : Ext H H24 := (Ext.then (Ext.trans hx13 hx23) hf28 (fun q hq e => by omega))
   have hres : (Spec.entR term index logterm es && decide (es.length ≤ 8 ∧ (es.length = 0 ∨ kind = 3))) = false := by first | (rw [hv, drop_at hx17, Spec.entR, if_pos (by first | exact .inl (by omega) | exact .inr (.inl (by omega)) | exact .inr (.inr (.inl (by omega))) | exact .inr (.inr (.inr (by assumption))))]; rfl) | (rw [hv, List.drop_eq_nil_of_le (by omega), Spec.entR, Bool.eq_iff_iff]; simp only [Bool.true_and, decide_eq_true_eq, beq_iff_eq, Bool.false_eq_true, iff_true, iff_false]; omega)
   exact ⟨.bool false, rfl, by first | (rw [hres]; done) | rw [← hres], hx30⟩
  ·
   have hb29 : (x16.index = ix + 1) := by simpa using hb29
   refine st_op (ev_fieldAddr rfl fa45_1 (o' := 1) rfl) rfl rfl rfl ?_
   refine st_op (ev_load rfl (lvar_one one2 hB26 rfl)) rfl rfl rfl ?_
   refine st_op (ev_move rfl) rfl rfl rfl ?_
   refine st_op (ev_int rfl rfl rfl) rfl rfl rfl ?_
   refine st_op (ev_pickF rfl rfl) rfl rfl rfl ?_
   refine st_op (ev_move rfl) rfl rfl rfl ?_
   refine st_bool 29 rfl (fun hb31 => ?_) (fun hb31 => ?_)
   ·
    have hb31 := of_decide_eq_true hb31
    iterate 5 refine st_skip rfl rfl rfl ?_
    refine st_op (ev_pickT rfl rfl) rfl rfl rfl ?_
    refine st_op (ev_move rfl) rfl rfl rfl ?_
    iterate 4 refine st_skip rfl rfl rfl ?_
    refine st_op (ev_pickT rfl rfl) rfl rfl rfl ?_
    try show aw _ _ _ _ _ _
    refine aw_cond (t := true) rfl ?_
    try show aw _ _ _ _ _ _
    refine aw_seq ?_
    refine aw_reg ?_
    refine st_op (ev_assign rfl) rfl rfl rfl ?_
    try show aw _ _ _ _ _ _
    refine aw_ret ?_
    have hx32 : Ext H H24 := (Ext.then (Ext.trans hx13 hx23) hf28 (fun q hq e => by omega))
    have hres : (Spec.entR term index logterm es && decide (es.length ≤ 8 ∧ (es.length = 0 ∨ kind = 3))) = false := by first | (rw [hv, drop_at hx17, Spec.entR, if_pos (by first | exact .inl (by omega) | exact .inr (.inl (by omega)) | exact .inr (.inr (.inl (by omega))) | exact .inr (.inr (.inr (by assumption))))]; rfl) | (rw [hv, List.drop_eq_nil_of_le (by omega), Spec.entR, Bool.eq_iff_iff]; simp only [Bool.true_and, decide_eq_true_eq, beq_iff_eq, Bool.false_eq_true, iff_true, iff_false]; omega)
    exact ⟨.bool false, rfl, by first | (rw [hres]; done) | rw [← hres], hx32⟩
   ·
    have hb31 := of_decide_eq_false hb31
    refine st_op (ev_fieldAddr rfl fa45_1 (o' := 1) rfl) rfl rfl rfl ?_
    refine st_op (ev_load rfl (lvar_one one2 hB26 rfl)) rfl rfl rfl ?_
    refine st_op (ev_fieldAddr rfl fa26_3 (o' := 3) rfl) rfl rfl rfl ?_
    have hx34 : Ext H2 H24 := (Ext.then (Ext.trans hxl9 hx23) hf28 (fun q hq e => by omega))
    have h33 := Ext.blk hx34 (by omega) hB5
    refine st_op (ev_load rfl (lvar_one one2 h33 rfl)) rfl rfl rfl ?_
    refine st_op (ev_int rfl rfl rfl) rfl rfl rfl ?_
    refine st_op (ev_pickF rfl rfl) rfl rfl rfl ?_
    refine st_op (ev_move rfl) rfl rfl rfl ?_
    refine st_bool 36 rfl (fun hb35 => ?_) (fun hb35 => ?_)
    ·
     have hb35 := of_decide_eq_true hb35
     iterate 4 refine st_skip rfl rfl rfl ?_
     refine st_op (ev_pickT rfl rfl) rfl rfl rfl ?_
     try show aw _ _ _ _ _ _
     refine aw_cond (t := true) rfl ?_
     try show aw _ _ _ _ _ _
     refine aw_seq ?_
     refine aw_reg ?_
     refine st_op (ev_assign rfl) rfl rfl rfl ?_
     try show aw _ _ _ _ _ _
     refine aw_ret ?_
     have hx36 : Ext H H24 := (Ext.then (Ext.trans hx13 hx23) hf28 (fun q hq e => by omega))
     have hres : (Spec.entR term index logterm es && decide (es.length ≤ 8 ∧ (es.length = 0 ∨ kind = 3))) = false := by first | (rw [hv, drop_at hx17, Spec.entR, if_pos (by first | exact .inl (by omega) | exact .inr (.inl (by omega)) | exact .inr (.inr (.inl (by omega))) | exact .inr (.inr (.inr (by assumption))))]; rfl) | (rw [hv, List.drop_eq_nil_of_le (by omega), Spec.entR, Bool.eq_iff_iff]; simp only [Bool.true_and, decide_eq_true_eq, beq_iff_eq, Bool.false_eq_true, iff_true, iff_false]; omega)
     exact ⟨.bool false, rfl, by first | (rw [hres]; done) | rw [← hres], hx36⟩
    ·
     have hb35 := of_decide_eq_false hb35
     refine st_op (ev_load rfl (lvar_part (l := [.int .i64 x16.index, .int .i64 x16.term, .int .i64 x16.kind, .string x16.data]) many45 hB26 rfl rfl (by decide))) rfl rfl rfl ?_
     refine st_op (ev_build zero82 pl82 (parts := [(2, .agg #[.int .i64 x16.index, .int .i64 x16.term, .int .i64 x16.kind, .string x16.data])]) rfl (cs := [.bool false, .int .i64 0, .int .i64 0, .int .i64 x16.index, .int .i64 x16.term, .int .i64 x16.kind, .string x16.data]) rfl) rfl rfl rfl ?_
     refine st_call rfl rfl rfl ent58 rfl rfl rfl ?_
     obtain ⟨_, H38, hs37, hs37v, hx39⟩ := wal_May_spec H24 false (0 : Int) (0 : Int) x16.index x16.term x16.kind x16.data
     rw [hs37v] at hs37; clear hs37v
     refine ⟨_, H38, hs37, ?_⟩
     have H38n : H24.next ≤ H38.next := hx39.1
     refine st_op (ev_not rfl) rfl rfl rfl ?_
     refine st_op (ev_pickF rfl rfl) rfl rfl rfl ?_
     try show aw _ _ _ _ _ _
     by_cases hc40 : (!(Spec.mayF false (0 : Int) (0 : Int) x16.index x16.term x16.kind x16.data)) = true
     ·
      refine aw_condT hc40 rfl ?_
      try show aw _ _ _ _ _ _
      replace hc40 : (Spec.mayF false (0 : Int) (0 : Int) x16.index x16.term x16.kind x16.data) = false := by rw [Bool.not_eq_true'] at hc40; exact hc40
      refine aw_seq ?_
      refine aw_reg ?_
      refine st_op (ev_assign rfl) rfl rfl rfl ?_
      try show aw _ _ _ _ _ _
      refine aw_ret ?_
      have hx41 : Ext H H38 := (Ext.trans (Ext.then (Ext.trans hx13 hx23) hf28 (fun q hq e => by omega)) hx39)
      have hres : (Spec.entR term index logterm es && decide (es.length ≤ 8 ∧ (es.length = 0 ∨ kind = 3))) = false := by first | (rw [hv, drop_at hx17, Spec.entR, if_pos (by first | exact .inl (by omega) | exact .inr (.inl (by omega)) | exact .inr (.inr (.inl (by omega))) | exact .inr (.inr (.inr (by assumption))))]; rfl) | (rw [hv, List.drop_eq_nil_of_le (by omega), Spec.entR, Bool.eq_iff_iff]; simp only [Bool.true_and, decide_eq_true_eq, beq_iff_eq, Bool.false_eq_true, iff_true, iff_false]; omega)
      exact ⟨.bool false, rfl, by first | (rw [hres]; done) | rw [← hres], hx41⟩
     ·
      rw [Bool.not_eq_true] at hc40; refine aw_condF hc40 rfl ?_
      try show aw _ _ _ _ _ _
      replace hc40 : (Spec.mayF false (0 : Int) (0 : Int) x16.index x16.term x16.kind x16.data) = true := by rw [Bool.not_eq_false'] at hc40; exact hc40
      have hc40m := Spec.may_says hc40
      refine aw_skip ?_
      try show aw _ _ _ _ _ _
      refine aw_marks (fun b => b < H38.next) [(false, false), (false, false), (false, false), (false, false), (false, false), (false, false)] mixed (by kernel_rfl) (by kernel_rfl) ?_
      refine sm_op (ev_fieldAddr rfl fa45_0 (o' := 0) rfl) rfl rfl rfl ?_
      have h42 := Ext.blk hx39 (by omega) hB26
      refine sm_op (ev_load rfl (lvar_one one2 h42 rfl)) rfl rfl rfl ?_
      refine sm_op (ev_fieldAddr rfl fa45_1 (o' := 1) rfl) rfl rfl rfl ?_
      refine sm_op (ev_load rfl (lvar_one one2 h42 rfl)) rfl rfl rfl ?_
      iterate 2 refine sm_op (ev_assign rfl) rfl rfl rfl ?_
      try show aw _ _ _ _ _ _
      refine aw_reg ?_
      refine st_op (ev_int64 (c := (i : Int) + 1) rfl rfl rfl (by omega) (by omega)) rfl rfl rfl ?_
      refine st_op (ev_move rfl) rfl rfl rfl ?_
      try show aw _ _ _ _ _ _
      have hx43 : Ext H2 H38 := (Ext.trans hx34 hx39)
      refine aw_keep [1, 3, 4, 12, 13, 14] (l' := (.cons 1 (.pointer (some ⟨b1, 0, none⟩)) (.cons 3 (.int .i64 x16.index) (.cons 4 (.int .i64 x16.term) (.cons 12 (.slice esA es.length esc) (.cons 13 (.int .i64 (es.length : Int)) (.cons 14 (.int .i64 ((i : Int) + 1)) .nil))))))) (by repeat (first | exact Up.done | refine Up.then ?_ | refine Up.inBlock ?_)) rfl ?_
      exact ih10 (i + 1, x16.index, x16.term, H38) ⟨(show (i + 1) ≤ es.length from (by omega)), (show Spec.entR term index logterm es = Spec.entR term x16.index x16.term (es.drop (i + 1)) from (by rw [hv, drop_at hx17, Spec.entR, if_neg (fun q => by rcases q with q | q | q | q <;> first | omega | exact Bool.noConfusion (q.symm.trans (show _ = true by assumption)))])), (show 0 ≤ x16.index ∧ x16.index ≤ 1099511627776 from ⟨by omega, by omega⟩), (show Ext H2 H38 from hx43)⟩ (by simp only; omega)
 ·
  rw [Bool.not_eq_true] at hc11; refine aw_condF hc11 rfl ?_
  try show aw _ _ _ _ _ _
  have hc11 := of_decide_eq_false hc11
  refine aw_exit ?_
  try show aw _ _ _ _ _ _
  refine aw_seq ?_
  refine aw_reg ?_
  refine st_op (ev_fieldAddr rfl fa26_8 (o' := 8) rfl) rfl rfl rfl ?_
  have h44 := Ext.blk hxl9 (by omega) hB5
  refine st_op (ev_load rfl (lvar_one one22 h44 rfl)) rfl rfl rfl ?_
  refine st_op (ev_lenSl rfl Try.underlying22) rfl rfl rfl ?_
  refine st_op (ev_int rfl rfl rfl) rfl rfl rfl ?_
  refine st_op (ev_move rfl) rfl rfl rfl ?_
  refine st_bool 51 rfl (fun hb45 => ?_) (fun hb45 => ?_)
  ·
   have hb45 := of_decide_eq_true hb45
   refine st_op (ev_fieldAddr rfl fa26_8 (o' := 8) rfl) rfl rfl rfl ?_
   refine st_op (ev_load rfl (lvar_one one22 h44 rfl)) rfl rfl rfl ?_
   refine st_op (ev_lenSl rfl Try.underlying22) rfl rfl rfl ?_
   refine st_op (ev_int rfl rfl rfl) rfl rfl rfl ?_
   refine st_op (ev_move rfl) rfl rfl rfl ?_
   refine st_bool 56 rfl (fun hb46 => ?_) (fun hb46 => ?_)
   ·
    have hb46 := eq_of_beq hb46
    iterate 3 refine st_skip rfl rfl rfl ?_
    iterate 2 refine st_op (ev_pickT rfl rfl) rfl rfl rfl ?_
    refine st_op (ev_assign rfl) rfl rfl rfl ?_
    try show aw _ _ _ _ _ _
    refine aw_ret ?_
    have hx47 : Ext H Hl7 := (Ext.trans hx6 hxl9)
    have hres : (Spec.entR term index logterm es && decide (es.length ≤ 8 ∧ (es.length = 0 ∨ kind = 3))) = true := by first | (rw [hv, drop_at hx17, Spec.entR, if_pos (by first | exact .inl (by omega) | exact .inr (.inl (by omega)) | exact .inr (.inr (.inl (by omega))) | exact .inr (.inr (.inr (by assumption))))]; rfl) | (rw [hv, List.drop_eq_nil_of_le (by omega), Spec.entR, Bool.eq_iff_iff]; simp only [Bool.true_and, decide_eq_true_eq, beq_iff_eq, Bool.false_eq_true, iff_true, iff_false]; omega)
    exact ⟨.bool true, rfl, by first | (rw [hres]; done) | rw [← hres], hx47⟩
   ·
    have hb46 := ne_of_beq_false hb46
    refine st_op (ev_fieldAddr rfl fa26_0 (o' := 0) rfl) rfl rfl rfl ?_
    refine st_op (ev_load rfl (lvar_one one3 h44 rfl)) rfl rfl rfl ?_
    refine st_op (ev_int rfl rfl rfl) rfl rfl rfl ?_
    refine st_op (ev_pickF rfl rfl) rfl rfl rfl ?_
    refine st_op (ev_pickT rfl rfl) rfl rfl rfl ?_
    refine st_op (ev_assign rfl) rfl rfl rfl ?_
    try show aw _ _ _ _ _ _
    refine aw_ret ?_
    have hx48 : Ext H Hl7 := (Ext.trans hx6 hxl9)
    have hres : (Spec.entR term index logterm es && decide (es.length ≤ 8 ∧ (es.length = 0 ∨ kind = 3))) = (kind == 3) := by first | (rw [hv, drop_at hx17, Spec.entR, if_pos (by first | exact .inl (by omega) | exact .inr (.inl (by omega)) | exact .inr (.inr (.inl (by omega))) | exact .inr (.inr (.inr (by assumption))))]; rfl) | (rw [hv, List.drop_eq_nil_of_le (by omega), Spec.entR, Bool.eq_iff_iff]; simp only [Bool.true_and, decide_eq_true_eq, beq_iff_eq, Bool.false_eq_true, iff_true, iff_false]; omega)
    exact ⟨.bool (kind == 3), rfl, by first | (rw [hres]; done) | rw [← hres], hx48⟩
  ·
   have hb45 := of_decide_eq_false hb45
   iterate 9 refine st_skip rfl rfl rfl ?_
   refine st_op (ev_pickF rfl rfl) rfl rfl rfl ?_
   refine st_op (ev_assign rfl) rfl rfl rfl ?_
   try show aw _ _ _ _ _ _
   refine aw_ret ?_
   have hx49 : Ext H Hl7 := (Ext.trans hx6 hxl9)
   have hres : (Spec.entR term index logterm es && decide (es.length ≤ 8 ∧ (es.length = 0 ∨ kind = 3))) = false := by first | (rw [hv, drop_at hx17, Spec.entR, if_pos (by first | exact .inl (by omega) | exact .inr (.inl (by omega)) | exact .inr (.inr (.inl (by omega))) | exact .inr (.inr (.inr (by assumption))))]; rfl) | (rw [hv, List.drop_eq_nil_of_le (by omega), Spec.entR, Bool.eq_iff_iff]; simp only [Bool.true_and, decide_eq_true_eq, beq_iff_eq, Bool.false_eq_true, iff_true, iff_false]; omega)
   exact ⟨.bool false, rfl, by first | (rw [hres]; done) | rw [← hres], hx49⟩
theorem conf_May_spec (H : Heap) (lA : Option Addr) (l : List Int) (lc : Nat) (hl : Row H lA lc 1 (l.map i64c)) (cl : l.length ≤ lc) (ll : l.length ≤ 274877906944) : ∃ v H', Spec Try.prog 59 [.slice lA l.length lc] H v H' ∧ ((v = .bool (Spec.mayC l)) ∧ (Ext H H')) := by
 refine spec_go1 E0_ok 35 (f := 59) Try.func59 rfl rfl rfl ?_
 refine aw_seq ?_
 refine aw_reg ?_
 refine st_op (ev_assign rfl) rfl rfl rfl ?_
 try show aw _ _ _ _ _ _
 iterate 2 refine aw_seq ?_
 refine aw_reg ?_
 refine st_op (ev_move rfl) rfl rfl rfl ?_
 refine st_op (ev_lenSl rfl Try.underlying56) rfl rfl rfl ?_
 refine st_op (ev_move rfl) rfl rfl rfl ?_
 try show aw _ _ _ _ _ _
 refine aw_block ?_
 refine aw_keep [0, 5, 6, 7] (l' := (.cons 0 (.slice lA l.length lc) (.cons 5 (.slice lA l.length lc) (.cons 6 (.int .i64 (l.length : Int)) (.cons 7 (.int .i64 0) .nil))))) (by repeat (first | exact Up.done | refine Up.then ?_ | refine Up.inBlock ?_)) rfl ?_
 refine aw_iter (α := Nat × Int × Heap) (fun a => l.length - a.1) (fun a => (.cons 0 (.slice lA l.length lc) (.cons 5 (.slice lA l.length lc) (.cons 6 (.int .i64 (l.length : Int)) (.cons 7 (.int .i64 (a.1 : Int)) .nil))))) (fun a => a.2.2) (fun a => (a.1 ≤ l.length) ∧ (Spec.upF 0 l = Spec.upF a.2.1 (l.drop a.1)) ∧ ((a.1 = 0 → a.2.1 = 0) ∧ (0 < a.1 → l[a.1 - 1]? = some a.2.1)) ∧ (Ext H a.2.2)) (0, (0 : Int), H) ⟨(show 0 ≤ l.length from Nat.zero_le _), (show Spec.upF 0 l = Spec.upF (0 : Int) (l.drop 0) from rfl), (show (0 = 0 → (0 : Int) = 0) ∧ (0 < 0 → l[0 - 1]? = some (0 : Int)) from ⟨fun _ => rfl, fun h => absurd h (by decide)⟩), (show Ext H H from (Ext.refl H))⟩ ?_
 rintro ⟨i, pv, Hl1⟩ ⟨hi, hv, hpv, hxl2⟩ ih3
 replace hi : i ≤ l.length := hi
 replace hv : Spec.upF 0 l = Spec.upF pv (l.drop i) := hv
 replace hpv : (i = 0 → pv = 0) ∧ (0 < i → l[i - 1]? = some pv) := hpv
 replace hxl2 : Ext H Hl1 := hxl2
 show aw _ _ _ (RL _ (.cons 0 (.slice lA l.length lc) (.cons 5 (.slice lA l.length lc) (.cons 6 (.int .i64 (l.length : Int)) (.cons 7 (.int .i64 (i : Int)) .nil))))) Hl1 _
 have Hl1n : H.next ≤ Hl1.next := hxl2.1
 refine aw_seq ?_
 refine aw_reg ?_
 refine st_op (ev_int rfl rfl rfl) rfl rfl rfl ?_
 try show aw _ _ _ _ _ _
 refine aw_seq ?_
 by_cases hc4 : (decide ((i : Int) < (l.length : Int))) = true
 ·
  refine aw_condT hc4 rfl ?_
  try show aw _ _ _ _ _ _
  have hc4 := of_decide_eq_true hc4
  refine aw_skip ?_
  try show aw _ _ _ _ _ _
  refine aw_seq ?_
  refine aw_block ?_
  refine aw_seq ?_
  refine aw_reg ?_
  refine st_op (ev_move rfl) rfl rfl rfl ?_
  have h5 := Row.ext hl hxl2
  have hi6 : 0 ≤ ((i : Int) : Int) := by omega
  have hi7 : ((i : Int) : Int) < ((l.length : Nat) : Int) := by omega
  obtain ⟨x8, hx9⟩ : ∃ e, l[i]? = some e := ⟨_, List.getElem?_eq_getElem (by omega)⟩
  refine st_op (ev_at rfl rfl h5 (getMap i64c hx9) (by first | rfl | omega | simp) hi6 hi7 el56) rfl rfl rfl ?_
  refine st_op (ev_atL rfl h5 (getMap i64c hx9) one3 rfl) rfl rfl rfl ?_
  iterate 2 refine st_op (ev_assign rfl) rfl rfl rfl ?_
  try show aw _ _ _ _ _ _
  refine aw_seq ?_
  refine aw_reg ?_
  refine st_op (ev_move rfl) rfl rfl rfl ?_
  refine st_op (ev_int rfl rfl rfl) rfl rfl rfl ?_
  refine st_op (ev_move rfl) rfl rfl rfl ?_
  refine st_bool 14 rfl (fun hb10 => ?_) (fun hb10 => ?_)
  ·
   have hb10 := of_decide_eq_true hb10
   iterate 2 refine st_skip rfl rfl rfl ?_
   refine st_op (ev_pickT rfl rfl) rfl rfl rfl ?_
   refine st_op (ev_move rfl) rfl rfl rfl ?_
   iterate 11 refine st_skip rfl rfl rfl ?_
   refine st_op (ev_pickT rfl rfl) rfl rfl rfl ?_
   try show aw _ _ _ _ _ _
   refine aw_cond (t := true) rfl ?_
   try show aw _ _ _ _ _ _
   refine aw_seq ?_
   refine aw_reg ?_
   refine st_op (ev_assign rfl) rfl rfl rfl ?_
   try show aw _ _ _ _ _ _
   refine aw_ret ?_
   have hres : (Spec.mayC l) = false := by unfold Spec.mayC; rw [hv, drop_at hx9, Spec.upF, if_pos (by omega)]; rfl
   exact ⟨.bool false, rfl, by first | (rw [hres]; done) | rw [← hres], hxl2⟩
  ·
   have hb10 := of_decide_eq_false hb10
   refine st_op (ev_move rfl) rfl rfl rfl ?_
   refine st_op (ev_int rfl rfl rfl) rfl rfl rfl ?_
   refine st_op (ev_pickF rfl rfl) rfl rfl rfl ?_
   refine st_op (ev_move rfl) rfl rfl rfl ?_
   refine st_bool 18 rfl (fun hb11 => ?_) (fun hb11 => ?_)
   ·
    have hb11 := of_decide_eq_true hb11
    iterate 11 refine st_skip rfl rfl rfl ?_
    refine st_op (ev_pickT rfl rfl) rfl rfl rfl ?_
    try show aw _ _ _ _ _ _
    refine aw_cond (t := true) rfl ?_
    try show aw _ _ _ _ _ _
    refine aw_seq ?_
    refine aw_reg ?_
    refine st_op (ev_assign rfl) rfl rfl rfl ?_
    try show aw _ _ _ _ _ _
    refine aw_ret ?_
    have hres : (Spec.mayC l) = false := by unfold Spec.mayC; rw [hv, drop_at hx9, Spec.upF, if_pos (by omega)]; rfl
    exact ⟨.bool false, rfl, by first | (rw [hres]; done) | rw [← hres], hxl2⟩
   ·
    have hb11 := of_decide_eq_false hb11
    refine st_op (ev_move rfl) rfl rfl rfl ?_
    refine st_op (ev_int rfl rfl rfl) rfl rfl rfl ?_
    refine st_op (ev_move rfl) rfl rfl rfl ?_
    refine st_bool 21 rfl (fun hb12 => ?_) (fun hb12 => ?_)
    ·
     have hb12 := of_decide_eq_true hb12
     iterate 2 refine st_op (ev_move rfl) rfl rfl rfl ?_
     refine st_op (ev_int64 (c := (i : Int) - 1) rfl rfl rfl (by omega) (by omega)) rfl rfl rfl ?_
     have hi13 : 0 ≤ ((i : Int) - 1 : Int) := by omega
     have hi14 : ((i : Int) - 1 : Int) < ((l.length : Nat) : Int) := by omega
     obtain ⟨x15, hx16⟩ : ∃ e, l[(((i : Int) - 1)).toNat]? = some e := ⟨_, List.getElem?_eq_getElem (by omega)⟩
     have x15p : x15 = pv := by have q := hpv.2 (by omega); rw [show (((((i : Int) - 1)).toNat) : Nat) = i - 1 by omega] at hx16; rw [hx16] at q; cases q; rfl
     refine st_op (ev_at rfl rfl h5 (getMap i64c hx16) (by first | rfl | omega | simp) hi13 hi14 el56) rfl rfl rfl ?_
     refine st_op (ev_atL rfl h5 (getMap i64c hx16) one3 rfl) rfl rfl rfl ?_
     refine st_op (ev_move rfl) rfl rfl rfl ?_
     refine st_op (ev_int rfl rfl rfl) rfl rfl rfl ?_
     refine st_op (ev_pickT rfl rfl) rfl rfl rfl ?_
     refine st_op (ev_pickF rfl rfl) rfl rfl rfl ?_
     try show aw _ _ _ _ _ _
     by_cases hc17 : (decide (x15 ≥ x8)) = true
     ·
      refine aw_condT hc17 rfl ?_
      try show aw _ _ _ _ _ _
      have hc17 := of_decide_eq_true hc17
      refine aw_seq ?_
      refine aw_reg ?_
      refine st_op (ev_assign rfl) rfl rfl rfl ?_
      try show aw _ _ _ _ _ _
      refine aw_ret ?_
      have hres : (Spec.mayC l) = false := by unfold Spec.mayC; rw [hv, drop_at hx9, Spec.upF, if_pos (by omega)]; rfl
      exact ⟨.bool false, rfl, by first | (rw [hres]; done) | rw [← hres], hxl2⟩
     ·
      rw [Bool.not_eq_true] at hc17; refine aw_condF hc17 rfl ?_
      try show aw _ _ _ _ _ _
      have hc17 := of_decide_eq_false hc17
      refine aw_skip ?_
      try show aw _ _ _ _ _ _
      refine aw_reg ?_
      refine st_op (ev_int64 (c := (i : Int) + 1) rfl rfl rfl (by omega) (by omega)) rfl rfl rfl ?_
      refine st_op (ev_move rfl) rfl rfl rfl ?_
      try show aw _ _ _ _ _ _
      refine aw_keep [0, 5, 6, 7] (l' := (.cons 0 (.slice lA l.length lc) (.cons 5 (.slice lA l.length lc) (.cons 6 (.int .i64 (l.length : Int)) (.cons 7 (.int .i64 ((i : Int) + 1)) .nil))))) (by repeat (first | exact Up.done | refine Up.then ?_ | refine Up.inBlock ?_)) rfl ?_
      exact ih3 (i + 1, x8, Hl1) ⟨(show (i + 1) ≤ l.length from (by omega)), (show Spec.upF 0 l = Spec.upF x8 (l.drop (i + 1)) from (by rw [hv, drop_at hx9, Spec.upF, if_neg (by omega)])), (show ((i + 1) = 0 → x8 = 0) ∧ (0 < (i + 1) → l[(i + 1) - 1]? = some x8) from ⟨fun h => absurd h (by omega), fun _ => by rw [Nat.add_sub_cancel]; exact hx9⟩), (show Ext H Hl1 from hxl2)⟩ (by simp only; omega)
    ·
     have hb12 := of_decide_eq_false hb12
     iterate 7 refine st_skip rfl rfl rfl ?_
     iterate 2 refine st_op (ev_pickF rfl rfl) rfl rfl rfl ?_
     try show aw _ _ _ _ _ _
     refine aw_cond (t := false) rfl ?_
     try show aw _ _ _ _ _ _
     refine aw_skip ?_
     try show aw _ _ _ _ _ _
     refine aw_reg ?_
     refine st_op (ev_int64 (c := (i : Int) + 1) rfl rfl rfl (by omega) (by omega)) rfl rfl rfl ?_
     refine st_op (ev_move rfl) rfl rfl rfl ?_
     try show aw _ _ _ _ _ _
     refine aw_keep [0, 5, 6, 7] (l' := (.cons 0 (.slice lA l.length lc) (.cons 5 (.slice lA l.length lc) (.cons 6 (.int .i64 (l.length : Int)) (.cons 7 (.int .i64 ((i : Int) + 1)) .nil))))) (by repeat (first | exact Up.done | refine Up.then ?_ | refine Up.inBlock ?_)) rfl ?_
     exact ih3 (i + 1, x8, Hl1) ⟨(show (i + 1) ≤ l.length from (by omega)), (show Spec.upF 0 l = Spec.upF x8 (l.drop (i + 1)) from (by rw [hv, drop_at hx9, Spec.upF, if_neg (by have := hpv.1 (by omega); omega)])), (show ((i + 1) = 0 → x8 = 0) ∧ (0 < (i + 1) → l[(i + 1) - 1]? = some x8) from ⟨fun h => absurd h (by omega), fun _ => by rw [Nat.add_sub_cancel]; exact hx9⟩), (show Ext H Hl1 from hxl2)⟩ (by simp only; omega)
 ·
  rw [Bool.not_eq_true] at hc4; refine aw_condF hc4 rfl ?_
  try show aw _ _ _ _ _ _
  have hc4 := of_decide_eq_false hc4
  refine aw_exit ?_
  try show aw _ _ _ _ _ _
  refine aw_seq ?_
  refine aw_reg ?_
  refine st_op (ev_move rfl) rfl rfl rfl ?_
  refine st_op (ev_lenSl rfl Try.underlying56) rfl rfl rfl ?_
  refine st_op (ev_int rfl rfl rfl) rfl rfl rfl ?_
  refine st_op (ev_assign rfl) rfl rfl rfl ?_
  try show aw _ _ _ _ _ _
  refine aw_ret ?_
  have hres : (Spec.mayC l) = (decide ((l.length : Int) > 0)) := by unfold Spec.mayC; rw [hv, List.drop_eq_nil_of_le (by omega)]; simp [Spec.upF]
  exact ⟨.bool (decide ((l.length : Int) > 0)), rfl, by first | (rw [hres]; done) | rw [← hres], hxl2⟩
theorem conf_Decode_spec (H : Heap) (s : ByteArray) (hs : s.size ≤ 1073741824) : ∃ v H', Spec Try.prog 43 [.string s] H v H' ∧ (∃ rA0 rc0, (v = .tuple #[.slice rA0 (((Spec.decC s).1).length) rc0, .bool ((Spec.decC s).2)]) ∧ (My H H' rA0 rc0 1 (((Spec.decC s).1).map i64c)) ∧ (Ext H H')) := by
 refine spec_go1 E0_ok 24 (f := 43) Try.func43 rfl rfl rfl ?_
 refine aw_seq ?_
 refine aw_reg ?_
 iterate 2 refine st_op (ev_assign rfl) rfl rfl rfl ?_
 try show aw _ _ _ _ _ _
 refine aw_seq ?_
 refine aw_reg ?_
 refine st_op (ev_assign rfl) rfl rfl rfl ?_
 try show aw _ _ _ _ _ _
 iterate 2 refine aw_seq ?_
 refine aw_reg ?_
 refine st_op (ev_move rfl) rfl rfl rfl ?_
 refine st_op (ev_lenStr rfl Try.underlying9) rfl rfl rfl ?_
 refine st_op (ev_move rfl) rfl rfl rfl ?_
 try show aw _ _ _ _ _ _
 refine aw_block ?_
 have hm2 : My H H none 0 1 (([] : List Int).map i64c) := .nil
 refine aw_keep [0, 4, 7, 8] (l' := (.cons 0 (.string s) (.cons 4 (.slice none 0 0) (.cons 7 (.int .i64 ((s).size : Int)) (.cons 8 (.int .i64 0) .nil))))) (by repeat (first | exact Up.done | refine Up.then ?_ | refine Up.inBlock ?_)) rfl ?_
 refine aw_iter (α := Nat × Option Addr × Nat × List Int × Heap) (fun a => s.size - a.1) (fun a => (.cons 0 (.string s) (.cons 4 (.slice a.2.1 a.2.2.2.1.length a.2.2.1) (.cons 7 (.int .i64 ((s).size : Int)) (.cons 8 (.int .i64 (a.1 : Int)) .nil))))) (fun a => a.2.2.2.2) (fun a => (a.1 ≤ s.size) ∧ (a.2.2.2.1 = (Spec.digits s).take a.1) ∧ (My H a.2.2.2.2 a.2.1 a.2.2.1 1 (a.2.2.2.1.map i64c)) ∧ (Ext H a.2.2.2.2)) (0, none, 0, ([] : List Int), H) ⟨(show 0 ≤ s.size from Nat.zero_le _), (show ([] : List Int) = (Spec.digits s).take 0 from rfl), (show My H H none 0 1 (([] : List Int).map i64c) from hm2), (show Ext H H from (Ext.refl H))⟩ ?_
 rintro ⟨i, A, cp, l, Hl1⟩ ⟨hi, hl, hm3, hxl4⟩ ih5
 replace hi : i ≤ s.size := hi
 replace hl : l = (Spec.digits s).take i := hl
 replace hm3 : My H Hl1 A cp 1 (l.map i64c) := hm3
 replace hxl4 : Ext H Hl1 := hxl4
 show aw _ _ _ (RL _ (.cons 0 (.string s) (.cons 4 (.slice A l.length cp) (.cons 7 (.int .i64 ((s).size : Int)) (.cons 8 (.int .i64 (i : Int)) .nil))))) Hl1 _
 have Hl1n : H.next ≤ Hl1.next := hxl4.1
 have hll : l.length = i := by rw [hl, List.length_take, Spec.digits_len]; omega
 refine aw_seq ?_
 refine aw_reg ?_
 refine st_op (ev_int rfl rfl rfl) rfl rfl rfl ?_
 try show aw _ _ _ _ _ _
 refine aw_seq ?_
 by_cases hc6 : (decide ((i : Int) < ((s).size : Int))) = true
 ·
  refine aw_condT hc6 rfl ?_
  try show aw _ _ _ _ _ _
  have hc6 := of_decide_eq_true hc6
  refine aw_skip ?_
  try show aw _ _ _ _ _ _
  refine aw_seq ?_
  refine aw_block ?_
  refine aw_seq ?_
  refine aw_reg ?_
  refine st_op (ev_move rfl) rfl rfl rfl ?_
  refine st_op (ev_assign rfl) rfl rfl rfl ?_
  try show aw _ _ _ _ _ _
  refine aw_reg ?_
  iterate 3 refine st_op (ev_move rfl) rfl rfl rfl ?_
  obtain ⟨y7, hy8⟩ : ∃ y, (s).data.toList[i]? = some y := ⟨_, List.getElem?_eq_getElem (by simp; omega)⟩
  have y7t := y7.toNat_lt
  refine st_op (ev_ixStr Try.underlying9 rfl rfl (ba_get hy8)) rfl rfl rfl ?_
  refine st_op (ev_convI Try.underlying5 Try.underlying3 rfl (wrI64 (by omega) (by omega))) rfl rfl rfl ?_
  refine st_op (ev_int64 (c := (y7.toNat : Int) - 48) rfl rfl rfl (by omega) (by omega)) rfl rfl rfl ?_
  obtain ⟨b9, H10, he11, b9e, H10n_, hm13, f12⟩ := mem_lit Hl1 (xs := ([.int .i64 ((y7.toNat : Int) - 48)] : List Value)) (m := 1) (rows := [[.int .i64 ((y7.toNat : Int) - 48)]]) rfl eok56 (by decide) (by decide) zf3 rfl (allLen rfl) rfl
  replace hm13 : My Hl1 H10 (some ⟨b9, 0, none⟩) 1 1 ([(y7.toNat : Int) - 48].map i64c) := hm13
  refine st_op (he11 _ _ _ _ _ _ _ _ rfl) rfl rfl rfl ?_
  have hx14 : Ext Hl1 H10 := Ext.new (by omega) H10n_ f12
  have H10n : Hl1.next ≤ H10.next := hx14.1
  have h15 := My.ext hm3 hx14
  obtain ⟨A16, c17, H18, W19, he20, hm21, hf22⟩ := mem_append (f := i64c) (old := l) (new := [(y7.toNat : Int) - 48]) (m := l.length) (mx := 1) (c := cp) (by first | rfl | simp) (by first | rfl | simp) eok56 (by decide) hm3 h15 (by omega) (((My.row hm13)).srcF (by decide) (by first | rfl | simp)) rfl i64c_len i64c_one (by first | omega | (simp only [List.length_append, List.length_cons, List.length_nil, List.length_map, List.length_set, List.length_replicate, Spec.bytesOf_length]; omega) | (simp; omega)) (by first | omega | (simp only [List.length_append, List.length_cons, List.length_nil, List.length_map, List.length_set, List.length_replicate, Spec.bytesOf_length]; omega) | (simp; omega))
  refine st_op (he20 _ _ _ _ _ _ _ _ _ _ rfl rfl isrow56) rfl rfl rfl ?_
  have H18n : H10.next ≤ H18.next := hf22.1
  refine st_op (ev_assign rfl) rfl rfl rfl ?_
  try show aw _ _ _ _ _ _
  refine aw_reg ?_
  refine st_op (ev_int64 (c := (i : Int) + 1) rfl rfl rfl (by omega) (by omega)) rfl rfl rfl ?_
  refine st_op (ev_move rfl) rfl rfl rfl ?_
  try show aw _ _ _ _ _ _
  have hx23 : Ext H H18 := (Ext.then (Ext.trans hxl4 hx14) hf22 (fun q hq e => by omega))
  refine aw_keep [0, 4, 7, 8] (l' := (.cons 0 (.string s) (.cons 4 (.slice A16 ((l ++ [(y7.toNat : Int) - 48]).length) c17) (.cons 7 (.int .i64 ((s).size : Int)) (.cons 8 (.int .i64 ((i : Int) + 1)) .nil))))) (by repeat (first | exact Up.done | refine Up.then ?_ | refine Up.inBlock ?_)) rfl ?_
  exact ih5 (i + 1, A16, c17, (l ++ [(y7.toNat : Int) - 48]), H18) ⟨(show (i + 1) ≤ s.size from (by omega)), (show (l ++ [(y7.toNat : Int) - 48]) = (Spec.digits s).take (i + 1) from (by rw [List.take_add_one, ← hl, Spec.digits_at hy8]; rfl)), (show My H H18 A16 c17 1 ((l ++ [(y7.toNat : Int) - 48]).map i64c) from hm21), (show Ext H H18 from hx23)⟩ (by simp only; omega)
 ·
  rw [Bool.not_eq_true] at hc6; refine aw_condF hc6 rfl ?_
  try show aw _ _ _ _ _ _
  have hc6 := of_decide_eq_false hc6
  refine aw_exit ?_
  try show aw _ _ _ _ _ _
  iterate 2 refine aw_seq ?_
  refine aw_reg ?_
  refine st_op (ev_move rfl) rfl rfl rfl ?_
  refine st_call rfl rfl rfl ent59 rfl rfl rfl ?_
  obtain ⟨_, H25, hs24, hs24v, hx26⟩ := conf_May_spec Hl1 A l cp (My.row hm3) (My.capF hm3 (by omega)) (by omega)
  rw [hs24v] at hs24; clear hs24v
  refine ⟨_, H25, hs24, ?_⟩
  have H25n : Hl1.next ≤ H25.next := hx26.1
  refine st_op (ev_not rfl) rfl rfl rfl ?_
  try show aw _ _ _ _ _ _
  by_cases hc27 : (!(Spec.mayC l)) = true
  ·
   refine aw_condT hc27 rfl ?_
   try show aw _ _ _ _ _ _
   replace hc27 : (Spec.mayC l) = false := by rw [Bool.not_eq_true'] at hc27; exact hc27
   refine aw_seq ?_
   refine aw_reg ?_
   iterate 2 refine st_op (ev_assign rfl) rfl rfl rfl ?_
   try show aw _ _ _ _ _ _
   refine aw_ret ?_
   have hm28 : My H25 H25 none 0 1 (([] : List Int).map i64c) := .nil
   have hx29 : Ext H H25 := (Ext.trans hxl4 hx26)
   have hres : (Spec.decC s) = (([] : List Int), false) := by (have hd : l = Spec.digits s := by rw [hl, List.take_of_length_le (by rw [Spec.digits_len]; omega)]); unfold Spec.decC; rw [← hd]; first | (rw [if_pos (by assumption)]; done) | (rw [if_neg (fun h => Bool.noConfusion (h.symm.trans (show _ = false by assumption)))]; done)
   exact ⟨.tuple #[.slice none 0 0, .bool false], rfl, none, 0, by first | (rw [hres]; first | done | rfl | simp; done) | rfl, (by rw [hres]; exact (My.older hm28 (by omega))), hx29⟩
  ·
   rw [Bool.not_eq_true] at hc27; refine aw_condF hc27 rfl ?_
   try show aw _ _ _ _ _ _
   replace hc27 : (Spec.mayC l) = true := by rw [Bool.not_eq_false'] at hc27; exact hc27
   refine aw_skip ?_
   try show aw _ _ _ _ _ _
   refine aw_seq ?_
   refine aw_reg ?_
   refine st_op (ev_move rfl) rfl rfl rfl ?_
   iterate 2 refine st_op (ev_assign rfl) rfl rfl rfl ?_
   try show aw _ _ _ _ _ _
   refine aw_ret ?_
   have h30 := My.ext hm3 hx26
   have hx31 : Ext H H25 := (Ext.trans hxl4 hx26)
   have hres : (Spec.decC s) = (l, true) := by (have hd : l = Spec.digits s := by rw [hl, List.take_of_length_le (by rw [Spec.digits_len]; omega)]); unfold Spec.decC; rw [← hd]; first | (rw [if_pos (by assumption)]; done) | (rw [if_neg (fun h => Bool.noConfusion (h.symm.trans (show _ = false by assumption)))]; done)
   exact ⟨.tuple #[.slice A l.length cp, .bool true], rfl, A, cp, by first | (rw [hres]; first | done | rfl | simp; done) | rfl, (by rw [hres]; exact h30), hx31⟩
theorem num_Put_spec (H : Heap) (bH : Heap) (bA : Option Addr) (b : List Int) (bc : Nat) (hb : My bH H bA bc 1 (b.map u8c)) (nb : bH.next ≤ H.next) (lb : b.length ≤ 1099511627756) (n : Int) (hn : -9223372036854775808 ≤ n ∧ n ≤ 9223372036854775807) : ∃ v H', Spec Try.prog 26 [.slice bA b.length bc, .int .i64 n] H v H' ∧ (∃ rA0 rc0, (v = .slice rA0 ((b ++ Spec.enc (Spec.zig n)).length) rc0) ∧ (My bH H' rA0 rc0 1 ((b ++ Spec.enc (Spec.zig n)).map u8c)) ∧ ((Spec.enc (Spec.zig n)).length ≤ 10) ∧ (Fr (fun q => (bH.next ≤ q ∧ q < H.next ∧ ZB H q 1)) H H')) := by
 refine spec_go2 E0_ok 28 (f := 26) Try.func26 rfl rfl rfl ?_
 refine aw_seq ?_
 refine aw_reg ?_
 refine st_op (ev_assign rfl) rfl rfl rfl ?_
 try show aw _ _ _ _ _ _
 refine aw_seq ?_
 refine aw_reg ?_
 refine st_op (ev_move rfl) rfl rfl rfl ?_
 have hw1 : 0 ≤ (IntKind.u64.wrap n) ∧ (IntKind.u64.wrap n) ≤ 18446744073709551615 := wrapU64 _
 refine st_op (ev_convInt Try.underlying2 Try.underlying87 rfl) rfl rfl rfl ?_
 have hw2 : 0 ≤ (Spec.shl .u64 (IntKind.u64.wrap n) 1) ∧ (Spec.shl .u64 (IntKind.u64.wrap n) 1) ≤ 18446744073709551615 := wrapU64 _
 refine st_op (ev_shlV rfl rfl (by omega)) rfl rfl rfl ?_
 refine st_op (ev_assign rfl) rfl rfl rfl ?_
 try show aw _ _ _ _ _ _
 iterate 2 refine aw_seq ?_
 refine aw_reg ?_
 refine st_op (ev_move rfl) rfl rfl rfl ?_
 refine st_op (ev_int rfl rfl rfl) rfl rfl rfl ?_
 try show aw _ _ _ _ _ _
 by_cases hc3 : (decide (n < 0)) = true
 ·
  refine aw_condT hc3 rfl ?_
  try show aw _ _ _ _ _ _
  have hc3 := of_decide_eq_true hc3
  refine aw_reg ?_
  refine st_op (ev_move rfl) rfl rfl rfl ?_
  have hw4 : 0 ≤ (Go.bits .xor .u64 (IntKind.max .u64) (Spec.shl .u64 (IntKind.u64.wrap n) 1)) ∧ (Go.bits .xor .u64 (IntKind.max .u64) (Spec.shl .u64 (IntKind.u64.wrap n) 1)) ≤ 18446744073709551615 := bitsU64 _ _ _
  refine st_op (ev_comU rfl rfl) rfl rfl rfl ?_
  refine st_op (ev_assign rfl) rfl rfl rfl ?_
  try show aw _ _ _ _ _ _
  refine aw_seq ?_
  refine aw_block ?_
  have hz5 : (Go.bits .xor .u64 (IntKind.max .u64) (Spec.shl .u64 (IntKind.u64.wrap n) 1)) = ((Spec.zig n : Nat) : Int) := by first | (rw [shl1_u64]; (try rw [Spec.not_u64 (by omega) (by omega)]); unfold Spec.zig; split <;> omega) | (simp only [Spec.wrap_u64]; (try rw [Spec.not_u64 (by omega) (by omega)]); unfold Spec.zig; split <;> omega)
  have hz5l := Spec.zig_lt hn.1 hn.2
  refine aw_keep [0, 5] (l' := (.cons 0 (.slice bA b.length bc) (.cons 5 (.int .u64 (Go.bits .xor .u64 (IntKind.max .u64) (Spec.shl .u64 (IntKind.u64.wrap n) 1))) .nil))) (by repeat (first | exact Up.done | refine Up.then ?_ | refine Up.inBlock ?_)) rfl ?_
  refine aw_iter (α := Int × Option Addr × Nat × List Int × Nat × Heap) (fun a => a.2.2.2.2.1) (fun a => (.cons 0 (.slice a.2.1 a.2.2.2.1.length a.2.2.1) (.cons 5 (.int .u64 a.1) .nil))) (fun a => a.2.2.2.2.2) (fun a => (a.1 = (a.2.2.2.2.1 : Int)) ∧ (a.2.2.2.1 ++ Spec.enc a.2.2.2.2.1 = b ++ Spec.enc (Spec.zig n)) ∧ (a.2.2.2.2.1 < 18446744073709551616) ∧ (a.2.2.2.1.length + (Spec.enc a.2.2.2.2.1).length ≤ 1099511627770) ∧ (0 ≤ a.1 ∧ a.1 ≤ 18446744073709551615) ∧ (My bH a.2.2.2.2.2 a.2.1 a.2.2.1 1 (a.2.2.2.1.map u8c)) ∧ (Fr (fun q => (bH.next ≤ q ∧ q < H.next ∧ ZB H q 1)) H a.2.2.2.2.2)) ((Go.bits .xor .u64 (IntKind.max .u64) (Spec.shl .u64 (IntKind.u64.wrap n) 1)), bA, bc, b, (Spec.zig n), H) ⟨(show (Go.bits .xor .u64 (IntKind.max .u64) (Spec.shl .u64 (IntKind.u64.wrap n) 1)) = ((Spec.zig n) : Int) from hz5), (show b ++ Spec.enc (Spec.zig n) = b ++ Spec.enc (Spec.zig n) from rfl), (show (Spec.zig n) < 18446744073709551616 from hz5l), (show b.length + (Spec.enc (Spec.zig n)).length ≤ 1099511627770 from (by have := Spec.enc_len10 hz5l; simp; omega)), (show 0 ≤ (Go.bits .xor .u64 (IntKind.max .u64) (Spec.shl .u64 (IntKind.u64.wrap n) 1)) ∧ (Go.bits .xor .u64 (IntKind.max .u64) (Spec.shl .u64 (IntKind.u64.wrap n) 1)) ≤ 18446744073709551615 from ⟨by omega, by omega⟩), (show My bH H bA bc 1 (b.map u8c) from hb), (show Fr (fun q => (bH.next ≤ q ∧ q < H.next ∧ ZB H q 1)) H H from (Fr.refl _ H))⟩ ?_
  rintro ⟨v, A, cp, l, u, Hl6⟩ ⟨hv, hl, hu, hL, hn7, hm8, hxl9⟩ ih10
  replace hv : v = (u : Int) := hv
  replace hl : l ++ Spec.enc u = b ++ Spec.enc (Spec.zig n) := hl
  replace hu : u < 18446744073709551616 := hu
  replace hL : l.length + (Spec.enc u).length ≤ 1099511627770 := hL
  replace hn7 : 0 ≤ v ∧ v ≤ 18446744073709551615 := hn7
  replace hm8 : My bH Hl6 A cp 1 (l.map u8c) := hm8
  replace hxl9 : Fr (fun q => (bH.next ≤ q ∧ q < H.next ∧ ZB H q 1)) H Hl6 := hxl9
  show aw _ _ _ (RL _ (.cons 0 (.slice A l.length cp) (.cons 5 (.int .u64 v) .nil))) Hl6 _
  have Hl6n : H.next ≤ Hl6.next := hxl9.1
  have hpos := Spec.enc_pos u
  iterate 2 refine aw_seq ?_
  refine aw_reg ?_
  refine st_op (ev_move rfl) rfl rfl rfl ?_
  refine st_op (ev_int rfl rfl rfl) rfl rfl rfl ?_
  try show aw _ _ _ _ _ _
  by_cases hc11 : (decide (v > 127)) = true
  ·
   refine aw_condT hc11 rfl ?_
   try show aw _ _ _ _ _ _
   have hc11 := of_decide_eq_true hc11
   refine aw_skip ?_
   try show aw _ _ _ _ _ _
   refine aw_block ?_
   refine aw_seq ?_
   refine aw_reg ?_
   iterate 2 refine st_op (ev_move rfl) rfl rfl rfl ?_
   have hw12 : 0 ≤ (IntKind.u8.wrap v) ∧ (IntKind.u8.wrap v) ≤ 255 := wrapU8 _
   refine st_op (ev_convInt Try.underlying87 Try.underlying5 rfl) rfl rfl rfl ?_
   have hw13 : 0 ≤ (Go.bits .or .u8 (IntKind.u8.wrap v) 128) ∧ (Go.bits .or .u8 (IntKind.u8.wrap v) 128) ≤ 255 := bitsU8 _ _ _
   refine st_op (ev_bits rfl rfl rfl) rfl rfl rfl ?_
   obtain ⟨b14, H15, he16, b14e, H15n_, hm18, f17⟩ := mem_lit Hl6 (xs := ([.int .u8 (Go.bits .or .u8 (IntKind.u8.wrap v) 128)] : List Value)) (m := 1) (rows := [[.int .u8 (Go.bits .or .u8 (IntKind.u8.wrap v) 128)]]) rfl eok29 (by decide) (by decide) zf5 rfl (allLen rfl) rfl
   replace hm18 : My Hl6 H15 (some ⟨b14, 0, none⟩) 1 1 ([(Go.bits .or .u8 (IntKind.u8.wrap v) 128)].map u8c) := hm18
   refine st_op (he16 _ _ _ _ _ _ _ _ rfl) rfl rfl rfl ?_
   have hx19 : Ext Hl6 H15 := Ext.new (by omega) H15n_ f17
   have H15n : Hl6.next ≤ H15.next := hx19.1
   have h20 := My.ext hm8 hx19
   obtain ⟨A21, c22, H23, W24, he25, hm26, hf27⟩ := mem_append (f := u8c) (old := l) (new := [(Go.bits .or .u8 (IntKind.u8.wrap v) 128)]) (m := l.length) (mx := 1) (c := cp) (by first | rfl | simp) (by first | rfl | simp) eok29 (by decide) hm8 h20 (by omega) (((My.row hm18)).srcF (by decide) (by first | rfl | simp)) rfl u8c_len u8c_one (by first | omega | (simp only [List.length_append, List.length_cons, List.length_nil, List.length_map, List.length_set, List.length_replicate, Spec.bytesOf_length]; omega) | (simp; omega)) (by first | omega | (simp only [List.length_append, List.length_cons, List.length_nil, List.length_map, List.length_set, List.length_replicate, Spec.bytesOf_length]; omega) | (simp; omega))
   refine st_op (he25 _ _ _ _ _ _ _ _ _ _ rfl rfl isrow29) rfl rfl rfl ?_
   have H23n : H15.next ≤ H23.next := hf27.1
   refine st_op (ev_assign rfl) rfl rfl rfl ?_
   try show aw _ _ _ _ _ _
   refine aw_reg ?_
   refine st_op (ev_move rfl) rfl rfl rfl ?_
   refine st_op (ev_shr (a := v) (c := 128) rfl rfl (by decide) (by decide)) rfl rfl rfl ?_
   refine st_op (ev_assign rfl) rfl rfl rfl ?_
   try show aw _ _ _ _ _ _
   refine aw_keep [0, 5] (l' := (.cons 0 (.slice A21 ((l ++ [(Go.bits .or .u8 (IntKind.u8.wrap v) 128)]).length) c22) (.cons 5 (.int .u64 (v / 128)) .nil))) (by repeat (first | exact Up.done | refine Up.then ?_ | refine Up.inBlock ?_)) rfl ?_
   exact ih10 ((v / 128), A21, c22, (l ++ [(Go.bits .or .u8 (IntKind.u8.wrap v) 128)]), (u / 128), H23) ⟨(show (v / 128) = ((u / 128) : Int) from (by subst hv; omega)), (show (l ++ [(Go.bits .or .u8 (IntKind.u8.wrap v) 128)]) ++ Spec.enc (u / 128) = b ++ Spec.enc (Spec.zig n) from (by rw [← hl, Spec.enc_step (u := u) (by omega), List.append_assoc]; congr 2; subst hv; rw [List.cons_append, List.nil_append]; congr 1 <;> first | (rw [IntKind.wrap_u8, Spec.or128 (by omega) (by omega)]; omega) | (rw [IntKind.wrap_u8]; omega) | omega)), (show (u / 128) < 18446744073709551616 from (by omega)), (show (l ++ [(Go.bits .or .u8 (IntKind.u8.wrap v) 128)]).length + (Spec.enc (u / 128)).length ≤ 1099511627770 from (by rw [Spec.enc_step (u := u) (by omega), List.length_cons] at hL; rw [List.length_append, List.length_singleton]; omega)), (show 0 ≤ (v / 128) ∧ (v / 128) ≤ 18446744073709551615 from ⟨by omega, by omega⟩), (show My bH H23 A21 c22 1 ((l ++ [(Go.bits .or .u8 (IntKind.u8.wrap v) 128)]).map u8c) from hm26), (show Fr (fun q => (bH.next ≤ q ∧ q < H.next ∧ ZB H q 1)) H H23 from (Fr.transG (Fr.trans (Fr.transG (Fr.refl (fun q => (bH.next ≤ q ∧ q < H.next ∧ ZB H q 1)) H) hxl9 (fun q hq hE e => (⟨by omega, by omega, ZB.back hE e.2.2⟩))) (hx19.fr fun _ => False) (fun q hq (e : False) => e.elim)) hf27 (fun q hq hE e => (⟨by omega, by omega, ZB.back hE e.2.2⟩))))⟩ (by simp only; omega)
  ·
   rw [Bool.not_eq_true] at hc11; refine aw_condF hc11 rfl ?_
   try show aw _ _ _ _ _ _
   have hc11 := of_decide_eq_false hc11
   refine aw_exit ?_
   try show aw _ _ _ _ _ _
   refine aw_seq ?_
   refine aw_reg ?_
   iterate 2 refine st_op (ev_move rfl) rfl rfl rfl ?_
   refine st_op (ev_convI Try.underlying87 Try.underlying5 rfl (wrU8 (by omega) (by omega))) rfl rfl rfl ?_
   obtain ⟨b28, H29, he30, b28e, H29n_, hm32, f31⟩ := mem_lit Hl6 (xs := ([.int .u8 v] : List Value)) (m := 1) (rows := [[.int .u8 v]]) rfl eok29 (by decide) (by decide) zf5 rfl (allLen rfl) rfl
   replace hm32 : My Hl6 H29 (some ⟨b28, 0, none⟩) 1 1 ([v].map u8c) := hm32
   refine st_op (he30 _ _ _ _ _ _ _ _ rfl) rfl rfl rfl ?_
   have hx33 : Ext Hl6 H29 := Ext.new (by omega) H29n_ f31
   have H29n : Hl6.next ≤ H29.next := hx33.1
   have h34 := My.ext hm8 hx33
   obtain ⟨A35, c36, H37, W38, he39, hm40, hf41⟩ := mem_append (f := u8c) (old := l) (new := [v]) (m := l.length) (mx := 1) (c := cp) (by first | rfl | simp) (by first | rfl | simp) eok29 (by decide) hm8 h34 (by omega) (((My.row hm32)).srcF (by decide) (by first | rfl | simp)) rfl u8c_len u8c_one (by first | omega | (simp only [List.length_append, List.length_cons, List.length_nil, List.length_map, List.length_set, List.length_replicate, Spec.bytesOf_length]; omega) | (simp; omega)) (by first | omega | (simp only [List.length_append, List.length_cons, List.length_nil, List.length_map, List.length_set, List.length_replicate, Spec.bytesOf_length]; omega) | (simp; omega))
   refine st_op (he39 _ _ _ _ _ _ _ _ _ _ rfl rfl isrow29) rfl rfl rfl ?_
   have H37n : H29.next ≤ H37.next := hf41.1
   refine st_op (ev_assign rfl) rfl rfl rfl ?_
   try show aw _ _ _ _ _ _
   refine aw_ret ?_
   have hres : (b ++ Spec.enc (Spec.zig n)) = (l ++ [v]) := by rw [← hl, Spec.enc_small (u := u) (by omega)]; congr 2; subst hv; first | done | omega | (rw [IntKind.wrap_u8]; omega)
   exact ⟨.slice A35 ((l ++ [v]).length) c36, rfl, A35, c36, by first | (rw [hres]; first | done | rfl | simp; done) | rfl, (by rw [hres]; exact hm40), (by exact Spec.zig_i64 hn), (Fr.transG (Fr.trans (Fr.transG (Fr.refl (fun q => (bH.next ≤ q ∧ q < H.next ∧ ZB H q 1)) H) hxl9 (fun q hq hE e => (⟨by omega, by omega, ZB.back hE e.2.2⟩))) (hx33.fr fun _ => False) (fun q hq (e : False) => e.elim)) hf41 (fun q hq hE e => (⟨by omega, by omega, ZB.back hE e.2.2⟩)))⟩
 ·
  rw [Bool.not_eq_true] at hc3; refine aw_condF hc3 rfl ?_
  try show aw _ _ _ _ _ _
  have hc3 := of_decide_eq_false hc3
  refine aw_skip ?_
  try show aw _ _ _ _ _ _
  refine aw_seq ?_
  refine aw_block ?_
  have hz42 : (Spec.shl .u64 (IntKind.u64.wrap n) 1) = ((Spec.zig n : Nat) : Int) := by first | (rw [shl1_u64]; (try rw [Spec.not_u64 (by omega) (by omega)]); unfold Spec.zig; split <;> omega) | (simp only [Spec.wrap_u64]; (try rw [Spec.not_u64 (by omega) (by omega)]); unfold Spec.zig; split <;> omega)
  have hz42l := Spec.zig_lt hn.1 hn.2
  refine aw_keep [0, 5] (l' := (.cons 0 (.slice bA b.length bc) (.cons 5 (.int .u64 (Spec.shl .u64 (IntKind.u64.wrap n) 1)) .nil))) (by repeat (first | exact Up.done | refine Up.then ?_ | refine Up.inBlock ?_)) rfl ?_
  refine aw_iter (α := Int × Option Addr × Nat × List Int × Nat × Heap) (fun a => a.2.2.2.2.1) (fun a => (.cons 0 (.slice a.2.1 a.2.2.2.1.length a.2.2.1) (.cons 5 (.int .u64 a.1) .nil))) (fun a => a.2.2.2.2.2) (fun a => (a.1 = (a.2.2.2.2.1 : Int)) ∧ (a.2.2.2.1 ++ Spec.enc a.2.2.2.2.1 = b ++ Spec.enc (Spec.zig n)) ∧ (a.2.2.2.2.1 < 18446744073709551616) ∧ (a.2.2.2.1.length + (Spec.enc a.2.2.2.2.1).length ≤ 1099511627770) ∧ (0 ≤ a.1 ∧ a.1 ≤ 18446744073709551615) ∧ (My bH a.2.2.2.2.2 a.2.1 a.2.2.1 1 (a.2.2.2.1.map u8c)) ∧ (Fr (fun q => (bH.next ≤ q ∧ q < H.next ∧ ZB H q 1)) H a.2.2.2.2.2)) ((Spec.shl .u64 (IntKind.u64.wrap n) 1), bA, bc, b, (Spec.zig n), H) ⟨(show (Spec.shl .u64 (IntKind.u64.wrap n) 1) = ((Spec.zig n) : Int) from hz42), (show b ++ Spec.enc (Spec.zig n) = b ++ Spec.enc (Spec.zig n) from rfl), (show (Spec.zig n) < 18446744073709551616 from hz42l), (show b.length + (Spec.enc (Spec.zig n)).length ≤ 1099511627770 from (by have := Spec.enc_len10 hz42l; simp; omega)), (show 0 ≤ (Spec.shl .u64 (IntKind.u64.wrap n) 1) ∧ (Spec.shl .u64 (IntKind.u64.wrap n) 1) ≤ 18446744073709551615 from ⟨by omega, by omega⟩), (show My bH H bA bc 1 (b.map u8c) from hb), (show Fr (fun q => (bH.next ≤ q ∧ q < H.next ∧ ZB H q 1)) H H from (Fr.refl _ H))⟩ ?_
  rintro ⟨v, A, cp, l, u, Hl43⟩ ⟨hv, hl, hu, hL, hn44, hm45, hxl46⟩ ih47
  replace hv : v = (u : Int) := hv
  replace hl : l ++ Spec.enc u = b ++ Spec.enc (Spec.zig n) := hl
  replace hu : u < 18446744073709551616 := hu
  replace hL : l.length + (Spec.enc u).length ≤ 1099511627770 := hL
  replace hn44 : 0 ≤ v ∧ v ≤ 18446744073709551615 := hn44
  replace hm45 : My bH Hl43 A cp 1 (l.map u8c) := hm45
  replace hxl46 : Fr (fun q => (bH.next ≤ q ∧ q < H.next ∧ ZB H q 1)) H Hl43 := hxl46
  show aw _ _ _ (RL _ (.cons 0 (.slice A l.length cp) (.cons 5 (.int .u64 v) .nil))) Hl43 _
  have Hl43n : H.next ≤ Hl43.next := hxl46.1
  have hpos := Spec.enc_pos u
  iterate 2 refine aw_seq ?_
  refine aw_reg ?_
  refine st_op (ev_move rfl) rfl rfl rfl ?_
  refine st_op (ev_int rfl rfl rfl) rfl rfl rfl ?_
  try show aw _ _ _ _ _ _
  by_cases hc48 : (decide (v > 127)) = true
  ·
   refine aw_condT hc48 rfl ?_
   try show aw _ _ _ _ _ _
   have hc48 := of_decide_eq_true hc48
   refine aw_skip ?_
   try show aw _ _ _ _ _ _
   refine aw_block ?_
   refine aw_seq ?_
   refine aw_reg ?_
   iterate 2 refine st_op (ev_move rfl) rfl rfl rfl ?_
   have hw49 : 0 ≤ (IntKind.u8.wrap v) ∧ (IntKind.u8.wrap v) ≤ 255 := wrapU8 _
   refine st_op (ev_convInt Try.underlying87 Try.underlying5 rfl) rfl rfl rfl ?_
   have hw50 : 0 ≤ (Go.bits .or .u8 (IntKind.u8.wrap v) 128) ∧ (Go.bits .or .u8 (IntKind.u8.wrap v) 128) ≤ 255 := bitsU8 _ _ _
   refine st_op (ev_bits rfl rfl rfl) rfl rfl rfl ?_
   obtain ⟨b51, H52, he53, b51e, H52n_, hm55, f54⟩ := mem_lit Hl43 (xs := ([.int .u8 (Go.bits .or .u8 (IntKind.u8.wrap v) 128)] : List Value)) (m := 1) (rows := [[.int .u8 (Go.bits .or .u8 (IntKind.u8.wrap v) 128)]]) rfl eok29 (by decide) (by decide) zf5 rfl (allLen rfl) rfl
   replace hm55 : My Hl43 H52 (some ⟨b51, 0, none⟩) 1 1 ([(Go.bits .or .u8 (IntKind.u8.wrap v) 128)].map u8c) := hm55
   refine st_op (he53 _ _ _ _ _ _ _ _ rfl) rfl rfl rfl ?_
   have hx56 : Ext Hl43 H52 := Ext.new (by omega) H52n_ f54
   have H52n : Hl43.next ≤ H52.next := hx56.1
   have h57 := My.ext hm45 hx56
   obtain ⟨A58, c59, H60, W61, he62, hm63, hf64⟩ := mem_append (f := u8c) (old := l) (new := [(Go.bits .or .u8 (IntKind.u8.wrap v) 128)]) (m := l.length) (mx := 1) (c := cp) (by first | rfl | simp) (by first | rfl | simp) eok29 (by decide) hm45 h57 (by omega) (((My.row hm55)).srcF (by decide) (by first | rfl | simp)) rfl u8c_len u8c_one (by first | omega | (simp only [List.length_append, List.length_cons, List.length_nil, List.length_map, List.length_set, List.length_replicate, Spec.bytesOf_length]; omega) | (simp; omega)) (by first | omega | (simp only [List.length_append, List.length_cons, List.length_nil, List.length_map, List.length_set, List.length_replicate, Spec.bytesOf_length]; omega) | (simp; omega))
   refine st_op (he62 _ _ _ _ _ _ _ _ _ _ rfl rfl isrow29) rfl rfl rfl ?_
   have H60n : H52.next ≤ H60.next := hf64.1
   refine st_op (ev_assign rfl) rfl rfl rfl ?_
   try show aw _ _ _ _ _ _
   refine aw_reg ?_
   refine st_op (ev_move rfl) rfl rfl rfl ?_
   refine st_op (ev_shr (a := v) (c := 128) rfl rfl (by decide) (by decide)) rfl rfl rfl ?_
   refine st_op (ev_assign rfl) rfl rfl rfl ?_
   try show aw _ _ _ _ _ _
   refine aw_keep [0, 5] (l' := (.cons 0 (.slice A58 ((l ++ [(Go.bits .or .u8 (IntKind.u8.wrap v) 128)]).length) c59) (.cons 5 (.int .u64 (v / 128)) .nil))) (by repeat (first | exact Up.done | refine Up.then ?_ | refine Up.inBlock ?_)) rfl ?_
   exact ih47 ((v / 128), A58, c59, (l ++ [(Go.bits .or .u8 (IntKind.u8.wrap v) 128)]), (u / 128), H60) ⟨(show (v / 128) = ((u / 128) : Int) from (by subst hv; omega)), (show (l ++ [(Go.bits .or .u8 (IntKind.u8.wrap v) 128)]) ++ Spec.enc (u / 128) = b ++ Spec.enc (Spec.zig n) from (by rw [← hl, Spec.enc_step (u := u) (by omega), List.append_assoc]; congr 2; subst hv; rw [List.cons_append, List.nil_append]; congr 1 <;> first | (rw [IntKind.wrap_u8, Spec.or128 (by omega) (by omega)]; omega) | (rw [IntKind.wrap_u8]; omega) | omega)), (show (u / 128) < 18446744073709551616 from (by omega)), (show (l ++ [(Go.bits .or .u8 (IntKind.u8.wrap v) 128)]).length + (Spec.enc (u / 128)).length ≤ 1099511627770 from (by rw [Spec.enc_step (u := u) (by omega), List.length_cons] at hL; rw [List.length_append, List.length_singleton]; omega)), (show 0 ≤ (v / 128) ∧ (v / 128) ≤ 18446744073709551615 from ⟨by omega, by omega⟩), (show My bH H60 A58 c59 1 ((l ++ [(Go.bits .or .u8 (IntKind.u8.wrap v) 128)]).map u8c) from hm63), (show Fr (fun q => (bH.next ≤ q ∧ q < H.next ∧ ZB H q 1)) H H60 from (Fr.transG (Fr.trans (Fr.transG (Fr.refl (fun q => (bH.next ≤ q ∧ q < H.next ∧ ZB H q 1)) H) hxl46 (fun q hq hE e => (⟨by omega, by omega, ZB.back hE e.2.2⟩))) (hx56.fr fun _ => False) (fun q hq (e : False) => e.elim)) hf64 (fun q hq hE e => (⟨by omega, by omega, ZB.back hE e.2.2⟩))))⟩ (by simp only; omega)
  ·
   rw [Bool.not_eq_true] at hc48; refine aw_condF hc48 rfl ?_
   try show aw _ _ _ _ _ _
   have hc48 := of_decide_eq_false hc48
   refine aw_exit ?_
   try show aw _ _ _ _ _ _
   refine aw_seq ?_
   refine aw_reg ?_
   iterate 2 refine st_op (ev_move rfl) rfl rfl rfl ?_
   refine st_op (ev_convI Try.underlying87 Try.underlying5 rfl (wrU8 (by omega) (by omega))) rfl rfl rfl ?_
   obtain ⟨b65, H66, he67, b65e, H66n_, hm69, f68⟩ := mem_lit Hl43 (xs := ([.int .u8 v] : List Value)) (m := 1) (rows := [[.int .u8 v]]) rfl eok29 (by decide) (by decide) zf5 rfl (allLen rfl) rfl
   replace hm69 : My Hl43 H66 (some ⟨b65, 0, none⟩) 1 1 ([v].map u8c) := hm69
   refine st_op (he67 _ _ _ _ _ _ _ _ rfl) rfl rfl rfl ?_
   have hx70 : Ext Hl43 H66 := Ext.new (by omega) H66n_ f68
   have H66n : Hl43.next ≤ H66.next := hx70.1
   have h71 := My.ext hm45 hx70
   obtain ⟨A72, c73, H74, W75, he76, hm77, hf78⟩ := mem_append (f := u8c) (old := l) (new := [v]) (m := l.length) (mx := 1) (c := cp) (by first | rfl | simp) (by first | rfl | simp) eok29 (by decide) hm45 h71 (by omega) (((My.row hm69)).srcF (by decide) (by first | rfl | simp)) rfl u8c_len u8c_one (by first | omega | (simp only [List.length_append, List.length_cons, List.length_nil, List.length_map, List.length_set, List.length_replicate, Spec.bytesOf_length]; omega) | (simp; omega)) (by first | omega | (simp only [List.length_append, List.length_cons, List.length_nil, List.length_map, List.length_set, List.length_replicate, Spec.bytesOf_length]; omega) | (simp; omega))
   refine st_op (he76 _ _ _ _ _ _ _ _ _ _ rfl rfl isrow29) rfl rfl rfl ?_
   have H74n : H66.next ≤ H74.next := hf78.1
   refine st_op (ev_assign rfl) rfl rfl rfl ?_
   try show aw _ _ _ _ _ _
   refine aw_ret ?_
   have hres : (b ++ Spec.enc (Spec.zig n)) = (l ++ [v]) := by rw [← hl, Spec.enc_small (u := u) (by omega)]; congr 2; subst hv; first | done | omega | (rw [IntKind.wrap_u8]; omega)
   exact ⟨.slice A72 ((l ++ [v]).length) c73, rfl, A72, c73, by first | (rw [hres]; first | done | rfl | simp; done) | rfl, (by rw [hres]; exact hm77), (by exact Spec.zig_i64 hn), (Fr.transG (Fr.trans (Fr.transG (Fr.refl (fun q => (bH.next ≤ q ∧ q < H.next ∧ ZB H q 1)) H) hxl46 (fun q hq hE e => (⟨by omega, by omega, ZB.back hE e.2.2⟩))) (hx70.fr fun _ => False) (fun q hq (e : False) => e.elim)) hf78 (fun q hq hE e => (⟨by omega, by omega, ZB.back hE e.2.2⟩)))⟩
theorem num_PutText_spec (H : Heap) (bH : Heap) (bA : Option Addr) (b : List Int) (bc : Nat) (hb : My bH H bA bc 1 (b.map u8c)) (nb : bH.next ≤ H.next) (lb : b.length ≤ 824633720832) (s : ByteArray) (hs : s.size ≤ 137438953472) : ∃ v H', Spec Try.prog 61 [.slice bA b.length bc, .string s] H v H' ∧ (∃ rA0 rc0, (v = .slice rA0 ((b ++ Spec.enc (Spec.zig (s.size : Int)) ++ Spec.bytesOf s).length) rc0) ∧ (My bH H' rA0 rc0 1 ((b ++ Spec.enc (Spec.zig (s.size : Int)) ++ Spec.bytesOf s).map u8c)) ∧ ((Spec.enc (Spec.zig (s.size : Int))).length ≤ 10) ∧ (Fr (fun q => (bH.next ≤ q ∧ q < H.next ∧ ZB H q 1)) H H')) := by
 refine spec_go2 E0_ok 11 (f := 61) Try.func61 rfl rfl rfl ?_
 refine aw_seq ?_
 refine aw_reg ?_
 refine st_op (ev_assign rfl) rfl rfl rfl ?_
 try show aw _ _ _ _ _ _
 refine aw_seq ?_
 refine aw_reg ?_
 iterate 2 refine st_op (ev_move rfl) rfl rfl rfl ?_
 refine st_op (ev_lenStr rfl Try.underlying9) rfl rfl rfl ?_
 refine st_call rfl rfl rfl ent26 rfl rfl rfl ?_
 obtain ⟨_, H2, hs1, A4, c5, hs1v, hm6, hq7, hx3⟩ := num_Put_spec H bH bA b bc hb (by omega) (by omega) ((s).size : Int) ⟨by omega, by omega⟩
 rw [hs1v] at hs1; clear hs1v
 refine ⟨_, H2, hs1, ?_⟩
 have H2n : H.next ≤ H2.next := hx3.1
 refine st_op (ev_move rfl) rfl rfl rfl ?_
 obtain ⟨A8, c9, H10, W11, he12, hm13, hf14⟩ := mem_append (f := u8c) (old := (b ++ Spec.enc (Spec.zig ((s).size : Int)))) (new := (Spec.bytesOf s)) (m := (b ++ Spec.enc (Spec.zig ((s).size : Int))).length) (mx := (Spec.bytesOf s).length) (c := c5) (by first | rfl | simp) (by first | rfl | simp) eok29 (by decide) hm6 hm6 (by omega) (str_src s) (by simp [lenA, Spec.bytesOf_length]) u8c_len u8c_one (by first | omega | (simp only [List.length_append, List.length_cons, List.length_nil, List.length_map, List.length_set, List.length_replicate, Spec.bytesOf_length]; omega) | (simp; omega)) (by first | omega | (simp only [List.length_append, List.length_cons, List.length_nil, List.length_map, List.length_set, List.length_replicate, Spec.bytesOf_length]; omega) | (simp; omega))
 refine st_op (he12 _ _ _ _ _ _ _ _ _ _ rfl rfl isrow9) rfl rfl rfl ?_
 have H10n : H2.next ≤ H10.next := hf14.1
 refine st_op (ev_assign rfl) rfl rfl rfl ?_
 try show aw _ _ _ _ _ _
 refine aw_ret ?_
 have hres : (b ++ Spec.enc (Spec.zig (s.size : Int)) ++ Spec.bytesOf s) = ((b ++ Spec.enc (Spec.zig ((s).size : Int))) ++ (Spec.bytesOf s)) := by rfl
 exact ⟨.slice A8 (((b ++ Spec.enc (Spec.zig ((s).size : Int))) ++ (Spec.bytesOf s)).length) c9, rfl, A8, c9, by first | (rw [hres]; first | done | rfl | simp; done) | rfl, (by rw [hres]; exact hm13), (by exact Spec.zig_i64 ⟨by omega, by omega⟩), (Fr.transG (Fr.transG (Fr.refl (fun q => (bH.next ≤ q ∧ q < H.next ∧ ZB H q 1)) H) hx3 (fun q hq hE e => (⟨by omega, by omega, ZB.back hE e.2.2⟩))) hf14 (fun q hq hE e => (⟨by omega, by omega, ZB.back hE e.2.2⟩)))⟩
theorem frame_Seal_spec (H : Heap) (kind : Int) (hkind : -9223372036854775808 ≤ kind ∧ kind ≤ 9223372036854775807) (bA : Option Addr) (b : List Int) (bc : Nat) (hb : Row H bA bc 1 (b.map u8c)) (cb : b.length ≤ bc) (lb : b.length ≤ 1099511627776) (bb : Spec.Bytes b) : ∃ v H', Spec Try.prog 25 [.int .i64 kind, .slice bA b.length bc] H v H' ∧ (∃ rA0 rc0, (v = .slice rA0 ((Spec.sealF kind b).length) rc0) ∧ (My H H' rA0 rc0 1 ((Spec.sealF kind b).map u8c)) ∧ (((Spec.sealF kind b)).length ≤ 4007) ∧ (Spec.Bytes (Spec.sealF kind b)) ∧ (Ext H H')) := by
 refine spec_go2 E0_ok 34 (f := 25) Try.func25 rfl rfl rfl ?_
 refine aw_seq ?_
 refine aw_reg ?_
 refine st_op (ev_assign rfl) rfl rfl rfl ?_
 try show aw _ _ _ _ _ _
 iterate 2 refine aw_seq ?_
 refine aw_reg ?_
 refine st_op (ev_move rfl) rfl rfl rfl ?_
 refine st_op (ev_int rfl rfl rfl) rfl rfl rfl ?_
 refine st_op (ev_move rfl) rfl rfl rfl ?_
 refine st_bool 9 rfl (fun hb1 => ?_) (fun hb1 => ?_)
 ·
  have hb1 := of_decide_eq_true hb1
  iterate 2 refine st_skip rfl rfl rfl ?_
  refine st_op (ev_pickT rfl rfl) rfl rfl rfl ?_
  refine st_op (ev_move rfl) rfl rfl rfl ?_
  iterate 3 refine st_skip rfl rfl rfl ?_
  refine st_op (ev_pickT rfl rfl) rfl rfl rfl ?_
  try show aw _ _ _ _ _ _
  refine aw_cond (t := true) rfl ?_
  try show aw _ _ _ _ _ _
  refine aw_seq ?_
  refine aw_reg ?_
  refine st_op (ev_assign rfl) rfl rfl rfl ?_
  try show aw _ _ _ _ _ _
  refine aw_ret ?_
  have hm2 : My H H none 0 1 (([] : List Int).map u8c) := .nil
  have hres : (Spec.sealF kind b) = ([] : List Int) := by unfold Spec.sealF; rw [if_pos (by omega)]
  exact ⟨.slice none 0 0, rfl, none, 0, by first | (rw [hres]; first | done | rfl | simp; done) | rfl, (by rw [hres]; exact hm2), (by exact Spec.sealF_len), (by exact Spec.sealF_bytes bb), (Ext.refl H)⟩
 ·
  have hb1 := of_decide_eq_false hb1
  refine st_op (ev_move rfl) rfl rfl rfl ?_
  refine st_op (ev_int rfl rfl rfl) rfl rfl rfl ?_
  refine st_op (ev_pickF rfl rfl) rfl rfl rfl ?_
  refine st_op (ev_move rfl) rfl rfl rfl ?_
  refine st_bool 13 rfl (fun hb3 => ?_) (fun hb3 => ?_)
  ·
   have hb3 := of_decide_eq_true hb3
   iterate 3 refine st_skip rfl rfl rfl ?_
   refine st_op (ev_pickT rfl rfl) rfl rfl rfl ?_
   try show aw _ _ _ _ _ _
   refine aw_cond (t := true) rfl ?_
   try show aw _ _ _ _ _ _
   refine aw_seq ?_
   refine aw_reg ?_
   refine st_op (ev_assign rfl) rfl rfl rfl ?_
   try show aw _ _ _ _ _ _
   refine aw_ret ?_
   have hm4 : My H H none 0 1 (([] : List Int).map u8c) := .nil
   have hres : (Spec.sealF kind b) = ([] : List Int) := by unfold Spec.sealF; rw [if_pos (by omega)]
   exact ⟨.slice none 0 0, rfl, none, 0, by first | (rw [hres]; first | done | rfl | simp; done) | rfl, (by rw [hres]; exact hm4), (by exact Spec.sealF_len), (by exact Spec.sealF_bytes bb), (Ext.refl H)⟩
  ·
   have hb3 := of_decide_eq_false hb3
   refine st_op (ev_move rfl) rfl rfl rfl ?_
   refine st_op (ev_lenSl rfl Try.underlying29) rfl rfl rfl ?_
   refine st_op (ev_int rfl rfl rfl) rfl rfl rfl ?_
   refine st_op (ev_pickF rfl rfl) rfl rfl rfl ?_
   try show aw _ _ _ _ _ _
   by_cases hc5 : (decide ((b.length : Int) > 4000)) = true
   ·
    refine aw_condT hc5 rfl ?_
    try show aw _ _ _ _ _ _
    have hc5 := of_decide_eq_true hc5
    refine aw_seq ?_
    refine aw_reg ?_
    refine st_op (ev_assign rfl) rfl rfl rfl ?_
    try show aw _ _ _ _ _ _
    refine aw_ret ?_
    have hm6 : My H H none 0 1 (([] : List Int).map u8c) := .nil
    have hres : (Spec.sealF kind b) = ([] : List Int) := by unfold Spec.sealF; rw [if_pos (by omega)]
    exact ⟨.slice none 0 0, rfl, none, 0, by first | (rw [hres]; first | done | rfl | simp; done) | rfl, (by rw [hres]; exact hm6), (by exact Spec.sealF_len), (by exact Spec.sealF_bytes bb), (Ext.refl H)⟩
   ·
    rw [Bool.not_eq_true] at hc5; refine aw_condF hc5 rfl ?_
    try show aw _ _ _ _ _ _
    have hc5 := of_decide_eq_false hc5
    refine aw_skip ?_
    try show aw _ _ _ _ _ _
    refine aw_seq ?_
    refine aw_reg ?_
    refine st_op (ev_move rfl) rfl rfl rfl ?_
    refine st_op (ev_convI Try.underlying3 Try.underlying5 rfl (wrU8 (by omega) (by omega))) rfl rfl rfl ?_
    obtain ⟨b7, H8, he9, b7e, H8n_, hm11, f10⟩ := mem_lit H (xs := ([.int .u8 kind] : List Value)) (m := 1) (rows := [[.int .u8 kind]]) rfl eok29 (by decide) (by decide) zf5 rfl (allLen rfl) rfl
    replace hm11 : My H H8 (some ⟨b7, 0, none⟩) 1 1 ([kind].map u8c) := hm11
    refine st_op (he9 _ _ _ _ _ _ _ _ rfl) rfl rfl rfl ?_
    have hx12 : Ext H H8 := Ext.new (by omega) H8n_ f10
    have H8n : H.next ≤ H8.next := hx12.1
    refine st_op (ev_move rfl) rfl rfl rfl ?_
    refine st_op (ev_lenSl rfl Try.underlying29) rfl rfl rfl ?_
    refine st_call rfl rfl rfl ent26 rfl rfl rfl ?_
    obtain ⟨_, H14, hs13, A16, c17, hs13v, hm18, hq19, hx15⟩ := num_Put_spec H8 H (some ⟨b7, 0, none⟩) ([kind]) 1 hm11 (by omega) (by first | omega | (simp only [List.length_append, List.length_cons, List.length_nil, List.length_map, List.length_set, List.length_replicate, Spec.bytesOf_length]; omega) | (simp; omega)) (b.length : Int) ⟨by omega, by omega⟩
    rw [hs13v] at hs13; clear hs13v
    refine ⟨_, H14, hs13, ?_⟩
    have H14n : H8.next ≤ H14.next := hx15.1
    refine st_op (ev_assign rfl) rfl rfl rfl ?_
    try show aw _ _ _ _ _ _
    refine aw_seq ?_
    refine aw_reg ?_
    refine st_op (ev_move rfl) rfl rfl rfl ?_
    refine st_call rfl rfl rfl ent47 rfl rfl rfl ?_
    obtain ⟨_, H21, hs20, hs20v, hq23, hx22⟩ := crc_Sum_spec H14 A16 (([kind]) ++ Spec.enc (Spec.zig (b.length : Int))) c17 (My.row hm18) (My.capF hm18 (by first | omega | (simp only [List.length_append, List.length_cons, List.length_nil, List.length_map, List.length_set, List.length_replicate, Spec.bytesOf_length]; omega) | (simp; omega))) (by first | omega | (simp only [List.length_append, List.length_cons, List.length_nil, List.length_map, List.length_set, List.length_replicate, Spec.bytesOf_length]; omega) | (simp; omega)) (by first | assumption | exact Spec.Bytes.nil | exact Spec.bytes_of _ | (repeat' first | assumption | exact Spec.Bytes.nil | exact Spec.bytes_of _ | exact Spec.enc_bytes _ | exact Spec.four_bytes _ | exact Spec.sealF_bytes (by assumption) | apply Spec.Bytes.append | apply Spec.Bytes.cons (by omega) | apply Spec.Bytes.take | apply Spec.Bytes.drop))
    rw [hs20v] at hs20; clear hs20v
    refine ⟨_, H21, hs20, ?_⟩
    have H21n : H14.next ≤ H21.next := hx22.1
    refine st_op (ev_move rfl) rfl rfl rfl ?_
    refine st_call rfl rfl rfl ent46 rfl rfl rfl ?_
    have hx25 : Ext H H21 := (Ext.trans (Ext.then hx12 hx15 (fun q hq e => by omega)) hx22)
    have h24 := Row.ext hb hx25
    obtain ⟨_, H27, hs26, hs26v, hq29, hx28⟩ := crc_More_spec H21 ((Spec.crcMore 0 (([kind]) ++ Spec.enc (Spec.zig (b.length : Int))) : Nat) : Int) ⟨by omega, by omega⟩ bA b bc h24 cb (by first | omega | (simp only [List.length_append, List.length_cons, List.length_nil, List.length_map, List.length_set, List.length_replicate, Spec.bytesOf_length]; omega) | (simp; omega)) (by assumption)
    rw [hs26v] at hs26; clear hs26v
    refine ⟨_, H27, hs26, ?_⟩
    have H27n : H21.next ≤ H27.next := hx28.1
    refine st_op (ev_assign rfl) rfl rfl rfl ?_
    try show aw _ _ _ _ _ _
    refine aw_seq ?_
    refine aw_reg ?_
    iterate 2 refine st_op (ev_move rfl) rfl rfl rfl ?_
    refine st_call rfl rfl rfl ent48 rfl rfl rfl ?_
    obtain ⟨_, H31, hs30, A33, c34, hs30v, hm35, hq36, hx32⟩ := num_Four_spec H27 ((Spec.crcMore ((Spec.crcMore 0 (([kind]) ++ Spec.enc (Spec.zig (b.length : Int))) : Nat) : Int).toNat b : Nat) : Int) ⟨by omega, by omega⟩
    rw [hs30v] at hs30; clear hs30v
    refine ⟨_, H31, hs30, ?_⟩
    have H31n : H27.next ≤ H31.next := hx32.1
    have hx38 : Ext H14 H31 := (Ext.trans (Ext.trans hx22 hx28) hx32)
    have h37 := My.ext hm18 hx38
    obtain ⟨A39, c40, H41, W42, he43, hm44, hf45⟩ := mem_append (f := u8c) (old := (([kind]) ++ Spec.enc (Spec.zig (b.length : Int)))) (new := (Spec.four ((Spec.crcMore ((Spec.crcMore 0 (([kind]) ++ Spec.enc (Spec.zig (b.length : Int))) : Nat) : Int).toNat b : Nat) : Int).toNat)) (m := (([kind]) ++ Spec.enc (Spec.zig (b.length : Int))).length) (mx := (Spec.four ((Spec.crcMore ((Spec.crcMore 0 (([kind]) ++ Spec.enc (Spec.zig (b.length : Int))) : Nat) : Int).toNat b : Nat) : Int).toNat).length) (c := c17) (by first | rfl | simp) (by first | rfl | simp) eok29 (by decide) hm18 h37 (by omega) (((My.row hm35)).srcF (by decide) (by first | rfl | simp)) rfl u8c_len u8c_one (by first | omega | (simp only [List.length_append, List.length_cons, List.length_nil, List.length_map, List.length_set, List.length_replicate, Spec.bytesOf_length]; omega) | (simp; omega)) (by first | omega | (simp only [List.length_append, List.length_cons, List.length_nil, List.length_map, List.length_set, List.length_replicate, Spec.bytesOf_length]; omega) | (simp; omega))
    refine st_op (he43 _ _ _ _ _ _ _ _ _ _ rfl rfl isrow29) rfl rfl rfl ?_
    have H41n : H31.next ≤ H41.next := hf45.1
    refine st_op (ev_move rfl) rfl rfl rfl ?_
    have hx47 : Ext H H41 := (Ext.then (Ext.trans (Ext.trans hx25 hx28) hx32) hf45 (fun q hq e => by omega))
    have h46 := Row.ext hb hx47
    obtain ⟨A48, c49, H50, W51, he52, hm53, hf54⟩ := mem_append (f := u8c) (old := ((([kind]) ++ Spec.enc (Spec.zig (b.length : Int))) ++ (Spec.four ((Spec.crcMore ((Spec.crcMore 0 (([kind]) ++ Spec.enc (Spec.zig (b.length : Int))) : Nat) : Int).toNat b : Nat) : Int).toNat))) (new := b) (m := ((([kind]) ++ Spec.enc (Spec.zig (b.length : Int))) ++ (Spec.four ((Spec.crcMore ((Spec.crcMore 0 (([kind]) ++ Spec.enc (Spec.zig (b.length : Int))) : Nat) : Int).toNat b : Nat) : Int).toNat)).length) (mx := b.length) (c := c40) (by first | rfl | simp) (by first | rfl | simp) eok29 (by decide) hm44 hm44 (by omega) ((h46).srcF (by decide) (by first | rfl | simp)) rfl u8c_len u8c_one (by first | omega | (simp only [List.length_append, List.length_cons, List.length_nil, List.length_map, List.length_set, List.length_replicate, Spec.bytesOf_length]; omega) | (simp; omega)) (by first | omega | (simp only [List.length_append, List.length_cons, List.length_nil, List.length_map, List.length_set, List.length_replicate, Spec.bytesOf_length]; omega) | (simp; omega))
    refine st_op (he52 _ _ _ _ _ _ _ _ _ _ rfl rfl isrow29) rfl rfl rfl ?_
    have H50n : H41.next ≤ H50.next := hf54.1
    refine st_op (ev_assign rfl) rfl rfl rfl ?_
    try show aw _ _ _ _ _ _
    refine aw_ret ?_
    have hx55 : Ext H H50 := (Ext.then hx47 hf54 (fun q hq e => by omega))
    have hres : (Spec.sealF kind b) = (((([kind]) ++ Spec.enc (Spec.zig (b.length : Int))) ++ (Spec.four ((Spec.crcMore ((Spec.crcMore 0 (([kind]) ++ Spec.enc (Spec.zig (b.length : Int))) : Nat) : Int).toNat b : Nat) : Int).toNat)) ++ b) := by unfold Spec.sealF; rw [if_neg (by omega)]; exact (Spec.seal_is (by omega)).symm
    exact ⟨.slice A48 ((((([kind]) ++ Spec.enc (Spec.zig (b.length : Int))) ++ (Spec.four ((Spec.crcMore ((Spec.crcMore 0 (([kind]) ++ Spec.enc (Spec.zig (b.length : Int))) : Nat) : Int).toNat b : Nat) : Int).toNat)) ++ b).length) c49, rfl, A48, c49, by first | (rw [hres]; first | done | rfl | simp; done) | rfl, (by rw [hres]; exact hm53), (by exact Spec.sealF_len), (by exact Spec.sealF_bytes bb), hx55⟩
theorem wal_PutSnap_spec (H : Heap) (s_index : Int) (s_term : Int) (s_conf : ByteArray) (s_data : ByteArray) : ∃ v H', Spec Try.prog 44 [.agg #[.int .i64 s_index, .int .i64 s_term, .string s_conf, .string s_data]] H v H' ∧ (∃ rA0 rc0, (v = .slice rA0 ((Spec.snapF s_index s_term s_conf s_data).length) rc0) ∧ (My H H' rA0 rc0 1 ((Spec.snapF s_index s_term s_conf s_data).map u8c)) ∧ (Spec.Bytes (Spec.snapF s_index s_term s_conf s_data)) ∧ (((Spec.snapF s_index s_term s_conf s_data)).length ≤ 1700000) ∧ (rA0 = none ↔ Spec.mayS s_index s_term s_conf s_data = false) ∧ (Ext H H')) := by
 refine spec_go1 E0_ok 43 (f := 44) Try.func44 rfl rfl rfl ?_
 refine aw_seq ?_
 refine aw_reg ?_
 obtain ⟨b1, H2, he3, b1e, H2n_, hB5, f4⟩ := mem_box (P := Try.prog) H (v := .agg #[.int .i64 s_index, .int .i64 s_term, .string s_conf, .string s_data]) (cs := [.int .i64 s_index, .int .i64 s_term, .string s_conf, .string s_data]) rfl rfl
 refine st_op (he3 _ _ _ _ _ _ _ _ _ rfl) rfl rfl rfl ?_
 have hx6 : Ext H H2 := Ext.new (by omega) H2n_ f4
 have H2n : H.next ≤ H2.next := hx6.1
 refine st_op (ev_assign rfl) rfl rfl rfl ?_
 try show aw _ _ _ _ _ _
 iterate 2 refine aw_seq ?_
 refine aw_reg ?_
 refine st_op (ev_load rfl (lvar_part (l := [.int .i64 s_index, .int .i64 s_term, .string s_conf, .string s_data]) many24 hB5 rfl rfl (by decide))) rfl rfl rfl ?_
 refine st_call rfl rfl rfl ent60 rfl rfl rfl ?_
 obtain ⟨_, H8, hs7, hs7v, hx9⟩ := wal_may_spec H2 s_index s_term s_conf s_data
 rw [hs7v] at hs7; clear hs7v
 refine ⟨_, H8, hs7, ?_⟩
 have H8n : H2.next ≤ H8.next := hx9.1
 refine st_op (ev_not rfl) rfl rfl rfl ?_
 try show aw _ _ _ _ _ _
 by_cases hc10 : (!(Spec.mayS s_index s_term s_conf s_data)) = true
 ·
  refine aw_condT hc10 rfl ?_
  try show aw _ _ _ _ _ _
  replace hc10 : (Spec.mayS s_index s_term s_conf s_data) = false := by rw [Bool.not_eq_true'] at hc10; exact hc10
  refine aw_seq ?_
  refine aw_reg ?_
  refine st_op (ev_assign rfl) rfl rfl rfl ?_
  try show aw _ _ _ _ _ _
  refine aw_ret ?_
  have hm11 : My H8 H8 none 0 1 (([] : List Int).map u8c) := .nil
  have hx12 : Ext H H8 := (Ext.trans hx6 hx9)
  have hres : (Spec.snapF s_index s_term s_conf s_data) = ([] : List Int) := by unfold Spec.snapF; rw [if_neg (by simp_all)]
  exact ⟨.slice none 0 0, rfl, none, 0, by first | (rw [hres]; first | done | rfl | simp; done) | rfl, (by rw [hres]; exact (My.older hm11 (by omega))), (by exact Spec.snapF_bytes _ _ _ _), (by exact Spec.snapF_len _ _ _ _), (by exact ⟨fun _ => by simp_all, fun _ => rfl⟩), hx12⟩
 ·
  rw [Bool.not_eq_true] at hc10; refine aw_condF hc10 rfl ?_
  try show aw _ _ _ _ _ _
  replace hc10 : (Spec.mayS s_index s_term s_conf s_data) = true := by rw [Bool.not_eq_false'] at hc10; exact hc10
  have hc10m := Spec.mayS_says hc10
  refine aw_skip ?_
  try show aw _ _ _ _ _ _
  refine aw_seq ?_
  refine aw_marks (fun b => b < H8.next) [(false, false), (false, false), (false, true), (false, false), (true, false), (false, true), (false, false), (true, false), (false, false), (false, false)] mixed (by kernel_rfl) (by kernel_rfl) ?_
  refine sm_op (ev_fieldAddr rfl fa24_0 (o' := 0) rfl) rfl rfl rfl ?_
  have h13 := Ext.blk hx9 (by omega) hB5
  refine sm_op (ev_load rfl (lvar_one one2 h13 rfl)) rfl rfl rfl ?_
  refine sm_call rfl rfl rfl ent26 rfl rfl rfl ?_
  have hm14 : My H8 H8 none 0 1 (([] : List Int).map u8c) := .nil
  obtain ⟨_, H16, hs15, A18, c19, hs15v, hm20, hq21, hx17⟩ := num_Put_spec H8 H8 none ([] : List Int) 0 hm14 (by omega) (by first | omega | (simp only [List.length_append, List.length_cons, List.length_nil, List.length_map, List.length_set, List.length_replicate, Spec.bytesOf_length]; omega) | (simp; omega)) s_index ⟨by omega, by omega⟩
  rw [hs15v] at hs15; clear hs15v
  refine ⟨_, H16, hs15, (fun _ b hb => hx17.2 b (by omega) (fun e => by omega)), ?_⟩
  have H16n : H8.next ≤ H16.next := hx17.1
  refine sm_op (ev_fieldAddr rfl fa24_1 (o' := 1) rfl) rfl rfl rfl ?_
  have hx23 : Ext H8 H16 := (Ext.then (Ext.refl H8) hx17 (fun q hq e => by omega))
  have h22 := Ext.blk hx23 (by omega) h13
  refine sm_read (ev_load rfl (lvar_one one2 h22 rfl)) rfl rfl rfl (fun b hb => by cases hb; dsimp only; omega) ?_
  refine sm_call rfl rfl rfl ent26 rfl rfl rfl ?_
  obtain ⟨_, H25, hs24, A27, c28, hs24v, hm29, hq30, hx26⟩ := num_Put_spec H16 H8 A18 (([] : List Int) ++ Spec.enc (Spec.zig s_index)) c19 hm20 (by omega) (by first | omega | (simp only [List.length_append, List.length_cons, List.length_nil, List.length_map, List.length_set, List.length_replicate, Spec.bytesOf_length]; omega) | (simp; omega)) s_term ⟨by omega, by omega⟩
  rw [hs24v] at hs24; clear hs24v
  refine ⟨_, H25, hs24, (fun _ b hb => hx26.2 b (by omega) (fun e => by omega)), ?_⟩
  have H25n : H16.next ≤ H25.next := hx26.1
  refine sm_op (ev_fieldAddr rfl fa24_2 (o' := 2) rfl) rfl rfl rfl ?_
  have hx32 : Ext H8 H25 := (Ext.then hx23 hx26 (fun q hq e => by omega))
  have h31 := Ext.blk hx32 (by omega) h13
  refine sm_read (ev_load rfl (lvar_one one9 h31 rfl)) rfl rfl rfl (fun b hb => by cases hb; dsimp only; omega) ?_
  refine sm_call rfl rfl rfl ent61 rfl rfl rfl ?_
  obtain ⟨_, H34, hs33, A36, c37, hs33v, hm38, hq39, hx35⟩ := num_PutText_spec H25 H8 A27 ((([] : List Int) ++ Spec.enc (Spec.zig s_index)) ++ Spec.enc (Spec.zig s_term)) c28 hm29 (by omega) (by first | omega | (simp only [List.length_append, List.length_cons, List.length_nil, List.length_map, List.length_set, List.length_replicate, Spec.bytesOf_length]; omega) | (simp; omega)) s_conf (by omega)
  rw [hs33v] at hs33; clear hs33v
  refine ⟨_, H34, hs33, (fun _ b hb => hx35.2 b (by omega) (fun e => by omega)), ?_⟩
  have H34n : H25.next ≤ H34.next := hx35.1
  refine sm_op (ev_assign rfl) rfl rfl rfl ?_
  try show aw _ _ _ _ _ _
  refine aw_seq ?_
  refine aw_reg ?_
  refine st_op (ev_move rfl) rfl rfl rfl ?_
  refine st_op (ev_fieldAddr rfl fa24_3 (o' := 3) rfl) rfl rfl rfl ?_
  have hx41 : Ext H8 H34 := (Ext.then hx32 hx35 (fun q hq e => by omega))
  have h40 := Ext.blk hx41 (by omega) h13
  refine st_op (ev_load rfl (lvar_one one9 h40 rfl)) rfl rfl rfl ?_
  refine st_op (ev_lenStr rfl Try.underlying9) rfl rfl rfl ?_
  refine st_call rfl rfl rfl ent26 rfl rfl rfl ?_
  obtain ⟨_, H43, hs42, A45, c46, hs42v, hm47, hq48, hx44⟩ := num_Put_spec H34 H8 A36 (((([] : List Int) ++ Spec.enc (Spec.zig s_index)) ++ Spec.enc (Spec.zig s_term)) ++ Spec.enc (Spec.zig (s_conf.size : Int)) ++ Spec.bytesOf s_conf) c37 hm38 (by omega) (by first | omega | (simp only [List.length_append, List.length_cons, List.length_nil, List.length_map, List.length_set, List.length_replicate, Spec.bytesOf_length]; omega) | (simp; omega)) ((s_data).size : Int) ⟨by omega, by omega⟩
  rw [hs42v] at hs42; clear hs42v
  refine ⟨_, H43, hs42, ?_⟩
  have H43n : H34.next ≤ H43.next := hx44.1
  refine st_call rfl rfl rfl ent25 rfl rfl rfl ?_
  obtain ⟨_, H50, hs49, A52, c53, hs49v, hm54, hq55, hq56, hx51⟩ := frame_Seal_spec H43 3 (by decide) A45 ((((([] : List Int) ++ Spec.enc (Spec.zig s_index)) ++ Spec.enc (Spec.zig s_term)) ++ Spec.enc (Spec.zig (s_conf.size : Int)) ++ Spec.bytesOf s_conf) ++ Spec.enc (Spec.zig ((s_data).size : Int))) c46 (My.row hm47) (My.capF hm47 (by first | omega | (simp only [List.length_append, List.length_cons, List.length_nil, List.length_map, List.length_set, List.length_replicate, Spec.bytesOf_length]; omega) | (simp; omega))) (by first | omega | (simp only [List.length_append, List.length_cons, List.length_nil, List.length_map, List.length_set, List.length_replicate, Spec.bytesOf_length]; omega) | (simp; omega)) (by first | assumption | exact Spec.Bytes.nil | exact Spec.bytes_of _ | (repeat' first | assumption | exact Spec.Bytes.nil | exact Spec.bytes_of _ | exact Spec.enc_bytes _ | exact Spec.four_bytes _ | exact Spec.sealF_bytes (by assumption) | apply Spec.Bytes.append | apply Spec.Bytes.cons (by omega) | apply Spec.Bytes.take | apply Spec.Bytes.drop))
  rw [hs49v] at hs49; clear hs49v
  refine ⟨_, H50, hs49, ?_⟩
  have H50n : H43.next ≤ H50.next := hx51.1
  refine st_op (ev_assign rfl) rfl rfl rfl ?_
  try show aw _ _ _ _ _ _
  iterate 2 refine aw_seq ?_
  refine aw_reg ?_
  refine st_op (ev_fieldAddr rfl fa24_3 (o' := 3) rfl) rfl rfl rfl ?_
  have hx58 : Ext H8 H50 := (Ext.trans (Ext.then hx41 hx44 (fun q hq e => by omega)) hx51)
  have h57 := Ext.blk hx58 (by omega) h13
  refine st_op (ev_load rfl (lvar_one one9 h57 rfl)) rfl rfl rfl ?_
  refine st_op (ev_assign rfl) rfl rfl rfl ?_
  try show aw _ _ _ _ _ _
  refine aw_block ?_
  refine aw_keep [4, 5] (l' := (.cons 4 (.slice A52 ((Spec.sealF (3 : Int) ((((([] : List Int) ++ Spec.enc (Spec.zig s_index)) ++ Spec.enc (Spec.zig s_term)) ++ Spec.enc (Spec.zig (s_conf.size : Int)) ++ Spec.bytesOf s_conf) ++ Spec.enc (Spec.zig ((s_data).size : Int)))).length) c53) (.cons 5 (.string s_data) .nil))) (by repeat (first | exact Up.done | refine Up.then ?_ | refine Up.inBlock ?_)) rfl ?_
  refine aw_iter (α := ByteArray × Option Addr × Nat × List Int × Heap) (fun a => a.1.size) (fun a => (.cons 4 (.slice a.2.1 a.2.2.2.1.length a.2.2.1) (.cons 5 (.string a.1) .nil))) (fun a => a.2.2.2.2) (fun a => ((Spec.sealF (3 : Int) ((((([] : List Int) ++ Spec.enc (Spec.zig s_index)) ++ Spec.enc (Spec.zig s_term)) ++ Spec.enc (Spec.zig (s_conf.size : Int)) ++ Spec.bytesOf s_conf) ++ Spec.enc (Spec.zig ((s_data).size : Int)))) ++ Spec.partsF (Spec.bytesOf s_data) = a.2.2.2.1 ++ Spec.partsF (Spec.bytesOf a.1)) ∧ (a.1.size ≤ 200000) ∧ (a.2.2.2.1.length + 10000 * a.1.size ≤ 4100000000) ∧ (My H43 a.2.2.2.2 a.2.1 a.2.2.1 1 (a.2.2.2.1.map u8c)) ∧ (Fr (fun q => (H43.next ≤ q ∧ q < H50.next ∧ ZB H50 q 1)) H50 a.2.2.2.2)) (s_data, A52, c53, (Spec.sealF (3 : Int) ((((([] : List Int) ++ Spec.enc (Spec.zig s_index)) ++ Spec.enc (Spec.zig s_term)) ++ Spec.enc (Spec.zig (s_conf.size : Int)) ++ Spec.bytesOf s_conf) ++ Spec.enc (Spec.zig ((s_data).size : Int)))), H50) ⟨(show (Spec.sealF (3 : Int) ((((([] : List Int) ++ Spec.enc (Spec.zig s_index)) ++ Spec.enc (Spec.zig s_term)) ++ Spec.enc (Spec.zig (s_conf.size : Int)) ++ Spec.bytesOf s_conf) ++ Spec.enc (Spec.zig ((s_data).size : Int)))) ++ Spec.partsF (Spec.bytesOf s_data) = (Spec.sealF (3 : Int) ((((([] : List Int) ++ Spec.enc (Spec.zig s_index)) ++ Spec.enc (Spec.zig s_term)) ++ Spec.enc (Spec.zig (s_conf.size : Int)) ++ Spec.bytesOf s_conf) ++ Spec.enc (Spec.zig ((s_data).size : Int)))) ++ Spec.partsF (Spec.bytesOf s_data) from rfl), (show s_data.size ≤ 200000 from (by omega)), (show (Spec.sealF (3 : Int) ((((([] : List Int) ++ Spec.enc (Spec.zig s_index)) ++ Spec.enc (Spec.zig s_term)) ++ Spec.enc (Spec.zig (s_conf.size : Int)) ++ Spec.bytesOf s_conf) ++ Spec.enc (Spec.zig ((s_data).size : Int)))).length + 10000 * s_data.size ≤ 4100000000 from (by have : (Spec.sealF (3 : Int) ((((([] : List Int) ++ Spec.enc (Spec.zig s_index)) ++ Spec.enc (Spec.zig s_term)) ++ Spec.enc (Spec.zig (s_conf.size : Int)) ++ Spec.bytesOf s_conf) ++ Spec.enc (Spec.zig ((s_data).size : Int)))).length ≤ 4007 := Spec.sealF_len; omega)), (show My H43 H50 A52 c53 1 ((Spec.sealF (3 : Int) ((((([] : List Int) ++ Spec.enc (Spec.zig s_index)) ++ Spec.enc (Spec.zig s_term)) ++ Spec.enc (Spec.zig (s_conf.size : Int)) ++ Spec.bytesOf s_conf) ++ Spec.enc (Spec.zig ((s_data).size : Int)))).map u8c) from hm54), (show Fr (fun q => (H43.next ≤ q ∧ q < H50.next ∧ ZB H50 q 1)) H50 H50 from (Fr.refl _ H50))⟩ ?_
  rintro ⟨rest, A, cp, out, Hl59⟩ ⟨hS, hsz, hL, hm60, hxl61⟩ ih62
  replace hS : (Spec.sealF (3 : Int) ((((([] : List Int) ++ Spec.enc (Spec.zig s_index)) ++ Spec.enc (Spec.zig s_term)) ++ Spec.enc (Spec.zig (s_conf.size : Int)) ++ Spec.bytesOf s_conf) ++ Spec.enc (Spec.zig ((s_data).size : Int)))) ++ Spec.partsF (Spec.bytesOf s_data) = out ++ Spec.partsF (Spec.bytesOf rest) := hS
  replace hsz : rest.size ≤ 200000 := hsz
  replace hL : out.length + 10000 * rest.size ≤ 4100000000 := hL
  replace hm60 : My H43 Hl59 A cp 1 (out.map u8c) := hm60
  replace hxl61 : Fr (fun q => (H43.next ≤ q ∧ q < H50.next ∧ ZB H50 q 1)) H50 Hl59 := hxl61
  show aw _ _ _ (RL _ (.cons 4 (.slice A out.length cp) (.cons 5 (.string rest) .nil))) Hl59 _
  have Hl59n : H50.next ≤ Hl59.next := hxl61.1
  iterate 2 refine aw_seq ?_
  refine aw_reg ?_
  refine st_op (ev_move rfl) rfl rfl rfl ?_
  refine st_op (ev_str rfl rfl rfl) rfl rfl rfl ?_
  try show aw _ _ _ _ _ _
  by_cases hc63 : (!((rest).toList == (⟨#[]⟩ : ByteArray).toList)) = true
  ·
   refine aw_condT hc63 rfl ?_
   try show aw _ _ _ _ _ _
   replace hc63 : ((rest).toList == (⟨#[]⟩ : ByteArray).toList) = false := by rw [Bool.not_eq_true'] at hc63; exact hc63
   have hc63 := ne_of_beq_false hc63
   refine aw_skip ?_
   try show aw _ _ _ _ _ _
   refine aw_block ?_
   refine aw_seq ?_
   refine aw_reg ?_
   refine st_op (ev_move rfl) rfl rfl rfl ?_
   refine st_op (ev_lenStr rfl Try.underlying9) rfl rfl rfl ?_
   obtain ⟨z64, hz65, hz66⟩ : ∃ z, (if 3000 < ((rest).size : Int) then 3000 else ((rest).size : Int)) = z ∧ (((rest).size : Int) ≥ z ∧ 3000 ≥ z ∧ (z = ((rest).size : Int) ∨ z = 3000)) := ⟨_, rfl, by split <;> omega⟩
   refine st_op (ev_minE hz65 rfl rfl) rfl rfl rfl ?_
   have hP := Spec.parts_next (s := rest) (z := z64) (by assumption) hz65.symm
   refine st_op (ev_assign rfl) rfl rfl rfl ?_
   try show aw _ _ _ _ _ _
   refine aw_seq ?_
   refine aw_reg ?_
   iterate 3 refine st_op (ev_move rfl) rfl rfl rfl ?_
   refine st_op (ev_slStr Try.underlying9 rfl rfl rfl (bound_int (by omega) (by omega) rfl) rfl) rfl rfl rfl ?_
   obtain ⟨A67, c68, H69, he70, hm71, hx72⟩ := mem_bytes Hl59 ((rest).extract 0 ((z64).toNat)) slu8_29 isstr_9 (by omega)
   refine st_op (he70 _ _ _ _ _ _ _ _ rfl) rfl rfl rfl ?_
   have H69n : Hl59.next ≤ H69.next := hx72.1
   refine st_call rfl rfl rfl ent25 rfl rfl rfl ?_
   obtain ⟨_, H74, hs73, A76, c77, hs73v, hm78, hq79, hq80, hx75⟩ := frame_Seal_spec H69 4 (by decide) A67 (Spec.bytesOf ((rest).extract 0 ((z64).toNat))) c68 (My.row hm71) (My.capF hm71 (by first | omega | (simp only [List.length_append, List.length_cons, List.length_nil, List.length_map, List.length_set, List.length_replicate, Spec.bytesOf_length]; omega) | (simp; omega))) (by first | omega | (simp only [List.length_append, List.length_cons, List.length_nil, List.length_map, List.length_set, List.length_replicate, Spec.bytesOf_length]; omega) | (simp; omega)) (by first | assumption | exact Spec.Bytes.nil | exact Spec.bytes_of _ | (repeat' first | assumption | exact Spec.Bytes.nil | exact Spec.bytes_of _ | exact Spec.enc_bytes _ | exact Spec.four_bytes _ | exact Spec.sealF_bytes (by assumption) | apply Spec.Bytes.append | apply Spec.Bytes.cons (by omega) | apply Spec.Bytes.take | apply Spec.Bytes.drop))
   rw [hs73v] at hs73; clear hs73v
   refine ⟨_, H74, hs73, ?_⟩
   have H74n : H69.next ≤ H74.next := hx75.1
   have hx82 : Ext Hl59 H74 := (Ext.trans hx72 hx75)
   have h81 := My.ext hm60 hx82
   obtain ⟨A83, c84, H85, W86, he87, hm88, hf89⟩ := mem_append (f := u8c) (old := out) (new := (Spec.sealF (4 : Int) (Spec.bytesOf ((rest).extract 0 ((z64).toNat))))) (m := out.length) (mx := (Spec.sealF (4 : Int) (Spec.bytesOf ((rest).extract 0 ((z64).toNat)))).length) (c := cp) (by first | rfl | simp) (by first | rfl | simp) eok29 (by decide) hm60 h81 (by omega) (((My.row hm78)).srcF (by decide) (by first | rfl | simp)) rfl u8c_len u8c_one (by first | omega | (simp only [List.length_append, List.length_cons, List.length_nil, List.length_map, List.length_set, List.length_replicate, Spec.bytesOf_length]; omega) | (simp; omega)) (by first | omega | (simp only [List.length_append, List.length_cons, List.length_nil, List.length_map, List.length_set, List.length_replicate, Spec.bytesOf_length]; omega) | (simp; omega))
   refine st_op (he87 _ _ _ _ _ _ _ _ _ _ rfl rfl isrow29) rfl rfl rfl ?_
   have H85n : H74.next ≤ H85.next := hf89.1
   refine st_op (ev_assign rfl) rfl rfl rfl ?_
   try show aw _ _ _ _ _ _
   refine aw_reg ?_
   iterate 2 refine st_op (ev_move rfl) rfl rfl rfl ?_
   refine st_op (ev_slStr Try.underlying9 rfl rfl rfl rfl (bound_int (by omega) (by omega) rfl)) rfl rfl rfl ?_
   refine st_op (ev_assign rfl) rfl rfl rfl ?_
   try show aw _ _ _ _ _ _
   refine aw_keep [4, 5] (l' := (.cons 4 (.slice A83 ((out ++ (Spec.sealF (4 : Int) (Spec.bytesOf ((rest).extract 0 ((z64).toNat))))).length) c84) (.cons 5 (.string ((rest).extract (z64).toNat ((rest).size))) .nil))) (by repeat (first | exact Up.done | refine Up.then ?_ | refine Up.inBlock ?_)) rfl ?_
   exact ih62 (((rest).extract (z64).toNat ((rest).size)), A83, c84, (out ++ (Spec.sealF (4 : Int) (Spec.bytesOf ((rest).extract 0 ((z64).toNat))))), H85) ⟨(show (Spec.sealF (3 : Int) ((((([] : List Int) ++ Spec.enc (Spec.zig s_index)) ++ Spec.enc (Spec.zig s_term)) ++ Spec.enc (Spec.zig (s_conf.size : Int)) ++ Spec.bytesOf s_conf) ++ Spec.enc (Spec.zig ((s_data).size : Int)))) ++ Spec.partsF (Spec.bytesOf s_data) = (out ++ (Spec.sealF (4 : Int) (Spec.bytesOf ((rest).extract 0 ((z64).toNat))))) ++ Spec.partsF (Spec.bytesOf ((rest).extract (z64).toNat ((rest).size))) from (by rw [hS, hP.2.1, List.append_assoc])), (show ((rest).extract (z64).toNat ((rest).size)).size ≤ 200000 from (by omega)), (show (out ++ (Spec.sealF (4 : Int) (Spec.bytesOf ((rest).extract 0 ((z64).toNat))))).length + 10000 * ((rest).extract (z64).toNat ((rest).size)).size ≤ 4100000000 from (by rw [List.length_append]; have := @Spec.sealF_len 4 (Spec.bytesOf (rest.extract 0 z64.toNat)); have := hP.2.2.2; omega)), (show My H43 H85 A83 c84 1 ((out ++ (Spec.sealF (4 : Int) (Spec.bytesOf ((rest).extract 0 ((z64).toNat))))).map u8c) from hm88), (show Fr (fun q => (H43.next ≤ q ∧ q < H50.next ∧ ZB H50 q 1)) H50 H85 from (Fr.transG (Fr.trans (Fr.trans (Fr.transG (Fr.refl (fun q => (H43.next ≤ q ∧ q < H50.next ∧ ZB H50 q 1)) H50) hxl61 (fun q hq hE e => (⟨by omega, by omega, ZB.back hE e.2.2⟩))) (hx72.fr fun _ => False) (fun q hq (e : False) => e.elim)) (hx75.fr fun _ => False) (fun q hq (e : False) => e.elim)) hf89 (fun q hq hE e => (⟨by omega, by omega, ZB.back hE e.2.2⟩))))⟩ (by simp only; omega)
  ·
   rw [Bool.not_eq_true] at hc63; refine aw_condF hc63 rfl ?_
   try show aw _ _ _ _ _ _
   replace hc63 : ((rest).toList == (⟨#[]⟩ : ByteArray).toList) = true := by rw [Bool.not_eq_false'] at hc63; exact hc63
   have hc63 := eq_of_beq hc63
   refine aw_exit ?_
   try show aw _ _ _ _ _ _
   refine aw_seq ?_
   refine aw_reg ?_
   refine st_op (ev_move rfl) rfl rfl rfl ?_
   refine st_op (ev_assign rfl) rfl rfl rfl ?_
   try show aw _ _ _ _ _ _
   refine aw_ret ?_
   have hx90 : Ext H Hl59 := (Ext.then (Ext.trans (Ext.then (Ext.then (Ext.then (Ext.then (Ext.trans hx6 hx9) hx17 (fun q hq e => by omega)) hx26 (fun q hq e => by omega)) hx35 (fun q hq e => by omega)) hx44 (fun q hq e => by omega)) hx51) hxl61 (fun q hq e => by omega))
   have hres : (Spec.snapF s_index s_term s_conf s_data) = out := by rw [Spec.snap_head (by assumption)]; exact hS.trans (by rw [show rest = ⟨#[]⟩ from Spec.toList_inj (by assumption)]; simp [Spec.bytesOf, Spec.partsF_nil])
   exact ⟨.slice A out.length cp, rfl, A, cp, by first | (rw [hres]; first | done | rfl | simp; done) | rfl, (by rw [hres]; exact (My.older hm60 (by omega))), (by exact Spec.snapF_bytes _ _ _ _), (by exact Spec.snapF_len _ _ _ _), (by exact ⟨fun h => absurd h (My.neF hm60 (by have := Spec.snapF_pos hc10; rw [hres] at this; omega)), fun h => Bool.noConfusion (h.symm.trans hc10)⟩), hx90⟩
theorem raft_May_spec (H : Heap) (kind : Int) (from_ : Int) (to_ : Int) (term : Int) (index : Int) (logterm : Int) (commit : Int) (yes : Bool) (esA : Option Addr) (es : List Entry) (esc : Nat) (hes : Row H esA esc 4 (es.map Entry.cells)) (ces : es.length ≤ esc) (les : es.length ≤ 1048576) (s_index : Int) (s_term : Int) (s_conf : ByteArray) (hs_conf : s_conf.size ≤ 1073741824) (s_data : ByteArray) (hs_data : s_data.size ≤ 1073741824) : ∃ v H', Spec Try.prog 23 [.agg #[.int .i64 kind, .int .i64 from_, .int .i64 to_, .int .i64 term, .int .i64 index, .int .i64 logterm, .int .i64 commit, .bool yes, .slice esA es.length esc, .int .i64 s_index, .int .i64 s_term, .string s_conf, .string s_data]] H v H' ∧ ((v = .bool (Spec.mayMsg kind from_ to_ term index logterm commit yes es s_index s_term s_conf s_data)) ∧ (Ext H H')) := by
 refine spec_go1 E0_ok 81 (f := 23) Try.func23 rfl rfl rfl ?_
 refine aw_seq ?_
 refine aw_reg ?_
 obtain ⟨b1, H2, he3, b1e, H2n_, hB5, f4⟩ := mem_box (P := Try.prog) H (v := .agg #[.int .i64 kind, .int .i64 from_, .int .i64 to_, .int .i64 term, .int .i64 index, .int .i64 logterm, .int .i64 commit, .bool yes, .slice esA es.length esc, .int .i64 s_index, .int .i64 s_term, .string s_conf, .string s_data]) (cs := [.int .i64 kind, .int .i64 from_, .int .i64 to_, .int .i64 term, .int .i64 index, .int .i64 logterm, .int .i64 commit, .bool yes, .slice esA es.length esc, .int .i64 s_index, .int .i64 s_term, .string s_conf, .string s_data]) rfl rfl
 refine st_op (he3 _ _ _ _ _ _ _ _ _ rfl) rfl rfl rfl ?_
 have hx6 : Ext H H2 := Ext.new (by omega) H2n_ f4
 have H2n : H.next ≤ H2.next := hx6.1
 refine st_op (ev_assign rfl) rfl rfl rfl ?_
 try show aw _ _ _ _ _ _
 iterate 2 refine aw_seq ?_
 refine aw_reg ?_
 refine st_op (ev_fieldAddr rfl fa26_0 (o' := 0) rfl) rfl rfl rfl ?_
 refine st_op (ev_load rfl (lvar_one one3 hB5 rfl)) rfl rfl rfl ?_
 refine st_op (ev_int rfl rfl rfl) rfl rfl rfl ?_
 refine st_op (ev_move rfl) rfl rfl rfl ?_
 refine st_bool 8 rfl (fun hb7 => ?_) (fun hb7 => ?_)
 ·
  have hb7 := of_decide_eq_true hb7
  iterate 3 refine st_skip rfl rfl rfl ?_
  refine st_op (ev_pickT rfl rfl) rfl rfl rfl ?_
  refine st_op (ev_move rfl) rfl rfl rfl ?_
  iterate 4 refine st_skip rfl rfl rfl ?_
  refine st_op (ev_pickT rfl rfl) rfl rfl rfl ?_
  refine st_op (ev_move rfl) rfl rfl rfl ?_
  iterate 4 refine st_skip rfl rfl rfl ?_
  refine st_op (ev_pickT rfl rfl) rfl rfl rfl ?_
  refine st_op (ev_move rfl) rfl rfl rfl ?_
  iterate 5 refine st_skip rfl rfl rfl ?_
  refine st_op (ev_pickT rfl rfl) rfl rfl rfl ?_
  refine st_op (ev_move rfl) rfl rfl rfl ?_
  iterate 9 refine st_skip rfl rfl rfl ?_
  refine st_op (ev_pickT rfl rfl) rfl rfl rfl ?_
  refine st_op (ev_move rfl) rfl rfl rfl ?_
  iterate 3 refine st_skip rfl rfl rfl ?_
  refine st_op (ev_pickT rfl rfl) rfl rfl rfl ?_
  try show aw _ _ _ _ _ _
  refine aw_cond (t := true) rfl ?_
  try show aw _ _ _ _ _ _
  refine aw_seq ?_
  refine aw_reg ?_
  refine st_op (ev_assign rfl) rfl rfl rfl ?_
  try show aw _ _ _ _ _ _
  refine aw_ret ?_
  have hres : (Spec.mayMsg kind from_ to_ term index logterm commit yes es s_index s_term s_conf s_data) = false := by first | exact Spec.mayMsg_f1 (by omega) | exact Spec.mayMsg_f2 (by assumption) | exact Spec.mayMsg_f3 (by assumption) (by omega) (by omega) | (rw [Spec.mayMsg_last (by omega) (by assumption) (fun h => by first | omega | exact Bool.noConfusion (h.symm.trans (show yes = false by assumption)))]; rw [if_pos (by omega), show (Spec.decC s_conf).2 = false by assumption]; rfl)
  exact ⟨.bool false, rfl, by first | (rw [hres]; done) | rw [← hres], hx6⟩
 ·
  have hb7 := of_decide_eq_false hb7
  refine st_op (ev_fieldAddr rfl fa26_0 (o' := 0) rfl) rfl rfl rfl ?_
  refine st_op (ev_load rfl (lvar_one one3 hB5 rfl)) rfl rfl rfl ?_
  refine st_op (ev_int rfl rfl rfl) rfl rfl rfl ?_
  refine st_op (ev_pickF rfl rfl) rfl rfl rfl ?_
  refine st_op (ev_move rfl) rfl rfl rfl ?_
  refine st_bool 13 rfl (fun hb8 => ?_) (fun hb8 => ?_)
  ·
   have hb8 := of_decide_eq_true hb8
   iterate 4 refine st_skip rfl rfl rfl ?_
   refine st_op (ev_pickT rfl rfl) rfl rfl rfl ?_
   refine st_op (ev_move rfl) rfl rfl rfl ?_
   iterate 4 refine st_skip rfl rfl rfl ?_
   refine st_op (ev_pickT rfl rfl) rfl rfl rfl ?_
   refine st_op (ev_move rfl) rfl rfl rfl ?_
   iterate 5 refine st_skip rfl rfl rfl ?_
   refine st_op (ev_pickT rfl rfl) rfl rfl rfl ?_
   refine st_op (ev_move rfl) rfl rfl rfl ?_
   iterate 9 refine st_skip rfl rfl rfl ?_
   refine st_op (ev_pickT rfl rfl) rfl rfl rfl ?_
   refine st_op (ev_move rfl) rfl rfl rfl ?_
   iterate 3 refine st_skip rfl rfl rfl ?_
   refine st_op (ev_pickT rfl rfl) rfl rfl rfl ?_
   try show aw _ _ _ _ _ _
   refine aw_cond (t := true) rfl ?_
   try show aw _ _ _ _ _ _
   refine aw_seq ?_
   refine aw_reg ?_
   refine st_op (ev_assign rfl) rfl rfl rfl ?_
   try show aw _ _ _ _ _ _
   refine aw_ret ?_
   have hres : (Spec.mayMsg kind from_ to_ term index logterm commit yes es s_index s_term s_conf s_data) = false := by first | exact Spec.mayMsg_f1 (by omega) | exact Spec.mayMsg_f2 (by assumption) | exact Spec.mayMsg_f3 (by assumption) (by omega) (by omega) | (rw [Spec.mayMsg_last (by omega) (by assumption) (fun h => by first | omega | exact Bool.noConfusion (h.symm.trans (show yes = false by assumption)))]; rw [if_pos (by omega), show (Spec.decC s_conf).2 = false by assumption]; rfl)
   exact ⟨.bool false, rfl, by first | (rw [hres]; done) | rw [← hres], hx6⟩
  ·
   have hb8 := of_decide_eq_false hb8
   refine st_op (ev_fieldAddr rfl fa26_1 (o' := 1) rfl) rfl rfl rfl ?_
   refine st_op (ev_load rfl (lvar_one one3 hB5 rfl)) rfl rfl rfl ?_
   refine st_call rfl rfl rfl ent40 rfl rfl rfl ?_
   obtain ⟨_, H10, hs9, hs9v, hx11⟩ := raft_server_spec H2 from_
   rw [hs9v] at hs9; clear hs9v
   refine ⟨_, H10, hs9, ?_⟩
   have H10n : H2.next ≤ H10.next := hx11.1
   refine st_op (ev_not rfl) rfl rfl rfl ?_
   refine st_op (ev_pickF rfl rfl) rfl rfl rfl ?_
   refine st_op (ev_move rfl) rfl rfl rfl ?_
   refine st_bool 19 rfl (fun hb12 => ?_) (fun hb12 => ?_)
   ·
    replace hb12 : (decide (1 ≤ from_ ∧ from_ ≤ 7)) = false := by rw [Bool.not_eq_true'] at hb12; exact hb12
    have hb12 := of_decide_eq_false hb12
    iterate 4 refine st_skip rfl rfl rfl ?_
    refine st_op (ev_pickT rfl rfl) rfl rfl rfl ?_
    refine st_op (ev_move rfl) rfl rfl rfl ?_
    iterate 5 refine st_skip rfl rfl rfl ?_
    refine st_op (ev_pickT rfl rfl) rfl rfl rfl ?_
    refine st_op (ev_move rfl) rfl rfl rfl ?_
    iterate 9 refine st_skip rfl rfl rfl ?_
    refine st_op (ev_pickT rfl rfl) rfl rfl rfl ?_
    refine st_op (ev_move rfl) rfl rfl rfl ?_
    iterate 3 refine st_skip rfl rfl rfl ?_
    refine st_op (ev_pickT rfl rfl) rfl rfl rfl ?_
    try show aw _ _ _ _ _ _
    refine aw_cond (t := true) rfl ?_
    try show aw _ _ _ _ _ _
    refine aw_seq ?_
    refine aw_reg ?_
    refine st_op (ev_assign rfl) rfl rfl rfl ?_
    try show aw _ _ _ _ _ _
    refine aw_ret ?_
    have hx13 : Ext H H10 := (Ext.trans hx6 hx11)
    have hres : (Spec.mayMsg kind from_ to_ term index logterm commit yes es s_index s_term s_conf s_data) = false := by first | exact Spec.mayMsg_f1 (by omega) | exact Spec.mayMsg_f2 (by assumption) | exact Spec.mayMsg_f3 (by assumption) (by omega) (by omega) | (rw [Spec.mayMsg_last (by omega) (by assumption) (fun h => by first | omega | exact Bool.noConfusion (h.symm.trans (show yes = false by assumption)))]; rw [if_pos (by omega), show (Spec.decC s_conf).2 = false by assumption]; rfl)
    exact ⟨.bool false, rfl, by first | (rw [hres]; done) | rw [← hres], hx13⟩
   ·
    replace hb12 : (decide (1 ≤ from_ ∧ from_ ≤ 7)) = true := by rw [Bool.not_eq_false'] at hb12; exact hb12
    have hb12 := of_decide_eq_true hb12
    refine st_op (ev_fieldAddr rfl fa26_2 (o' := 2) rfl) rfl rfl rfl ?_
    have h14 := Ext.blk hx11 (by omega) hB5
    refine st_op (ev_load rfl (lvar_one one3 h14 rfl)) rfl rfl rfl ?_
    refine st_call rfl rfl rfl ent40 rfl rfl rfl ?_
    obtain ⟨_, H16, hs15, hs15v, hx17⟩ := raft_server_spec H10 to_
    rw [hs15v] at hs15; clear hs15v
    refine ⟨_, H16, hs15, ?_⟩
    have H16n : H10.next ≤ H16.next := hx17.1
    refine st_op (ev_not rfl) rfl rfl rfl ?_
    refine st_op (ev_pickF rfl rfl) rfl rfl rfl ?_
    refine st_op (ev_move rfl) rfl rfl rfl ?_
    refine st_bool 25 rfl (fun hb18 => ?_) (fun hb18 => ?_)
    ·
     replace hb18 : (decide (1 ≤ to_ ∧ to_ ≤ 7)) = false := by rw [Bool.not_eq_true'] at hb18; exact hb18
     have hb18 := of_decide_eq_false hb18
     iterate 5 refine st_skip rfl rfl rfl ?_
     refine st_op (ev_pickT rfl rfl) rfl rfl rfl ?_
     refine st_op (ev_move rfl) rfl rfl rfl ?_
     iterate 9 refine st_skip rfl rfl rfl ?_
     refine st_op (ev_pickT rfl rfl) rfl rfl rfl ?_
     refine st_op (ev_move rfl) rfl rfl rfl ?_
     iterate 3 refine st_skip rfl rfl rfl ?_
     refine st_op (ev_pickT rfl rfl) rfl rfl rfl ?_
     try show aw _ _ _ _ _ _
     refine aw_cond (t := true) rfl ?_
     try show aw _ _ _ _ _ _
     refine aw_seq ?_
     refine aw_reg ?_
     refine st_op (ev_assign rfl) rfl rfl rfl ?_
     try show aw _ _ _ _ _ _
     refine aw_ret ?_
     have hx19 : Ext H H16 := (Ext.trans (Ext.trans hx6 hx11) hx17)
     have hres : (Spec.mayMsg kind from_ to_ term index logterm commit yes es s_index s_term s_conf s_data) = false := by first | exact Spec.mayMsg_f1 (by omega) | exact Spec.mayMsg_f2 (by assumption) | exact Spec.mayMsg_f3 (by assumption) (by omega) (by omega) | (rw [Spec.mayMsg_last (by omega) (by assumption) (fun h => by first | omega | exact Bool.noConfusion (h.symm.trans (show yes = false by assumption)))]; rw [if_pos (by omega), show (Spec.decC s_conf).2 = false by assumption]; rfl)
     exact ⟨.bool false, rfl, by first | (rw [hres]; done) | rw [← hres], hx19⟩
    ·
     replace hb18 : (decide (1 ≤ to_ ∧ to_ ≤ 7)) = true := by rw [Bool.not_eq_false'] at hb18; exact hb18
     have hb18 := of_decide_eq_true hb18
     refine st_op (ev_fieldAddr rfl fa26_3 (o' := 3) rfl) rfl rfl rfl ?_
     have h20 := Ext.blk hx17 (by omega) h14
     refine st_op (ev_load rfl (lvar_one one2 h20 rfl)) rfl rfl rfl ?_
     obtain ⟨b21, H22, he23, b21e, H22n_, hm25, f24⟩ := mem_lit H16 (xs := ([.int .i64 term] : List Value)) (m := 1) (rows := [[.int .i64 term]]) rfl eok77 (by decide) (by decide) zf2 rfl (allLen rfl) rfl
     replace hm25 : My H16 H22 (some ⟨b21, 0, none⟩) 1 1 ([term].map i64c) := hm25
     refine st_op (he23 _ _ _ _ _ _ _ _ rfl) rfl rfl rfl ?_
     have hx26 : Ext H16 H22 := Ext.new (by omega) H22n_ f24
     have H22n : H16.next ≤ H22.next := hx26.1
     refine st_call rfl rfl rfl ent41 rfl rfl rfl ?_
     obtain ⟨_, H28, hs27, hs27v, hx29⟩ := raft_in_spec H22 1 (by decide) (some ⟨b21, 0, none⟩) ([term]) 1 (My.row hm25) (My.capF hm25 (by first | omega | (simp only [List.length_append, List.length_cons, List.length_nil, List.length_map, List.length_set, List.length_replicate, Spec.bytesOf_length]; omega) | (simp; omega))) (by first | omega | (simp only [List.length_append, List.length_cons, List.length_nil, List.length_map, List.length_set, List.length_replicate, Spec.bytesOf_length]; omega) | (simp; omega))
     rw [hs27v] at hs27; clear hs27v
     refine ⟨_, H28, hs27, ?_⟩
     have H28n : H22.next ≤ H28.next := hx29.1
     refine st_op (ev_not rfl) rfl rfl rfl ?_
     refine st_op (ev_pickF rfl rfl) rfl rfl rfl ?_
     refine st_op (ev_move rfl) rfl rfl rfl ?_
     refine st_bool 32 rfl (fun hb30 => ?_) (fun hb30 => ?_)
     ·
      replace hb30 : (Spec.inF (1 : Int) 1099511627776 ([term])) = false := by rw [Bool.not_eq_true'] at hb30; exact hb30
      have hb30m := Spec.inF_oneN hb30
      iterate 9 refine st_skip rfl rfl rfl ?_
      refine st_op (ev_pickT rfl rfl) rfl rfl rfl ?_
      refine st_op (ev_move rfl) rfl rfl rfl ?_
      iterate 3 refine st_skip rfl rfl rfl ?_
      refine st_op (ev_pickT rfl rfl) rfl rfl rfl ?_
      try show aw _ _ _ _ _ _
      refine aw_cond (t := true) rfl ?_
      try show aw _ _ _ _ _ _
      refine aw_seq ?_
      refine aw_reg ?_
      refine st_op (ev_assign rfl) rfl rfl rfl ?_
      try show aw _ _ _ _ _ _
      refine aw_ret ?_
      have hx31 : Ext H H28 := (Ext.trans (Ext.trans (Ext.trans (Ext.trans hx6 hx11) hx17) hx26) hx29)
      have hres : (Spec.mayMsg kind from_ to_ term index logterm commit yes es s_index s_term s_conf s_data) = false := by first | exact Spec.mayMsg_f1 (by omega) | exact Spec.mayMsg_f2 (by assumption) | exact Spec.mayMsg_f3 (by assumption) (by omega) (by omega) | (rw [Spec.mayMsg_last (by omega) (by assumption) (fun h => by first | omega | exact Bool.noConfusion (h.symm.trans (show yes = false by assumption)))]; rw [if_pos (by omega), show (Spec.decC s_conf).2 = false by assumption]; rfl)
      exact ⟨.bool false, rfl, by first | (rw [hres]; done) | rw [← hres], hx31⟩
     ·
      replace hb30 : (Spec.inF (1 : Int) 1099511627776 ([term])) = true := by rw [Bool.not_eq_false'] at hb30; exact hb30
      have hb30m := Spec.inF_one hb30
      refine st_op (ev_fieldAddr rfl fa26_4 (o' := 4) rfl) rfl rfl rfl ?_
      have hx33 : Ext H16 H28 := (Ext.trans hx26 hx29)
      have h32 := Ext.blk hx33 (by omega) h20
      refine st_op (ev_load rfl (lvar_one one2 h32 rfl)) rfl rfl rfl ?_
      refine st_op (ev_fieldAddr rfl fa26_5 (o' := 5) rfl) rfl rfl rfl ?_
      refine st_op (ev_load rfl (lvar_one one2 h32 rfl)) rfl rfl rfl ?_
      refine st_op (ev_fieldAddr rfl fa26_6 (o' := 6) rfl) rfl rfl rfl ?_
      refine st_op (ev_load rfl (lvar_one one2 h32 rfl)) rfl rfl rfl ?_
      obtain ⟨b34, H35, he36, b34e, H35n_, hm38, f37⟩ := mem_lit H28 (xs := ([.int .i64 index, .int .i64 logterm, .int .i64 commit] : List Value)) (m := 3) (rows := [[.int .i64 index], [.int .i64 logterm], [.int .i64 commit]]) rfl eok77 (by decide) (by decide) zf2 rfl (allLen rfl) rfl
      replace hm38 : My H28 H35 (some ⟨b34, 0, none⟩) 3 1 ([index, logterm, commit].map i64c) := hm38
      refine st_op (he36 _ _ _ _ _ _ _ _ rfl) rfl rfl rfl ?_
      have hx39 : Ext H28 H35 := Ext.new (by omega) H35n_ f37
      have H35n : H28.next ≤ H35.next := hx39.1
      refine st_call rfl rfl rfl ent41 rfl rfl rfl ?_
      obtain ⟨_, H41, hs40, hs40v, hx42⟩ := raft_in_spec H35 0 (by decide) (some ⟨b34, 0, none⟩) ([index, logterm, commit]) 3 (My.row hm38) (My.capF hm38 (by first | omega | (simp only [List.length_append, List.length_cons, List.length_nil, List.length_map, List.length_set, List.length_replicate, Spec.bytesOf_length]; omega) | (simp; omega))) (by first | omega | (simp only [List.length_append, List.length_cons, List.length_nil, List.length_map, List.length_set, List.length_replicate, Spec.bytesOf_length]; omega) | (simp; omega))
      rw [hs40v] at hs40; clear hs40v
      refine ⟨_, H41, hs40, ?_⟩
      have H41n : H35.next ≤ H41.next := hx42.1
      refine st_op (ev_not rfl) rfl rfl rfl ?_
      refine st_op (ev_pickF rfl rfl) rfl rfl rfl ?_
      refine st_op (ev_move rfl) rfl rfl rfl ?_
      refine st_bool 43 rfl (fun hb43 => ?_) (fun hb43 => ?_)
      ·
       replace hb43 : (Spec.inF (0 : Int) 1099511627776 ([index, logterm, commit])) = false := by rw [Bool.not_eq_true'] at hb43; exact hb43
       have hb43m := Spec.inF_threeN hb43
       iterate 3 refine st_skip rfl rfl rfl ?_
       refine st_op (ev_pickT rfl rfl) rfl rfl rfl ?_
       try show aw _ _ _ _ _ _
       refine aw_cond (t := true) rfl ?_
       try show aw _ _ _ _ _ _
       refine aw_seq ?_
       refine aw_reg ?_
       refine st_op (ev_assign rfl) rfl rfl rfl ?_
       try show aw _ _ _ _ _ _
       refine aw_ret ?_
       have hx44 : Ext H H41 := (Ext.trans (Ext.trans (Ext.trans (Ext.trans (Ext.trans (Ext.trans hx6 hx11) hx17) hx26) hx29) hx39) hx42)
       have hres : (Spec.mayMsg kind from_ to_ term index logterm commit yes es s_index s_term s_conf s_data) = false := by first | exact Spec.mayMsg_f1 (by omega) | exact Spec.mayMsg_f2 (by assumption) | exact Spec.mayMsg_f3 (by assumption) (by omega) (by omega) | (rw [Spec.mayMsg_last (by omega) (by assumption) (fun h => by first | omega | exact Bool.noConfusion (h.symm.trans (show yes = false by assumption)))]; rw [if_pos (by omega), show (Spec.decC s_conf).2 = false by assumption]; rfl)
       exact ⟨.bool false, rfl, by first | (rw [hres]; done) | rw [← hres], hx44⟩
      ·
       replace hb43 : (Spec.inF (0 : Int) 1099511627776 ([index, logterm, commit])) = true := by rw [Bool.not_eq_false'] at hb43; exact hb43
       have hb43m := Spec.inF_three hb43
       have hx46 : Ext H28 H41 := (Ext.trans hx39 hx42)
       have h45 := Ext.blk hx46 (by omega) h32
       refine st_op (ev_load rfl (lvar_part (l := [.int .i64 kind, .int .i64 from_, .int .i64 to_, .int .i64 term, .int .i64 index, .int .i64 logterm, .int .i64 commit, .bool yes, .slice esA es.length esc, .int .i64 s_index, .int .i64 s_term, .string s_conf, .string s_data]) many26 h45 rfl rfl (by decide))) rfl rfl rfl ?_
       refine st_call rfl rfl rfl ent42 rfl rfl rfl ?_
       have hx48 : Ext H H41 := (Ext.trans (Ext.trans (Ext.trans (Ext.trans (Ext.trans (Ext.trans hx6 hx11) hx17) hx26) hx29) hx39) hx42)
       have h47 := Row.ext hes hx48
       obtain ⟨_, H50, hs49, hs49v, hx51⟩ := raft_entries_spec H41 kind from_ to_ term index ⟨by omega, by omega⟩ logterm commit yes esA es esc h47 ces (by first | omega | (simp only [List.length_append, List.length_cons, List.length_nil, List.length_map, List.length_set, List.length_replicate, Spec.bytesOf_length]; omega) | (simp; omega)) s_index s_term s_conf (by first | omega | (simp only [List.length_append, List.length_cons, List.length_nil, List.length_map, List.length_set, List.length_replicate, Spec.bytesOf_length]; omega) | (simp; omega)) s_data (by first | omega | (simp only [List.length_append, List.length_cons, List.length_nil, List.length_map, List.length_set, List.length_replicate, Spec.bytesOf_length]; omega) | (simp; omega))
       rw [hs49v] at hs49; clear hs49v
       refine ⟨_, H50, hs49, ?_⟩
       have H50n : H41.next ≤ H50.next := hx51.1
       refine st_op (ev_not rfl) rfl rfl rfl ?_
       refine st_op (ev_pickF rfl rfl) rfl rfl rfl ?_
       try show aw _ _ _ _ _ _
       by_cases hc52 : (!(Spec.entR term index logterm es && decide (es.length ≤ 8 ∧ (es.length = 0 ∨ kind = 3)))) = true
       ·
        refine aw_condT hc52 rfl ?_
        try show aw _ _ _ _ _ _
        replace hc52 : (Spec.entR term index logterm es && decide (es.length ≤ 8 ∧ (es.length = 0 ∨ kind = 3))) = false := by rw [Bool.not_eq_true'] at hc52; exact hc52
        refine aw_seq ?_
        refine aw_reg ?_
        refine st_op (ev_assign rfl) rfl rfl rfl ?_
        try show aw _ _ _ _ _ _
        refine aw_ret ?_
        have hx53 : Ext H H50 := (Ext.trans hx48 hx51)
        have hres : (Spec.mayMsg kind from_ to_ term index logterm commit yes es s_index s_term s_conf s_data) = false := by first | exact Spec.mayMsg_f1 (by omega) | exact Spec.mayMsg_f2 (by assumption) | exact Spec.mayMsg_f3 (by assumption) (by omega) (by omega) | (rw [Spec.mayMsg_last (by omega) (by assumption) (fun h => by first | omega | exact Bool.noConfusion (h.symm.trans (show yes = false by assumption)))]; rw [if_pos (by omega), show (Spec.decC s_conf).2 = false by assumption]; rfl)
        exact ⟨.bool false, rfl, by first | (rw [hres]; done) | rw [← hres], hx53⟩
       ·
        rw [Bool.not_eq_true] at hc52; refine aw_condF hc52 rfl ?_
        try show aw _ _ _ _ _ _
        replace hc52 : (Spec.entR term index logterm es && decide (es.length ≤ 8 ∧ (es.length = 0 ∨ kind = 3))) = true := by rw [Bool.not_eq_false'] at hc52; exact hc52
        refine aw_skip ?_
        try show aw _ _ _ _ _ _
        iterate 2 refine aw_seq ?_
        refine aw_reg ?_
        refine st_op (ev_fieldAddr rfl fa26_7 (o' := 7) rfl) rfl rfl rfl ?_
        have h54 := Ext.blk hx51 (by omega) h45
        refine st_op (ev_load rfl (lvar_one one4 h54 rfl)) rfl rfl rfl ?_
        refine st_op (ev_move rfl) rfl rfl rfl ?_
        refine st_bool 50 rfl (fun hb55 => ?_) (fun hb55 => ?_)
        ·
         refine st_op (ev_fieldAddr rfl fa26_0 (o' := 0) rfl) rfl rfl rfl ?_
         refine st_op (ev_load rfl (lvar_one one3 h54 rfl)) rfl rfl rfl ?_
         refine st_op (ev_int rfl rfl rfl) rfl rfl rfl ?_
         refine st_op (ev_pickT rfl rfl) rfl rfl rfl ?_
         refine st_op (ev_move rfl) rfl rfl rfl ?_
         refine st_bool 55 rfl (fun hb56 => ?_) (fun hb56 => ?_)
         ·
          have hb56 : ¬ (kind = 2) := by simpa using hb56
          refine st_op (ev_fieldAddr rfl fa26_0 (o' := 0) rfl) rfl rfl rfl ?_
          refine st_op (ev_load rfl (lvar_one one3 h54 rfl)) rfl rfl rfl ?_
          refine st_op (ev_int rfl rfl rfl) rfl rfl rfl ?_
          refine st_op (ev_pickT rfl rfl) rfl rfl rfl ?_
          try show aw _ _ _ _ _ _
          by_cases hc57 : (kind != 4) = true
          ·
           refine aw_condT hc57 rfl ?_
           try show aw _ _ _ _ _ _
           have hc57 : ¬ (kind = 4) := by simpa using hc57
           refine aw_seq ?_
           refine aw_reg ?_
           refine st_op (ev_assign rfl) rfl rfl rfl ?_
           try show aw _ _ _ _ _ _
           refine aw_ret ?_
           have hx58 : Ext H H50 := (Ext.trans hx48 hx51)
           have hres : (Spec.mayMsg kind from_ to_ term index logterm commit yes es s_index s_term s_conf s_data) = false := by first | exact Spec.mayMsg_f1 (by omega) | exact Spec.mayMsg_f2 (by assumption) | exact Spec.mayMsg_f3 (by assumption) (by omega) (by omega) | (rw [Spec.mayMsg_last (by omega) (by assumption) (fun h => by first | omega | exact Bool.noConfusion (h.symm.trans (show yes = false by assumption)))]; rw [if_pos (by omega), show (Spec.decC s_conf).2 = false by assumption]; rfl)
           exact ⟨.bool false, rfl, by first | (rw [hres]; done) | rw [← hres], hx58⟩
          ·
           rw [Bool.not_eq_true] at hc57; refine aw_condF hc57 rfl ?_
           try show aw _ _ _ _ _ _
           have hc57 : (kind = 4) := by simpa using hc57
           refine aw_skip ?_
           try show aw _ _ _ _ _ _
           iterate 2 refine aw_seq ?_
           refine aw_reg ?_
           refine st_op (ev_fieldAddr rfl fa26_0 (o' := 0) rfl) rfl rfl rfl ?_
           refine st_op (ev_load rfl (lvar_one one3 h54 rfl)) rfl rfl rfl ?_
           refine st_op (ev_int rfl rfl rfl) rfl rfl rfl ?_
           try show aw _ _ _ _ _ _
           by_cases hc59 : (kind != 5) = true
           ·
            refine aw_condT hc59 rfl ?_
            try show aw _ _ _ _ _ _
            have hc59 : ¬ (kind = 5) := by simpa using hc59
            refine aw_seq ?_
            refine aw_reg ?_
            refine st_op (ev_fieldAddr rfl fa26_9 (o' := 9) rfl) rfl rfl rfl ?_
            refine st_op (ev_load rfl (lvar_part (l := [.int .i64 s_index, .int .i64 s_term, .string s_conf, .string s_data]) many24 h54 rfl rfl (by decide))) rfl rfl rfl ?_
            refine st_op (ev_build zero24 pl24 (parts := []) rfl (cs := [.int .i64 0, .int .i64 0, .string (⟨#[]⟩), .string (⟨#[]⟩)]) rfl) rfl rfl rfl ?_
            obtain ⟨q60, hq61, hi62⟩ : ∃ q, bin.eqCells [.int .i64 s_index, .int .i64 s_term, .string s_conf, .string s_data] [.int .i64 0, .int .i64 0, .string (⟨#[]⟩), .string (⟨#[]⟩)] = some q ∧ (q = true ↔ s_index = 0 ∧ s_term = 0 ∧ s_conf = (⟨#[]⟩ : ByteArray) ∧ s_data = (⟨#[]⟩ : ByteArray)) := ⟨_, rfl, by simp [Bool.and_eq_true, ba_beq]⟩
            refine st_op (ev_agg rfl rfl (by rw [eqt24, show fitAgg Try.prog 24 (#[.int .i64 s_index, .int .i64 s_term, .string s_conf, .string s_data] : Array Value).toList = true from fit24 s_index s_term s_conf s_data]; rfl) hq61 rfl) rfl rfl rfl ?_
            refine st_op (ev_assign rfl) rfl rfl rfl ?_
            try show aw _ _ _ _ _ _
            refine aw_ret ?_
            have hx63 : Ext H H50 := (Ext.trans hx48 hx51)
            have hres : (Spec.mayMsg kind from_ to_ term index logterm commit yes es s_index s_term s_conf s_data) = q60 := by rw [Spec.mayMsg_last (by omega) (by assumption) (fun h => by first | omega | exact Bool.noConfusion (h.symm.trans (show yes = false by assumption)))]; rw [if_neg (by omega)]; exact Spec.snap0_iff (by assumption)
            exact ⟨.bool q60, rfl, by first | (rw [hres]; done) | rw [← hres], hx63⟩
           ·
            rw [Bool.not_eq_true] at hc59; refine aw_condF hc59 rfl ?_
            try show aw _ _ _ _ _ _
            have hc59 : (kind = 5) := by simpa using hc59
            exfalso; omega
         ·
          have hb56 : (kind = 2) := by simpa using hb56
          iterate 3 refine st_skip rfl rfl rfl ?_
          refine st_op (ev_pickF rfl rfl) rfl rfl rfl ?_
          try show aw _ _ _ _ _ _
          refine aw_cond (t := false) rfl ?_
          try show aw _ _ _ _ _ _
          refine aw_skip ?_
          try show aw _ _ _ _ _ _
          iterate 2 refine aw_seq ?_
          refine aw_reg ?_
          refine st_op (ev_fieldAddr rfl fa26_0 (o' := 0) rfl) rfl rfl rfl ?_
          refine st_op (ev_load rfl (lvar_one one3 h54 rfl)) rfl rfl rfl ?_
          refine st_op (ev_int rfl rfl rfl) rfl rfl rfl ?_
          try show aw _ _ _ _ _ _
          by_cases hc64 : (kind != 5) = true
          ·
           refine aw_condT hc64 rfl ?_
           try show aw _ _ _ _ _ _
           have hc64 : ¬ (kind = 5) := by simpa using hc64
           refine aw_seq ?_
           refine aw_reg ?_
           refine st_op (ev_fieldAddr rfl fa26_9 (o' := 9) rfl) rfl rfl rfl ?_
           refine st_op (ev_load rfl (lvar_part (l := [.int .i64 s_index, .int .i64 s_term, .string s_conf, .string s_data]) many24 h54 rfl rfl (by decide))) rfl rfl rfl ?_
           refine st_op (ev_build zero24 pl24 (parts := []) rfl (cs := [.int .i64 0, .int .i64 0, .string (⟨#[]⟩), .string (⟨#[]⟩)]) rfl) rfl rfl rfl ?_
           obtain ⟨q65, hq66, hi67⟩ : ∃ q, bin.eqCells [.int .i64 s_index, .int .i64 s_term, .string s_conf, .string s_data] [.int .i64 0, .int .i64 0, .string (⟨#[]⟩), .string (⟨#[]⟩)] = some q ∧ (q = true ↔ s_index = 0 ∧ s_term = 0 ∧ s_conf = (⟨#[]⟩ : ByteArray) ∧ s_data = (⟨#[]⟩ : ByteArray)) := ⟨_, rfl, by simp [Bool.and_eq_true, ba_beq]⟩
           refine st_op (ev_agg rfl rfl (by rw [eqt24, show fitAgg Try.prog 24 (#[.int .i64 s_index, .int .i64 s_term, .string s_conf, .string s_data] : Array Value).toList = true from fit24 s_index s_term s_conf s_data]; rfl) hq66 rfl) rfl rfl rfl ?_
           refine st_op (ev_assign rfl) rfl rfl rfl ?_
           try show aw _ _ _ _ _ _
           refine aw_ret ?_
           have hx68 : Ext H H50 := (Ext.trans hx48 hx51)
           have hres : (Spec.mayMsg kind from_ to_ term index logterm commit yes es s_index s_term s_conf s_data) = q65 := by rw [Spec.mayMsg_last (by omega) (by assumption) (fun h => by first | omega | exact Bool.noConfusion (h.symm.trans (show yes = false by assumption)))]; rw [if_neg (by omega)]; exact Spec.snap0_iff (by assumption)
           exact ⟨.bool q65, rfl, by first | (rw [hres]; done) | rw [← hres], hx68⟩
          ·
           rw [Bool.not_eq_true] at hc64; refine aw_condF hc64 rfl ?_
           try show aw _ _ _ _ _ _
           have hc64 : (kind = 5) := by simpa using hc64
           exfalso; omega
        ·
         iterate 3 refine st_skip rfl rfl rfl ?_
         refine st_op (ev_pickF rfl rfl) rfl rfl rfl ?_
         refine st_op (ev_move rfl) rfl rfl rfl ?_
         iterate 3 refine st_skip rfl rfl rfl ?_
         refine st_op (ev_pickF rfl rfl) rfl rfl rfl ?_
         try show aw _ _ _ _ _ _
         refine aw_cond (t := false) rfl ?_
         try show aw _ _ _ _ _ _
         refine aw_skip ?_
         try show aw _ _ _ _ _ _
         iterate 2 refine aw_seq ?_
         refine aw_reg ?_
         refine st_op (ev_fieldAddr rfl fa26_0 (o' := 0) rfl) rfl rfl rfl ?_
         refine st_op (ev_load rfl (lvar_one one3 h54 rfl)) rfl rfl rfl ?_
         refine st_op (ev_int rfl rfl rfl) rfl rfl rfl ?_
         try show aw _ _ _ _ _ _
         by_cases hc69 : (kind != 5) = true
         ·
          refine aw_condT hc69 rfl ?_
          try show aw _ _ _ _ _ _
          have hc69 : ¬ (kind = 5) := by simpa using hc69
          refine aw_seq ?_
          refine aw_reg ?_
          refine st_op (ev_fieldAddr rfl fa26_9 (o' := 9) rfl) rfl rfl rfl ?_
          refine st_op (ev_load rfl (lvar_part (l := [.int .i64 s_index, .int .i64 s_term, .string s_conf, .string s_data]) many24 h54 rfl rfl (by decide))) rfl rfl rfl ?_
          refine st_op (ev_build zero24 pl24 (parts := []) rfl (cs := [.int .i64 0, .int .i64 0, .string (⟨#[]⟩), .string (⟨#[]⟩)]) rfl) rfl rfl rfl ?_
          obtain ⟨q70, hq71, hi72⟩ : ∃ q, bin.eqCells [.int .i64 s_index, .int .i64 s_term, .string s_conf, .string s_data] [.int .i64 0, .int .i64 0, .string (⟨#[]⟩), .string (⟨#[]⟩)] = some q ∧ (q = true ↔ s_index = 0 ∧ s_term = 0 ∧ s_conf = (⟨#[]⟩ : ByteArray) ∧ s_data = (⟨#[]⟩ : ByteArray)) := ⟨_, rfl, by simp [Bool.and_eq_true, ba_beq]⟩
          refine st_op (ev_agg rfl rfl (by rw [eqt24, show fitAgg Try.prog 24 (#[.int .i64 s_index, .int .i64 s_term, .string s_conf, .string s_data] : Array Value).toList = true from fit24 s_index s_term s_conf s_data]; rfl) hq71 rfl) rfl rfl rfl ?_
          refine st_op (ev_assign rfl) rfl rfl rfl ?_
          try show aw _ _ _ _ _ _
          refine aw_ret ?_
          have hx73 : Ext H H50 := (Ext.trans hx48 hx51)
          have hres : (Spec.mayMsg kind from_ to_ term index logterm commit yes es s_index s_term s_conf s_data) = q70 := by rw [Spec.mayMsg_last (by omega) (by assumption) (fun h => by first | omega | exact Bool.noConfusion (h.symm.trans (show yes = false by assumption)))]; rw [if_neg (by omega)]; exact Spec.snap0_iff (by assumption)
          exact ⟨.bool q70, rfl, by first | (rw [hres]; done) | rw [← hres], hx73⟩
         ·
          rw [Bool.not_eq_true] at hc69; refine aw_condF hc69 rfl ?_
          try show aw _ _ _ _ _ _
          have hc69 : (kind = 5) := by simpa using hc69
          refine aw_skip ?_
          try show aw _ _ _ _ _ _
          refine aw_seq ?_
          refine aw_reg ?_
          refine st_op (ev_fieldAddr rfl fa26_9 (o' := 9) rfl) rfl rfl rfl ?_
          refine st_op (ev_fieldAddr rfl fa24_2 (o' := 11) rfl) rfl rfl rfl ?_
          refine st_op (ev_load rfl (lvar_one one9 h54 rfl)) rfl rfl rfl ?_
          refine st_call rfl rfl rfl ent43 rfl rfl rfl ?_
          obtain ⟨_, H75, hs74, A77, c78, hs74v, hm79, hx76⟩ := conf_Decode_spec H50 s_conf (by omega)
          rw [hs74v] at hs74; clear hs74v
          refine ⟨_, H75, hs74, ?_⟩
          have H75n : H50.next ≤ H75.next := hx76.1
          refine st_op (ev_move rfl) rfl rfl rfl ?_
          iterate 2 refine st_op (ev_extract rfl rfl) rfl rfl rfl ?_
          iterate 2 refine st_op (ev_assign rfl) rfl rfl rfl ?_
          try show aw _ _ _ _ _ _
          refine aw_seq ?_
          refine aw_reg ?_
          iterate 2 refine st_op (ev_move rfl) rfl rfl rfl ?_
          refine st_bool 75 rfl (fun hb80 => ?_) (fun hb80 => ?_)
          ·
           refine st_op (ev_fieldAddr rfl fa26_9 (o' := 9) rfl) rfl rfl rfl ?_
           have h81 := Ext.blk hx76 (by omega) h54
           refine st_op (ev_load rfl (lvar_part (l := [.int .i64 s_index, .int .i64 s_term, .string s_conf, .string s_data]) many24 h81 rfl rfl (by decide))) rfl rfl rfl ?_
           refine st_call rfl rfl rfl ent44 rfl rfl rfl ?_
           obtain ⟨_, H83, hs82, A85, c86, hs82v, hm87, hq88, hq89, hq90, hx84⟩ := wal_PutSnap_spec H75 s_index s_term s_conf s_data
           rw [hs82v] at hs82; clear hs82v
           refine ⟨_, H83, hs82, ?_⟩
           have H83n : H75.next ≤ H83.next := hx84.1
           refine st_op (ev_nilSlNe rfl rfl Try.underlying29) rfl rfl rfl ?_
           refine st_op (ev_pickT rfl rfl) rfl rfl rfl ?_
           refine st_op (ev_assign rfl) rfl rfl rfl ?_
           try show aw _ _ _ _ _ _
           refine aw_ret ?_
           have hx91 : Ext H H83 := (Ext.trans (Ext.trans (Ext.trans hx48 hx51) hx76) hx84)
           have hres : (Spec.mayMsg kind from_ to_ term index logterm commit yes es s_index s_term s_conf s_data) = (!(Option.isNone A85)) := by rw [Spec.mayMsg_last (by omega) (by assumption) (fun h => by first | omega | exact Bool.noConfusion (h.symm.trans (show yes = false by assumption)))]; rw [if_pos (by omega), show (Spec.decC s_conf).2 = true by assumption, Bool.true_and]; exact (Spec.nil_iff (by assumption)).symm
           exact ⟨.bool (!(Option.isNone A85)), rfl, by first | (rw [hres]; done) | rw [← hres], hx91⟩
          ·
           iterate 4 refine st_skip rfl rfl rfl ?_
           refine st_op (ev_pickF rfl rfl) rfl rfl rfl ?_
           refine st_op (ev_assign rfl) rfl rfl rfl ?_
           try show aw _ _ _ _ _ _
           refine aw_ret ?_
           have hx92 : Ext H H75 := (Ext.trans (Ext.trans hx48 hx51) hx76)
           have hres : (Spec.mayMsg kind from_ to_ term index logterm commit yes es s_index s_term s_conf s_data) = false := by first | exact Spec.mayMsg_f1 (by omega) | exact Spec.mayMsg_f2 (by assumption) | exact Spec.mayMsg_f3 (by assumption) (by omega) (by omega) | (rw [Spec.mayMsg_last (by omega) (by assumption) (fun h => by first | omega | exact Bool.noConfusion (h.symm.trans (show yes = false by assumption)))]; rw [if_pos (by omega), show (Spec.decC s_conf).2 = false by assumption]; rfl)
           exact ⟨.bool false, rfl, by first | (rw [hres]; done) | rw [← hres], hx92⟩
theorem wal_Encode_spec (H : Heap) (r_hard : Bool) (r_h_term : Int) (r_h_vote : Int) (r_e_index : Int) (r_e_term : Int) (r_e_kind : Int) (r_e_data : ByteArray) : ∃ v H', Spec Try.prog 45 [.agg #[.bool r_hard, .int .i64 r_h_term, .int .i64 r_h_vote, .int .i64 r_e_index, .int .i64 r_e_term, .int .i64 r_e_kind, .string r_e_data]] H v H' ∧ (∃ rA0 rc0, (v = .slice rA0 ((Spec.encodeF r_hard r_h_term r_h_vote r_e_index r_e_term r_e_kind r_e_data).length) rc0) ∧ (My H H' rA0 rc0 1 ((Spec.encodeF r_hard r_h_term r_h_vote r_e_index r_e_term r_e_kind r_e_data).map u8c)) ∧ (((Spec.encodeF r_hard r_h_term r_h_vote r_e_index r_e_term r_e_kind r_e_data)).length ≤ 2550) ∧ (Ext H H')) := by
 refine spec_go1 E0_ok 38 (f := 45) Try.func45 rfl rfl rfl ?_
 refine aw_seq ?_
 refine aw_reg ?_
 obtain ⟨b1, H2, he3, b1e, H2n_, hB5, f4⟩ := mem_box (P := Try.prog) H (v := .agg #[.bool r_hard, .int .i64 r_h_term, .int .i64 r_h_vote, .int .i64 r_e_index, .int .i64 r_e_term, .int .i64 r_e_kind, .string r_e_data]) (cs := [.bool r_hard, .int .i64 r_h_term, .int .i64 r_h_vote, .int .i64 r_e_index, .int .i64 r_e_term, .int .i64 r_e_kind, .string r_e_data]) rfl rfl
 refine st_op (he3 _ _ _ _ _ _ _ _ _ rfl) rfl rfl rfl ?_
 have hx6 : Ext H H2 := Ext.new (by omega) H2n_ f4
 have H2n : H.next ≤ H2.next := hx6.1
 refine st_op (ev_assign rfl) rfl rfl rfl ?_
 try show aw _ _ _ _ _ _
 refine aw_seq ?_
 refine aw_block ?_
 refine aw_seq ?_
 refine aw_reg ?_
 refine st_op (ev_load rfl (lvar_part (l := [.bool r_hard, .int .i64 r_h_term, .int .i64 r_h_vote, .int .i64 r_e_index, .int .i64 r_e_term, .int .i64 r_e_kind, .string r_e_data]) many82 hB5 rfl rfl (by decide))) rfl rfl rfl ?_
 refine st_call rfl rfl rfl ent58 rfl rfl rfl ?_
 obtain ⟨_, H8, hs7, hs7v, hx9⟩ := wal_May_spec H2 r_hard r_h_term r_h_vote r_e_index r_e_term r_e_kind r_e_data
 rw [hs7v] at hs7; clear hs7v
 refine ⟨_, H8, hs7, ?_⟩
 have H8n : H2.next ≤ H8.next := hx9.1
 refine st_op (ev_not rfl) rfl rfl rfl ?_
 refine st_op (ev_assign rfl) rfl rfl rfl ?_
 try show aw _ _ _ _ _ _
 by_cases hc10 : (!(Spec.mayF r_hard r_h_term r_h_vote r_e_index r_e_term r_e_kind r_e_data)) = true
 ·
  refine aw_condT hc10 rfl ?_
  try show aw _ _ _ _ _ _
  replace hc10 : (Spec.mayF r_hard r_h_term r_h_vote r_e_index r_e_term r_e_kind r_e_data) = false := by rw [Bool.not_eq_true'] at hc10; exact hc10
  refine aw_seq ?_
  refine aw_reg ?_
  refine st_op (ev_assign rfl) rfl rfl rfl ?_
  try show aw _ _ _ _ _ _
  refine aw_ret ?_
  have hm11 : My H8 H8 none 0 1 (([] : List Int).map u8c) := .nil
  have hx12 : Ext H H8 := (Ext.trans hx6 hx9)
  have hres : (Spec.encodeF r_hard r_h_term r_h_vote r_e_index r_e_term r_e_kind r_e_data) = ([] : List Int) := by unfold Spec.encodeF; rw [if_neg (by simp_all)]
  exact ⟨.slice none 0 0, rfl, none, 0, by first | (rw [hres]; first | done | rfl | simp; done) | rfl, (by rw [hres]; exact (My.older hm11 (by omega))), (by exact Spec.encodeF_len _ _ _ _ _ _ _), hx12⟩
 ·
  rw [Bool.not_eq_true] at hc10; refine aw_condF hc10 rfl ?_
  try show aw _ _ _ _ _ _
  replace hc10 : (Spec.mayF r_hard r_h_term r_h_vote r_e_index r_e_term r_e_kind r_e_data) = true := by rw [Bool.not_eq_false'] at hc10; exact hc10
  have hc10m := Spec.may_says hc10
  refine aw_seq ?_
  refine aw_reg ?_
  refine st_op (ev_fieldAddr rfl fa82_0 (o' := 0) rfl) rfl rfl rfl ?_
  have h13 := Ext.blk hx9 (by omega) hB5
  refine st_op (ev_load rfl (lvar_one one4 h13 rfl)) rfl rfl rfl ?_
  refine st_op (ev_assign rfl) rfl rfl rfl ?_
  try show aw _ _ _ _ _ _
  by_cases hc14 : r_hard = true
  ·
   refine aw_condT hc14 rfl ?_
   try show aw _ _ _ _ _ _
   refine aw_seq ?_
   refine aw_marks (fun b => b < H8.next) [(false, false), (false, false), (false, false), (false, true), (false, false), (false, false), (true, false), (false, false), (false, false), (false, false)] mixed (by kernel_rfl) (by kernel_rfl) ?_
   refine sm_op (ev_fieldAddr rfl fa82_1 (o' := 1) rfl) rfl rfl rfl ?_
   refine sm_op (ev_fieldAddr rfl fa80_0 (o' := 1) rfl) rfl rfl rfl ?_
   refine sm_op (ev_load rfl (lvar_one one2 h13 rfl)) rfl rfl rfl ?_
   refine sm_call rfl rfl rfl ent26 rfl rfl rfl ?_
   have hm15 : My H8 H8 none 0 1 (([] : List Int).map u8c) := .nil
   obtain ⟨_, H17, hs16, A19, c20, hs16v, hm21, hq22, hx18⟩ := num_Put_spec H8 H8 none ([] : List Int) 0 hm15 (by omega) (by first | omega | (simp only [List.length_append, List.length_cons, List.length_nil, List.length_map, List.length_set, List.length_replicate, Spec.bytesOf_length]; omega) | (simp; omega)) r_h_term ⟨by omega, by omega⟩
   rw [hs16v] at hs16; clear hs16v
   refine ⟨_, H17, hs16, (fun _ b hb => hx18.2 b (by omega) (fun e => by omega)), ?_⟩
   have H17n : H8.next ≤ H17.next := hx18.1
   refine sm_op (ev_fieldAddr rfl fa82_1 (o' := 1) rfl) rfl rfl rfl ?_
   refine sm_op (ev_fieldAddr rfl fa80_1 (o' := 2) rfl) rfl rfl rfl ?_
   have hx24 : Ext H8 H17 := (Ext.then (Ext.refl H8) hx18 (fun q hq e => by omega))
   have h23 := Ext.blk hx24 (by omega) h13
   refine sm_read (ev_load rfl (lvar_one one3 h23 rfl)) rfl rfl rfl (fun b hb => by cases hb; dsimp only; omega) ?_
   refine sm_call rfl rfl rfl ent26 rfl rfl rfl ?_
   obtain ⟨_, H26, hs25, A28, c29, hs25v, hm30, hq31, hx27⟩ := num_Put_spec H17 H8 A19 (([] : List Int) ++ Spec.enc (Spec.zig r_h_term)) c20 hm21 (by omega) (by first | omega | (simp only [List.length_append, List.length_cons, List.length_nil, List.length_map, List.length_set, List.length_replicate, Spec.bytesOf_length]; omega) | (simp; omega)) r_h_vote ⟨by omega, by omega⟩
   rw [hs25v] at hs25; clear hs25v
   refine ⟨_, H26, hs25, (fun _ b hb => hx27.2 b (by omega) (fun e => by omega)), ?_⟩
   have H26n : H17.next ≤ H26.next := hx27.1
   refine sm_call rfl rfl rfl ent25 rfl rfl rfl ?_
   obtain ⟨_, H33, hs32, A35, c36, hs32v, hm37, hq38, hq39, hx34⟩ := frame_Seal_spec H26 1 (by decide) A28 ((([] : List Int) ++ Spec.enc (Spec.zig r_h_term)) ++ Spec.enc (Spec.zig r_h_vote)) c29 (My.row hm30) (My.capF hm30 (by first | omega | (simp only [List.length_append, List.length_cons, List.length_nil, List.length_map, List.length_set, List.length_replicate, Spec.bytesOf_length]; omega) | (simp; omega))) (by first | omega | (simp only [List.length_append, List.length_cons, List.length_nil, List.length_map, List.length_set, List.length_replicate, Spec.bytesOf_length]; omega) | (simp; omega)) (by first | assumption | exact Spec.Bytes.nil | exact Spec.bytes_of _ | (repeat' first | assumption | exact Spec.Bytes.nil | exact Spec.bytes_of _ | exact Spec.enc_bytes _ | exact Spec.four_bytes _ | exact Spec.sealF_bytes (by assumption) | apply Spec.Bytes.append | apply Spec.Bytes.cons (by omega) | apply Spec.Bytes.take | apply Spec.Bytes.drop))
   rw [hs32v] at hs32; clear hs32v
   refine ⟨_, H33, hs32, (fun _ b hb => hx34.2 b (by omega)), ?_⟩
   have H33n : H26.next ≤ H33.next := hx34.1
   refine sm_op (ev_assign rfl) rfl rfl rfl ?_
   try show aw _ _ _ _ _ _
   refine aw_ret ?_
   have hx40 : Ext H H33 := (Ext.trans (Ext.then (Ext.then (Ext.trans hx6 hx9) hx18 (fun q hq e => by omega)) hx27 (fun q hq e => by omega)) hx34)
   have hres : (Spec.encodeF r_hard r_h_term r_h_vote r_e_index r_e_term r_e_kind r_e_data) = (Spec.sealF (1 : Int) ((([] : List Int) ++ Spec.enc (Spec.zig r_h_term)) ++ Spec.enc (Spec.zig r_h_vote))) := by first | exact Spec.enc_hard (by assumption) (by assumption) | exact Spec.enc_entry (by assumption) (by assumption)
   exact ⟨.slice A35 ((Spec.sealF (1 : Int) ((([] : List Int) ++ Spec.enc (Spec.zig r_h_term)) ++ Spec.enc (Spec.zig r_h_vote))).length) c36, rfl, A35, c36, by first | (rw [hres]; first | done | rfl | simp; done) | rfl, (by rw [hres]; exact (My.older hm37 (by omega))), (by exact Spec.encodeF_len _ _ _ _ _ _ _), hx40⟩
  ·
   rw [Bool.not_eq_true] at hc14; refine aw_condF hc14 rfl ?_
   try show aw _ _ _ _ _ _
   refine aw_skip ?_
   try show aw _ _ _ _ _ _
   refine aw_seq ?_
   refine aw_marks (fun b => b < H8.next) [(false, false), (false, false), (false, false), (false, true), (false, false), (false, false), (true, false), (false, true), (false, false), (false, false), (true, false), (false, false), (false, false)] mixed (by kernel_rfl) (by kernel_rfl) ?_
   refine sm_op (ev_fieldAddr rfl fa82_2 (o' := 3) rfl) rfl rfl rfl ?_
   refine sm_op (ev_fieldAddr rfl fa45_0 (o' := 3) rfl) rfl rfl rfl ?_
   refine sm_op (ev_load rfl (lvar_one one2 h13 rfl)) rfl rfl rfl ?_
   refine sm_call rfl rfl rfl ent26 rfl rfl rfl ?_
   have hm41 : My H8 H8 none 0 1 (([] : List Int).map u8c) := .nil
   obtain ⟨_, H43, hs42, A45, c46, hs42v, hm47, hq48, hx44⟩ := num_Put_spec H8 H8 none ([] : List Int) 0 hm41 (by omega) (by first | omega | (simp only [List.length_append, List.length_cons, List.length_nil, List.length_map, List.length_set, List.length_replicate, Spec.bytesOf_length]; omega) | (simp; omega)) r_e_index ⟨by omega, by omega⟩
   rw [hs42v] at hs42; clear hs42v
   refine ⟨_, H43, hs42, (fun _ b hb => hx44.2 b (by omega) (fun e => by omega)), ?_⟩
   have H43n : H8.next ≤ H43.next := hx44.1
   refine sm_op (ev_fieldAddr rfl fa82_2 (o' := 3) rfl) rfl rfl rfl ?_
   refine sm_op (ev_fieldAddr rfl fa45_1 (o' := 4) rfl) rfl rfl rfl ?_
   have hx50 : Ext H8 H43 := (Ext.then (Ext.refl H8) hx44 (fun q hq e => by omega))
   have h49 := Ext.blk hx50 (by omega) h13
   refine sm_read (ev_load rfl (lvar_one one2 h49 rfl)) rfl rfl rfl (fun b hb => by cases hb; dsimp only; omega) ?_
   refine sm_call rfl rfl rfl ent26 rfl rfl rfl ?_
   obtain ⟨_, H52, hs51, A54, c55, hs51v, hm56, hq57, hx53⟩ := num_Put_spec H43 H8 A45 (([] : List Int) ++ Spec.enc (Spec.zig r_e_index)) c46 hm47 (by omega) (by first | omega | (simp only [List.length_append, List.length_cons, List.length_nil, List.length_map, List.length_set, List.length_replicate, Spec.bytesOf_length]; omega) | (simp; omega)) r_e_term ⟨by omega, by omega⟩
   rw [hs51v] at hs51; clear hs51v
   refine ⟨_, H52, hs51, (fun _ b hb => hx53.2 b (by omega) (fun e => by omega)), ?_⟩
   have H52n : H43.next ≤ H52.next := hx53.1
   refine sm_op (ev_fieldAddr rfl fa82_2 (o' := 3) rfl) rfl rfl rfl ?_
   refine sm_op (ev_fieldAddr rfl fa45_2 (o' := 5) rfl) rfl rfl rfl ?_
   have hx59 : Ext H8 H52 := (Ext.then hx50 hx53 (fun q hq e => by omega))
   have h58 := Ext.blk hx59 (by omega) h13
   refine sm_read (ev_load rfl (lvar_one one3 h58 rfl)) rfl rfl rfl (fun b hb => by cases hb; dsimp only; omega) ?_
   refine sm_call rfl rfl rfl ent26 rfl rfl rfl ?_
   obtain ⟨_, H61, hs60, A63, c64, hs60v, hm65, hq66, hx62⟩ := num_Put_spec H52 H8 A54 ((([] : List Int) ++ Spec.enc (Spec.zig r_e_index)) ++ Spec.enc (Spec.zig r_e_term)) c55 hm56 (by omega) (by first | omega | (simp only [List.length_append, List.length_cons, List.length_nil, List.length_map, List.length_set, List.length_replicate, Spec.bytesOf_length]; omega) | (simp; omega)) r_e_kind ⟨by omega, by omega⟩
   rw [hs60v] at hs60; clear hs60v
   refine ⟨_, H61, hs60, (fun _ b hb => hx62.2 b (by omega) (fun e => by omega)), ?_⟩
   have H61n : H52.next ≤ H61.next := hx62.1
   refine sm_op (ev_assign rfl) rfl rfl rfl ?_
   try show aw _ _ _ _ _ _
   refine aw_seq ?_
   refine aw_reg ?_
   refine st_op (ev_move rfl) rfl rfl rfl ?_
   refine st_op (ev_fieldAddr rfl fa82_2 (o' := 3) rfl) rfl rfl rfl ?_
   refine st_op (ev_fieldAddr rfl fa45_3 (o' := 6) rfl) rfl rfl rfl ?_
   have hx68 : Ext H8 H61 := (Ext.then hx59 hx62 (fun q hq e => by omega))
   have h67 := Ext.blk hx68 (by omega) h13
   refine st_op (ev_load rfl (lvar_one one9 h67 rfl)) rfl rfl rfl ?_
   refine st_call rfl rfl rfl ent61 rfl rfl rfl ?_
   obtain ⟨_, H70, hs69, A72, c73, hs69v, hm74, hq75, hx71⟩ := num_PutText_spec H61 H8 A63 (((([] : List Int) ++ Spec.enc (Spec.zig r_e_index)) ++ Spec.enc (Spec.zig r_e_term)) ++ Spec.enc (Spec.zig r_e_kind)) c64 hm65 (by omega) (by first | omega | (simp only [List.length_append, List.length_cons, List.length_nil, List.length_map, List.length_set, List.length_replicate, Spec.bytesOf_length]; omega) | (simp; omega)) r_e_data (by omega)
   rw [hs69v] at hs69; clear hs69v
   refine ⟨_, H70, hs69, ?_⟩
   have H70n : H61.next ≤ H70.next := hx71.1
   refine st_call rfl rfl rfl ent25 rfl rfl rfl ?_
   obtain ⟨_, H77, hs76, A79, c80, hs76v, hm81, hq82, hq83, hx78⟩ := frame_Seal_spec H70 2 (by decide) A72 ((((([] : List Int) ++ Spec.enc (Spec.zig r_e_index)) ++ Spec.enc (Spec.zig r_e_term)) ++ Spec.enc (Spec.zig r_e_kind)) ++ Spec.enc (Spec.zig (r_e_data.size : Int)) ++ Spec.bytesOf r_e_data) c73 (My.row hm74) (My.capF hm74 (by first | omega | (simp only [List.length_append, List.length_cons, List.length_nil, List.length_map, List.length_set, List.length_replicate, Spec.bytesOf_length]; omega) | (simp; omega))) (by first | omega | (simp only [List.length_append, List.length_cons, List.length_nil, List.length_map, List.length_set, List.length_replicate, Spec.bytesOf_length]; omega) | (simp; omega)) (by first | assumption | exact Spec.Bytes.nil | exact Spec.bytes_of _ | (repeat' first | assumption | exact Spec.Bytes.nil | exact Spec.bytes_of _ | exact Spec.enc_bytes _ | exact Spec.four_bytes _ | exact Spec.sealF_bytes (by assumption) | apply Spec.Bytes.append | apply Spec.Bytes.cons (by omega) | apply Spec.Bytes.take | apply Spec.Bytes.drop))
   rw [hs76v] at hs76; clear hs76v
   refine ⟨_, H77, hs76, ?_⟩
   have H77n : H70.next ≤ H77.next := hx78.1
   refine st_op (ev_assign rfl) rfl rfl rfl ?_
   try show aw _ _ _ _ _ _
   refine aw_ret ?_
   have hx84 : Ext H H77 := (Ext.trans (Ext.then (Ext.then (Ext.then (Ext.then (Ext.trans hx6 hx9) hx44 (fun q hq e => by omega)) hx53 (fun q hq e => by omega)) hx62 (fun q hq e => by omega)) hx71 (fun q hq e => by omega)) hx78)
   have hres : (Spec.encodeF r_hard r_h_term r_h_vote r_e_index r_e_term r_e_kind r_e_data) = (Spec.sealF (2 : Int) ((((([] : List Int) ++ Spec.enc (Spec.zig r_e_index)) ++ Spec.enc (Spec.zig r_e_term)) ++ Spec.enc (Spec.zig r_e_kind)) ++ Spec.enc (Spec.zig (r_e_data.size : Int)) ++ Spec.bytesOf r_e_data)) := by first | exact Spec.enc_hard (by assumption) (by assumption) | exact Spec.enc_entry (by assumption) (by assumption)
   exact ⟨.slice A79 ((Spec.sealF (2 : Int) ((((([] : List Int) ++ Spec.enc (Spec.zig r_e_index)) ++ Spec.enc (Spec.zig r_e_term)) ++ Spec.enc (Spec.zig r_e_kind)) ++ Spec.enc (Spec.zig (r_e_data.size : Int)) ++ Spec.bytesOf r_e_data)).length) c80, rfl, A79, c80, by first | (rw [hres]; first | done | rfl | simp; done) | rfl, (by rw [hres]; exact (My.older hm81 (by omega))), (by exact Spec.encodeF_len _ _ _ _ _ _ _), hx84⟩

end Go.AM
