/- Part of a machine of its own for this claim: the program's code over memory without draws. -/
import Derived.Test.YtodcgppcmahbkabSAmXKeepC3
set_option linter.unusedVariables false
set_option linter.unusedSimpArgs false
set_option linter.unnecessarySimpa false
set_option linter.unusedVariables false
set_option linter.unusedSimpArgs false
set_option linter.unnecessarySimpa false
namespace Go.AM
open Go Go.Proofs
theorem ent18 : enters Try.prog 18 = true := by kernel_rfl
theorem ent28 : enters Try.prog 28 = true := by kernel_rfl
theorem ent48 : enters Try.prog 48 = true := by kernel_rfl
theorem zero5 : ZeroIs Try.prog 5 [.int .u8 0] := ⟨.int .u8 0, by kernel_rfl, rfl, rfl, rfl⟩
theorem ref17_EqEntry_spec (H : Heap) (a_index : Int) (a_term : Int) (a_kind : Int) (a_data : ByteArray) (b_index : Int) (b_term : Int) (b_kind : Int) (b_data : ByteArray) : ∃ v H', Spec Try.prog 48 [.agg #[.int .i64 a_index, .int .i64 a_term, .int .i64 a_kind, .string a_data], .agg #[.int .i64 b_index, .int .i64 b_term, .int .i64 b_kind, .string b_data]] H v H' ∧ ((v = .bool (decide (a_index = b_index ∧ a_term = b_term ∧ a_kind = b_kind ∧ a_data = b_data))) ∧ (Ext H H')) := by
 refine spec_go2 E0_ok 31 (f := 48) Try.func48 rfl rfl rfl ?_
 refine aw_seq ?_
 refine aw_reg ?_
 obtain ⟨b1, H2, he3, b1e, H2n_, hB5, f4⟩ := mem_box (P := Try.prog) H (v := .agg #[.int .i64 a_index, .int .i64 a_term, .int .i64 a_kind, .string a_data]) (cs := [.int .i64 a_index, .int .i64 a_term, .int .i64 a_kind, .string a_data]) rfl rfl
 refine st_op (he3 _ _ _ _ _ _ _ _ _ rfl) rfl rfl rfl ?_
 have hx6 : Ext H H2 := Ext.new (by omega) H2n_ f4
 have H2n : H.next ≤ H2.next := hx6.1
 obtain ⟨b7, H8, he9, b7e, H8n_, hB11, f10⟩ := mem_box (P := Try.prog) H2 (v := .agg #[.int .i64 b_index, .int .i64 b_term, .int .i64 b_kind, .string b_data]) (cs := [.int .i64 b_index, .int .i64 b_term, .int .i64 b_kind, .string b_data]) rfl rfl
 refine st_op (he9 _ _ _ _ _ _ _ _ _ rfl) rfl rfl rfl ?_
 have hx12 : Ext H2 H8 := Ext.new (by omega) H8n_ f10
 have H8n : H2.next ≤ H8.next := hx12.1
 refine st_op (ev_assign rfl) rfl rfl rfl ?_
 refine aw_seq ?_
 refine aw_reg ?_
 refine st_op (ev_fieldAddr rfl fa54_0 (o' := 0) rfl) rfl rfl rfl ?_
 have h13 := Ext.blk hx12 (by omega) hB5
 refine st_op (ev_load rfl (lvar_one one2 h13 rfl)) rfl rfl rfl ?_
 refine st_op (ev_fieldAddr rfl fa54_0 (o' := 0) rfl) rfl rfl rfl ?_
 refine st_op (ev_load rfl (lvar_one one2 hB11 rfl)) rfl rfl rfl ?_
 refine st_op (ev_int rfl rfl rfl) rfl rfl rfl ?_
 refine st_op (ev_move rfl) rfl rfl rfl ?_
 refine st_bool 10 rfl (fun hb14 => ?_) (fun hb14 => ?_)
 ·
  have hb14 := eq_of_beq hb14
  refine st_op (ev_fieldAddr rfl fa54_1 (o' := 1) rfl) rfl rfl rfl ?_
  refine st_op (ev_load rfl (lvar_one one2 h13 rfl)) rfl rfl rfl ?_
  refine st_op (ev_fieldAddr rfl fa54_1 (o' := 1) rfl) rfl rfl rfl ?_
  refine st_op (ev_load rfl (lvar_one one2 hB11 rfl)) rfl rfl rfl ?_
  refine st_op (ev_int rfl rfl rfl) rfl rfl rfl ?_
  refine st_op (ev_pickT rfl rfl) rfl rfl rfl ?_
  refine st_op (ev_move rfl) rfl rfl rfl ?_
  refine st_bool 17 rfl (fun hb15 => ?_) (fun hb15 => ?_)
  ·
   have hb15 := eq_of_beq hb15
   refine st_op (ev_fieldAddr rfl fa54_2 (o' := 2) rfl) rfl rfl rfl ?_
   refine st_op (ev_load rfl (lvar_one one3 h13 rfl)) rfl rfl rfl ?_
   refine st_op (ev_fieldAddr rfl fa54_2 (o' := 2) rfl) rfl rfl rfl ?_
   refine st_op (ev_load rfl (lvar_one one3 hB11 rfl)) rfl rfl rfl ?_
   refine st_op (ev_int rfl rfl rfl) rfl rfl rfl ?_
   refine st_op (ev_pickT rfl rfl) rfl rfl rfl ?_
   refine st_op (ev_move rfl) rfl rfl rfl ?_
   refine st_bool 24 rfl (fun hb16 => ?_) (fun hb16 => ?_)
   ·
    have hb16 := eq_of_beq hb16
    refine st_op (ev_fieldAddr rfl fa54_3 (o' := 3) rfl) rfl rfl rfl ?_
    refine st_op (ev_load rfl (lvar_one one9 h13 rfl)) rfl rfl rfl ?_
    refine st_op (ev_fieldAddr rfl fa54_3 (o' := 3) rfl) rfl rfl rfl ?_
    refine st_op (ev_load rfl (lvar_one one9 hB11 rfl)) rfl rfl rfl ?_
    refine st_op (ev_str rfl rfl rfl) rfl rfl rfl ?_
    refine st_op (ev_pickT rfl rfl) rfl rfl rfl ?_
    refine st_op (ev_assign rfl) rfl rfl rfl ?_
    refine aw_ret ?_
    have hx17 : Ext H H8 := (Ext.trans hx6 hx12)
    have hres : (decide (a_index = b_index ∧ a_term = b_term ∧ a_kind = b_kind ∧ a_data = b_data)) = ((a_data).toList == (b_data).toList) := by rw [Bool.eq_iff_iff]; simp_all [Spec.ba_iff]
    exact ⟨.bool ((a_data).toList == (b_data).toList), rfl, by first | (rw [hres]; done) | rw [← hres], hx17⟩
   ·
    have hb16 := ne_of_beq_false hb16
    iterate 5 refine st_skip rfl rfl rfl ?_
    refine st_op (ev_pickF rfl rfl) rfl rfl rfl ?_
    refine st_op (ev_assign rfl) rfl rfl rfl ?_
    refine aw_ret ?_
    have hx18 : Ext H H8 := (Ext.trans hx6 hx12)
    have hres : (decide (a_index = b_index ∧ a_term = b_term ∧ a_kind = b_kind ∧ a_data = b_data)) = false := by rw [Bool.eq_iff_iff]; simp_all [Spec.ba_iff]
    exact ⟨.bool false, rfl, by first | (rw [hres]; done) | rw [← hres], hx18⟩
  ·
   have hb15 := ne_of_beq_false hb15
   iterate 5 refine st_skip rfl rfl rfl ?_
   refine st_op (ev_pickF rfl rfl) rfl rfl rfl ?_
   refine st_op (ev_move rfl) rfl rfl rfl ?_
   iterate 5 refine st_skip rfl rfl rfl ?_
   refine st_op (ev_pickF rfl rfl) rfl rfl rfl ?_
   refine st_op (ev_assign rfl) rfl rfl rfl ?_
   refine aw_ret ?_
   have hx19 : Ext H H8 := (Ext.trans hx6 hx12)
   have hres : (decide (a_index = b_index ∧ a_term = b_term ∧ a_kind = b_kind ∧ a_data = b_data)) = false := by rw [Bool.eq_iff_iff]; simp_all [Spec.ba_iff]
   exact ⟨.bool false, rfl, by first | (rw [hres]; done) | rw [← hres], hx19⟩
 ·
  have hb14 := ne_of_beq_false hb14
  iterate 5 refine st_skip rfl rfl rfl ?_
  refine st_op (ev_pickF rfl rfl) rfl rfl rfl ?_
  refine st_op (ev_move rfl) rfl rfl rfl ?_
  iterate 5 refine st_skip rfl rfl rfl ?_
  refine st_op (ev_pickF rfl rfl) rfl rfl rfl ?_
  refine st_op (ev_move rfl) rfl rfl rfl ?_
  iterate 5 refine st_skip rfl rfl rfl ?_
  refine st_op (ev_pickF rfl rfl) rfl rfl rfl ?_
  refine st_op (ev_assign rfl) rfl rfl rfl ?_
  refine aw_ret ?_
  have hx20 : Ext H H8 := (Ext.trans hx6 hx12)
  have hres : (decide (a_index = b_index ∧ a_term = b_term ∧ a_kind = b_kind ∧ a_data = b_data)) = false := by rw [Bool.eq_iff_iff]; simp_all [Spec.ba_iff]
  exact ⟨.bool false, rfl, by first | (rw [hres]; done) | rw [← hres], hx20⟩
theorem ref17_EqEntries_spec (H : Heap) (uaA : Option Addr) (ua : List Entry) (uac : Nat) (hua : Row H uaA uac 4 (ua.map Entry.cells)) (cua : ua.length ≤ uac) (lua : ua.length ≤ 140737488355328) (vaA : Option Addr) (va : List Entry) (vac : Nat) (hva : Row H vaA vac 4 (va.map Entry.cells)) (cva : va.length ≤ vac) (lva : va.length ≤ 140737488355328) : ∃ v H', Spec Try.prog 28 [.slice uaA ua.length uac, .slice vaA va.length vac] H v H' ∧ ((v = .bool (Spec.eqEs ua va)) ∧ (Ext H H')) := by
 refine spec_go2 E0_ok 27 (f := 28) Try.func28 rfl rfl rfl ?_
 refine aw_seq ?_
 refine aw_reg ?_
 refine st_op (ev_assign rfl) rfl rfl rfl ?_
 iterate 2 refine aw_seq ?_
 refine aw_reg ?_
 refine st_op (ev_move rfl) rfl rfl rfl ?_
 refine st_op (ev_lenSl rfl Try.underlying39) rfl rfl rfl ?_
 refine st_op (ev_move rfl) rfl rfl rfl ?_
 refine st_op (ev_lenSl rfl Try.underlying39) rfl rfl rfl ?_
 refine st_op (ev_int rfl rfl rfl) rfl rfl rfl ?_
 by_cases hc1 : ((ua.length : Int) != (va.length : Int)) = true
 ·
  refine aw_condT hc1 rfl ?_
  have hc1 : ¬ ((ua.length : Int) = (va.length : Int)) := by simpa using hc1
  refine aw_seq ?_
  refine aw_reg ?_
  refine st_op (ev_assign rfl) rfl rfl rfl ?_
  refine aw_ret ?_
  have hres : (Spec.eqEs ua va) = false := by exact Spec.eqEs_len (by omega)
  exact ⟨.bool false, rfl, by first | (rw [hres]; done) | rw [← hres], (Ext.refl H)⟩
 ·
  rw [Bool.not_eq_true] at hc1; refine aw_condF hc1 rfl ?_
  have hc1 : ((ua.length : Int) = (va.length : Int)) := by simpa using hc1
  refine aw_skip ?_
  iterate 2 refine aw_seq ?_
  refine aw_reg ?_
  refine st_op (ev_assign rfl) rfl rfl rfl ?_
  refine aw_block ?_
  refine aw_keep [0, 1, 5] (l' := (.cons 0 (.slice uaA ua.length uac) (.cons 1 (.slice vaA va.length vac) (.cons 5 (.int .i64 0) .nil)))) (by repeat (first | exact Up.done | refine Up.then ?_ | refine Up.inBlock ?_)) rfl ?_
  refine aw_iter (α := Nat × Heap) (fun a => ua.length - a.1) (fun a => (.cons 0 (.slice uaA ua.length uac) (.cons 1 (.slice vaA va.length vac) (.cons 5 (.int .i64 (a.1 : Int)) .nil)))) (fun a => a.2) (fun a => (a.1 ≤ ua.length) ∧ (Spec.eqEs ua va = Spec.eqEs (ua.drop a.1) (va.drop a.1)) ∧ (Ext H a.2)) (0, H) ⟨(show 0 ≤ ua.length from Nat.zero_le _), (show Spec.eqEs ua va = Spec.eqEs (ua.drop 0) (va.drop 0) from rfl), (show Ext H H from (Ext.refl H))⟩ ?_
  rintro ⟨i, Hl2⟩ ⟨hi, hv, hxl3⟩ ih4
  replace hi : i ≤ ua.length := hi
  replace hv : Spec.eqEs ua va = Spec.eqEs (ua.drop i) (va.drop i) := hv
  replace hxl3 : Ext H Hl2 := hxl3
  show aw _ _ _ (RL _ (.cons 0 (.slice uaA ua.length uac) (.cons 1 (.slice vaA va.length vac) (.cons 5 (.int .i64 (i : Int)) .nil)))) Hl2 _
  have Hl2n : H.next ≤ Hl2.next := hxl3.1
  iterate 2 refine aw_seq ?_
  refine aw_reg ?_
  iterate 2 refine st_op (ev_move rfl) rfl rfl rfl ?_
  refine st_op (ev_lenSl rfl Try.underlying39) rfl rfl rfl ?_
  refine st_op (ev_int rfl rfl rfl) rfl rfl rfl ?_
  by_cases hc5 : (decide ((i : Int) < (ua.length : Int))) = true
  ·
   refine aw_condT hc5 rfl ?_
   have hc5 := of_decide_eq_true hc5
   refine aw_skip ?_
   refine aw_seq ?_
   refine aw_block ?_
   refine aw_seq ?_
   refine aw_marks (fun b => b < Hl2.next) [(false, false), (false, false), (false, false), (false, false), (false, false), (false, false), (false, false), (false, false), (false, false), (false, false)] mixed (by kernel_rfl) (by kernel_rfl) ?_
   iterate 2 refine sm_op (ev_move rfl) rfl rfl rfl ?_
   have h6 := Row.ext hua hxl3
   have hi7 : 0 ≤ ((i : Int) : Int) := by omega
   have hi8 : ((i : Int) : Int) < ((ua.length : Nat) : Int) := by omega
   obtain ⟨x9, hx10⟩ : ∃ e, ua[i]? = some e := ⟨_, List.getElem?_eq_getElem (by omega)⟩
   refine sm_op (ev_at rfl rfl h6 (getMap Entry.cells hx10) (by first | rfl | omega | simp) hi7 hi8 el39) rfl rfl rfl ?_
   refine sm_op (ev_atN (cs := [.int .i64 x9.index, .int .i64 x9.term, .int .i64 x9.kind, .string x9.data]) rfl h6 (getMap Entry.cells hx10) many54 rfl rfl (by decide)) rfl rfl rfl ?_
   iterate 2 refine sm_op (ev_move rfl) rfl rfl rfl ?_
   have h11 := Row.ext hva hxl3
   have hi12 : 0 ≤ ((i : Int) : Int) := by omega
   have hi13 : ((i : Int) : Int) < ((va.length : Nat) : Int) := by omega
   obtain ⟨x14, hx15⟩ : ∃ e, va[i]? = some e := ⟨_, List.getElem?_eq_getElem (by omega)⟩
   refine sm_op (ev_at rfl rfl h11 (getMap Entry.cells hx15) (by first | rfl | omega | simp) hi12 hi13 el39) rfl rfl rfl ?_
   refine sm_op (ev_atN (cs := [.int .i64 x14.index, .int .i64 x14.term, .int .i64 x14.kind, .string x14.data]) rfl h11 (getMap Entry.cells hx15) many54 rfl rfl (by decide)) rfl rfl rfl ?_
   refine sm_call rfl rfl rfl ent48 rfl rfl rfl ?_
   obtain ⟨_, H17, hs16, hs16v, hx18⟩ := ref17_EqEntry_spec Hl2 x9.index x9.term x9.kind x9.data x14.index x14.term x14.kind x14.data
   rw [hs16v] at hs16; clear hs16v
   refine ⟨_, H17, hs16, (fun h => nomatch h), ?_⟩
   have H17n : Hl2.next ≤ H17.next := hx18.1
   refine sm_op (ev_not rfl) rfl rfl rfl ?_
   by_cases hc19 : (!(decide (x9.index = x14.index ∧ x9.term = x14.term ∧ x9.kind = x14.kind ∧ x9.data = x14.data))) = true
   ·
    refine aw_condT hc19 rfl ?_
    replace hc19 : (decide (x9.index = x14.index ∧ x9.term = x14.term ∧ x9.kind = x14.kind ∧ x9.data = x14.data)) = false := by rw [Bool.not_eq_true'] at hc19; exact hc19
    have hc19 := of_decide_eq_false hc19
    refine aw_seq ?_
    refine aw_reg ?_
    refine st_op (ev_assign rfl) rfl rfl rfl ?_
    refine aw_ret ?_
    have hx20 : Ext H H17 := (Ext.trans hxl3 hx18)
    have hres : (Spec.eqEs ua va) = false := by rw [hv]; exact Spec.eqEs_fail hx10 hx15 (by assumption)
    exact ⟨.bool false, rfl, by first | (rw [hres]; done) | rw [← hres], hx20⟩
   ·
    rw [Bool.not_eq_true] at hc19; refine aw_condF hc19 rfl ?_
    replace hc19 : (decide (x9.index = x14.index ∧ x9.term = x14.term ∧ x9.kind = x14.kind ∧ x9.data = x14.data)) = true := by rw [Bool.not_eq_false'] at hc19; exact hc19
    have hc19 := of_decide_eq_true hc19
    refine aw_skip ?_
    refine aw_reg ?_
    refine st_op (ev_move rfl) rfl rfl rfl ?_
    refine st_op (ev_int64 (c := (i : Int) + 1) rfl rfl rfl (by omega) (by omega)) rfl rfl rfl ?_
    refine st_op (ev_assign rfl) rfl rfl rfl ?_
    have hx21 : Ext H H17 := (Ext.trans hxl3 hx18)
    refine aw_keep [0, 1, 5] (l' := (.cons 0 (.slice uaA ua.length uac) (.cons 1 (.slice vaA va.length vac) (.cons 5 (.int .i64 ((i : Int) + 1)) .nil)))) (by repeat (first | exact Up.done | refine Up.then ?_ | refine Up.inBlock ?_)) rfl ?_
    exact ih4 (i + 1, H17) ⟨(show (i + 1) ≤ ua.length from (by omega)), (show Spec.eqEs ua va = Spec.eqEs (ua.drop (i + 1)) (va.drop (i + 1)) from (by rw [hv]; exact Spec.eqEs_step hx10 hx15 (by assumption))), (show Ext H H17 from hx21)⟩ (by simp only; omega)
  ·
   rw [Bool.not_eq_true] at hc5; refine aw_condF hc5 rfl ?_
   have hc5 := of_decide_eq_false hc5
   refine aw_exit ?_
   refine aw_seq ?_
   refine aw_reg ?_
   refine st_op (ev_assign rfl) rfl rfl rfl ?_
   refine aw_ret ?_
   have hres : (Spec.eqEs ua va) = true := by rw [hv, List.drop_eq_nil_of_le (by omega), List.drop_eq_nil_of_le (by omega)]; rfl
   exact ⟨.bool true, rfl, by first | (rw [hres]; done) | rw [← hres], hxl3⟩
set_option maxHeartbeats 1600000 in
theorem law_KeepLaid_spec (H : Heap) (n : Int) (hn : -9223372036854775808 ≤ n ∧ n ≤ 9223372036854775807) (size : Int) (hsize : -9223372036854775808 ≤ size ∧ size ≤ 9223372036854775807) : ∃ v H', Spec Try.prog 5 [.int .i64 n, .int .i64 size] H v H' ∧ ((v = .bool true) ∧ (Ext H H')) := by
 refine spec_go2 E0_ok 115 (f := 5) Try.func5 rfl rfl rfl ?_
 refine aw_seq ?_
 refine aw_reg ?_
 refine st_op (ev_assign rfl) rfl rfl rfl ?_
 refine aw_seq ?_
 refine aw_reg ?_
 refine st_call rfl rfl rfl ent18 rfl rfl rfl ?_
 obtain ⟨_, H2, hs1, hs1v, hx3⟩ := law19_begun_spec H 
 rw [hs1v] at hs1; clear hs1v
 refine ⟨_, H2, hs1, ?_⟩
 have H2n : H.next ≤ H2.next := hx3.1
 refine st_op (ev_assign rfl) rfl rfl rfl ?_
 iterate 2 refine aw_seq ?_
 refine aw_reg ?_
 refine st_op (ev_move rfl) rfl rfl rfl ?_
 refine st_op (ev_not rfl) rfl rfl rfl ?_
 refine aw_cond (t := false) rfl ?_
 refine aw_skip ?_
 iterate 2 refine aw_seq ?_
 refine aw_reg ?_
 refine st_op (ev_move rfl) rfl rfl rfl ?_
 refine st_op (ev_int rfl rfl rfl) rfl rfl rfl ?_
 refine st_op (ev_move rfl) rfl rfl rfl ?_
 refine st_bool 20 rfl (fun hb4 => ?_) (fun hb4 => ?_)
 ·
  have hb4 := of_decide_eq_true hb4
  iterate 2 refine st_skip rfl rfl rfl ?_
  refine st_op (ev_pickT rfl rfl) rfl rfl rfl ?_
  refine st_op (ev_move rfl) rfl rfl rfl ?_
  iterate 2 refine st_skip rfl rfl rfl ?_
  refine st_op (ev_pickT rfl rfl) rfl rfl rfl ?_
  refine st_op (ev_move rfl) rfl rfl rfl ?_
  iterate 2 refine st_skip rfl rfl rfl ?_
  refine st_op (ev_pickT rfl rfl) rfl rfl rfl ?_
  refine aw_cond (t := true) rfl ?_
  refine aw_seq ?_
  refine aw_reg ?_
  refine st_op (ev_assign rfl) rfl rfl rfl ?_
  refine aw_ret ?_
  have hres : true = true := by rfl
  exact ⟨.bool true, rfl, by first | (rw [hres]; done) | rw [← hres], hx3⟩
 ·
  have hb4 := of_decide_eq_false hb4
  refine st_op (ev_move rfl) rfl rfl rfl ?_
  refine st_op (ev_int rfl rfl rfl) rfl rfl rfl ?_
  refine st_op (ev_pickF rfl rfl) rfl rfl rfl ?_
  refine st_op (ev_move rfl) rfl rfl rfl ?_
  refine st_bool 24 rfl (fun hb5 => ?_) (fun hb5 => ?_)
  ·
   have hb5 := of_decide_eq_true hb5
   iterate 2 refine st_skip rfl rfl rfl ?_
   refine st_op (ev_pickT rfl rfl) rfl rfl rfl ?_
   refine st_op (ev_move rfl) rfl rfl rfl ?_
   iterate 2 refine st_skip rfl rfl rfl ?_
   refine st_op (ev_pickT rfl rfl) rfl rfl rfl ?_
   refine aw_cond (t := true) rfl ?_
   refine aw_seq ?_
   refine aw_reg ?_
   refine st_op (ev_assign rfl) rfl rfl rfl ?_
   refine aw_ret ?_
   have hres : true = true := by rfl
   exact ⟨.bool true, rfl, by first | (rw [hres]; done) | rw [← hres], hx3⟩
  ·
   have hb5 := of_decide_eq_false hb5
   refine st_op (ev_move rfl) rfl rfl rfl ?_
   refine st_op (ev_int rfl rfl rfl) rfl rfl rfl ?_
   refine st_op (ev_pickF rfl rfl) rfl rfl rfl ?_
   refine st_op (ev_move rfl) rfl rfl rfl ?_
   refine st_bool 28 rfl (fun hb6 => ?_) (fun hb6 => ?_)
   ·
    have hb6 := of_decide_eq_true hb6
    iterate 2 refine st_skip rfl rfl rfl ?_
    refine st_op (ev_pickT rfl rfl) rfl rfl rfl ?_
    refine aw_cond (t := true) rfl ?_
    refine aw_seq ?_
    refine aw_reg ?_
    refine st_op (ev_assign rfl) rfl rfl rfl ?_
    refine aw_ret ?_
    have hres : true = true := by rfl
    exact ⟨.bool true, rfl, by first | (rw [hres]; done) | rw [← hres], hx3⟩
   ·
    have hb6 := of_decide_eq_false hb6
    refine st_op (ev_move rfl) rfl rfl rfl ?_
    refine st_op (ev_int rfl rfl rfl) rfl rfl rfl ?_
    refine st_op (ev_pickF rfl rfl) rfl rfl rfl ?_
    by_cases hc7 : (decide (size > 2500)) = true
    ·
     refine aw_condT hc7 rfl ?_
     have hc7 := of_decide_eq_true hc7
     refine aw_seq ?_
     refine aw_reg ?_
     refine st_op (ev_assign rfl) rfl rfl rfl ?_
     refine aw_ret ?_
     have hres : true = true := by rfl
     exact ⟨.bool true, rfl, by first | (rw [hres]; done) | rw [← hres], hx3⟩
    ·
     rw [Bool.not_eq_true] at hc7; refine aw_condF hc7 rfl ?_
     have hc7 := of_decide_eq_false hc7
     refine aw_skip ?_
     refine aw_seq ?_
     refine aw_reg ?_
     refine st_call rfl rfl rfl ent10 rfl rfl rfl ?_
     obtain ⟨_, H8, hs9, d10, D11, rfl, ⟨mb15, ps16, hr17⟩, hD13, hx14⟩ := disk_New_spec H2
     refine ⟨_, H8, hs9, ?_⟩
     have H8n : H2.next ≤ H8.next := hx14.1
     have bd10 := hD13 _ hr17.dp; have bmb15 := hD13 _ hr17.dm
     refine st_op (ev_assign rfl) rfl rfl rfl ?_
     refine aw_seq ?_
     refine aw_reg ?_
     refine st_op (ev_move rfl) rfl rfl rfl ?_
     refine st_call rfl rfl rfl ent19 rfl rfl rfl ?_
     obtain ⟨_, H18, hs19, k20, K21, rfl, hr22, hb23, hx24⟩ := keepw_OpenN_spec H8 d10 D11 0 ⟨_, _, hr17⟩ (by omega)
     refine ⟨_, H18, hs19, ?_⟩
     have H18n : H8.next ≤ H18.next := hx24.1
     have hD25 := fun q e => (hb23 q e).imp (hD13 q) id
     have k20b := hD25 _ hr22.kk
     refine st_op (ev_move rfl) rfl rfl rfl ?_
     iterate 2 refine st_op (ev_extract rfl rfl) rfl rfl rfl ?_
     iterate 2 refine st_op (ev_assign rfl) rfl rfl rfl ?_
     iterate 2 refine aw_seq ?_
     refine aw_reg ?_
     refine st_op (ev_move rfl) rfl rfl rfl ?_
     refine st_op (ev_int rfl rfl rfl) rfl rfl rfl ?_
     refine aw_cond (t := false) rfl ?_
     refine aw_skip ?_
     refine aw_seq ?_
     refine aw_reg ?_
     refine st_op (ev_assign rfl) rfl rfl rfl ?_
     iterate 2 refine aw_seq ?_
     refine aw_reg ?_
     refine st_op (ev_assign rfl) rfl rfl rfl ?_
     refine aw_block ?_
     obtain ⟨dz, hdz⟩ : ∃ d_, d_ = (strOfNums (List.replicate (size).toNat (0 : Int))) := ⟨_, rfl⟩
     have hdz2 : dz.size ≤ 2500 := by rw [hdz, strOfNums_size, List.length_replicate]; omega
     have hm28 : My H18 H18 none 0 4 (([] : List Entry).map Entry.cells) := .nil
     refine aw_keep [0, 1, 6, 7, 9, 10] (l' := (.cons 0 (.int .i64 n) (.cons 1 (.int .i64 size) (.cons 6 (.pointer (some ⟨d10, 0, none⟩)) (.cons 7 (.pointer (some ⟨k20, 0, none⟩)) (.cons 9 (.slice none 0 0) (.cons 10 (.int .i64 1) .nil))))))) (by repeat (first | exact Up.done | refine Up.then ?_ | refine Up.inBlock ?_)) rfl ?_
     refine aw_iter (α := Int × Option Addr × Nat × List Entry × Heap) (fun a => (31 - a.1).toNat) (fun a => (.cons 0 (.int .i64 n) (.cons 1 (.int .i64 size) (.cons 6 (.pointer (some ⟨d10, 0, none⟩)) (.cons 7 (.pointer (some ⟨k20, 0, none⟩)) (.cons 9 (.slice a.2.1 a.2.2.2.1.length a.2.2.1) (.cons 10 (.int .i64 a.1) .nil))))))) (fun a => a.2.2.2.2) (fun a => (a.2.2.2.1 = Spec.laidE dz 1 (a.1 - 1).toNat) ∧ (1 ≤ a.1 ∧ a.1 ≤ 31) ∧ (My H18 a.2.2.2.2 a.2.1 a.2.2.1 4 (a.2.2.2.1.map Entry.cells)) ∧ (Ext H18 a.2.2.2.2)) ((1 : Int), none, 0, ([] : List Entry), H18) ⟨(show ([] : List Entry) = Spec.laidE dz 1 ((1 : Int) - 1).toNat from rfl), (show 1 ≤ (1 : Int) ∧ (1 : Int) ≤ 31 from ⟨by omega, by omega⟩), (show My H18 H18 none 0 4 (([] : List Entry).map Entry.cells) from hm28), (show Ext H18 H18 from (Ext.refl H18))⟩ ?_
     rintro ⟨i, lA, lc, l, Hl26⟩ ⟨hl, hn27, hm29, hxl30⟩ ih31
     replace hl : l = Spec.laidE dz 1 (i - 1).toNat := hl
     replace hn27 : 1 ≤ i ∧ i ≤ 31 := hn27
     replace hm29 : My H18 Hl26 lA lc 4 (l.map Entry.cells) := hm29
     replace hxl30 : Ext H18 Hl26 := hxl30
     show aw _ _ _ (RL _ (.cons 0 (.int .i64 n) (.cons 1 (.int .i64 size) (.cons 6 (.pointer (some ⟨d10, 0, none⟩)) (.cons 7 (.pointer (some ⟨k20, 0, none⟩)) (.cons 9 (.slice lA l.length lc) (.cons 10 (.int .i64 i) .nil))))))) Hl26 _
     have Hl26n : H18.next ≤ Hl26.next := hxl30.1
     have hll : l.length = (i - 1).toNat := by rw [hl, Spec.laidE_len]
     iterate 2 refine aw_seq ?_
     refine aw_reg ?_
     refine st_op (ev_move rfl) rfl rfl rfl ?_
     refine st_op (ev_int rfl rfl rfl) rfl rfl rfl ?_
     by_cases hc32 : (decide (i ≤ 30)) = true
     ·
      refine aw_condT hc32 rfl ?_
      have hc32 := of_decide_eq_true hc32
      refine aw_skip ?_
      refine aw_seq ?_
      refine aw_block ?_
      refine aw_reg ?_
      iterate 3 refine st_op (ev_move rfl) rfl rfl rfl ?_
      obtain ⟨A33, H34, he35, hm36, hx37⟩ := mem_make1 (k1 := .i64) (k2 := .i64) (n := (size)) (f := u8c) (e0 := (0 : Int)) Hl26 eok26 zero5 rfl (by omega) (by omega) (by omega)
      refine st_op (he35 _ _ _ _ _ _ _ _ _ rfl rfl) rfl rfl rfl ?_
      have H34n : Hl26.next ≤ H34.next := hx37.1
      refine st_op (ev_strOf (l := (List.replicate (size).toNat (0 : Int))) (A := A33) (c := (size).toNat) slu8_26 isstr_9 rfl (My.anil hm36) (My.row hm36)) rfl rfl rfl ?_
      refine st_op (ev_build zero54 pl54 (parts := [(0, .int .i64 i), (1, .int .i64 1), (2, .int .i64 2), (3, .string (strOfNums (List.replicate (size).toNat (0 : Int))))]) rfl (cs := [.int .i64 i, .int .i64 1, .int .i64 2, .string (strOfNums (List.replicate (size).toNat (0 : Int)))]) rfl) rfl rfl rfl ?_
      obtain ⟨b38, H39, he40, b38e, H39n_, hm42, f41⟩ := mem_lit H34 (xs := ([.agg #[.int .i64 i, .int .i64 1, .int .i64 2, .string (strOfNums (List.replicate (size).toNat (0 : Int)))]] : List Value)) (m := 1) (rows := [[.int .i64 i, .int .i64 1, .int .i64 2, .string (strOfNums (List.replicate (size).toNat (0 : Int)))]]) rfl eok39 (by decide) (by decide) zf54 rfl (allLen rfl) rfl
      replace hm42 : My H34 H39 (some ⟨b38, 0, none⟩) 1 4 ([(⟨i, 1, 2, (strOfNums (List.replicate (size).toNat (0 : Int)))⟩ : Entry)].map Entry.cells) := hm42
      refine st_op (he40 _ _ _ _ _ _ _ _ rfl) rfl rfl rfl ?_
      have hx43 : Ext H34 H39 := Ext.new (by omega) H39n_ f41
      have H39n : H34.next ≤ H39.next := hx43.1
      have hx45 : Ext Hl26 H39 := (Ext.trans hx37 hx43)
      have h44 := My.ext hm29 hx45
      obtain ⟨A46, c47, H48, W49, he50, hm51, hf52⟩ := mem_append (f := Entry.cells) (old := l) (new := [(⟨i, 1, 2, (strOfNums (List.replicate (size).toNat (0 : Int)))⟩ : Entry)]) (m := l.length) (mx := 1) (c := lc) (by first | rfl | simp) (by first | rfl | simp) eok39 (by decide) hm29 h44 (by omega) (((My.row hm42)).srcF (by decide) (by first | rfl | simp)) rfl Entry.cells_len Entry.cells_one (by first | omega | (simp only [List.length_append, List.length_cons, List.length_nil, List.length_map, List.length_set, List.length_replicate, Spec.bytesOf_length]; omega) | (simp; omega)) (by first | omega | (simp only [List.length_append, List.length_cons, List.length_nil, List.length_map, List.length_set, List.length_replicate, Spec.bytesOf_length]; omega) | (simp; omega))
      refine st_op (he50 _ _ _ _ _ _ _ _ _ _ rfl rfl isrow39) rfl rfl rfl ?_
      have H48n : H39.next ≤ H48.next := hf52.1
      refine st_op (ev_assign rfl) rfl rfl rfl ?_
      refine aw_reg ?_
      refine st_op (ev_move rfl) rfl rfl rfl ?_
      refine st_op (ev_int64 (c := i + 1) rfl rfl rfl (by omega) (by omega)) rfl rfl rfl ?_
      refine st_op (ev_assign rfl) rfl rfl rfl ?_
      have hx53 : Ext H18 H48 := (Ext.then (Ext.trans (Ext.trans hxl30 hx37) hx43) hf52 (fun q hq e => by omega))
      refine aw_keep [0, 1, 6, 7, 9, 10] (l' := (.cons 0 (.int .i64 n) (.cons 1 (.int .i64 size) (.cons 6 (.pointer (some ⟨d10, 0, none⟩)) (.cons 7 (.pointer (some ⟨k20, 0, none⟩)) (.cons 9 (.slice A46 ((l ++ [(⟨i, 1, 2, (strOfNums (List.replicate (size).toNat (0 : Int)))⟩ : Entry)]).length) c47) (.cons 10 (.int .i64 (i + 1)) .nil))))))) (by repeat (first | exact Up.done | refine Up.then ?_ | refine Up.inBlock ?_)) rfl ?_
      exact ih31 (i + 1, A46, c47, (l ++ [(⟨i, 1, 2, (strOfNums (List.replicate (size).toNat (0 : Int)))⟩ : Entry)]), H48) ⟨(show (l ++ [(⟨i, 1, 2, (strOfNums (List.replicate (size).toNat (0 : Int)))⟩ : Entry)]) = Spec.laidE dz 1 ((i + 1) - 1).toNat from (by rw [show (i + 1 - 1).toNat = (i - 1).toNat + 1 by omega, Spec.laidE_succ, ← hl, hdz, show (((i - 1).toNat + 1 : Nat) : Int) = i by omega])), (show 1 ≤ (i + 1) ∧ (i + 1) ≤ 31 from ⟨by omega, by omega⟩), (show My H18 H48 A46 c47 4 ((l ++ [(⟨i, 1, 2, (strOfNums (List.replicate (size).toNat (0 : Int)))⟩ : Entry)]).map Entry.cells) from hm51), (show Ext H18 H48 from hx53)⟩ (by simp only; omega)
     ·
      rw [Bool.not_eq_true] at hc32; refine aw_condF hc32 rfl ?_
      have hc32 := of_decide_eq_false hc32
      refine aw_exit ?_
      iterate 2 refine aw_seq ?_
      refine aw_reg ?_
      refine st_op (ev_assign rfl) rfl rfl rfl ?_
      refine aw_block ?_
      have hl0 : l.length = 30 := by omega
      have h56 := KeepR.ext hr22 hxl30
      refine aw_keep [0, 6, 7, 9, 11] (l' := (.cons 0 (.int .i64 n) (.cons 6 (.pointer (some ⟨d10, 0, none⟩)) (.cons 7 (.pointer (some ⟨k20, 0, none⟩)) (.cons 9 (.slice lA l.length lc) (.cons 11 (.int .i64 0) .nil)))))) (by repeat (first | exact Up.done | refine Up.then ?_ | refine Up.inBlock ?_)) rfl ?_
      refine aw_iter (α := Int × (Option FileS) × Int × (Nat → Prop) × List Entry × Heap) (fun a => (n - a.1).toNat) (fun a => (.cons 0 (.int .i64 n) (.cons 6 (.pointer (some ⟨d10, 0, none⟩)) (.cons 7 (.pointer (some ⟨k20, 0, none⟩)) (.cons 9 (.slice lA l.length lc) (.cons 11 (.int .i64 a.1) .nil)))))) (fun a => a.2.2.2.2.2) (fun a => (a.1 ≤ n) ∧ (a.2.2.1 ≤ 4 * a.1) ∧ (a.2.2.2.2.1 = Spec.laidE dz (if a.1 = 0 then 1 else a.1) 30) ∧ ((a.1 = 0 ∧ a.2.1 = none) ∨ (a.1 ≠ 0 ∧ ∃ f, a.2.1 = some f)) ∧ (0 ≤ a.1 ∧ a.1 ≤ 60) ∧ (KeepR a.2.2.2.1 a.2.2.2.2.2 k20 d10 (Spec.laidS dz a.1.toNat) a.2.1 a.2.2.1) ∧ (Spec.GoodK (Spec.laidS dz a.1.toNat) a.2.1) ∧ (∀ q, a.2.2.2.1 q → K21 q ∨ (Hl26.next ≤ q ∧ q < a.2.2.2.2.2.next)) ∧ (My H18 a.2.2.2.2.2 lA lc 4 (a.2.2.2.2.1.map Entry.cells)) ∧ (Fr (fun q => (H18.next ≤ q ∧ q < Hl26.next ∧ ZB Hl26 q 4) ∨ (K21 q ∧ Z01 Hl26 q)) Hl26 a.2.2.2.2.2)) ((0 : Int), none, 0, K21, l, Hl26) ⟨(show (0 : Int) ≤ n from (by omega)), (show 0 ≤ 4 * (0 : Int) from (by omega)), (show l = Spec.laidE dz (if (0 : Int) = 0 then 1 else (0 : Int)) 30 from (by rw [hl, show (i - 1).toNat = 30 by omega]; rfl)), (show ((0 : Int) = 0 ∧ none = none) ∨ ((0 : Int) ≠ 0 ∧ ∃ f, none = some f) from (.inl ⟨rfl, rfl⟩)), (show 0 ≤ (0 : Int) ∧ (0 : Int) ≤ 60 from ⟨by omega, by omega⟩), (show KeepR K21 Hl26 k20 d10 (Spec.laidS dz (0 : Int).toNat) none 0 from h56), (show Spec.GoodK (Spec.laidS dz (0 : Int).toNat) none from Spec.good0), (show ∀ q, K21 q → K21 q ∨ (Hl26.next ≤ q ∧ q < Hl26.next) from (fun q e => .inl e)), (show My H18 Hl26 lA lc 4 (l.map Entry.cells) from hm29), (show Fr (fun q => (H18.next ≤ q ∧ q < Hl26.next ∧ ZB Hl26 q 4) ∨ (K21 q ∧ Z01 Hl26 q)) Hl26 Hl26 from (Fr.refl _ Hl26))⟩ ?_
      rintro ⟨m, oq, kq, K2, l2, Hl54⟩ ⟨hmn, hk, hl2, ho, hn55, hr57, hg59, hD58, hm60, hxl61⟩ ih62
      replace hmn : m ≤ n := hmn
      replace hk : kq ≤ 4 * m := hk
      replace hl2 : l2 = Spec.laidE dz (if m = 0 then 1 else m) 30 := hl2
      replace ho : (m = 0 ∧ oq = none) ∨ (m ≠ 0 ∧ ∃ f, oq = some f) := ho
      replace hn55 : 0 ≤ m ∧ m ≤ 60 := hn55
      replace hr57 : KeepR K2 Hl54 k20 d10 (Spec.laidS dz m.toNat) oq kq := hr57
      replace hg59 : Spec.GoodK (Spec.laidS dz m.toNat) oq := hg59
      replace hD58 : ∀ q, K2 q → K21 q ∨ (Hl26.next ≤ q ∧ q < Hl54.next) := hD58
      replace hm60 : My H18 Hl54 lA lc 4 (l2.map Entry.cells) := hm60
      replace hxl61 : Fr (fun q => (H18.next ≤ q ∧ q < Hl26.next ∧ ZB Hl26 q 4) ∨ (K21 q ∧ Z01 Hl26 q)) Hl26 Hl54 := hxl61
      show aw _ _ _ (RL _ (.cons 0 (.int .i64 n) (.cons 6 (.pointer (some ⟨d10, 0, none⟩)) (.cons 7 (.pointer (some ⟨k20, 0, none⟩)) (.cons 9 (.slice lA l.length lc) (.cons 11 (.int .i64 m) .nil)))))) Hl54 _
      have Hl54n : Hl26.next ≤ Hl54.next := hxl61.1
      have hD63 := fun q e => (hD58 q e).imp (hD25 q) id
      have hl29 : l2.length = 30 := by rw [hl2, Spec.laidE_len]
      iterate 2 refine aw_seq ?_
      refine aw_reg ?_
      iterate 2 refine st_op (ev_move rfl) rfl rfl rfl ?_
      refine st_op (ev_int rfl rfl rfl) rfl rfl rfl ?_
      by_cases hc64 : (decide (m < n)) = true
      ·
       refine aw_condT hc64 rfl ?_
       have hc64 := of_decide_eq_true hc64
       refine aw_skip ?_
       refine aw_seq ?_
       refine aw_block ?_
       iterate 2 refine aw_seq ?_
       refine aw_reg ?_
       refine st_op (ev_assign rfl) rfl rfl rfl ?_
       refine aw_block ?_
       refine aw_keep [0, 6, 7, 9, 11, 12] (l' := (.cons 0 (.int .i64 n) (.cons 6 (.pointer (some ⟨d10, 0, none⟩)) (.cons 7 (.pointer (some ⟨k20, 0, none⟩)) (.cons 9 (.slice lA l.length lc) (.cons 11 (.int .i64 m) (.cons 12 (.int .i64 0) .nil))))))) (by repeat (first | exact Up.done | refine Up.then ?_ | refine Up.inBlock ?_)) rfl ?_
       refine aw_iter (α := Nat × List Entry × Heap) (fun a => 30 - a.1) (fun a => (.cons 0 (.int .i64 n) (.cons 6 (.pointer (some ⟨d10, 0, none⟩)) (.cons 7 (.pointer (some ⟨k20, 0, none⟩)) (.cons 9 (.slice lA l.length lc) (.cons 11 (.int .i64 m) (.cons 12 (.int .i64 (a.1 : Int)) .nil))))))) (fun a => a.2.2) (fun a => (a.1 ≤ 30) ∧ (a.2.1.length = 30) ∧ (a.2.1 = Spec.laidJ dz (if m = 0 then 1 else m) (m + 1) a.1) ∧ (My H18 a.2.2 lA lc 4 (a.2.1.map Entry.cells)) ∧ (Fr (fun q => (H18.next ≤ q ∧ q < Hl26.next ∧ ZB Hl54 q 4)) Hl54 a.2.2)) (0, l2, Hl54) ⟨(show 0 ≤ 30 from (by decide)), (show l2.length = 30 from hl29), (show l2 = Spec.laidJ dz (if m = 0 then 1 else m) (m + 1) 0 from hl2), (show My H18 Hl54 lA lc 4 (l2.map Entry.cells) from hm60), (show Fr (fun q => (H18.next ≤ q ∧ q < Hl26.next ∧ ZB Hl54 q 4)) Hl54 Hl54 from (Fr.refl _ Hl54))⟩ ?_
       rintro ⟨j, l3, Hl65⟩ ⟨hj, hl39, hl3, hm66, hxl67⟩ ih68
       replace hj : j ≤ 30 := hj
       replace hl39 : l3.length = 30 := hl39
       replace hl3 : l3 = Spec.laidJ dz (if m = 0 then 1 else m) (m + 1) j := hl3
       replace hm66 : My H18 Hl65 lA lc 4 (l3.map Entry.cells) := hm66
       replace hxl67 : Fr (fun q => (H18.next ≤ q ∧ q < Hl26.next ∧ ZB Hl54 q 4)) Hl54 Hl65 := hxl67
       show aw _ _ _ (RL _ (.cons 0 (.int .i64 n) (.cons 6 (.pointer (some ⟨d10, 0, none⟩)) (.cons 7 (.pointer (some ⟨k20, 0, none⟩)) (.cons 9 (.slice lA l.length lc) (.cons 11 (.int .i64 m) (.cons 12 (.int .i64 (j : Int)) .nil))))))) Hl65 _
       have Hl65n : Hl54.next ≤ Hl65.next := hxl67.1
       iterate 2 refine aw_seq ?_
       refine aw_reg ?_
       iterate 2 refine st_op (ev_move rfl) rfl rfl rfl ?_
       refine st_op (ev_lenSl rfl Try.underlying39) rfl rfl rfl ?_
       refine st_op (ev_int rfl rfl rfl) rfl rfl rfl ?_
       by_cases hc69 : (decide ((j : Int) < (l.length : Int))) = true
       ·
        refine aw_condT hc69 rfl ?_
        have hc69 := of_decide_eq_true hc69
        refine aw_skip ?_
        refine aw_seq ?_
        refine aw_block ?_
        refine aw_reg ?_
        iterate 3 refine st_op (ev_move rfl) rfl rfl rfl ?_
        refine st_op (ev_int64 (c := m + 1) rfl rfl rfl (by omega) (by omega)) rfl rfl rfl ?_
        have hi70 : 0 ≤ ((j : Int) : Int) := by omega
        have hi71 : ((j : Int) : Int) < ((l.length : Nat) : Int) := by omega
        obtain ⟨x72, hx73⟩ : ∃ e, l3[j]? = some e := ⟨_, List.getElem?_eq_getElem (by omega)⟩
        refine st_op (ev_at rfl rfl (My.row hm66) (getMap Entry.cells hx73) (by first | rfl | omega | simp) hi70 hi71 el39) rfl rfl rfl ?_
        refine st_op (ev_atF rfl (My.row hm66) (getMap Entry.cells hx73) fa54_1 rfl) rfl rfl rfl ?_
        have hk74 := My.keepOld hm29 hm66
        obtain ⟨H75, W76, he77, hm78, hf79, H75n_⟩ := mem_storeAt (v := .int .i64 (m + 1)) size2 rfl rfl hk74 hm66 (getMap Entry.cells hx73) (show 1 < 4 by decide)
        rw [show (Entry.cells x72).set 1 (.int .i64 (m + 1)) = Entry.cells (⟨x72.index, m + 1, x72.kind, x72.data⟩ : Entry) from rfl, ← List.map_set] at hm78
        replace hf79 : Fr (fun q => H18.next ≤ q ∧ q < Hl26.next ∧ ZB Hl65 q 4) Hl65 H75 := hf79
        refine st_op0 (he77 _ _ _ _ _ _ _ _ _ rfl rfl) rfl rfl ?_
        have H75n : Hl65.next ≤ H75.next := hf79.1
        refine aw_reg ?_
        refine st_op (ev_move rfl) rfl rfl rfl ?_
        refine st_op (ev_int64 (c := (j : Int) + 1) rfl rfl rfl (by omega) (by omega)) rfl rfl rfl ?_
        refine st_op (ev_assign rfl) rfl rfl rfl ?_
        refine aw_keep [0, 6, 7, 9, 11, 12] (l' := (.cons 0 (.int .i64 n) (.cons 6 (.pointer (some ⟨d10, 0, none⟩)) (.cons 7 (.pointer (some ⟨k20, 0, none⟩)) (.cons 9 (.slice lA l.length lc) (.cons 11 (.int .i64 m) (.cons 12 (.int .i64 ((j : Int) + 1)) .nil))))))) (by repeat (first | exact Up.done | refine Up.then ?_ | refine Up.inBlock ?_)) rfl ?_
        exact ih68 (j + 1, (l3.set j (⟨x72.index, m + 1, x72.kind, x72.data⟩ : Entry)), H75) ⟨(show (j + 1) ≤ 30 from (by omega)), (show (l3.set j (⟨x72.index, m + 1, x72.kind, x72.data⟩ : Entry)).length = 30 from (by rw [List.length_set]; exact hl39)), (show (l3.set j (⟨x72.index, m + 1, x72.kind, x72.data⟩ : Entry)) = Spec.laidJ dz (if m = 0 then 1 else m) (m + 1) (j + 1) from (by have h9 := Spec.laidJ_set (by omega) (hl3 ▸ hx73); rw [← hl3] at h9; exact h9)), (show My H18 H75 lA lc 4 ((l3.set j (⟨x72.index, m + 1, x72.kind, x72.data⟩ : Entry)).map Entry.cells) from hm78), (show Fr (fun q => (H18.next ≤ q ∧ q < Hl26.next ∧ ZB Hl54 q 4)) Hl54 H75 from (Fr.transG (Fr.transG (Fr.refl (fun q => (H18.next ≤ q ∧ q < Hl26.next ∧ ZB Hl54 q 4)) Hl54) hxl67 (fun q hq hE e => (⟨by omega, by omega, ZB.back hE e.2.2⟩))) hf79 (fun q hq hE e => (⟨by omega, by omega, ZB.back hE e.2.2⟩))))⟩ (by simp only; omega)
       ·
        rw [Bool.not_eq_true] at hc69; refine aw_condF hc69 rfl ?_
        have hc69 := of_decide_eq_false hc69
        refine aw_exit ?_
        have hl9 : l3 = Spec.laidE dz (m + 1) 30 := by rw [hl3, Spec.laidJ_30 _ _ _ (by omega)]
        refine aw_seq ?_
        refine aw_reg ?_
        iterate 2 refine st_op (ev_move rfl) rfl rfl rfl ?_
        refine st_call rfl rfl rfl ent22 rfl rfl rfl ?_
        have h80 := KeepR.fr hr57 hxl67 (fun q hd e => by replace hd := hD63 q hd; omega)
        have hS81 := keepw_Write_spec Hl65 k20 d10 K2 (Spec.laidS dz m.toNat) oq kq h80 (by omega) lA l3 lc (My.row hm66) (My.capF hm66 (by omega)) (by omega) (by rw [hl9]; exact Spec.laid_ents) (Spec.laidS_sd _ _)
        obtain ⟨_, H82, hs83, rfl, K84, k85, hr86, hk87, hb88, hx89⟩ := hS81
        rw [show l3.length = l.length from by omega] at hs83
        have hg90 : Spec.GoodK (Spec.writeS (Spec.laidS dz m.toNat) l3) (Spec.writeO (Spec.laidS dz m.toNat) oq l3) := (Spec.good_write hg59)
        have hz91 := Spec.laid_write (d := dz) (i := m.toNat) (u := m + 1) (by omega) (by omega) hdz2
        have hz92 : (Spec.writeE (Spec.laidS dz m.toNat).si (Spec.laidS dz m.toNat).l l3) = 0 := by rw [hl9]; exact hz91.1
        have hz93 : (Spec.writeS (Spec.laidS dz m.toNat) l3) = (⟨(Spec.laidS dz m.toNat).ht, 0, 0, 0, ⟨#[]⟩, ⟨#[]⟩, Spec.laidE dz (m + 1) 30⟩ : KSt) := (by rw [hl9]; exact hz91.2)
        rw [hz93] at hr86 hg90
        have hz94 : (Spec.writeO (Spec.laidS dz m.toNat) oq l3) = (some (Spec.addO oq (Spec.wholeS (Spec.laidS dz m.toNat)) (Spec.encKs l3))) := Spec.writeO_ok hz92 (by intro q; rw [q] at hl39; exact absurd hl39 (by decide))
        rw [hz94] at hr86 hg90
        have hz95 : (Spec.writeE (Spec.laidS dz m.toNat).si (Spec.laidS dz m.toNat).l l3) = 0 := hz92
        rw [hz95] at hs83
        refine ⟨_, H82, hs83, ?_⟩
        have H82n : Hl65.next ≤ H82.next := hx89.1
        obtain ⟨f96, hf97⟩ : ∃ f_ : FileS, f_ = (Spec.addO oq (Spec.wholeS (Spec.laidS dz m.toNat)) (Spec.encKs l3)) := ⟨_, rfl⟩
        rw [← hf97] at hr86 hg90
        have k85b : k85 ≤ kq + 2 := hk87
        have hD98 := fun q e => (hb88 q e).imp (hD63 q) id
        have hS99 : ∀ q, K84 q → K21 q ∨ (Hl26.next ≤ q ∧ q < H82.next) := fun q e => (hb88 q e).elim (fun e => (hD58 q e).imp id (fun e => by omega)) (fun e => .inr (by omega))
        refine st_op (ev_int rfl rfl rfl) rfl rfl rfl ?_
        iterate 3 refine st_op (ev_move rfl) rfl rfl rfl ?_
        refine st_op (ev_int64 (c := m + 1) rfl rfl rfl (by omega) (by omega)) rfl rfl rfl ?_
        refine st_op (ev_build zero41 pl41 (parts := [(0, .int .i64 (m + 1))]) rfl (cs := [.int .i64 (m + 1), .int .i64 0]) rfl) rfl rfl rfl ?_
        refine st_call rfl rfl rfl ent23 rfl rfl rfl ?_
        have hm109 : Spec.mayF true (m + 1) (0 : Int) 0 0 0 (⟨#[]⟩ : ByteArray) = true := (by rw [Spec.mayH_eq]; exact decide_eq_true ⟨⟨by omega, by omega⟩, by decide⟩)
        have hS100 := keepw_HardOk_spec H82 k20 d10 K84 (⟨(Spec.laidS dz m.toNat).ht, 0, 0, 0, ⟨#[]⟩, ⟨#[]⟩, Spec.laidE dz (m + 1) 30⟩ : KSt) (some f96) k85 hr86 (by omega) (m + 1) (0 : Int) hm109 (show (⟨#[]⟩ : ByteArray).size ≤ 200 by decide)
        obtain ⟨_, H101, hs102, rfl, K103, k104, hr105, hk106, hb107, hx108⟩ := hS100
        have hg110 : Spec.GoodK (Spec.hardS (⟨(Spec.laidS dz m.toNat).ht, 0, 0, 0, ⟨#[]⟩, ⟨#[]⟩, Spec.laidE dz (m + 1) 30⟩ : KSt) (m + 1) (0 : Int)) (some (Spec.addO (some f96) (Spec.wholeS (⟨(Spec.laidS dz m.toNat).ht, 0, 0, 0, ⟨#[]⟩, ⟨#[]⟩, Spec.laidE dz (m + 1) 30⟩ : KSt)) (Spec.encH (m + 1) (0 : Int)))) := (Spec.good_hard hg90 hm109)
        have hz111 : (Spec.hardS (⟨(Spec.laidS dz m.toNat).ht, 0, 0, 0, ⟨#[]⟩, ⟨#[]⟩, Spec.laidE dz (m + 1) 30⟩ : KSt) (m + 1) (0 : Int)) = (Spec.laidS dz (m.toNat + 1)) := Spec.laid_hard (by omega)
        rw [hz111] at hr105 hg110
        refine ⟨_, H101, hs102, ?_⟩
        have H101n : H82.next ≤ H101.next := hx108.1
        obtain ⟨f112, hf113⟩ : ∃ f_ : FileS, f_ = (Spec.addO (some f96) (Spec.wholeS (⟨(Spec.laidS dz m.toNat).ht, 0, 0, 0, ⟨#[]⟩, ⟨#[]⟩, Spec.laidE dz (m + 1) 30⟩ : KSt)) (Spec.encH (m + 1) (0 : Int))) := ⟨_, rfl⟩
        rw [← hf113] at hr105 hg110
        have k104b : k104 ≤ k85 + 2 := hk106
        have hD114 := fun q e => (hb107 q e).imp (hD98 q) id
        have hS115 : ∀ q, K103 q → K21 q ∨ (Hl26.next ≤ q ∧ q < H101.next) := fun q e => (hb107 q e).elim (fun e => (hS99 q e).imp id (fun e => by omega)) (fun e => .inr (by omega))
        refine st_op (ev_int rfl rfl rfl) rfl rfl rfl ?_
        refine st_op (ev_pickF rfl rfl) rfl rfl rfl ?_
        refine aw_cond (t := false) rfl ?_
        refine aw_skip ?_
        refine aw_reg ?_
        refine st_op (ev_move rfl) rfl rfl rfl ?_
        refine st_op (ev_int64 (c := m + 1) rfl rfl rfl (by omega) (by omega)) rfl rfl rfl ?_
        refine st_op (ev_assign rfl) rfl rfl rfl ?_
        have h116 := My.frS hm66 hx89 (fun q hq e => (Z01.ne e.2 (show (4 : Nat) ≠ 0 by decide) (show (4 : Nat) ≠ 1 by decide)))
        have h117 := My.frS h116 hx108 (fun q hq e => (Z01.ne e.2 (show (4 : Nat) ≠ 0 by decide) (show (4 : Nat) ≠ 1 by decide)))
        refine aw_keep [0, 6, 7, 9, 11] (l' := (.cons 0 (.int .i64 n) (.cons 6 (.pointer (some ⟨d10, 0, none⟩)) (.cons 7 (.pointer (some ⟨k20, 0, none⟩)) (.cons 9 (.slice lA l.length lc) (.cons 11 (.int .i64 (m + 1)) .nil)))))) (by repeat (first | exact Up.done | refine Up.then ?_ | refine Up.inBlock ?_)) rfl ?_
        exact ih62 (m + 1, (some f112), k104, K103, l3, H101) ⟨(show (m + 1) ≤ n from (by omega)), (show k104 ≤ 4 * (m + 1) from (by omega)), (show l3 = Spec.laidE dz (if (m + 1) = 0 then 1 else (m + 1)) 30 from (by rw [hl9, if_neg (by omega)])), (show ((m + 1) = 0 ∧ (some f112) = none) ∨ ((m + 1) ≠ 0 ∧ ∃ f, (some f112) = some f) from (.inr ⟨by omega, _, rfl⟩)), (show 0 ≤ (m + 1) ∧ (m + 1) ≤ 60 from ⟨by omega, by omega⟩), (show KeepR K103 H101 k20 d10 (Spec.laidS dz (m + 1).toNat) (some f112) k104 from (by have h9 := hr105; rw [show m.toNat + 1 = (m + 1).toNat by omega] at h9; exact h9)), (show Spec.GoodK (Spec.laidS dz (m + 1).toNat) (some f112) from (by have h9 := hg110; rw [show m.toNat + 1 = (m + 1).toNat by omega] at h9; exact h9)), (show ∀ q, K103 q → K21 q ∨ (Hl26.next ≤ q ∧ q < H101.next) from (fun q e => (hS115 q e).imp id (fun e => by omega))), (show My H18 H101 lA lc 4 (l3.map Entry.cells) from h117), (show Fr (fun q => (H18.next ≤ q ∧ q < Hl26.next ∧ ZB Hl26 q 4) ∨ (K21 q ∧ Z01 Hl26 q)) Hl26 H101 from (Fr.transG (Fr.transG (Fr.transG (Fr.transG (Fr.refl (fun q => (H18.next ≤ q ∧ q < Hl26.next ∧ ZB Hl26 q 4) ∨ (K21 q ∧ Z01 Hl26 q)) Hl26) hxl61 (fun q hq hE e => Or.elim e (fun e => Or.inl (⟨by omega, by omega, ZB.back hE e.2.2⟩)) (fun e => Or.inr ((⟨e.1, Z01.back hE e.2⟩))))) hxl67 (fun q hq hE e => Or.inl (⟨by omega, by omega, ZB.back hE e.2.2⟩))) hx89 (fun q hq hE e => (Or.elim (hD58 q e.1) (fun d => Or.inr ((⟨d, Z01.back hE e.2⟩))) (fun d => absurd hq (by omega))))) hx108 (fun q hq hE e => (Or.elim (hS99 q e.1) (fun d => Or.inr ((⟨d, Z01.back hE e.2⟩))) (fun d => absurd hq (by omega))))))⟩ (by simp only; omega)
      ·
       rw [Bool.not_eq_true] at hc64; refine aw_condF hc64 rfl ?_
       have hc64 := of_decide_eq_false hc64
       refine aw_exit ?_
       iterate 2 refine aw_seq ?_
       refine aw_reg ?_
       refine st_op (ev_move rfl) rfl rfl rfl ?_
       refine st_call rfl rfl rfl ent27 rfl rfl rfl ?_
       rcases ho with ⟨hm0, ho⟩ | ⟨hm0, f9, ho⟩
       ·
        have hr118 := hr57; have hg119 := hg59; rw [ho] at hr118 hg119
        have hS120 := keepw_Sync_spec Hl54 k20 d10 K2 (Spec.laidS dz m.toNat) none kq hr118 (by omega)
        obtain ⟨_, H121, hs122, rfl, K123, k124, hr125, hk126, hb127, hx128⟩ := hS120
        have hg129 : Spec.GoodK (Spec.laidS dz m.toNat) (Spec.syncK none) := (Spec.good_sync hg119)
        have hz130 : (Spec.syncK none) = none := rfl
        rw [hz130] at hr125 hg129
        refine ⟨_, H121, hs122, ?_⟩
        have H121n : Hl54.next ≤ H121.next := hx128.1
        have k124b : k124 ≤ kq + 2 := hk126
        have hD131 := fun q e => (hb127 q e).imp (hD63 q) id
        have hS132 : ∀ q, K123 q → K21 q ∨ (Hl26.next ≤ q ∧ q < H121.next) := fun q e => (hb127 q e).elim (fun e => (hD58 q e).imp id (fun e => by omega)) (fun e => .inr (by omega))
        refine st_op (ev_int rfl rfl rfl) rfl rfl rfl ?_
        refine st_op (ev_move rfl) rfl rfl rfl ?_
        iterate 2 refine st_skip rfl rfl rfl ?_
        refine st_op (ev_pickF rfl rfl) rfl rfl rfl ?_
        refine aw_cond (t := false) rfl ?_
        refine aw_skip ?_
        refine aw_seq ?_
        refine aw_reg ?_
        refine st_op (ev_move rfl) rfl rfl rfl ?_
        refine st_call rfl rfl rfl ent14 rfl rfl rfl ?_
        obtain ⟨D133, mb134, ps135, hr136⟩ := KeepR.disk hr125
        have hS137 := disk_CrashR_spec H121 d10 mb134 D133 (Spec.filesO none) ps135 k124 hr136 (by omega) (Spec.filesO_len _) 0
        rw [Spec.crash_none] at hS137
        obtain ⟨_, H138, hs139, p140, D141, rfl, ⟨mb142, ps143, hr144⟩, hD145, hx146⟩ := hS137
        refine ⟨_, H138, hs139, ?_⟩
        have H138n : H121.next ≤ H138.next := hx146.1
        refine st_call rfl rfl rfl ent19 rfl rfl rfl ?_
        obtain ⟨_, H147, hs148, k149, K150, rfl, hr151, hb152, hx153⟩ := keepw_OpenN_spec H138 p140 D141 0 ⟨_, _, hr144⟩ (by omega)
        refine ⟨_, H147, hs148, ?_⟩
        have H147n : H138.next ≤ H147.next := hx153.1
        have hD154 := fun q e => (hb152 q e).imp (hD145 q) id
        have k149b := hD154 _ hr151.kk
        refine st_op (ev_move rfl) rfl rfl rfl ?_
        iterate 2 refine st_op (ev_extract rfl rfl) rfl rfl rfl ?_
        iterate 2 refine st_op (ev_assign rfl) rfl rfl rfl ?_
        iterate 2 refine aw_seq ?_
        refine aw_reg ?_
        refine st_op (ev_move rfl) rfl rfl rfl ?_
        refine st_op (ev_int rfl rfl rfl) rfl rfl rfl ?_
        refine aw_cond (t := false) rfl ?_
        refine aw_skip ?_
        refine aw_seq ?_
        refine aw_reg ?_
        refine st_op (ev_move rfl) rfl rfl rfl ?_
        refine st_call rfl rfl rfl ent26 rfl rfl rfl ?_
        obtain ⟨_, H155, hs156, A157, c158, rfl, hm159, hx160⟩ := keepw_State_spec H147 k149 p140 K150 Spec.KSt0 none 0 hr151 (by omega)
        refine ⟨_, H155, hs156, ?_⟩
        have H155n : H147.next ≤ H155.next := hx160.1
        obtain ⟨b161, H162, he163, b161e, H162n_, hB165, f164⟩ := mem_alloc H155 zero61
        refine st_op (he163 _ _ _ _ _ _ _) rfl rfl rfl ?_
        have hx166 : Ext H155 H162 := Ext.new (by omega) H162n_ f164
        have H162n : H155.next ≤ H162.next := hx166.1
        obtain ⟨H167, he168, H167n_, hB169, f170⟩ := mem_store (v := .agg #[.int .i64 Spec.KSt0.ht, .int .i64 Spec.KSt0.hv, .int .i64 Spec.KSt0.si, .int .i64 Spec.KSt0.st, .string Spec.KSt0.sc, .string Spec.KSt0.sd, .slice A157 Spec.KSt0.l.length c158]) (o := 0) (cs' := [.int .i64 Spec.KSt0.ht, .int .i64 Spec.KSt0.hv, .int .i64 Spec.KSt0.si, .int .i64 Spec.KSt0.st, .string Spec.KSt0.sc, .string Spec.KSt0.sd, .slice A157 Spec.KSt0.l.length c158]) 7 rfl rfl size61 hB165 rfl rfl rfl
        refine st_op0 (he168 _ _ _ _ _ _ _ _ _ rfl rfl) rfl rfl ?_
        have hf171 : Fr (fun q => q = b161) H162 H167 := Fr.write H167n_ f170
        have H167n : H162.next ≤ H167.next := hf171.1
        iterate 2 refine aw_seq ?_
        refine aw_reg ?_
        refine st_op (ev_move rfl) rfl rfl rfl ?_
        refine st_op (ev_int rfl rfl rfl) rfl rfl rfl ?_
        by_cases hc172 : (n == 0) = true
        ·
         refine aw_condT hc172 rfl ?_
         have hc172 := eq_of_beq hc172
         refine aw_seq ?_
         refine aw_reg ?_
         refine st_op (ev_fieldAddr rfl fa61_2 (o' := 6) rfl) rfl rfl rfl ?_
         refine st_op (ev_load rfl (lvar_one one39 hB169 rfl)) rfl rfl rfl ?_
         refine st_op (ev_lenSl rfl Try.underlying39) rfl rfl rfl ?_
         refine st_op (ev_int rfl rfl rfl) rfl rfl rfl ?_
         refine st_op (ev_assign rfl) rfl rfl rfl ?_
         refine aw_ret ?_
         have hx173 : Ext H H167 := (Ext.then (Ext.trans (Ext.trans (Ext.trans (Ext.trans (Ext.then (Ext.then (Ext.trans (Ext.trans (Ext.trans hx3 hx14) hx24) hxl30) hxl61 (fun q hq e => by rcases e with e | e <;> (first | omega | (replace e := hD25 _ e.1; omega)))) hx128 (fun q hq e => by (first | omega | (replace e := hD63 _ e.1; omega)))) hx146) hx153) hx160) hx166) hf171 (fun q hq e => by omega))
         have hres : true = ((Spec.KSt0.l.length : Int) == 0) := by rfl
         exact ⟨.bool ((Spec.KSt0.l.length : Int) == 0), rfl, by first | (rw [hres]; done) | rw [← hres], hx173⟩
        ·
         rw [Bool.not_eq_true] at hc172; refine aw_condF hc172 rfl ?_
         have hc172 := ne_of_beq_false hc172
         exfalso; omega
       ·
        have hr174 := hr57; have hg175 := hg59; rw [ho] at hr174 hg175
        have hS176 := keepw_Sync_spec Hl54 k20 d10 K2 (Spec.laidS dz m.toNat) (some f9) kq hr174 (by omega)
        obtain ⟨_, H177, hs178, rfl, K179, k180, hr181, hk182, hb183, hx184⟩ := hS176
        have hg185 : Spec.GoodK (Spec.laidS dz m.toNat) (Spec.syncK (some f9)) := (Spec.good_sync hg175)
        have hz186 : (Spec.syncK (some f9)) = (some ⟨f9.b, (f9.b.length : Int), true⟩) := Spec.syncK_some hg175
        rw [hz186] at hr181 hg185
        refine ⟨_, H177, hs178, ?_⟩
        have H177n : Hl54.next ≤ H177.next := hx184.1
        obtain ⟨f187, hf188⟩ : ∃ f_ : FileS, f_ = ⟨f9.b, (f9.b.length : Int), true⟩ := ⟨_, rfl⟩
        rw [← hf188] at hr181 hg185
        have k180b : k180 ≤ kq + 2 := hk182
        have hD189 := fun q e => (hb183 q e).imp (hD63 q) id
        have hS190 : ∀ q, K179 q → K21 q ∨ (Hl26.next ≤ q ∧ q < H177.next) := fun q e => (hb183 q e).elim (fun e => (hD58 q e).imp id (fun e => by omega)) (fun e => .inr (by omega))
        refine st_op (ev_int rfl rfl rfl) rfl rfl rfl ?_
        refine st_op (ev_move rfl) rfl rfl rfl ?_
        iterate 2 refine st_skip rfl rfl rfl ?_
        refine st_op (ev_pickF rfl rfl) rfl rfl rfl ?_
        refine aw_cond (t := false) rfl ?_
        refine aw_skip ?_
        refine aw_seq ?_
        refine aw_reg ?_
        refine st_op (ev_move rfl) rfl rfl rfl ?_
        refine st_call rfl rfl rfl ent14 rfl rfl rfl ?_
        obtain ⟨D191, mb192, ps193, hr194⟩ := KeepR.disk hr181
        have hS195 := disk_CrashR_spec H177 d10 mb192 D191 (Spec.filesO (some f187)) ps193 k180 hr194 (by omega) (Spec.filesO_len _) 0
        have hc205 : ∀ n, Spec.crashF (Spec.filesO (some f187)) n = Spec.filesO (some f187) := fun n => by rw [hf188]; exact Spec.crash_synced
        rw [hc205 0] at hS195
        obtain ⟨_, H196, hs197, p198, D199, rfl, ⟨mb200, ps201, hr202⟩, hD203, hx204⟩ := hS195
        refine ⟨_, H196, hs197, ?_⟩
        have H196n : H177.next ≤ H196.next := hx204.1
        refine st_call rfl rfl rfl ent19 rfl rfl rfl ?_
        have ho215 := Spec.open_good hg185
        obtain ⟨_, H206, hs207, k208, K209, k210, rfl, hr211, hk212, hb213, hx214⟩ := keepw_OpenY_spec H196 p198 D199 f187 0 ⟨_, _, hr202⟩ (by omega) ho215.1
        rw [ho215.2.1, ho215.2.2] at hr211
        refine ⟨_, H206, hs207, ?_⟩
        have H206n : H196.next ≤ H206.next := hx214.1
        have k210b : k210 ≤ 0 + 1 := hk212
        have hD216 := fun q e => (hb213 q e).imp (hD203 q) id
        have k208b := hD216 _ hr211.kk
        refine st_op (ev_move rfl) rfl rfl rfl ?_
        iterate 2 refine st_op (ev_extract rfl rfl) rfl rfl rfl ?_
        iterate 2 refine st_op (ev_assign rfl) rfl rfl rfl ?_
        iterate 2 refine aw_seq ?_
        refine aw_reg ?_
        refine st_op (ev_move rfl) rfl rfl rfl ?_
        refine st_op (ev_int rfl rfl rfl) rfl rfl rfl ?_
        refine aw_cond (t := false) rfl ?_
        refine aw_skip ?_
        refine aw_seq ?_
        refine aw_reg ?_
        refine st_op (ev_move rfl) rfl rfl rfl ?_
        refine st_call rfl rfl rfl ent26 rfl rfl rfl ?_
        obtain ⟨_, H217, hs218, A219, c220, rfl, hm221, hx222⟩ := keepw_State_spec H206 k208 p198 K209 (Spec.laidS dz m.toNat) (some f187) k210 hr211 (by omega)
        refine ⟨_, H217, hs218, ?_⟩
        have H217n : H206.next ≤ H217.next := hx222.1
        have hS9 : Spec.laidS dz m.toNat = ⟨(m.toNat : Int), 0, 0, 0, ⟨#[]⟩, ⟨#[]⟩, Spec.laidE dz m 30⟩ := by rw [Spec.laidS_pos (by omega)]; congr 2; omega
        have hlE := Spec.laidE_len dz m 30
        rw [show (Spec.laidS dz m.toNat).l = (Spec.laidE dz m 30) from (by rw [hS9])] at hm221 ⊢
        obtain ⟨b223, H224, he225, b223e, H224n_, hB227, f226⟩ := mem_alloc H217 zero61
        refine st_op (he225 _ _ _ _ _ _ _) rfl rfl rfl ?_
        have hx228 : Ext H217 H224 := Ext.new (by omega) H224n_ f226
        have H224n : H217.next ≤ H224.next := hx228.1
        obtain ⟨H229, he230, H229n_, hB231, f232⟩ := mem_store (v := .agg #[.int .i64 ((Spec.laidS dz m.toNat).ht), .int .i64 ((Spec.laidS dz m.toNat).hv), .int .i64 ((Spec.laidS dz m.toNat).si), .int .i64 ((Spec.laidS dz m.toNat).st), .string ((Spec.laidS dz m.toNat).sc), .string ((Spec.laidS dz m.toNat).sd), .slice A219 ((Spec.laidE dz m 30).length) c220]) (o := 0) (cs' := [.int .i64 ((Spec.laidS dz m.toNat).ht), .int .i64 ((Spec.laidS dz m.toNat).hv), .int .i64 ((Spec.laidS dz m.toNat).si), .int .i64 ((Spec.laidS dz m.toNat).st), .string ((Spec.laidS dz m.toNat).sc), .string ((Spec.laidS dz m.toNat).sd), .slice A219 ((Spec.laidE dz m 30).length) c220]) 7 rfl rfl size61 hB227 rfl rfl rfl
        refine st_op0 (he230 _ _ _ _ _ _ _ _ _ rfl rfl) rfl rfl ?_
        have hf233 : Fr (fun q => q = b223) H224 H229 := Fr.write H229n_ f232
        have H229n : H224.next ≤ H229.next := hf233.1
        iterate 2 refine aw_seq ?_
        refine aw_reg ?_
        refine st_op (ev_move rfl) rfl rfl rfl ?_
        refine st_op (ev_int rfl rfl rfl) rfl rfl rfl ?_
        by_cases hc234 : (n == 0) = true
        ·
         refine aw_condT hc234 rfl ?_
         have hc234 := eq_of_beq hc234
         exfalso; omega
        ·
         rw [Bool.not_eq_true] at hc234; refine aw_condF hc234 rfl ?_
         have hc234 := ne_of_beq_false hc234
         refine aw_skip ?_
         refine aw_seq ?_
         refine aw_reg ?_
         refine st_op (ev_fieldAddr rfl fa61_0 (o' := 0) rfl) rfl rfl rfl ?_
         refine st_op (ev_fieldAddr rfl fa41_0 (o' := 0) rfl) rfl rfl rfl ?_
         refine st_op (ev_load rfl (lvar_one one2 hB231 rfl)) rfl rfl rfl ?_
         refine st_op (ev_move rfl) rfl rfl rfl ?_
         refine st_op (ev_int rfl rfl rfl) rfl rfl rfl ?_
         refine st_op (ev_move rfl) rfl rfl rfl ?_
         refine st_bool 109 rfl (fun hb235 => ?_) (fun hb235 => ?_)
         ·
          have hb235 := eq_of_beq hb235
          refine st_op (ev_fieldAddr rfl fa61_2 (o' := 6) rfl) rfl rfl rfl ?_
          refine st_op (ev_load rfl (lvar_one one39 hB231 rfl)) rfl rfl rfl ?_
          refine st_op (ev_move rfl) rfl rfl rfl ?_
          refine st_call rfl rfl rfl ent28 rfl rfl rfl ?_
          have hx237 : Ext H217 H229 := (Ext.then hx228 hf233 (fun q hq e => by omega))
          have h236 := My.ext hm221 hx237
          have h238 := My.frS hm60 hx184 (fun q hq e => (Z01.ne e.2 (show (4 : Nat) ≠ 0 by decide) (show (4 : Nat) ≠ 1 by decide)))
          have hx240 : Ext H177 H229 := (Ext.then (Ext.trans (Ext.trans (Ext.then hx204 hx214 (fun q hq e => by (first | omega | (replace e := hD203 _ e.1; omega)))) hx222) hx228) hf233 (fun q hq e => by omega))
          have h239 := My.ext h238 hx240
          obtain ⟨_, H242, hs241, hs241v, hx243⟩ := ref17_EqEntries_spec H229 A219 (Spec.laidE dz m 30) c220 (My.row h236) (My.capF h236 (by first | omega | (simp only [List.length_append, List.length_cons, List.length_nil, List.length_map, List.length_set, List.length_replicate, Spec.bytesOf_length]; omega) | (simp; omega))) (by first | omega | (simp only [List.length_append, List.length_cons, List.length_nil, List.length_map, List.length_set, List.length_replicate, Spec.bytesOf_length]; omega) | (simp; omega)) lA l2 lc (My.row h239) (My.capF h239 (by first | omega | (simp only [List.length_append, List.length_cons, List.length_nil, List.length_map, List.length_set, List.length_replicate, Spec.bytesOf_length]; omega) | (simp; omega))) (by first | omega | (simp only [List.length_append, List.length_cons, List.length_nil, List.length_map, List.length_set, List.length_replicate, Spec.bytesOf_length]; omega) | (simp; omega))
          rw [hs241v] at hs241; clear hs241v
          rw [show l2.length = l.length from by first | rfl | (simp; done) | omega] at hs241
          refine ⟨_, H242, hs241, ?_⟩
          have H242n : H229.next ≤ H242.next := hx243.1
          refine st_op (ev_pickT rfl rfl) rfl rfl rfl ?_
          refine st_op (ev_assign rfl) rfl rfl rfl ?_
          refine aw_ret ?_
          have hx244 : Ext H H242 := (Ext.trans (Ext.then (Ext.trans (Ext.trans (Ext.then (Ext.trans (Ext.then (Ext.then (Ext.trans (Ext.trans (Ext.trans hx3 hx14) hx24) hxl30) hxl61 (fun q hq e => by rcases e with e | e <;> (first | omega | (replace e := hD25 _ e.1; omega)))) hx184 (fun q hq e => by (first | omega | (replace e := hD63 _ e.1; omega)))) hx204) hx214 (fun q hq e => by (first | omega | (replace e := hD203 _ e.1; omega)))) hx222) hx228) hf233 (fun q hq e => by omega)) hx243)
          have hres : true = (Spec.eqEs (Spec.laidE dz m 30) l2) := by rw [hl2, if_neg hm0, Spec.eqEs_self]
          exact ⟨.bool (Spec.eqEs (Spec.laidE dz m 30) l2), rfl, by first | (rw [hres]; done) | rw [← hres], hx244⟩
         ·
          have hb235 := ne_of_beq_false hb235
          exact absurd (by rw [hS9]; show (m.toNat : Int) = n; omega) hb235

end Go.AM
