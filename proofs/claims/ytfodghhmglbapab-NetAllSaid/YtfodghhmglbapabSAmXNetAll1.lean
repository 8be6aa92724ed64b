/- Part of a machine of its own for this claim: the program's code over memory without draws. -/
import Derived.Test.YtfodghhmglbapabSAmXNetB2
set_option linter.unusedVariables false
set_option linter.unusedSimpArgs false
set_option linter.unnecessarySimpa false
set_option linter.unusedVariables false
set_option linter.unusedSimpArgs false
set_option linter.unnecessarySimpa false
namespace Go.AM
open Go Go.Proofs
theorem el53 : elemIs Try.prog 53 15 = true := by kernel_rfl
theorem ent22 : enters Try.prog 22 = true := by kernel_rfl
theorem ent24 : enters Try.prog 24 = true := by kernel_rfl
theorem ent25 : enters Try.prog 25 = true := by kernel_rfl
theorem ent28 : enters Try.prog 28 = true := by kernel_rfl
theorem ent29 : enters Try.prog 29 = true := by kernel_rfl
theorem ent30 : enters Try.prog 30 = true := by kernel_rfl
theorem ent31 : enters Try.prog 31 = true := by kernel_rfl
theorem ent32 : enters Try.prog 32 = true := by kernel_rfl
theorem fa57_0 : fieldIs Try.prog 57 0 0 = true := by kernel_rfl
theorem fa57_1 : fieldIs Try.prog 57 1 1 = true := by kernel_rfl
theorem fa57_2 : fieldIs Try.prog 57 2 2 = true := by kernel_rfl
theorem many57 : manyB Try.prog 57 15 = true := by kernel_rfl
theorem size57 : sizeIs Try.prog 57 15 = true := by kernel_rfl
theorem zero57 : ZeroIs Try.prog 57 [.int .i64 0, .int .i64 0, .int .i64 0, .int .i64 0, .int .i64 0, .int .i64 0, .int .i64 0, .int .i64 0, .int .i64 0, .bool false, .slice none 0 0, .int .i64 0, .int .i64 0, .string (⟨#[]⟩), .string (⟨#[]⟩)] := ⟨.agg #[.int .i64 0, .int .i64 0, .int .i64 0, .int .i64 0, .int .i64 0, .int .i64 0, .int .i64 0, .int .i64 0, .int .i64 0, .bool false, .slice none 0 0, .int .i64 0, .int .i64 0, .string (⟨#[]⟩), .string (⟨#[]⟩)], by kernel_rfl, rfl, rfl, rfl⟩
set_option maxHeartbeats 6400000 in
theorem law_NetAll_spec (H : Heap) (opsA : Option Addr) (ops : List OpN) (opsc : Nat) (hops : Row H opsA opsc 15 (ops.map OpN.cells)) (cops : ops.length ≤ opsc) (lops : ops.length ≤ 140737488355328) (eops : EachR OpN.sub H ops) : ∃ v H', Spec Try.prog 7 [.slice opsA ops.length opsc] H v H' ∧ ((v = .bool true) ∧ (Ext H H')) := by
 refine spec_go1 E0_ok 223 (f := 7) Try.func7 rfl rfl rfl ?_
 refine aw_seq ?_
 refine aw_reg ?_
 refine st_op (ev_assign rfl) rfl rfl rfl ?_
 try show aw _ _ _ _ _ _
 refine aw_seq ?_
 refine aw_reg ?_
 refine st_call rfl rfl rfl ent24 rfl rfl rfl ?_
 obtain ⟨_, H2, hs1, hs1v, hx3⟩ := law25_begun_spec H 
 rw [hs1v] at hs1; clear hs1v
 rw [hx3] at hs1; clear hx3
 refine ⟨_, H, hs1, ?_⟩
 refine st_op (ev_assign rfl) rfl rfl rfl ?_
 try show aw _ _ _ _ _ _
 iterate 2 refine aw_seq ?_
 refine aw_reg ?_
 refine st_op (ev_move rfl) rfl rfl rfl ?_
 refine st_op (ev_not rfl) rfl rfl rfl ?_
 try show aw _ _ _ _ _ _
 refine aw_cond (t := false) rfl ?_
 try show aw _ _ _ _ _ _
 refine aw_skip ?_
 try show aw _ _ _ _ _ _
 refine aw_seq ?_
 refine aw_reg ?_
 refine st_call rfl rfl rfl ent29 rfl rfl rfl ?_
 obtain ⟨_, H5, hs4, b7, hs4v, b7l, b7h, b7B, hx6⟩ := net_New_spec H 
 rw [hs4v] at hs4; clear hs4v
 refine ⟨_, H5, hs4, ?_⟩
 have H5n : H.next ≤ H5.next := hx6.1
 refine st_op (ev_assign rfl) rfl rfl rfl ?_
 try show aw _ _ _ _ _ _
 refine aw_seq ?_
 refine aw_reg ?_
 refine st_op (ev_assign rfl) rfl rfl rfl ?_
 try show aw _ _ _ _ _ _
 iterate 2 refine aw_seq ?_
 refine aw_reg ?_
 refine st_op (ev_assign rfl) rfl rfl rfl ?_
 try show aw _ _ _ _ _ _
 refine aw_block ?_
 have hm9 : My H5 H5 none 0 13 (([] : List MsgC).map MsgC.cells) := .nil
 have hm12 : My H5 H5 none 0 13 (([] : List MsgC).map MsgC.cells) := .nil
 refine aw_keep [0, 4, 5, 6] (l' := (.cons 0 (.slice opsA ops.length opsc) (.cons 4 (.pointer (some ⟨b7, 0, none⟩)) (.cons 5 (.slice none 0 0) (.cons 6 (.int .i64 0) .nil))))) (by repeat (first | exact Up.done | refine Up.then ?_ | refine Up.inBlock ?_)) rfl ?_
 refine aw_iter (α := Nat × Option Addr × Nat × List MsgC × Option Addr × Nat × List MsgC × Heap) (fun a => 60 - a.1) (fun a => (.cons 0 (.slice opsA ops.length opsc) (.cons 4 (.pointer (some ⟨b7, 0, none⟩)) (.cons 5 (.slice a.2.1 a.2.2.2.1.length a.2.2.1) (.cons 6 (.int .i64 (a.1 : Int)) .nil))))) (fun a => a.2.2.2.2.2.2.2) (fun a => (a.1 ≤ ops.length) ∧ (a.1 ≤ 60) ∧ (Spec.NetRel a.2.2.2.2.2.2.1 a.2.2.2.1) ∧ (a.2.2.2.1.length ≤ a.1) ∧ (My H5 a.2.2.2.2.2.2.2 a.2.1 a.2.2.1 13 (a.2.2.2.1.map MsgC.cells)) ∧ (Each MsgC.sub H5 a.2.2.2.2.2.2.2 a.2.2.2.1) ∧ (My H5 a.2.2.2.2.2.2.2 a.2.2.2.2.1 a.2.2.2.2.2.1 13 (a.2.2.2.2.2.2.1.map MsgC.cells)) ∧ (Each MsgC.sub H5 a.2.2.2.2.2.2.2 a.2.2.2.2.2.2.1) ∧ (a.2.2.2.2.2.2.2.blk b7 = some ⟨[.slice a.2.2.2.2.1 a.2.2.2.2.2.2.1.length a.2.2.2.2.2.1], 0, false, false⟩) ∧ (My H5 (a.2.2.2.2.2.2.2.hide (inA a.2.1 a.2.2.1)) a.2.2.2.2.1 a.2.2.2.2.2.1 13 (a.2.2.2.2.2.2.1.map MsgC.cells)) ∧ (Fr (fun q => q = b7) H5 a.2.2.2.2.2.2.2)) (0, none, 0, ([] : List MsgC), none, 0, ([] : List MsgC), H5) ⟨(show 0 ≤ ops.length from Nat.zero_le _), (show 0 ≤ 60 from Nat.zero_le _), (show Spec.NetRel ([] : List MsgC) ([] : List MsgC) from Spec.NetRel.nil), (show ([] : List MsgC).length ≤ 0 from Nat.le_refl _), (show My H5 H5 none 0 13 (([] : List MsgC).map MsgC.cells) from hm9), (show Each MsgC.sub H5 H5 ([] : List MsgC) from (Each.nil (S := MsgC.sub) (H0 := H5) (H := H5))), (show My H5 H5 none 0 13 (([] : List MsgC).map MsgC.cells) from hm12), (show Each MsgC.sub H5 H5 ([] : List MsgC) from (Each.nil (S := MsgC.sub) (H0 := H5) (H := H5))), (show H5.blk b7 = some ⟨[.slice none ([] : List MsgC).length 0], 0, false, false⟩ from b7B), (show My H5 (H5.hide (inA none 0)) none 0 13 (([] : List MsgC).map MsgC.cells) from .nil), (show Fr (fun q => q = b7) H5 H5 from (Fr.refl _ H5))⟩ ?_
 rintro ⟨i, lA, lc, l, nA, nc, nl, Hl8⟩ ⟨hi, hi60, hrel, hll, hm10, hE11, hm13, hE14, hB15, hh16, hxl17⟩ ih18
 replace hi : i ≤ ops.length := hi
 replace hi60 : i ≤ 60 := hi60
 replace hrel : Spec.NetRel nl l := hrel
 replace hll : l.length ≤ i := hll
 replace hm10 : My H5 Hl8 lA lc 13 (l.map MsgC.cells) := hm10
 replace hE11 : Each MsgC.sub H5 Hl8 l := hE11
 replace hm13 : My H5 Hl8 nA nc 13 (nl.map MsgC.cells) := hm13
 replace hE14 : Each MsgC.sub H5 Hl8 nl := hE14
 replace hB15 : Hl8.blk b7 = some ⟨[.slice nA nl.length nc], 0, false, false⟩ := hB15
 replace hh16 : My H5 (Hl8.hide (inA lA lc)) nA nc 13 (nl.map MsgC.cells) := hh16
 replace hxl17 : Fr (fun q => q = b7) H5 Hl8 := hxl17
 show aw _ _ _ (RL _ (.cons 0 (.slice opsA ops.length opsc) (.cons 4 (.pointer (some ⟨b7, 0, none⟩)) (.cons 5 (.slice lA l.length lc) (.cons 6 (.int .i64 (i : Int)) .nil))))) Hl8 _
 have Hl8n : H5.next ≤ Hl8.next := hxl17.1
 have hsh := hrel.short; have hsh2 := hrel.shortL; have hnl := hrel.len
 iterate 2 refine aw_seq ?_
 refine aw_reg ?_
 iterate 2 refine st_op (ev_move rfl) rfl rfl rfl ?_
 refine st_op (ev_lenSl rfl Try.underlying53) rfl rfl rfl ?_
 refine st_op (ev_int rfl rfl rfl) rfl rfl rfl ?_
 refine st_op (ev_move rfl) rfl rfl rfl ?_
 refine st_bool 24 rfl (fun hb19 => ?_) (fun hb19 => ?_)
 ·
  have hb19 := of_decide_eq_true hb19
  refine st_op (ev_move rfl) rfl rfl rfl ?_
  refine st_op (ev_int rfl rfl rfl) rfl rfl rfl ?_
  refine st_op (ev_pickT rfl rfl) rfl rfl rfl ?_
  try show aw _ _ _ _ _ _
  by_cases hc20 : (decide ((i : Int) < 60)) = true
  ·
   refine aw_condT hc20 rfl ?_
   try show aw _ _ _ _ _ _
   have hc20 := of_decide_eq_true hc20
   refine aw_skip ?_
   try show aw _ _ _ _ _ _
   refine aw_seq ?_
   refine aw_block ?_
   refine aw_seq ?_
   refine aw_reg ?_
   iterate 2 refine st_op (ev_move rfl) rfl rfl rfl ?_
   have hx22 : Ext H Hl8 := (Ext.then hx6 hxl17 (fun q hq e => by omega))
   have h21 := Row.ext hops hx22
   have hi23 : 0 ≤ ((i : Int) : Int) := by omega
   have hi24 : ((i : Int) : Int) < ((ops.length : Nat) : Int) := by omega
   obtain ⟨x25, hx26⟩ : ∃ e, ops[i]? = some e := ⟨_, List.getElem?_eq_getElem (by omega)⟩
   have h28 := EachR.ext eops hx22
   have hr27 : Row Hl8 x25.m.esA x25.m.esc 4 (x25.m.es.map Entry.cells) ∧ (x25.m.es.map Entry.cells).length ≤ x25.m.esc ∧ (x25.m.es.map Entry.cells).length ≤ 140737488355328 := EachR.get h28 hx26
   rw [List.length_map] at hr27
   have hr271 := hr27.1
   have hr272 := hr27.2.1
   have hr273 := hr27.2.2
   refine st_op (ev_at rfl rfl h21 (getMap OpN.cells hx26) (by first | rfl | omega | simp) hi23 hi24 el53) rfl rfl rfl ?_
   refine st_op (ev_atN (cs := [.int .i64 x25.kind, .int .i64 x25.i, .int .i64 x25.m.kind, .int .i64 x25.m.from_, .int .i64 x25.m.to_, .int .i64 x25.m.term, .int .i64 x25.m.index, .int .i64 x25.m.logterm, .int .i64 x25.m.commit, .bool x25.m.yes, .slice x25.m.esA x25.m.es.length x25.m.esc, .int .i64 x25.m.snap.index, .int .i64 x25.m.snap.term, .string x25.m.snap.conf, .string x25.m.snap.data]) rfl h21 (getMap OpN.cells hx26) many57 rfl rfl (by decide)) rfl rfl rfl ?_
   obtain ⟨b29, H30, he31, b29e, H30n_, hB33, f32⟩ := mem_alloc Hl8 zero57
   refine st_op (he31 _ _ _ _ _ _ _) rfl rfl rfl ?_
   have hx34 : Ext Hl8 H30 := Ext.new (by omega) H30n_ f32
   have H30n : Hl8.next ≤ H30.next := hx34.1
   obtain ⟨H35, he36, H35n_, hB37, f38⟩ := mem_store (v := .agg #[.int .i64 x25.kind, .int .i64 x25.i, .int .i64 x25.m.kind, .int .i64 x25.m.from_, .int .i64 x25.m.to_, .int .i64 x25.m.term, .int .i64 x25.m.index, .int .i64 x25.m.logterm, .int .i64 x25.m.commit, .bool x25.m.yes, .slice x25.m.esA x25.m.es.length x25.m.esc, .int .i64 x25.m.snap.index, .int .i64 x25.m.snap.term, .string x25.m.snap.conf, .string x25.m.snap.data]) (o := 0) (cs' := [.int .i64 x25.kind, .int .i64 x25.i, .int .i64 x25.m.kind, .int .i64 x25.m.from_, .int .i64 x25.m.to_, .int .i64 x25.m.term, .int .i64 x25.m.index, .int .i64 x25.m.logterm, .int .i64 x25.m.commit, .bool x25.m.yes, .slice x25.m.esA x25.m.es.length x25.m.esc, .int .i64 x25.m.snap.index, .int .i64 x25.m.snap.term, .string x25.m.snap.conf, .string x25.m.snap.data]) 15 rfl rfl size57 hB33 rfl rfl rfl
   refine st_op0 (he36 _ _ _ _ _ _ _ _ _ rfl rfl) rfl rfl ?_
   have hf39 : Fr (fun q => q = b29) H30 H35 := Fr.write H35n_ f38
   have H35n : H30.next ≤ H35.next := hf39.1
   try show aw _ _ _ _ _ _
   refine aw_seq ?_
   refine aw_reg ?_
   refine st_op (ev_fieldAddr rfl fa57_2 (o' := 2) rfl) rfl rfl rfl ?_
   refine st_op (ev_load rfl (lvar_part (l := [.int .i64 x25.m.kind, .int .i64 x25.m.from_, .int .i64 x25.m.to_, .int .i64 x25.m.term, .int .i64 x25.m.index, .int .i64 x25.m.logterm, .int .i64 x25.m.commit, .bool x25.m.yes, .slice x25.m.esA x25.m.es.length x25.m.esc, .int .i64 x25.m.snap.index, .int .i64 x25.m.snap.term, .string x25.m.snap.conf, .string x25.m.snap.data]) many46 hB37 rfl rfl (by decide))) rfl rfl rfl ?_
   refine st_call rfl rfl rfl ent30 rfl rfl rfl ?_
   have hx41 : Ext Hl8 H35 := (Ext.then hx34 hf39 (fun q hq e => by omega))
   have h40 := Row.ext hr271 hx41
   obtain ⟨_, H43, hs42, A45, c46, hs42v, hm47, hq48, hq49, hq50, hx44⟩ := law24_Cut_spec H35 x25.m.kind x25.m.from_ x25.m.to_ x25.m.term x25.m.index x25.m.logterm x25.m.commit x25.m.yes x25.m.esA x25.m.es x25.m.esc h40 hr272 (by omega) x25.m.snap.index x25.m.snap.term x25.m.snap.conf x25.m.snap.data
   rw [hs42v] at hs42; clear hs42v
   generalize hR52 : (((x25.m.es.take 10).map Entry.cut), cutB x25.m.snap.conf 60, cutB x25.m.snap.data 100) = r51 at hs42 hm47 hq48 hq49 hq50
   obtain ⟨z53, z54, z55⟩ := r51
   dsimp only at hs42 hm47 hq48 hq49 hq50
   refine ⟨_, H43, hs42, ?_⟩
   have H43n : H35.next ≤ H43.next := hx44.1
   obtain ⟨b56, H57, he58, b56e, H57n_, hB60, f59⟩ := mem_alloc H43 zero46
   refine st_op (he58 _ _ _ _ _ _ _) rfl rfl rfl ?_
   have hx61 : Ext H43 H57 := Ext.new (by omega) H57n_ f59
   have H57n : H43.next ≤ H57.next := hx61.1
   obtain ⟨H62, he63, H62n_, hB64, f65⟩ := mem_store (v := .agg #[.int .i64 x25.m.kind, .int .i64 x25.m.from_, .int .i64 x25.m.to_, .int .i64 x25.m.term, .int .i64 x25.m.index, .int .i64 x25.m.logterm, .int .i64 x25.m.commit, .bool x25.m.yes, .slice A45 z53.length c46, .int .i64 x25.m.snap.index, .int .i64 x25.m.snap.term, .string z54, .string z55]) (o := 0) (cs' := [.int .i64 x25.m.kind, .int .i64 x25.m.from_, .int .i64 x25.m.to_, .int .i64 x25.m.term, .int .i64 x25.m.index, .int .i64 x25.m.logterm, .int .i64 x25.m.commit, .bool x25.m.yes, .slice A45 z53.length c46, .int .i64 x25.m.snap.index, .int .i64 x25.m.snap.term, .string z54, .string z55]) 13 rfl rfl size46 hB60 rfl rfl rfl
   refine st_op0 (he63 _ _ _ _ _ _ _ _ _ rfl rfl) rfl rfl ?_
   have hf66 : Fr (fun q => q = b56) H57 H62 := Fr.write H62n_ f65
   have H62n : H57.next ≤ H62.next := hf66.1
   try show aw _ _ _ _ _ _
   refine aw_join (α := Bool × Heap) (fun a => (.cons 0 (.slice opsA ops.length opsc) (.cons 4 (.pointer (some ⟨b7, 0, none⟩)) (.cons 5 (.slice lA l.length lc) (.cons 6 (.int .i64 (i : Int)) (.cons 7 (.pointer (some ⟨b29, 0, none⟩)) (.cons 8 (.pointer (some ⟨b56, 0, none⟩)) (.cons 9 (.bool a.1) (.cons 25 (.int .i64 (i : Int)) (.cons 26 (.bool (decide ((i : Int) < 60))) .nil)))))))))) (fun a => a.2) (fun a => (a.1 = decide (0 ≤ x25.i ∧ x25.i < (l.length : Int))) ∧ (Ext H62 a.2)) ?_ (fun hJ69 => ?_)
   ·
    rintro ⟨in1b, Hl67⟩ ⟨hin1, hxl68⟩
    replace hin1 : in1b = decide (0 ≤ x25.i ∧ x25.i < (l.length : Int)) := hin1
    replace hxl68 : Ext H62 Hl67 := hxl68
    show aw _ _ _ (RL _ (.cons 0 (.slice opsA ops.length opsc) (.cons 4 (.pointer (some ⟨b7, 0, none⟩)) (.cons 5 (.slice lA l.length lc) (.cons 6 (.int .i64 (i : Int)) (.cons 7 (.pointer (some ⟨b29, 0, none⟩)) (.cons 8 (.pointer (some ⟨b56, 0, none⟩)) (.cons 9 (.bool in1b) (.cons 25 (.int .i64 (i : Int)) (.cons 26 (.bool (decide ((i : Int) < 60))) .nil)))))))))) Hl67 _
    have Hl67n : H62.next ≤ Hl67.next := hxl68.1
    have hx72 : Ext Hl8 Hl67 := (Ext.trans (Ext.then (Ext.trans (Ext.trans hx41 hx44) hx61) hf66 (fun q hq e => by omega)) hxl68)
    have h71 := My.ext hm10 hx72
    have h74 := Each.ext hE11 hx72
    have h76 := Ext.blk hx72 (by omega) hB15
    have h77 := My.ext hm13 hx72
    have h79 := Each.ext hE14 hx72
    have h83 := My.hext hh16 hx72
    refine aw_join (α := Option Addr × Nat × List MsgC × Option Addr × Nat × List MsgC × Heap) (fun a => (.cons 0 (.slice opsA ops.length opsc) (.cons 4 (.pointer (some ⟨b7, 0, none⟩)) (.cons 5 (.slice a.1 a.2.2.1.length a.2.1) (.cons 6 (.int .i64 (i : Int)) (.cons 7 (.pointer (some ⟨b29, 0, none⟩)) (.cons 25 (.int .i64 (i : Int)) (.cons 26 (.bool (decide ((i : Int) < 60))) .nil)))))))) (fun a => a.2.2.2.2.2.2) (fun a => (Spec.NetRel a.2.2.2.2.2.1 a.2.2.1) ∧ (a.2.2.1.length ≤ i + 1) ∧ (My H5 a.2.2.2.2.2.2 a.1 a.2.1 13 (a.2.2.1.map MsgC.cells)) ∧ (Each MsgC.sub H5 a.2.2.2.2.2.2 a.2.2.1) ∧ (My H5 a.2.2.2.2.2.2 a.2.2.2.1 a.2.2.2.2.1 13 (a.2.2.2.2.2.1.map MsgC.cells)) ∧ (Each MsgC.sub H5 a.2.2.2.2.2.2 a.2.2.2.2.2.1) ∧ (a.2.2.2.2.2.2.blk b7 = some ⟨[.slice a.2.2.2.1 a.2.2.2.2.2.1.length a.2.2.2.2.1], 0, false, false⟩) ∧ (My H5 (a.2.2.2.2.2.2.hide (inA a.1 a.2.1)) a.2.2.2.1 a.2.2.2.2.1 13 (a.2.2.2.2.2.1.map MsgC.cells)) ∧ (Fr (fun q => (H5.next ≤ q ∧ q < Hl67.next ∧ ZB Hl67 q 13) ∨ (H5.next ≤ q ∧ q < Hl67.next ∧ ZB Hl67 q 13) ∨ q = b7) Hl67 a.2.2.2.2.2.2)) ?_ (fun hJ85 => ?_)
    ·
     rintro ⟨jA, jc, jl, jnA, jnc, jn, Hl70⟩ ⟨hjr, hjl, hm73, hE75, hm78, hE80, hB81, hh82, hxl84⟩
     replace hjr : Spec.NetRel jn jl := hjr
     replace hjl : jl.length ≤ i + 1 := hjl
     replace hm73 : My H5 Hl70 jA jc 13 (jl.map MsgC.cells) := hm73
     replace hE75 : Each MsgC.sub H5 Hl70 jl := hE75
     replace hm78 : My H5 Hl70 jnA jnc 13 (jn.map MsgC.cells) := hm78
     replace hE80 : Each MsgC.sub H5 Hl70 jn := hE80
     replace hB81 : Hl70.blk b7 = some ⟨[.slice jnA jn.length jnc], 0, false, false⟩ := hB81
     replace hh82 : My H5 (Hl70.hide (inA jA jc)) jnA jnc 13 (jn.map MsgC.cells) := hh82
     replace hxl84 : Fr (fun q => (H5.next ≤ q ∧ q < Hl67.next ∧ ZB Hl67 q 13) ∨ (H5.next ≤ q ∧ q < Hl67.next ∧ ZB Hl67 q 13) ∨ q = b7) Hl67 Hl70 := hxl84
     show aw _ _ _ (RL _ (.cons 0 (.slice opsA ops.length opsc) (.cons 4 (.pointer (some ⟨b7, 0, none⟩)) (.cons 5 (.slice jA jl.length jc) (.cons 6 (.int .i64 (i : Int)) (.cons 7 (.pointer (some ⟨b29, 0, none⟩)) (.cons 25 (.int .i64 (i : Int)) (.cons 26 (.bool (decide ((i : Int) < 60))) .nil)))))))) Hl70 _
     have Hl70n : Hl67.next ≤ Hl70.next := hxl84.1
     have hjs := hjr.short; have hjs2 := hjr.shortL; have hjn := hjr.len
     refine aw_seq ?_
     refine aw_reg ?_
     refine st_op (ev_move rfl) rfl rfl rfl ?_
     refine st_op (ev_fieldAddr rfl fa57_1 (o' := 1) rfl) rfl rfl rfl ?_
     have hx87 : Ext H35 Hl67 := (Ext.trans (Ext.then (Ext.trans hx44 hx61) hf66 (fun q hq e => by omega)) hxl68)
     have h86 := Ext.blk hx87 (by omega) hB37
     have h88 := Fr.blk hxl84 (by omega) (fun e => Or.elim e (fun e => (zb_ne h86 e.2.2 (show (0 : Nat) ≠ 13 by decide))) (fun e => Or.elim e (fun e => (zb_ne h86 e.2.2 (show (0 : Nat) ≠ 13 by decide))) (fun e => (by omega)))) h86
     refine st_op (ev_load rfl (lvar_one one3 h88 rfl)) rfl rfl rfl ?_
     refine st_call rfl rfl rfl ent23 rfl rfl rfl ?_
     obtain ⟨_, H90, hs89, A92, c93, hs89v, hm94, hx91⟩ := net_Look_spec Hl70 H5 jnA jn jnc hm78 (by omega) (by omega) (by first | assumption | omega | decide | (simp_all; done)) H5 hE80 (by omega) b7 (by omega) hB81 x25.i
     rw [hs89v] at hs89; clear hs89v
     generalize hR96 : (Spec.lookF (jn.map MsgC.val) x25.i) = r95 at hs89 hm94
     obtain ⟨z97, z98, z99, z100, z101, z102, z103, z104, z105, z106, z107, z108, z109, z110⟩ := r95
     dsimp only at hs89 hm94
     refine ⟨_, H90, hs89, ?_⟩
     have H90n : Hl70.next ≤ H90.next := hx91.1
     have lkL := hjr.lookK hR96; have lkE := hjr.lookE hR96
     refine st_op (ev_move rfl) rfl rfl rfl ?_
     iterate 2 refine st_op (ev_extract rfl rfl) rfl rfl rfl ?_
     obtain ⟨b111, H112, he113, b111e, H112n_, hB115, f114⟩ := mem_alloc H90 zero46
     refine st_op (he113 _ _ _ _ _ _ _) rfl rfl rfl ?_
     have hx116 : Ext H90 H112 := Ext.new (by omega) H112n_ f114
     have H112n : H90.next ≤ H112.next := hx116.1
     obtain ⟨H117, he118, H117n_, hB119, f120⟩ := mem_store (v := .agg #[.int .i64 z97, .int .i64 z98, .int .i64 z99, .int .i64 z100, .int .i64 z101, .int .i64 z102, .int .i64 z103, .bool z104, .slice A92 z105.length c93, .int .i64 z106, .int .i64 z107, .string z108, .string z109]) (o := 0) (cs' := [.int .i64 z97, .int .i64 z98, .int .i64 z99, .int .i64 z100, .int .i64 z101, .int .i64 z102, .int .i64 z103, .bool z104, .slice A92 z105.length c93, .int .i64 z106, .int .i64 z107, .string z108, .string z109]) 13 rfl rfl size46 hB115 rfl rfl rfl
     refine st_op0 (he118 _ _ _ _ _ _ _ _ _ rfl rfl) rfl rfl ?_
     have hf121 : Fr (fun q => q = b111) H112 H117 := Fr.write H117n_ f120
     have H117n : H112.next ≤ H117.next := hf121.1
     refine st_op (ev_assign rfl) rfl rfl rfl ?_
     try show aw _ _ _ _ _ _
     refine aw_join (α := Bool × Heap) (fun a => (.cons 0 (.slice opsA ops.length opsc) (.cons 4 (.pointer (some ⟨b7, 0, none⟩)) (.cons 5 (.slice jA jl.length jc) (.cons 6 (.int .i64 (i : Int)) (.cons 7 (.pointer (some ⟨b29, 0, none⟩)) (.cons 9 (.bool a.1) (.cons 14 (.pointer (some ⟨b111, 0, none⟩)) (.cons 15 (.bool z110) (.cons 25 (.int .i64 (i : Int)) (.cons 26 (.bool (decide ((i : Int) < 60))) .nil))))))))))) (fun a => a.2) (fun a => (a.1 = decide (0 ≤ x25.i ∧ x25.i < (jl.length : Int))) ∧ (Ext H117 a.2)) ?_ (fun hJ124 => ?_)
     ·
      rintro ⟨in2b, Hl122⟩ ⟨hin2, hxl123⟩
      replace hin2 : in2b = decide (0 ≤ x25.i ∧ x25.i < (jl.length : Int)) := hin2
      replace hxl123 : Ext H117 Hl122 := hxl123
      show aw _ _ _ (RL _ (.cons 0 (.slice opsA ops.length opsc) (.cons 4 (.pointer (some ⟨b7, 0, none⟩)) (.cons 5 (.slice jA jl.length jc) (.cons 6 (.int .i64 (i : Int)) (.cons 7 (.pointer (some ⟨b29, 0, none⟩)) (.cons 9 (.bool in2b) (.cons 14 (.pointer (some ⟨b111, 0, none⟩)) (.cons 15 (.bool z110) (.cons 25 (.int .i64 (i : Int)) (.cons 26 (.bool (decide ((i : Int) < 60))) .nil))))))))))) Hl122 _
      have Hl122n : H117.next ≤ Hl122.next := hxl123.1
      have hokL := lkL.1.trans hin2.symm
      refine aw_seq ?_
      refine aw_marks (fun b => b < Hl122.next) [(false, false), (false, false), (false, false), (false, false), (false, false), (false, false), (false, false), (false, false), (false, false), (false, false), (false, false), (false, false), (false, false), (false, false), (false, false), (false, false), (false, false), (false, false), (false, false), (false, false), (false, false), (false, false), (false, false)] mixed (by kernel_rfl) (by kernel_rfl) ?_
      refine sm_op (ev_move rfl) rfl rfl rfl ?_
      refine sm_call rfl rfl rfl ent26 rfl rfl rfl ?_
      have hx126 : Ext Hl70 Hl122 := (Ext.trans (Ext.then (Ext.trans hx91 hx116) hf121 (fun q hq e => by omega)) hxl123)
      have h125 := Each.ext hE80 hx126
      have h127 := My.ext hm78 hx126
      have h128 := Ext.blk hx126 (by omega) hB81
      obtain ⟨_, H130, hs129, hs129v, hx131⟩ := net_Len_spec Hl122 H5 jnA jn jnc h127 (by omega) (by omega) (by first | assumption | omega | decide | (simp_all; done)) H5 h125 (by omega) b7 (by omega) h128
      rw [hs129v] at hs129; clear hs129v
      refine ⟨_, H130, hs129, (fun _ b hb => hx131.2 b (by omega)), ?_⟩
      have H130n : Hl122.next ≤ H130.next := hx131.1
      refine sm_op (ev_move rfl) rfl rfl rfl ?_
      refine sm_op (ev_lenSl rfl Try.underlying55) rfl rfl rfl ?_
      refine sm_op (ev_int rfl rfl rfl) rfl rfl rfl ?_
      refine sm_op (ev_move rfl) rfl rfl rfl ?_
      refine sm_bool 205 rfl (fun hb132 => ?_) (fun hb132 => ?_)
      ·
       exact absurd hb132 (by rw [hjn]; simp)
      ·
       have hb132 : ((jn.length : Int) = (jl.length : Int)) := by simpa using hb132
       iterate 2 refine sm_op (ev_move rfl) rfl rfl rfl ?_
       refine sm_op (ev_neBool isbool4 rfl rfl) rfl rfl rfl ?_
       refine sm_op (ev_pickF rfl rfl) rfl rfl rfl ?_
       refine sm_op (ev_move rfl) rfl rfl rfl ?_
       refine sm_bool 210 rfl (fun hb133 => ?_) (fun hb133 => ?_)
       ·
        exact absurd hb133 (by rw [hokL]; simp)
       ·
        have hb133 : (z110 = in2b) := by simpa using hb133
        iterate 2 refine sm_op (ev_move rfl) rfl rfl rfl ?_
        refine sm_bool 212 rfl (fun hb134 => ?_) (fun hb134 => ?_)
        ·
         have hi2 := of_decide_eq_true (hin2.symm.trans hb134)
         have hx136 : Ext H117 H130 := (Ext.trans hxl123 hx131)
         have h135 := Ext.blk hx136 (by omega) hB119
         refine sm_op (ev_load rfl (lvar_part (l := [.int .i64 z97, .int .i64 z98, .int .i64 z99, .int .i64 z100, .int .i64 z101, .int .i64 z102, .int .i64 z103, .bool z104, .slice A92 z105.length c93, .int .i64 z106, .int .i64 z107, .string z108, .string z109]) many46 h135 rfl rfl (by decide))) rfl rfl rfl ?_
         refine sm_op (ev_move rfl) rfl rfl rfl ?_
         refine sm_op (ev_fieldAddr rfl fa57_1 (o' := 1) rfl) rfl rfl rfl ?_
         have hx138 : Ext Hl70 H130 := (Ext.trans hx126 hx131)
         have h137 := Ext.blk hx138 (by omega) h88
         refine sm_op (ev_load rfl (lvar_one one3 h137 rfl)) rfl rfl rfl ?_
         have h139 := My.ext hm73 hx138
         have hi140 : 0 ≤ (x25.i : Int) := by omega
         have hi141 : (x25.i : Int) < ((jl.length : Nat) : Int) := by omega
         obtain ⟨x142, hx143⟩ : ∃ e, jl[(x25.i).toNat]? = some e := ⟨_, List.getElem?_eq_getElem (by omega)⟩
         have h145 := Each.ext hE75 hx138
         have hm144 : My H5 H130 x142.esA x142.esc 4 (x142.es.map Entry.cells) := Each.get h145 hx143
         have x142e := (show Spec.Short jl from by first | exact bl | assumption) _ (List.mem_of_getElem? hx143)
         refine sm_op (ev_at rfl rfl (My.row h139) (getMap MsgC.cells hx143) (by first | rfl | omega | simp) hi140 hi141 el55) rfl rfl rfl ?_
         refine sm_op (ev_atN (cs := [.int .i64 x142.kind, .int .i64 x142.from_, .int .i64 x142.to_, .int .i64 x142.term, .int .i64 x142.index, .int .i64 x142.logterm, .int .i64 x142.commit, .bool x142.yes, .slice x142.esA x142.es.length x142.esc, .int .i64 x142.snap.index, .int .i64 x142.snap.term, .string x142.snap.conf, .string x142.snap.data]) rfl (My.row h139) (getMap MsgC.cells hx143) many46 rfl rfl (by decide)) rfl rfl rfl ?_
         refine sm_call rfl rfl rfl ent32 rfl rfl rfl ?_
         have hx147 : Ext H90 H130 := (Ext.trans (Ext.trans (Ext.then hx116 hf121 (fun q hq e => by omega)) hxl123) hx131)
         have h146 := My.ext hm94 hx147
         obtain ⟨_, H149, hs148, hs148v, hx150⟩ := law24_EqMsg_spec H130 z97 z98 z99 z100 z101 z102 z103 z104 A92 z105 c93 (My.row h146) (My.capF h146 (by omega)) (by omega) z106 z107 z108 z109 x142.kind x142.from_ x142.to_ x142.term x142.index x142.logterm x142.commit x142.yes x142.esA x142.es x142.esc (My.row hm144) (My.capF hm144 (by omega)) (by omega) x142.snap.index x142.snap.term x142.snap.conf x142.snap.data
         rw [hs148v] at hs148; clear hs148v
         refine ⟨_, H149, hs148, (fun _ b hb => hx150.2 b (by omega)), ?_⟩
         have H149n : H130.next ≤ H149.next := hx150.1
         refine sm_op (ev_not rfl) rfl rfl rfl ?_
         refine sm_op (ev_pickT rfl rfl) rfl rfl rfl ?_
         refine sm_op (ev_pickF rfl rfl) rfl rfl rfl ?_
         try show aw _ _ _ _ _ _
         by_cases hc151 : (!(decide (z97 = x142.kind ∧ z98 = x142.from_ ∧ z99 = x142.to_ ∧ z100 = x142.term ∧ z101 = x142.index ∧ z102 = x142.logterm ∧ z103 = x142.commit ∧ z104 = x142.yes ∧ Spec.eqEs z105 x142.es = true ∧ Spec.eqSn z106 z107 z108 z109 x142.snap.index x142.snap.term x142.snap.conf x142.snap.data = true))) = true
         ·
          refine aw_condT hc151 rfl ?_
          try show aw _ _ _ _ _ _
          exact ((of_decide_eq_false ((Bool.not_eq_true' _).mp hc151)) (lkL.2.2 _ hi2.1 hx143).1).elim
         ·
          rw [Bool.not_eq_true] at hc151; refine aw_condF hc151 rfl ?_
          try show aw _ _ _ _ _ _
          replace hc151 : (decide (z97 = x142.kind ∧ z98 = x142.from_ ∧ z99 = x142.to_ ∧ z100 = x142.term ∧ z101 = x142.index ∧ z102 = x142.logterm ∧ z103 = x142.commit ∧ z104 = x142.yes ∧ Spec.eqEs z105 x142.es = true ∧ Spec.eqSn z106 z107 z108 z109 x142.snap.index x142.snap.term x142.snap.conf x142.snap.data = true)) = true := by rw [Bool.not_eq_false'] at hc151; exact hc151
          have hc151 := of_decide_eq_true hc151
          refine aw_skip ?_
          try show aw _ _ _ _ _ _
          refine aw_reg ?_
          refine st_op (ev_move rfl) rfl rfl rfl ?_
          refine st_op (ev_int64 (c := (i : Int) + 1) rfl rfl rfl (by omega) (by omega)) rfl rfl rfl ?_
          refine st_op (ev_assign rfl) rfl rfl rfl ?_
          try show aw _ _ _ _ _ _
          have h152 := My.ext h139 hx150
          have h153 := Each.ext h145 hx150
          have hx155 : Ext Hl122 H149 := (Ext.trans hx131 hx150)
          have h154 := My.ext h127 hx155
          have h156 := Each.ext h125 hx155
          have h157 := Ext.blk hx155 (by omega) h128
          have hx159 : Ext Hl70 H149 := (Ext.trans hx138 hx150)
          have h158 := My.hext hh82 hx159
          refine aw_keep [0, 4, 5, 6] (l' := (.cons 0 (.slice opsA ops.length opsc) (.cons 4 (.pointer (some ⟨b7, 0, none⟩)) (.cons 5 (.slice jA jl.length jc) (.cons 6 (.int .i64 ((i : Int) + 1)) .nil))))) (by repeat (first | exact Up.done | refine Up.then ?_ | refine Up.inBlock ?_)) rfl ?_
          exact ih18 (i + 1, jA, jc, jl, jnA, jnc, jn, H149) ⟨(show (i + 1) ≤ ops.length from (by omega)), (show (i + 1) ≤ 60 from (by omega)), (show Spec.NetRel jn jl from hjr), (show jl.length ≤ (i + 1) from (by omega)), (show My H5 H149 jA jc 13 (jl.map MsgC.cells) from h152), (show Each MsgC.sub H5 H149 jl from h153), (show My H5 H149 jnA jnc 13 (jn.map MsgC.cells) from h154), (show Each MsgC.sub H5 H149 jn from h156), (show H149.blk b7 = some ⟨[.slice jnA jn.length jnc], 0, false, false⟩ from h157), (show My H5 (H149.hide (inA jA jc)) jnA jnc 13 (jn.map MsgC.cells) from h158), (show Fr (fun q => q = b7) H5 H149 from (Fr.trans (Fr.trans (Fr.trans (Fr.transG (Fr.trans (Fr.trans (Fr.transG (Fr.trans (Fr.transG (Fr.trans (Fr.trans (Fr.transG (Fr.trans (Fr.transG (Fr.refl (fun q => q = b7) H5) hxl17 (fun q hq hE e => (e))) (hx34.fr fun _ => False) (fun q hq (e : False) => e.elim)) hf39 (fun q hq hE e => absurd hq (by omega))) (hx44.fr fun _ => False) (fun q hq (e : False) => e.elim)) (hx61.fr fun _ => False) (fun q hq (e : False) => e.elim)) hf66 (fun q hq hE e => absurd hq (by omega))) (hxl68.fr fun _ => False) (fun q hq (e : False) => e.elim)) hxl84 (fun q hq hE e => Or.elim e (fun e => absurd hq (by omega)) (fun e => Or.elim e (fun e => absurd hq (by omega)) (fun e => (e))))) (hx91.fr fun _ => False) (fun q hq (e : False) => e.elim)) (hx116.fr fun _ => False) (fun q hq (e : False) => e.elim)) hf121 (fun q hq hE e => absurd hq (by omega))) (hxl123.fr fun _ => False) (fun q hq (e : False) => e.elim)) (hx131.fr fun _ => False) (fun q hq (e : False) => e.elim)) (hx150.fr fun _ => False) (fun q hq (e : False) => e.elim)))⟩ (by simp only; omega)
        ·
         have hi2 := of_decide_eq_false (hin2.symm.trans hb134)
         iterate 8 refine sm_skip rfl rfl rfl ?_
         iterate 2 refine sm_op (ev_pickF rfl rfl) rfl rfl rfl ?_
         try show aw _ _ _ _ _ _
         refine aw_cond (t := false) rfl ?_
         try show aw _ _ _ _ _ _
         refine aw_skip ?_
         try show aw _ _ _ _ _ _
         refine aw_reg ?_
         refine st_op (ev_move rfl) rfl rfl rfl ?_
         refine st_op (ev_int64 (c := (i : Int) + 1) rfl rfl rfl (by omega) (by omega)) rfl rfl rfl ?_
         refine st_op (ev_assign rfl) rfl rfl rfl ?_
         try show aw _ _ _ _ _ _
         have hx161 : Ext Hl70 H130 := (Ext.trans hx126 hx131)
         have h160 := My.ext hm73 hx161
         have h162 := Each.ext hE75 hx161
         have h163 := My.ext h127 hx131
         have h164 := Each.ext h125 hx131
         have h165 := Ext.blk hx131 (by omega) h128
         have h166 := My.hext hh82 hx161
         refine aw_keep [0, 4, 5, 6] (l' := (.cons 0 (.slice opsA ops.length opsc) (.cons 4 (.pointer (some ⟨b7, 0, none⟩)) (.cons 5 (.slice jA jl.length jc) (.cons 6 (.int .i64 ((i : Int) + 1)) .nil))))) (by repeat (first | exact Up.done | refine Up.then ?_ | refine Up.inBlock ?_)) rfl ?_
         exact ih18 (i + 1, jA, jc, jl, jnA, jnc, jn, H130) ⟨(show (i + 1) ≤ ops.length from (by omega)), (show (i + 1) ≤ 60 from (by omega)), (show Spec.NetRel jn jl from hjr), (show jl.length ≤ (i + 1) from (by omega)), (show My H5 H130 jA jc 13 (jl.map MsgC.cells) from h160), (show Each MsgC.sub H5 H130 jl from h162), (show My H5 H130 jnA jnc 13 (jn.map MsgC.cells) from h163), (show Each MsgC.sub H5 H130 jn from h164), (show H130.blk b7 = some ⟨[.slice jnA jn.length jnc], 0, false, false⟩ from h165), (show My H5 (H130.hide (inA jA jc)) jnA jnc 13 (jn.map MsgC.cells) from h166), (show Fr (fun q => q = b7) H5 H130 from (Fr.trans (Fr.trans (Fr.transG (Fr.trans (Fr.trans (Fr.transG (Fr.trans (Fr.transG (Fr.trans (Fr.trans (Fr.transG (Fr.trans (Fr.transG (Fr.refl (fun q => q = b7) H5) hxl17 (fun q hq hE e => (e))) (hx34.fr fun _ => False) (fun q hq (e : False) => e.elim)) hf39 (fun q hq hE e => absurd hq (by omega))) (hx44.fr fun _ => False) (fun q hq (e : False) => e.elim)) (hx61.fr fun _ => False) (fun q hq (e : False) => e.elim)) hf66 (fun q hq hE e => absurd hq (by omega))) (hxl68.fr fun _ => False) (fun q hq (e : False) => e.elim)) hxl84 (fun q hq hE e => Or.elim e (fun e => absurd hq (by omega)) (fun e => Or.elim e (fun e => absurd hq (by omega)) (fun e => (e))))) (hx91.fr fun _ => False) (fun q hq (e : False) => e.elim)) (hx116.fr fun _ => False) (fun q hq (e : False) => e.elim)) hf121 (fun q hq hE e => absurd hq (by omega))) (hxl123.fr fun _ => False) (fun q hq (e : False) => e.elim)) (hx131.fr fun _ => False) (fun q hq (e : False) => e.elim)))⟩ (by simp only; omega)
     ·
      skip
      refine aw_reg ?_
      refine st_op (ev_fieldAddr rfl fa57_1 (o' := 1) rfl) rfl rfl rfl ?_
      have hx168 : Ext Hl70 H117 := (Ext.then (Ext.trans hx91 hx116) hf121 (fun q hq e => by omega))
      have h167 := Ext.blk hx168 (by omega) h88
      refine st_op (ev_load rfl (lvar_one one3 h167 rfl)) rfl rfl rfl ?_
      refine st_op (ev_int rfl rfl rfl) rfl rfl rfl ?_
      refine st_op (ev_move rfl) rfl rfl rfl ?_
      refine st_bool 193 rfl (fun hb169 => ?_) (fun hb169 => ?_)
      ·
       have hb169 := of_decide_eq_true hb169
       refine st_op (ev_fieldAddr rfl fa57_1 (o' := 1) rfl) rfl rfl rfl ?_
       refine st_op (ev_load rfl (lvar_one one3 h167 rfl)) rfl rfl rfl ?_
       refine st_op (ev_move rfl) rfl rfl rfl ?_
       refine st_op (ev_lenSl rfl Try.underlying55) rfl rfl rfl ?_
       refine st_op (ev_int rfl rfl rfl) rfl rfl rfl ?_
       refine st_op (ev_pickT rfl rfl) rfl rfl rfl ?_
       refine st_op (ev_assign rfl) rfl rfl rfl ?_
       try show aw _ _ _ _ _ _
       refine aw_keep [0, 4, 5, 6, 7, 9, 14, 15, 25, 26] (l' := (.cons 0 (.slice opsA ops.length opsc) (.cons 4 (.pointer (some ⟨b7, 0, none⟩)) (.cons 5 (.slice jA jl.length jc) (.cons 6 (.int .i64 (i : Int)) (.cons 7 (.pointer (some ⟨b29, 0, none⟩)) (.cons 9 (.bool (decide (x25.i < (jl.length : Int)))) (.cons 14 (.pointer (some ⟨b111, 0, none⟩)) (.cons 15 (.bool z110) (.cons 25 (.int .i64 (i : Int)) (.cons 26 (.bool (decide ((i : Int) < 60))) .nil))))))))))) (by repeat (first | exact Up.done | refine Up.then ?_ | refine Up.inBlock ?_)) rfl ?_
       exact hJ124 (decide (x25.i < (jl.length : Int)), H117) ⟨(show (decide (x25.i < (jl.length : Int))) = decide (0 ≤ x25.i ∧ x25.i < (jl.length : Int)) from (by first | exact decide_eq_decide.2 (by omega) | exact (decide_eq_false (by omega)).symm | exact (decide_eq_true (by omega)).symm)), (show Ext H117 H117 from (Ext.refl H117))⟩
      ·
       have hb169 := of_decide_eq_false hb169
       iterate 5 refine st_skip rfl rfl rfl ?_
       refine st_op (ev_pickF rfl rfl) rfl rfl rfl ?_
       refine st_op (ev_assign rfl) rfl rfl rfl ?_
       try show aw _ _ _ _ _ _
       refine aw_keep [0, 4, 5, 6, 7, 9, 14, 15, 25, 26] (l' := (.cons 0 (.slice opsA ops.length opsc) (.cons 4 (.pointer (some ⟨b7, 0, none⟩)) (.cons 5 (.slice jA jl.length jc) (.cons 6 (.int .i64 (i : Int)) (.cons 7 (.pointer (some ⟨b29, 0, none⟩)) (.cons 9 (.bool false) (.cons 14 (.pointer (some ⟨b111, 0, none⟩)) (.cons 15 (.bool z110) (.cons 25 (.int .i64 (i : Int)) (.cons 26 (.bool (decide ((i : Int) < 60))) .nil))))))))))) (by repeat (first | exact Up.done | refine Up.then ?_ | refine Up.inBlock ?_)) rfl ?_
       exact hJ124 (false, H117) ⟨(show false = decide (0 ≤ x25.i ∧ x25.i < (jl.length : Int)) from (by first | exact decide_eq_decide.2 (by omega) | exact (decide_eq_false (by omega)).symm | exact (decide_eq_true (by omega)).symm)), (show Ext H117 H117 from (Ext.refl H117))⟩
    ·
     skip
     refine aw_seq ?_
     refine aw_reg ?_
     refine st_op (ev_fieldAddr rfl fa57_0 (o' := 0) rfl) rfl rfl rfl ?_
     have hx171 : Ext H35 Hl67 := (Ext.trans (Ext.then (Ext.trans hx44 hx61) hf66 (fun q hq e => by omega)) hxl68)
     have h170 := Ext.blk hx171 (by omega) hB37
     refine st_op (ev_load rfl (lvar_one one3 h170 rfl)) rfl rfl rfl ?_
     try show aw _ _ _ _ _ _
     refine aw_block ?_
     refine aw_seq ?_
     refine aw_reg ?_
     refine st_op (ev_int rfl rfl rfl) rfl rfl rfl ?_
     refine st_op (ev_assign rfl) rfl rfl rfl ?_
     try show aw _ _ _ _ _ _
     by_cases hc172 : (x25.kind == 0) = true
     ·
      refine aw_condT hc172 rfl ?_
      try show aw _ _ _ _ _ _
      have hc172 := eq_of_beq hc172
      iterate 2 refine aw_seq ?_
      refine aw_marks (fun b => b = b56) [(false, false), (false, false), (false, true), (true, false), (false, false), (false, false)] mixed (by kernel_rfl) (by kernel_rfl) ?_
      refine sm_op (ev_move rfl) rfl rfl rfl ?_
      have h173 := Ext.blk hxl68 (by omega) hB64
      refine sm_op (ev_load rfl (lvar_part (l := [.int .i64 x25.m.kind, .int .i64 x25.m.from_, .int .i64 x25.m.to_, .int .i64 x25.m.term, .int .i64 x25.m.index, .int .i64 x25.m.logterm, .int .i64 x25.m.commit, .bool x25.m.yes, .slice A45 z53.length c46, .int .i64 x25.m.snap.index, .int .i64 x25.m.snap.term, .string z54, .string z55]) many46 h173 rfl rfl (by decide))) rfl rfl rfl ?_
      refine sm_call rfl rfl rfl ent25 rfl rfl rfl ?_
      have hx175 : Ext H43 Hl67 := (Ext.trans (Ext.then hx61 hf66 (fun q hq e => by omega)) hxl68)
      have h174 := My.ext hm47 hx175
      obtain ⟨_, H177, hs176, A179, c180, rl182, hs176v, hl183, hm181, hE186, hB187, hq184, hq185, hh188, hx178⟩ := net_Send_specH Hl67 H5 nA nl nc h77 (by omega) (by omega) (by first | assumption | omega | decide | (simp_all; done)) H5 h79 (by omega) b7 (by omega) h76 x25.m.kind x25.m.from_ x25.m.to_ x25.m.term x25.m.index x25.m.logterm x25.m.commit x25.m.yes A45 z53 c46 (My.row h174) (My.capF h174 (by omega)) (by omega) x25.m.snap.index x25.m.snap.term z54 (by omega) z55 (by omega) (inA lA lc) (inA.zb h71) (inA.lt h71) h83
      rw [hs176v] at hs176; clear hs176v
      generalize hR190 : (Spec.sendF (nl.map MsgC.val) (⟨x25.m.kind, x25.m.from_, x25.m.to_, x25.m.term, x25.m.index, x25.m.logterm, x25.m.commit, x25.m.yes, z53, ⟨x25.m.snap.index, x25.m.snap.term, z54, z55⟩⟩ : Msg)) = r189 at hs176 hl183 hm181 hE186 hB187 hq184 hq185
      obtain ⟨z191, z192⟩ := r189
      dsimp only at hs176 hl183 hm181 hE186 hB187 hq184 hq185
      refine ⟨_, H177, hs176, (fun _ b (hb : b = b56) => hb ▸ hx178.2 b56 (by omega) (fun e => Or.elim e.1 (fun e => absurd e (by omega)) (fun e => zb_ne h173 e.2.2 (show (0 : Nat) ≠ 13 by decide)))), ?_⟩
      have hx193 := Fr.mono hx178 (fun q e => e.1)
      have H177n : Hl67.next ≤ H177.next := hx193.1
      have h194 := My.hid h71 hx178
      have hl183n := congrArg List.length hl183; rw [List.length_map] at hl183n
      have sd := hrel.send (by omega) hR190 hl183
      have h195 := Fr.blk hx193 (by omega) (fun e => Or.elim e (fun e => (by omega)) (fun e => (zb_ne h173 e.2.2 (show (0 : Nat) ≠ 13 by decide)))) h173
      refine sm_read (ev_load rfl (lvar_part (l := [.int .i64 x25.m.kind, .int .i64 x25.m.from_, .int .i64 x25.m.to_, .int .i64 x25.m.term, .int .i64 x25.m.index, .int .i64 x25.m.logterm, .int .i64 x25.m.commit, .bool x25.m.yes, .slice A45 z53.length c46, .int .i64 x25.m.snap.index, .int .i64 x25.m.snap.term, .string z54, .string z55]) many46 h195 rfl rfl (by decide))) rfl rfl rfl (fun b hb => by cases hb; dsimp only <;> omega) ?_
      refine sm_call rfl rfl rfl ent31 rfl rfl rfl ?_
      have h196 := My.frS h174 hx193 (fun q hq e => Or.elim e (fun e => ⟨_, e ▸ h76, show (0 : Nat) ≠ 4 by decide⟩) (fun e => (ZB.ne e.2.2 (show (13 : Nat) ≠ 4 by decide))))
      obtain ⟨_, H198, hs197, hs197v, hx199⟩ := ref21_May_spec H177 x25.m.kind x25.m.from_ x25.m.to_ x25.m.term x25.m.index x25.m.logterm x25.m.commit x25.m.yes A45 z53 c46 (My.row h196) (My.capF h196 (by omega)) (by omega) x25.m.snap.index x25.m.snap.term z54 (by omega) z55 (by omega)
      rw [hs197v] at hs197; clear hs197v
      refine ⟨_, H198, hs197, (fun _ b hb => hx199.2 b (by omega)), ?_⟩
      have H198n : H177.next ≤ H198.next := hx199.1
      refine sm_op (ev_neBool isbool4 rfl rfl) rfl rfl rfl ?_
      try show aw _ _ _ _ _ _
      by_cases hc200 : (z191 != (Spec.mayMsg x25.m.kind x25.m.from_ x25.m.to_ x25.m.term x25.m.index x25.m.logterm x25.m.commit x25.m.yes z53 x25.m.snap.index x25.m.snap.term z54 z55)) = true
      ·
       refine aw_condT hc200 rfl ?_
       try show aw _ _ _ _ _ _
       exact absurd hc200 (by rw [sd.1]; simp [Spec.mayM])
      ·
       rw [Bool.not_eq_true] at hc200; refine aw_condF hc200 rfl ?_
       try show aw _ _ _ _ _ _
       have hc200 : (z191 = (Spec.mayMsg x25.m.kind x25.m.from_ x25.m.to_ x25.m.term x25.m.index x25.m.logterm x25.m.commit x25.m.yes z53 x25.m.snap.index x25.m.snap.term z54 z55)) := by simpa using hc200
       refine aw_skip ?_
       try show aw _ _ _ _ _ _
       refine aw_seq ?_
       refine aw_reg ?_
       have h201 := Ext.blk hx199 (by omega) h195
       refine st_op (ev_load rfl (lvar_part (l := [.int .i64 x25.m.kind, .int .i64 x25.m.from_, .int .i64 x25.m.to_, .int .i64 x25.m.term, .int .i64 x25.m.index, .int .i64 x25.m.logterm, .int .i64 x25.m.commit, .bool x25.m.yes, .slice A45 z53.length c46, .int .i64 x25.m.snap.index, .int .i64 x25.m.snap.term, .string z54, .string z55]) many46 h201 rfl rfl (by decide))) rfl rfl rfl ?_
       refine st_call rfl rfl rfl ent31 rfl rfl rfl ?_
       have h202 := My.ext h196 hx199
       obtain ⟨_, H204, hs203, hs203v, hx205⟩ := ref21_May_spec H198 x25.m.kind x25.m.from_ x25.m.to_ x25.m.term x25.m.index x25.m.logterm x25.m.commit x25.m.yes A45 z53 c46 (My.row h202) (My.capF h202 (by omega)) (by omega) x25.m.snap.index x25.m.snap.term z54 (by omega) z55 (by omega)
       rw [hs203v] at hs203; clear hs203v
       refine ⟨_, H204, hs203, ?_⟩
       have H204n : H198.next ≤ H204.next := hx205.1
       try show aw _ _ _ _ _ _
       by_cases hc206 : (Spec.mayMsg x25.m.kind x25.m.from_ x25.m.to_ x25.m.term x25.m.index x25.m.logterm x25.m.commit x25.m.yes z53 x25.m.snap.index x25.m.snap.term z54 z55) = true
       ·
        refine aw_condT hc206 rfl ?_
        try show aw _ _ _ _ _ _
        refine aw_reg ?_
        refine st_op (ev_move rfl) rfl rfl rfl ?_
        have h207 := Ext.blk hx205 (by omega) h201
        refine st_op (ev_load rfl (lvar_part (l := [.int .i64 x25.m.kind, .int .i64 x25.m.from_, .int .i64 x25.m.to_, .int .i64 x25.m.term, .int .i64 x25.m.index, .int .i64 x25.m.logterm, .int .i64 x25.m.commit, .bool x25.m.yes, .slice A45 z53.length c46, .int .i64 x25.m.snap.index, .int .i64 x25.m.snap.term, .string z54, .string z55]) many46 h207 rfl rfl (by decide))) rfl rfl rfl ?_
        obtain ⟨b208, H209, he210, b208e, H209n_, hm212, f211⟩ := mem_lit H204 (xs := ([.agg #[.int .i64 x25.m.kind, .int .i64 x25.m.from_, .int .i64 x25.m.to_, .int .i64 x25.m.term, .int .i64 x25.m.index, .int .i64 x25.m.logterm, .int .i64 x25.m.commit, .bool x25.m.yes, .slice A45 z53.length c46, .int .i64 x25.m.snap.index, .int .i64 x25.m.snap.term, .string z54, .string z55]] : List Value)) (m := 1) (rows := [[.int .i64 x25.m.kind, .int .i64 x25.m.from_, .int .i64 x25.m.to_, .int .i64 x25.m.term, .int .i64 x25.m.index, .int .i64 x25.m.logterm, .int .i64 x25.m.commit, .bool x25.m.yes, .slice A45 z53.length c46, .int .i64 x25.m.snap.index, .int .i64 x25.m.snap.term, .string z54, .string z55]]) rfl eok55 (by decide) (by decide) zf46 rfl (allLen rfl) rfl
        replace hm212 : My H204 H209 (some ⟨b208, 0, none⟩) 1 13 ([(⟨x25.m.kind, x25.m.from_, x25.m.to_, x25.m.term, x25.m.index, x25.m.logterm, x25.m.commit, x25.m.yes, z53, A45, c46, (⟨x25.m.snap.index, x25.m.snap.term, z54, z55⟩ : Snap)⟩ : MsgC)].map MsgC.cells) := hm212
        refine st_op (he210 _ _ _ _ _ _ _ _ rfl) rfl rfl rfl ?_
        have hx213 : Ext H204 H209 := Ext.new (by omega) H209n_ f211
        have H209n : H204.next ≤ H209.next := hx213.1
        have hx216 : Ext H198 H209 := (Ext.trans hx205 hx213)
        have h215 := My.ext h202 hx216
        have hE214 : Each MsgC.sub H35 H209 ([(⟨x25.m.kind, x25.m.from_, x25.m.to_, x25.m.term, x25.m.index, x25.m.logterm, x25.m.commit, x25.m.yes, z53, A45, c46, (⟨x25.m.snap.index, x25.m.snap.term, z54, z55⟩ : Snap)⟩ : MsgC)]) := Each.one h215
        have hx218 : Ext H177 H209 := (Ext.trans (Ext.trans hx199 hx205) hx213)
        have h217 := My.ext h194 hx218
        have h228 := My.hext hh188 hx218
        obtain ⟨A219, c220, H221, W222, he223, hm224, hf226, hA227⟩ := mem_append3 (f := MsgC.cells) (old := l) (new := [(⟨x25.m.kind, x25.m.from_, x25.m.to_, x25.m.term, x25.m.index, x25.m.logterm, x25.m.commit, x25.m.yes, z53, A45, c46, (⟨x25.m.snap.index, x25.m.snap.term, z54, z55⟩ : Snap)⟩ : MsgC)]) (m := l.length) (mx := 1) (c := lc) (by first | rfl | simp) (by first | rfl | simp) eok55 (by decide) hm10 h217 (by omega) (((My.row hm212)).srcF (by decide) (by first | rfl | simp)) rfl MsgC.cells_len MsgC.cells_one (by first | omega | (simp only [List.length_append, List.length_cons, List.length_nil, List.length_map, List.length_set, List.length_replicate, Spec.bytesOf_length]; omega) | (simp; omega)) (by first | omega | (simp only [List.length_append, List.length_cons, List.length_nil, List.length_map, List.length_set, List.length_replicate, Spec.bytesOf_length]; omega) | (simp; omega))
        have hf225 := Fr.mono hf226 (fun q h => h.2)
        have hh229 := My.rehide h228 hf226 (fun q w _ => w.1) hA227
        refine st_op (he223 _ _ _ _ _ _ _ _ _ _ rfl rfl isrow55) rfl rfl rfl ?_
        have H221n : H209.next ≤ H221.next := hf225.1
        have h230 := My.under hh229 hide_under
        have h232 := Each.frS h74 hx193 (fun q hq e => Or.elim e (fun e => ⟨_, e ▸ h76, show (0 : Nat) ≠ 4 by decide⟩) (fun e => (ZB.ne e.2.2 (show (13 : Nat) ≠ 4 by decide))))
        have h233 := Each.ext h232 hx218
        have h234 := Each.frS h233 hf225 (fun q hq e => (ZB.ne e.2.2 (show (13 : Nat) ≠ 4 by decide)))
        have h235 := Each.frS hE214 hf225 (fun q hq e => (ZB.ne e.2.2 (show (13 : Nat) ≠ 4 by decide)))
        have hE231 : Each MsgC.sub H5 H221 (l ++ [(⟨x25.m.kind, x25.m.from_, x25.m.to_, x25.m.term, x25.m.index, x25.m.logterm, x25.m.commit, x25.m.yes, z53, A45, c46, (⟨x25.m.snap.index, x25.m.snap.term, z54, z55⟩ : Snap)⟩ : MsgC)]) := Each.append h234 (Each.older h235 (by omega))
        refine st_op (ev_assign rfl) rfl rfl rfl ?_
        try show aw _ _ _ _ _ _
        have h236 := Each.ext hE186 hx218
        have h237 := Each.frS h236 hf225 (fun q hq e => (ZB.ne e.2.2 (show (13 : Nat) ≠ 4 by decide)))
        have h238 := Ext.blk hx218 (by omega) hB187
        have h239 := Fr.blk hf225 (by omega) (fun e => (zb_ne h238 e.2.2 (show (0 : Nat) ≠ 13 by decide))) h238
        refine aw_keep [0, 4, 5, 6, 7, 25, 26] (l' := (.cons 0 (.slice opsA ops.length opsc) (.cons 4 (.pointer (some ⟨b7, 0, none⟩)) (.cons 5 (.slice A219 ((l ++ [(⟨x25.m.kind, x25.m.from_, x25.m.to_, x25.m.term, x25.m.index, x25.m.logterm, x25.m.commit, x25.m.yes, z53, A45, c46, (⟨x25.m.snap.index, x25.m.snap.term, z54, z55⟩ : Snap)⟩ : MsgC)]).length) c220) (.cons 6 (.int .i64 (i : Int)) (.cons 7 (.pointer (some ⟨b29, 0, none⟩)) (.cons 25 (.int .i64 (i : Int)) (.cons 26 (.bool (decide ((i : Int) < 60))) .nil)))))))) (by repeat (first | exact Up.done | refine Up.then ?_ | refine Up.inBlock ?_)) rfl ?_
        exact hJ85 (A219, c220, (l ++ [(⟨x25.m.kind, x25.m.from_, x25.m.to_, x25.m.term, x25.m.index, x25.m.logterm, x25.m.commit, x25.m.yes, z53, A45, c46, (⟨x25.m.snap.index, x25.m.snap.term, z54, z55⟩ : Snap)⟩ : MsgC)]), A179, c180, rl182, H221) ⟨(show Spec.NetRel rl182 (l ++ [(⟨x25.m.kind, x25.m.from_, x25.m.to_, x25.m.term, x25.m.index, x25.m.logterm, x25.m.commit, x25.m.yes, z53, A45, c46, (⟨x25.m.snap.index, x25.m.snap.term, z54, z55⟩ : Snap)⟩ : MsgC)]) from (sd.2.2 _ rfl hc206)), (show (l ++ [(⟨x25.m.kind, x25.m.from_, x25.m.to_, x25.m.term, x25.m.index, x25.m.logterm, x25.m.commit, x25.m.yes, z53, A45, c46, (⟨x25.m.snap.index, x25.m.snap.term, z54, z55⟩ : Snap)⟩ : MsgC)]).length ≤ i + 1 from (by first | omega | (simp; omega))), (show My H5 H221 A219 c220 13 ((l ++ [(⟨x25.m.kind, x25.m.from_, x25.m.to_, x25.m.term, x25.m.index, x25.m.logterm, x25.m.commit, x25.m.yes, z53, A45, c46, (⟨x25.m.snap.index, x25.m.snap.term, z54, z55⟩ : Snap)⟩ : MsgC)]).map MsgC.cells) from hm224), (show Each MsgC.sub H5 H221 (l ++ [(⟨x25.m.kind, x25.m.from_, x25.m.to_, x25.m.term, x25.m.index, x25.m.logterm, x25.m.commit, x25.m.yes, z53, A45, c46, (⟨x25.m.snap.index, x25.m.snap.term, z54, z55⟩ : Snap)⟩ : MsgC)]) from hE231), (show My H5 H221 A179 c180 13 (rl182.map MsgC.cells) from h230), (show Each MsgC.sub H5 H221 rl182 from h237), (show H221.blk b7 = some ⟨[.slice A179 rl182.length c180], 0, false, false⟩ from h239), (show My H5 (H221.hide (inA A219 c220)) A179 c180 13 (rl182.map MsgC.cells) from hh229), (show Fr (fun q => (H5.next ≤ q ∧ q < Hl67.next ∧ ZB Hl67 q 13) ∨ (H5.next ≤ q ∧ q < Hl67.next ∧ ZB Hl67 q 13) ∨ q = b7) Hl67 H221 from (Fr.transG (Fr.trans (Fr.trans (Fr.trans (Fr.transG (Fr.refl (fun q => (H5.next ≤ q ∧ q < Hl67.next ∧ ZB Hl67 q 13) ∨ (H5.next ≤ q ∧ q < Hl67.next ∧ ZB Hl67 q 13) ∨ q = b7) Hl67) hx193 (fun q hq hE e => Or.elim e (fun e => Or.inr (Or.inr ((e)))) (fun e => Or.inl (⟨by omega, by omega, ZB.back hE e.2.2⟩)))) (hx199.fr fun _ => False) (fun q hq (e : False) => e.elim)) (hx205.fr fun _ => False) (fun q hq (e : False) => e.elim)) (hx213.fr fun _ => False) (fun q hq (e : False) => e.elim)) hf225 (fun q hq hE e => Or.inl (⟨by omega, by omega, ZB.back hE e.2.2⟩))))⟩
       ·
        rw [Bool.not_eq_true] at hc206; refine aw_condF hc206 rfl ?_
        try show aw _ _ _ _ _ _
        refine aw_skip ?_
        try show aw _ _ _ _ _ _
        have hx241 : Ext H177 H204 := (Ext.trans hx199 hx205)
        have h240 := My.ext h194 hx241
        have h242 := Each.frS h74 hx193 (fun q hq e => Or.elim e (fun e => ⟨_, e ▸ h76, show (0 : Nat) ≠ 4 by decide⟩) (fun e => (ZB.ne e.2.2 (show (13 : Nat) ≠ 4 by decide))))
        have h243 := Each.ext h242 hx241
        have h244 := My.ext hm181 hx241
        have h245 := Each.ext hE186 hx241
        have h246 := Ext.blk hx241 (by omega) hB187
        have h247 := My.hext hh188 hx241
        refine aw_keep [0, 4, 5, 6, 7, 25, 26] (l' := (.cons 0 (.slice opsA ops.length opsc) (.cons 4 (.pointer (some ⟨b7, 0, none⟩)) (.cons 5 (.slice lA l.length lc) (.cons 6 (.int .i64 (i : Int)) (.cons 7 (.pointer (some ⟨b29, 0, none⟩)) (.cons 25 (.int .i64 (i : Int)) (.cons 26 (.bool (decide ((i : Int) < 60))) .nil)))))))) (by repeat (first | exact Up.done | refine Up.then ?_ | refine Up.inBlock ?_)) rfl ?_
        exact hJ85 (lA, lc, l, A179, c180, rl182, H204) ⟨(show Spec.NetRel rl182 l from (sd.2.1 hc206)), (show l.length ≤ i + 1 from (by first | omega | (simp; omega))), (show My H5 H204 lA lc 13 (l.map MsgC.cells) from h240), (show Each MsgC.sub H5 H204 l from h243), (show My H5 H204 A179 c180 13 (rl182.map MsgC.cells) from h244), (show Each MsgC.sub H5 H204 rl182 from h245), (show H204.blk b7 = some ⟨[.slice A179 rl182.length c180], 0, false, false⟩ from h246), (show My H5 (H204.hide (inA lA lc)) A179 c180 13 (rl182.map MsgC.cells) from h247), (show Fr (fun q => (H5.next ≤ q ∧ q < Hl67.next ∧ ZB Hl67 q 13) ∨ (H5.next ≤ q ∧ q < Hl67.next ∧ ZB Hl67 q 13) ∨ q = b7) Hl67 H204 from (Fr.trans (Fr.trans (Fr.transG (Fr.refl (fun q => (H5.next ≤ q ∧ q < Hl67.next ∧ ZB Hl67 q 13) ∨ (H5.next ≤ q ∧ q < Hl67.next ∧ ZB Hl67 q 13) ∨ q = b7) Hl67) hx193 (fun q hq hE e => Or.elim e (fun e => Or.inr (Or.inr ((e)))) (fun e => Or.inl (⟨by omega, by omega, ZB.back hE e.2.2⟩)))) (hx199.fr fun _ => False) (fun q hq (e : False) => e.elim)) (hx205.fr fun _ => False) (fun q hq (e : False) => e.elim)))⟩
     ·
      rw [Bool.not_eq_true] at hc172; refine aw_condF hc172 rfl ?_
      try show aw _ _ _ _ _ _
      have hc172 := ne_of_beq_false hc172
      iterate 2 refine aw_seq ?_
      refine aw_reg ?_
      refine st_op (ev_int rfl rfl rfl) rfl rfl rfl ?_
      refine st_op (ev_assign rfl) rfl rfl rfl ?_
      try show aw _ _ _ _ _ _
      by_cases hc248 : (x25.kind == 1) = true
      ·
       refine aw_condT hc248 rfl ?_
       try show aw _ _ _ _ _ _
       have hc248 := eq_of_beq hc248
       refine aw_skip ?_
       try show aw _ _ _ _ _ _
       by_cases hc249 : (x25.kind == 1) = true
       ·
        refine aw_condT hc249 rfl ?_
        try show aw _ _ _ _ _ _
        have hc249 := eq_of_beq hc249
        refine aw_seq ?_
        refine aw_reg ?_
        refine st_op (ev_move rfl) rfl rfl rfl ?_
        refine st_op (ev_fieldAddr rfl fa57_1 (o' := 1) rfl) rfl rfl rfl ?_
        refine st_op (ev_load rfl (lvar_one one3 h170 rfl)) rfl rfl rfl ?_
        refine st_call rfl rfl rfl ent22 rfl rfl rfl ?_
        obtain ⟨_, H251, hs250, A253, c254, A256, c257, rl259, hs250v, hm255, hl260, hm258, hE262, hB263, hq261, hh264, hx252⟩ := net_Take_specH Hl67 H5 nA nl nc h77 (by omega) (by omega) (by first | assumption | omega | decide | (simp_all; done)) H5 h79 (by omega) b7 (by omega) h76 x25.i (inA lA lc) (inA.zb h71) (inA.lt h71) h83
        rw [hs250v] at hs250; clear hs250v
        generalize hR266 : (Spec.takeT (nl.map MsgC.val) x25.i) = r265 at hs250 hl260 hm255 hm258 hE262 hB263 hq261
        obtain ⟨z267, z268, z269, z270, z271, z272, z273, z274, z275, z276, z277, z278, z279, z280, z281⟩ := r265
        dsimp only at hs250 hl260 hm255 hm258 hE262 hB263 hq261
        refine ⟨_, H251, hs250, ?_⟩
        have hx282 := Fr.mono hx252 (fun q e => e.1)
        have H251n : Hl67.next ≤ H251.next := hx282.1
        have h283 := My.hid h71 hx252
        have hl260n := congrArg List.length hl260; rw [List.length_map] at hl260n
        have tk := hrel.take hR266 hl260; have tkE := hrel.takeE hR266
        have hokT := tk.1.trans hin1.symm
        refine st_op (ev_move rfl) rfl rfl rfl ?_
        iterate 2 refine st_op (ev_extract rfl rfl) rfl rfl rfl ?_
        obtain ⟨b284, H285, he286, b284e, H285n_, hB288, f287⟩ := mem_alloc H251 zero46
        refine st_op (he286 _ _ _ _ _ _ _) rfl rfl rfl ?_
        have hx289 : Ext H251 H285 := Ext.new (by omega) H285n_ f287
        have H285n : H251.next ≤ H285.next := hx289.1
        obtain ⟨H290, he291, H290n_, hB292, f293⟩ := mem_store (v := .agg #[.int .i64 z267, .int .i64 z268, .int .i64 z269, .int .i64 z270, .int .i64 z271, .int .i64 z272, .int .i64 z273, .bool z274, .slice A253 z275.length c254, .int .i64 z276, .int .i64 z277, .string z278, .string z279]) (o := 0) (cs' := [.int .i64 z267, .int .i64 z268, .int .i64 z269, .int .i64 z270, .int .i64 z271, .int .i64 z272, .int .i64 z273, .bool z274, .slice A253 z275.length c254, .int .i64 z276, .int .i64 z277, .string z278, .string z279]) 13 rfl rfl size46 hB288 rfl rfl rfl
        refine st_op0 (he291 _ _ _ _ _ _ _ _ _ rfl rfl) rfl rfl ?_
        have hf294 : Fr (fun q => q = b284) H285 H290 := Fr.write H290n_ f293
        have H290n : H285.next ≤ H290.next := hf294.1
        refine st_op (ev_assign rfl) rfl rfl rfl ?_
        try show aw _ _ _ _ _ _
        iterate 2 refine aw_seq ?_
        refine aw_reg ?_
        refine st_op (ev_fieldAddr rfl fa57_0 (o' := 0) rfl) rfl rfl rfl ?_
        have h295 := Fr.blk hx282 (by omega) (fun e => Or.elim e (fun e => (by omega)) (fun e => (zb_ne h170 e.2.2 (show (0 : Nat) ≠ 13 by decide)))) h170
        have hx297 : Ext H251 H290 := (Ext.then hx289 hf294 (fun q hq e => by omega))
        have h296 := Ext.blk hx297 (by omega) h295
        refine st_op (ev_load rfl (lvar_one one3 h296 rfl)) rfl rfl rfl ?_
        refine st_op (ev_int rfl rfl rfl) rfl rfl rfl ?_
        refine st_op (ev_move rfl) rfl rfl rfl ?_
        refine st_bool 108 rfl (fun hb298 => ?_) (fun hb298 => ?_)
        ·
         have hb298 := eq_of_beq hb298
         exfalso; omega
        ·
         have hb298 := ne_of_beq_false hb298
         refine st_skip rfl rfl rfl ?_
         refine st_op (ev_pickF rfl rfl) rfl rfl rfl ?_
         try show aw _ _ _ _ _ _
         refine aw_cond (t := false) rfl ?_
         try show aw _ _ _ _ _ _
         refine aw_skip ?_
         try show aw _ _ _ _ _ _
         iterate 2 refine aw_seq ?_
         refine aw_marks (fun b => b < H290.next) [(false, false), (false, false), (false, false), (false, false), (false, false), (false, false), (false, false), (false, false), (false, false), (false, false), (false, false), (false, false), (false, false), (false, false), (false, false), (false, false), (false, false), (false, false), (false, false), (false, false), (false, false), (false, false), (false, false), (false, false), (false, false)] mixed (by kernel_rfl) (by kernel_rfl) ?_
         iterate 2 refine sm_op (ev_move rfl) rfl rfl rfl ?_
         refine sm_op (ev_neBool isbool4 rfl rfl) rfl rfl rfl ?_
         refine sm_op (ev_move rfl) rfl rfl rfl ?_
         refine sm_bool 117 rfl (fun hb299 => ?_) (fun hb299 => ?_)
         ·
          exact absurd hb299 (by rw [hokT]; simp)
         ·
          have hb299 : (z280 = in1b) := by simpa using hb299
          iterate 2 refine sm_op (ev_move rfl) rfl rfl rfl ?_
          refine sm_bool 119 rfl (fun hb300 => ?_) (fun hb300 => ?_)
          ·
           have hi1 := of_decide_eq_true (hin1.symm.trans hb300)
           have tl2 : (l.take (x25.i).toNat ++ l.drop (x25.i + 1).toNat).length + 1 = l.length := by simp; omega
           have tkl := (tk.2.2.1 hi1).1.len; have tke := Spec.may_es (tk.2.2.1 hi1).2; have tkc := Spec.may_cd (tk.2.2.1 hi1).2; have tks := (tk.2.2.1 hi1).1.short
           refine sm_op (ev_load rfl (lvar_part (l := [.int .i64 z267, .int .i64 z268, .int .i64 z269, .int .i64 z270, .int .i64 z271, .int .i64 z272, .int .i64 z273, .bool z274, .slice A253 z275.length c254, .int .i64 z276, .int .i64 z277, .string z278, .string z279]) many46 hB292 rfl rfl (by decide))) rfl rfl rfl ?_
           refine sm_op (ev_move rfl) rfl rfl rfl ?_
           refine sm_op (ev_fieldAddr rfl fa57_1 (o' := 1) rfl) rfl rfl rfl ?_
           refine sm_op (ev_load rfl (lvar_one one3 h296 rfl)) rfl rfl rfl ?_
           have h301 := My.ext h283 hx297
           have hi302 : 0 ≤ (x25.i : Int) := by omega
           have hi303 : (x25.i : Int) < ((l.length : Nat) : Int) := by omega
           obtain ⟨x304, hx305⟩ : ∃ e, l[(x25.i).toNat]? = some e := ⟨_, List.getElem?_eq_getElem (by omega)⟩
           have h307 := Each.frS h74 hx282 (fun q hq e => Or.elim e (fun e => ⟨_, e ▸ h76, show (0 : Nat) ≠ 4 by decide⟩) (fun e => (ZB.ne e.2.2 (show (13 : Nat) ≠ 4 by decide))))
           have h308 := Each.ext h307 hx297
           have hm306 : My H5 H290 x304.esA x304.esc 4 (x304.es.map Entry.cells) := Each.get h308 hx305
           have x304e := (show Spec.Short l from by first | exact bl | assumption) _ (List.mem_of_getElem? hx305)
           refine sm_op (ev_at rfl rfl (My.row h301) (getMap MsgC.cells hx305) (by first | rfl | omega | simp) hi302 hi303 el55) rfl rfl rfl ?_
           refine sm_op (ev_atN (cs := [.int .i64 x304.kind, .int .i64 x304.from_, .int .i64 x304.to_, .int .i64 x304.term, .int .i64 x304.index, .int .i64 x304.logterm, .int .i64 x304.commit, .bool x304.yes, .slice x304.esA x304.es.length x304.esc, .int .i64 x304.snap.index, .int .i64 x304.snap.term, .string x304.snap.conf, .string x304.snap.data]) rfl (My.row h301) (getMap MsgC.cells hx305) many46 rfl rfl (by decide)) rfl rfl rfl ?_
           refine sm_call rfl rfl rfl ent32 rfl rfl rfl ?_
           have h309 := My.ext hm255 hx297
           obtain ⟨_, H311, hs310, hs310v, hx312⟩ := law24_EqMsg_spec H290 z267 z268 z269 z270 z271 z272 z273 z274 A253 z275 c254 (My.row h309) (My.capF h309 (by omega)) (by omega) z276 z277 z278 z279 x304.kind x304.from_ x304.to_ x304.term x304.index x304.logterm x304.commit x304.yes x304.esA x304.es x304.esc (My.row hm306) (My.capF hm306 (by omega)) (by omega) x304.snap.index x304.snap.term x304.snap.conf x304.snap.data
           rw [hs310v] at hs310; clear hs310v
           refine ⟨_, H311, hs310, (fun _ b hb => hx312.2 b (by omega)), ?_⟩
           have H311n : H290.next ≤ H311.next := hx312.1
           refine sm_op (ev_not rfl) rfl rfl rfl ?_
           refine sm_op (ev_pickT rfl rfl) rfl rfl rfl ?_
           refine sm_op (ev_pickF rfl rfl) rfl rfl rfl ?_
           refine sm_op (ev_move rfl) rfl rfl rfl ?_
           refine sm_bool 130 rfl (fun hb313 => ?_) (fun hb313 => ?_)
           ·
            exact ((of_decide_eq_false ((Bool.not_eq_true' _).mp hb313)) (tk.2.2.2 _ hi1.1 hx305)).elim
           ·
            replace hb313 : (decide (z267 = x304.kind ∧ z268 = x304.from_ ∧ z269 = x304.to_ ∧ z270 = x304.term ∧ z271 = x304.index ∧ z272 = x304.logterm ∧ z273 = x304.commit ∧ z274 = x304.yes ∧ Spec.eqEs z275 x304.es = true ∧ Spec.eqSn z276 z277 z278 z279 x304.snap.index x304.snap.term x304.snap.conf x304.snap.data = true)) = true := by rw [Bool.not_eq_false'] at hb313; exact hb313
            have hb313 := of_decide_eq_true hb313
            refine sm_op (ev_move rfl) rfl rfl rfl ?_
            refine sm_op (ev_not rfl) rfl rfl rfl ?_
            refine sm_op (ev_move rfl) rfl rfl rfl ?_
            refine sm_bool 133 rfl (fun hb314 => ?_) (fun hb314 => ?_)
            ·
             replace hb314 : in1b = false := by rw [Bool.not_eq_true'] at hb314; exact hb314
             exact absurd (hb314.symm.trans hb300) (by decide)
            ·
             replace hb314 : in1b = true := by rw [Bool.not_eq_false'] at hb314; exact hb314
             iterate 3 refine sm_skip rfl rfl rfl ?_
             iterate 2 refine sm_op (ev_pickF rfl rfl) rfl rfl rfl ?_
             try show aw _ _ _ _ _ _
             refine aw_cond (t := false) rfl ?_
             try show aw _ _ _ _ _ _
             refine aw_skip ?_
             try show aw _ _ _ _ _ _
             iterate 2 refine aw_seq ?_
             refine aw_reg ?_
             refine st_op (ev_move rfl) rfl rfl rfl ?_
             try show aw _ _ _ _ _ _
             by_cases hc315 : in1b = true
             ·
              refine aw_condT hc315 rfl ?_
              try show aw _ _ _ _ _ _
              refine aw_marks (fun b => b < H311.next) [(false, false), (false, false), (false, false), (false, false), (false, false), (false, false), (false, false), (false, false), (false, false), (false, false), (false, false), (false, false), (false, false)] mixed (by kernel_rfl) (by kernel_rfl) ?_
              refine sm_op (ev_move rfl) rfl rfl rfl ?_
              refine sm_op (ev_fieldAddr rfl fa57_1 (o' := 1) rfl) rfl rfl rfl ?_
              have h316 := Ext.blk hx312 (by omega) h296
              refine sm_op (ev_load rfl (lvar_one one3 h316 rfl)) rfl rfl rfl ?_
              refine sm_op (ev_fieldAddr rfl fa57_1 (o' := 1) rfl) rfl rfl rfl ?_
              refine sm_op (ev_load rfl (lvar_one one3 h316 rfl)) rfl rfl rfl ?_
              have h328 := My.ext h301 hx312
              obtain ⟨A325, hs326, hm327⟩ := sliceA_my3 MsgC.cells el55 (by decide) h328 (k2 := .i64) (k3 := .i64) (j := x25.i) (by omega) (by omega) (by omega)
              obtain ⟨L329, hL330⟩ : ∃ l_, l_ = l.take (x25.i).toNat := ⟨_, rfl⟩
              have hl331 : L329.length = (x25.i).toNat := by rw [hL330, List.length_take]; omega
              rw [← hL330] at hm327
              rw [← hl331] at hs326 hm327
              refine sm_op (ev_slice rfl rfl rfl rfl hs326) rfl rfl rfl ?_
              have hcut332 := cut_inA el55 h328 (by simp) hs326 (by omega)
              have h334 := Each.ext h308 hx312
              have hE333 : Each MsgC.sub H5 H311 L329 := Each.sub h334 (fun _ hx => by rw [hL330] at hx; exact List.mem_of_mem_take hx)
              refine sm_op (ev_move rfl) rfl rfl rfl ?_
              refine sm_op (ev_fieldAddr rfl fa57_1 (o' := 1) rfl) rfl rfl rfl ?_
              refine sm_op (ev_load rfl (lvar_one one3 h316 rfl)) rfl rfl rfl ?_
              refine sm_op (ev_int64 (c := x25.i + 1) rfl rfl rfl (by omega) (by omega)) rfl rfl rfl ?_
              obtain ⟨A335, c336, L337, hL338, hl339, hs340, hr341⟩ := sliceA_my MsgC.cells el55 (by decide) h328 (by omega) (lo := some (.int .i64 (x25.i + 1))) (hi := none) (p := ((x25.i + 1)).toNat) (q := l.length) rfl (bound_int (by omega) (by omega) (by first | rfl | omega)) (by omega) (by omega) (.inl rfl)
              refine sm_op (ev_slice rfl rfl rfl rfl hs340) rfl rfl rfl ?_
              have hE343 : Each MsgC.sub H5 H311 L337 := Each.sub h334 (fun _ hx => mem_cut hL338 hx)
              have hx354 : Ext H251 H311 := (Ext.trans hx297 hx312)
              have h353 := My.hext hh264 hx354
              obtain ⟨A344, c345, H346, W347, he348, hm349, hf351, hA352⟩ := mem_append3 (f := MsgC.cells) (old := L329) (new := L337) (m := L329.length) (mx := L337.length) (c := L329.length) (by first | rfl | simp) (by first | rfl | simp) eok55 (by decide) hm327 hm327 (by omega) (((My.row hr341)).srcF (by decide) (by first | rfl | simp)) rfl MsgC.cells_len MsgC.cells_one (by omega) (by omega)
              have hf350 := Fr.mono hf351 (fun q h => h.2)
              have hh355 := My.rehide h353 hf351 (fun q w _ => hcut332 q w.1) (fun q e => (hA352 q e).imp (hcut332 q) id)
              refine sm_op (he348 _ _ _ _ _ _ _ _ _ _ rfl rfl isrow55) rfl rfl rfl ?_
              have H346n : H311.next ≤ H346.next := hf350.1
              have h356 := My.under hh355 hide_under
              have h358 := Each.frS hE333 hf350 (fun q hq e => (ZB.ne e.2.2 (show (13 : Nat) ≠ 4 by decide)))
              have h359 := Each.frS hE343 hf350 (fun q hq e => (ZB.ne e.2.2 (show (13 : Nat) ≠ 4 by decide)))
              have hE357 : Each MsgC.sub H5 H346 (L329 ++ L337) := Each.append h358 h359
              refine sm_op (ev_assign rfl) rfl rfl rfl ?_
              try show aw _ _ _ _ _ _
              refine aw_seq ?_
              refine aw_reg ?_
              refine st_op (ev_fieldAddr rfl fa57_0 (o' := 0) rfl) rfl rfl rfl ?_
              have h360 := Fr.blk hf350 (by omega) (fun e => (zb_ne h316 e.2.2 (show (0 : Nat) ≠ 13 by decide))) h316
              refine st_op (ev_load rfl (lvar_one one3 h360 rfl)) rfl rfl rfl ?_
              refine st_op (ev_int rfl rfl rfl) rfl rfl rfl ?_
              refine st_op (ev_move rfl) rfl rfl rfl ?_
              refine st_bool 155 rfl (fun hb361 => ?_) (fun hb361 => ?_)
              ·
               have hb361 := eq_of_beq hb361
               exfalso; omega
              ·
               have hb361 := ne_of_beq_false hb361
               refine st_skip rfl rfl rfl ?_
               refine st_op (ev_pickF rfl rfl) rfl rfl rfl ?_
               try show aw _ _ _ _ _ _
               refine aw_cond (t := false) rfl ?_
               try show aw _ _ _ _ _ _
               refine aw_skip ?_
               try show aw _ _ _ _ _ _
               have h362 := Each.ext hE262 hx354
               have h363 := Each.frS h362 hf350 (fun q hq e => (ZB.ne e.2.2 (show (13 : Nat) ≠ 4 by decide)))
               have h364 := Ext.blk hx354 (by omega) hB263
               have h365 := Fr.blk hf350 (by omega) (fun e => (zb_ne h364 e.2.2 (show (0 : Nat) ≠ 13 by decide))) h364
               refine aw_keep [0, 4, 5, 6, 7, 25, 26] (l' := (.cons 0 (.slice opsA ops.length opsc) (.cons 4 (.pointer (some ⟨b7, 0, none⟩)) (.cons 5 (.slice A344 ((L329 ++ L337).length) c345) (.cons 6 (.int .i64 (i : Int)) (.cons 7 (.pointer (some ⟨b29, 0, none⟩)) (.cons 25 (.int .i64 (i : Int)) (.cons 26 (.bool (decide ((i : Int) < 60))) .nil)))))))) (by repeat (first | exact Up.done | refine Up.then ?_ | refine Up.inBlock ?_)) rfl ?_
               exact hJ85 (A344, c345, (L329 ++ L337), A256, c257, rl259, H346) ⟨(show Spec.NetRel rl259 (L329 ++ L337) from (by rw [hL330, show L337 = l.drop (x25.i + 1).toNat from hL338.trans (List.take_of_length_le (by rw [List.length_drop]; exact Nat.le_refl _))]; exact (tk.2.2.1 hi1).1)), (show (L329 ++ L337).length ≤ i + 1 from (by first | omega | (simp; omega))), (show My H5 H346 A344 c345 13 ((L329 ++ L337).map MsgC.cells) from hm349), (show Each MsgC.sub H5 H346 (L329 ++ L337) from hE357), (show My H5 H346 A256 c257 13 (rl259.map MsgC.cells) from h356), (show Each MsgC.sub H5 H346 rl259 from h363), (show H346.blk b7 = some ⟨[.slice A256 rl259.length c257], 0, false, false⟩ from h365), (show My H5 (H346.hide (inA A344 c345)) A256 c257 13 (rl259.map MsgC.cells) from hh355), (show Fr (fun q => (H5.next ≤ q ∧ q < Hl67.next ∧ ZB Hl67 q 13) ∨ (H5.next ≤ q ∧ q < Hl67.next ∧ ZB Hl67 q 13) ∨ q = b7) Hl67 H346 from (Fr.transG (Fr.trans (Fr.transG (Fr.trans (Fr.transG (Fr.refl (fun q => (H5.next ≤ q ∧ q < Hl67.next ∧ ZB Hl67 q 13) ∨ (H5.next ≤ q ∧ q < Hl67.next ∧ ZB Hl67 q 13) ∨ q = b7) Hl67) hx282 (fun q hq hE e => Or.elim e (fun e => Or.inr (Or.inr ((e)))) (fun e => Or.inl (⟨by omega, by omega, ZB.back hE e.2.2⟩)))) (hx289.fr fun _ => False) (fun q hq (e : False) => e.elim)) hf294 (fun q hq hE e => absurd hq (by omega))) (hx312.fr fun _ => False) (fun q hq (e : False) => e.elim)) hf350 (fun q hq hE e => Or.inl (⟨by omega, by omega, ZB.back hE e.2.2⟩))))⟩
             ·
              rw [Bool.not_eq_true] at hc315; refine aw_condF hc315 rfl ?_
              try show aw _ _ _ _ _ _
              exact absurd (hc315.symm.trans hb300) (by decide)
          ·
           have hi1 := of_decide_eq_false (hin1.symm.trans hb300)
           iterate 8 refine sm_skip rfl rfl rfl ?_
           iterate 2 refine sm_op (ev_pickF rfl rfl) rfl rfl rfl ?_
           iterate 2 refine sm_op (ev_move rfl) rfl rfl rfl ?_
           refine sm_op (ev_not rfl) rfl rfl rfl ?_
           refine sm_op (ev_move rfl) rfl rfl rfl ?_
           refine sm_bool 133 rfl (fun hb366 => ?_) (fun hb366 => ?_)
           ·
            replace hb366 : in1b = false := by rw [Bool.not_eq_true'] at hb366; exact hb366
            refine sm_op (ev_fieldAddr rfl fa46_0 (o' := 0) rfl) rfl rfl rfl ?_
            refine sm_op (ev_load rfl (lvar_one one3 hB292 rfl)) rfl rfl rfl ?_
            refine sm_op (ev_int rfl rfl rfl) rfl rfl rfl ?_
            refine sm_op (ev_pickT rfl rfl) rfl rfl rfl ?_
            refine sm_op (ev_pickF rfl rfl) rfl rfl rfl ?_
            try show aw _ _ _ _ _ _
            by_cases hc367 : (z267 != 0) = true
            ·
             refine aw_condT hc367 rfl ?_
             try show aw _ _ _ _ _ _
             exact absurd hc367 (by rw [(tk.2.1 hi1).1]; decide)
            ·
             rw [Bool.not_eq_true] at hc367; refine aw_condF hc367 rfl ?_
             try show aw _ _ _ _ _ _
             have hc367 : (z267 = 0) := by simpa using hc367
             refine aw_skip ?_
             try show aw _ _ _ _ _ _
             iterate 2 refine aw_seq ?_
             refine aw_reg ?_
             refine st_op (ev_move rfl) rfl rfl rfl ?_
             try show aw _ _ _ _ _ _
             by_cases hc368 : in1b = true
             ·
              refine aw_condT hc368 rfl ?_
              try show aw _ _ _ _ _ _
              exact absurd (hc368.symm.trans hb300) (by decide)
             ·
              rw [Bool.not_eq_true] at hc368; refine aw_condF hc368 rfl ?_
              try show aw _ _ _ _ _ _
              refine aw_skip ?_
              try show aw _ _ _ _ _ _
              refine aw_seq ?_
              refine aw_reg ?_
              refine st_op (ev_fieldAddr rfl fa57_0 (o' := 0) rfl) rfl rfl rfl ?_
              refine st_op (ev_load rfl (lvar_one one3 h296 rfl)) rfl rfl rfl ?_
              refine st_op (ev_int rfl rfl rfl) rfl rfl rfl ?_
              refine st_op (ev_move rfl) rfl rfl rfl ?_
              refine st_bool 155 rfl (fun hb369 => ?_) (fun hb369 => ?_)
              ·
               have hb369 := eq_of_beq hb369
               exfalso; omega
              ·
               have hb369 := ne_of_beq_false hb369
               refine st_skip rfl rfl rfl ?_
               refine st_op (ev_pickF rfl rfl) rfl rfl rfl ?_
               try show aw _ _ _ _ _ _
               refine aw_cond (t := false) rfl ?_
               try show aw _ _ _ _ _ _
               refine aw_skip ?_
               try show aw _ _ _ _ _ _
               have h370 := My.ext h283 hx297
               have h371 := Each.frS h74 hx282 (fun q hq e => Or.elim e (fun e => ⟨_, e ▸ h76, show (0 : Nat) ≠ 4 by decide⟩) (fun e => (ZB.ne e.2.2 (show (13 : Nat) ≠ 4 by decide))))
               have h372 := Each.ext h371 hx297
               have h373 := My.ext hm258 hx297
               have h374 := Each.ext hE262 hx297
               have h375 := Ext.blk hx297 (by omega) hB263
               have h376 := My.hext hh264 hx297
               refine aw_keep [0, 4, 5, 6, 7, 25, 26] (l' := (.cons 0 (.slice opsA ops.length opsc) (.cons 4 (.pointer (some ⟨b7, 0, none⟩)) (.cons 5 (.slice lA l.length lc) (.cons 6 (.int .i64 (i : Int)) (.cons 7 (.pointer (some ⟨b29, 0, none⟩)) (.cons 25 (.int .i64 (i : Int)) (.cons 26 (.bool (decide ((i : Int) < 60))) .nil)))))))) (by repeat (first | exact Up.done | refine Up.then ?_ | refine Up.inBlock ?_)) rfl ?_
               exact hJ85 (lA, lc, l, A256, c257, rl259, H290) ⟨(show Spec.NetRel rl259 l from (tk.2.1 hi1).2), (show l.length ≤ i + 1 from (by first | omega | (simp; omega))), (show My H5 H290 lA lc 13 (l.map MsgC.cells) from h370), (show Each MsgC.sub H5 H290 l from h372), (show My H5 H290 A256 c257 13 (rl259.map MsgC.cells) from h373), (show Each MsgC.sub H5 H290 rl259 from h374), (show H290.blk b7 = some ⟨[.slice A256 rl259.length c257], 0, false, false⟩ from h375), (show My H5 (H290.hide (inA lA lc)) A256 c257 13 (rl259.map MsgC.cells) from h376), (show Fr (fun q => (H5.next ≤ q ∧ q < Hl67.next ∧ ZB Hl67 q 13) ∨ (H5.next ≤ q ∧ q < Hl67.next ∧ ZB Hl67 q 13) ∨ q = b7) Hl67 H290 from (Fr.transG (Fr.trans (Fr.transG (Fr.refl (fun q => (H5.next ≤ q ∧ q < Hl67.next ∧ ZB Hl67 q 13) ∨ (H5.next ≤ q ∧ q < Hl67.next ∧ ZB Hl67 q 13) ∨ q = b7) Hl67) hx282 (fun q hq hE e => Or.elim e (fun e => Or.inr (Or.inr ((e)))) (fun e => Or.inl (⟨by omega, by omega, ZB.back hE e.2.2⟩)))) (hx289.fr fun _ => False) (fun q hq (e : False) => e.elim)) hf294 (fun q hq hE e => absurd hq (by omega))))⟩
           ·
            replace hb366 : in1b = true := by rw [Bool.not_eq_false'] at hb366; exact hb366
            exact absurd (hb366.symm.trans hb300) (by decide)
       ·
        rw [Bool.not_eq_true] at hc249; refine aw_condF hc249 rfl ?_
        try show aw _ _ _ _ _ _
        have hc249 := ne_of_beq_false hc249
        exfalso; omega
      ·
       rw [Bool.not_eq_true] at hc248; refine aw_condF hc248 rfl ?_
       try show aw _ _ _ _ _ _
       have hc248 := ne_of_beq_false hc248
       refine aw_reg ?_
       refine st_op (ev_int rfl rfl rfl) rfl rfl rfl ?_
       refine st_op (ev_assign rfl) rfl rfl rfl ?_
       try show aw _ _ _ _ _ _
       by_cases hc377 : (x25.kind == 2) = true
       ·
        refine aw_condT hc377 rfl ?_
        try show aw _ _ _ _ _ _
        have hc377 := eq_of_beq hc377
        refine aw_seq ?_
        refine aw_reg ?_
        refine st_op (ev_move rfl) rfl rfl rfl ?_
        refine st_op (ev_fieldAddr rfl fa57_1 (o' := 1) rfl) rfl rfl rfl ?_
        refine st_op (ev_load rfl (lvar_one one3 h170 rfl)) rfl rfl rfl ?_
        refine st_call rfl rfl rfl ent22 rfl rfl rfl ?_
        obtain ⟨_, H379, hs378, A381, c382, A384, c385, rl387, hs378v, hm383, hl388, hm386, hE390, hB391, hq389, hh392, hx380⟩ := net_Take_specH Hl67 H5 nA nl nc h77 (by omega) (by omega) (by first | assumption | omega | decide | (simp_all; done)) H5 h79 (by omega) b7 (by omega) h76 x25.i (inA lA lc) (inA.zb h71) (inA.lt h71) h83
        rw [hs378v] at hs378; clear hs378v
        generalize hR394 : (Spec.takeT (nl.map MsgC.val) x25.i) = r393 at hs378 hl388 hm383 hm386 hE390 hB391 hq389
        obtain ⟨z395, z396, z397, z398, z399, z400, z401, z402, z403, z404, z405, z406, z407, z408, z409⟩ := r393
        dsimp only at hs378 hl388 hm383 hm386 hE390 hB391 hq389
        refine ⟨_, H379, hs378, ?_⟩
        have hx410 := Fr.mono hx380 (fun q e => e.1)
        have H379n : Hl67.next ≤ H379.next := hx410.1
        have h411 := My.hid h71 hx380
        have hl388n := congrArg List.length hl388; rw [List.length_map] at hl388n
        have tk := hrel.take hR394 hl388; have tkE := hrel.takeE hR394
        have hokT := tk.1.trans hin1.symm
        refine st_op (ev_move rfl) rfl rfl rfl ?_
        iterate 2 refine st_op (ev_extract rfl rfl) rfl rfl rfl ?_
        obtain ⟨b412, H413, he414, b412e, H413n_, hB416, f415⟩ := mem_alloc H379 zero46
        refine st_op (he414 _ _ _ _ _ _ _) rfl rfl rfl ?_
        have hx417 : Ext H379 H413 := Ext.new (by omega) H413n_ f415
        have H413n : H379.next ≤ H413.next := hx417.1
        obtain ⟨H418, he419, H418n_, hB420, f421⟩ := mem_store (v := .agg #[.int .i64 z395, .int .i64 z396, .int .i64 z397, .int .i64 z398, .int .i64 z399, .int .i64 z400, .int .i64 z401, .bool z402, .slice A381 z403.length c382, .int .i64 z404, .int .i64 z405, .string z406, .string z407]) (o := 0) (cs' := [.int .i64 z395, .int .i64 z396, .int .i64 z397, .int .i64 z398, .int .i64 z399, .int .i64 z400, .int .i64 z401, .bool z402, .slice A381 z403.length c382, .int .i64 z404, .int .i64 z405, .string z406, .string z407]) 13 rfl rfl size46 hB416 rfl rfl rfl
        refine st_op0 (he419 _ _ _ _ _ _ _ _ _ rfl rfl) rfl rfl ?_
        have hf422 : Fr (fun q => q = b412) H413 H418 := Fr.write H418n_ f421
        have H418n : H413.next ≤ H418.next := hf422.1
        refine st_op (ev_assign rfl) rfl rfl rfl ?_
        try show aw _ _ _ _ _ _
        iterate 2 refine aw_seq ?_
        refine aw_reg ?_
        refine st_op (ev_fieldAddr rfl fa57_0 (o' := 0) rfl) rfl rfl rfl ?_
        have h423 := Fr.blk hx410 (by omega) (fun e => Or.elim e (fun e => (by omega)) (fun e => (zb_ne h170 e.2.2 (show (0 : Nat) ≠ 13 by decide)))) h170
        have hx425 : Ext H379 H418 := (Ext.then hx417 hf422 (fun q hq e => by omega))
        have h424 := Ext.blk hx425 (by omega) h423
        refine st_op (ev_load rfl (lvar_one one3 h424 rfl)) rfl rfl rfl ?_
        refine st_op (ev_int rfl rfl rfl) rfl rfl rfl ?_
        refine st_op (ev_move rfl) rfl rfl rfl ?_
        refine st_bool 108 rfl (fun hb426 => ?_) (fun hb426 => ?_)
        ·
         have hb426 := eq_of_beq hb426
         refine st_op (ev_move rfl) rfl rfl rfl ?_
         refine st_op (ev_pickT rfl rfl) rfl rfl rfl ?_
         try show aw _ _ _ _ _ _
         by_cases hc427 : in1b = true
         ·
          refine aw_condT hc427 rfl ?_
          try show aw _ _ _ _ _ _
          have hi1 := of_decide_eq_true (hin1.symm.trans hc427)
          have tl2 : (l.take (x25.i).toNat ++ l.drop (x25.i + 1).toNat).length + 1 = l.length := by simp; omega
          have tkl := (tk.2.2.1 hi1).1.len; have tke := Spec.may_es (tk.2.2.1 hi1).2; have tkc := Spec.may_cd (tk.2.2.1 hi1).2; have tks := (tk.2.2.1 hi1).1.short
          refine aw_reg ?_
          refine st_op (ev_move rfl) rfl rfl rfl ?_
          refine st_op (ev_load rfl (lvar_part (l := [.int .i64 z395, .int .i64 z396, .int .i64 z397, .int .i64 z398, .int .i64 z399, .int .i64 z400, .int .i64 z401, .bool z402, .slice A381 z403.length c382, .int .i64 z404, .int .i64 z405, .string z406, .string z407]) many46 hB420 rfl rfl (by decide))) rfl rfl rfl ?_
          refine st_call rfl rfl rfl ent25 rfl rfl rfl ?_
          have h428 := Each.ext hE390 hx425
          have h429 := My.ext hm386 hx425
          have h430 := Ext.blk hx425 (by omega) hB391
          have h431 := My.ext hm383 hx425
          have h444 := My.ext h411 hx425
          have h445 := My.hext hh392 hx425
          obtain ⟨_, H433, hs432, A435, c436, rl438, hs432v, hl439, hm437, hE442, hB443, hq440, hq441, hh446, hx434⟩ := net_Send_specH H418 H5 A384 rl387 c385 h429 (by omega) (by omega) (by first | assumption | omega | decide | (simp_all; done)) H5 h428 (by omega) b7 (by omega) h430 z395 z396 z397 z398 z399 z400 z401 z402 A381 z403 c382 (My.row h431) (My.capF h431 (by omega)) (by omega) z404 z405 z406 (by omega) z407 (by omega) (inA lA lc) (inA.zb h444) (inA.lt h444) h445
          rw [hs432v] at hs432; clear hs432v
          generalize hR448 : (Spec.sendF (rl387.map MsgC.val) (⟨z395, z396, z397, z398, z399, z400, z401, z402, z403, ⟨z404, z405, z406, z407⟩⟩ : Msg)) = r447 at hs432 hl439 hm437 hE442 hB443 hq440 hq441
          obtain ⟨z449, z450⟩ := r447
          dsimp only at hs432 hl439 hm437 hE442 hB443 hq440 hq441
          refine ⟨_, H433, hs432, ?_⟩
          have hx451 := Fr.mono hx434 (fun q e => e.1)
          have H433n : H418.next ≤ H433.next := hx451.1
          have h452 := My.hid h444 hx434
          have hl439n := congrArg List.length hl439; rw [List.length_map] at hl439n
          have sd := (tk.2.2.1 hi1).1.send (by omega) hR448 hl439
          try show aw _ _ _ _ _ _
          iterate 2 refine aw_seq ?_
          refine aw_marks (fun b => b < H433.next) [(false, false), (false, false), (false, false), (false, false), (false, false), (false, false), (false, false), (false, false), (false, false), (false, false), (false, false), (false, false), (false, false), (false, false), (false, false), (false, false), (false, false), (false, false), (false, false), (false, false), (false, false), (false, false), (false, false), (false, false), (false, false)] mixed (by kernel_rfl) (by kernel_rfl) ?_
          iterate 2 refine sm_op (ev_move rfl) rfl rfl rfl ?_
          refine sm_op (ev_neBool isbool4 rfl rfl) rfl rfl rfl ?_
          refine sm_op (ev_move rfl) rfl rfl rfl ?_
          refine sm_bool 117 rfl (fun hb453 => ?_) (fun hb453 => ?_)
          ·
           exact absurd hb453 (by rw [hokT]; simp)
          ·
           have hb453 : (z408 = in1b) := by simpa using hb453
           iterate 2 refine sm_op (ev_move rfl) rfl rfl rfl ?_
           refine sm_bool 119 rfl (fun hb454 => ?_) (fun hb454 => ?_)
           ·
            have h455 := Fr.blk hx451 (by omega) (fun e => Or.elim e (fun e => (by omega)) (fun e => (zb_ne hB420 e.2.2 (show (0 : Nat) ≠ 13 by decide)))) hB420
            refine sm_op (ev_load rfl (lvar_part (l := [.int .i64 z395, .int .i64 z396, .int .i64 z397, .int .i64 z398, .int .i64 z399, .int .i64 z400, .int .i64 z401, .bool z402, .slice A381 z403.length c382, .int .i64 z404, .int .i64 z405, .string z406, .string z407]) many46 h455 rfl rfl (by decide))) rfl rfl rfl ?_
            refine sm_op (ev_move rfl) rfl rfl rfl ?_
            refine sm_op (ev_fieldAddr rfl fa57_1 (o' := 1) rfl) rfl rfl rfl ?_
            have h456 := Fr.blk hx451 (by omega) (fun e => Or.elim e (fun e => (by omega)) (fun e => (zb_ne h424 e.2.2 (show (0 : Nat) ≠ 13 by decide)))) h424
            refine sm_op (ev_load rfl (lvar_one one3 h456 rfl)) rfl rfl rfl ?_
            have hi457 : 0 ≤ (x25.i : Int) := by omega
            have hi458 : (x25.i : Int) < ((l.length : Nat) : Int) := by omega
            obtain ⟨x459, hx460⟩ : ∃ e, l[(x25.i).toNat]? = some e := ⟨_, List.getElem?_eq_getElem (by omega)⟩
            have h462 := Each.frS h74 hx410 (fun q hq e => Or.elim e (fun e => ⟨_, e ▸ h76, show (0 : Nat) ≠ 4 by decide⟩) (fun e => (ZB.ne e.2.2 (show (13 : Nat) ≠ 4 by decide))))
            have h463 := Each.ext h462 hx425
            have h464 := Each.frS h463 hx451 (fun q hq e => Or.elim e (fun e => ⟨_, e ▸ h430, show (0 : Nat) ≠ 4 by decide⟩) (fun e => (ZB.ne e.2.2 (show (13 : Nat) ≠ 4 by decide))))
            have hm461 : My H5 H433 x459.esA x459.esc 4 (x459.es.map Entry.cells) := Each.get h464 hx460
            have x459e := (show Spec.Short l from by first | exact bl | assumption) _ (List.mem_of_getElem? hx460)
            refine sm_op (ev_at rfl rfl (My.row h452) (getMap MsgC.cells hx460) (by first | rfl | omega | simp) hi457 hi458 el55) rfl rfl rfl ?_
            refine sm_op (ev_atN (cs := [.int .i64 x459.kind, .int .i64 x459.from_, .int .i64 x459.to_, .int .i64 x459.term, .int .i64 x459.index, .int .i64 x459.logterm, .int .i64 x459.commit, .bool x459.yes, .slice x459.esA x459.es.length x459.esc, .int .i64 x459.snap.index, .int .i64 x459.snap.term, .string x459.snap.conf, .string x459.snap.data]) rfl (My.row h452) (getMap MsgC.cells hx460) many46 rfl rfl (by decide)) rfl rfl rfl ?_
            refine sm_call rfl rfl rfl ent32 rfl rfl rfl ?_
            have h465 := My.frS h431 hx451 (fun q hq e => Or.elim e (fun e => ⟨_, e ▸ h430, show (0 : Nat) ≠ 4 by decide⟩) (fun e => (ZB.ne e.2.2 (show (13 : Nat) ≠ 4 by decide))))
            obtain ⟨_, H467, hs466, hs466v, hx468⟩ := law24_EqMsg_spec H433 z395 z396 z397 z398 z399 z400 z401 z402 A381 z403 c382 (My.row h465) (My.capF h465 (by omega)) (by omega) z404 z405 z406 z407 x459.kind x459.from_ x459.to_ x459.term x459.index x459.logterm x459.commit x459.yes x459.esA x459.es x459.esc (My.row hm461) (My.capF hm461 (by omega)) (by omega) x459.snap.index x459.snap.term x459.snap.conf x459.snap.data
            rw [hs466v] at hs466; clear hs466v
            refine ⟨_, H467, hs466, (fun _ b hb => hx468.2 b (by omega)), ?_⟩
            have H467n : H433.next ≤ H467.next := hx468.1
            refine sm_op (ev_not rfl) rfl rfl rfl ?_
            refine sm_op (ev_pickT rfl rfl) rfl rfl rfl ?_
            refine sm_op (ev_pickF rfl rfl) rfl rfl rfl ?_
            refine sm_op (ev_move rfl) rfl rfl rfl ?_
            refine sm_bool 130 rfl (fun hb469 => ?_) (fun hb469 => ?_)
            ·
             exact ((of_decide_eq_false ((Bool.not_eq_true' _).mp hb469)) (tk.2.2.2 _ hi1.1 hx460)).elim
            ·
             replace hb469 : (decide (z395 = x459.kind ∧ z396 = x459.from_ ∧ z397 = x459.to_ ∧ z398 = x459.term ∧ z399 = x459.index ∧ z400 = x459.logterm ∧ z401 = x459.commit ∧ z402 = x459.yes ∧ Spec.eqEs z403 x459.es = true ∧ Spec.eqSn z404 z405 z406 z407 x459.snap.index x459.snap.term x459.snap.conf x459.snap.data = true)) = true := by rw [Bool.not_eq_false'] at hb469; exact hb469
             have hb469 := of_decide_eq_true hb469
             refine sm_op (ev_move rfl) rfl rfl rfl ?_
             refine sm_op (ev_not rfl) rfl rfl rfl ?_
             refine sm_op (ev_move rfl) rfl rfl rfl ?_
             refine sm_bool 133 rfl (fun hb470 => ?_) (fun hb470 => ?_)
             ·
              replace hb470 : in1b = false := by rw [Bool.not_eq_true'] at hb470; exact hb470
              exact absurd (hb470.symm.trans hc427) (by decide)
             ·
              replace hb470 : in1b = true := by rw [Bool.not_eq_false'] at hb470; exact hb470
              iterate 3 refine sm_skip rfl rfl rfl ?_
              iterate 2 refine sm_op (ev_pickF rfl rfl) rfl rfl rfl ?_
              try show aw _ _ _ _ _ _
              refine aw_cond (t := false) rfl ?_
              try show aw _ _ _ _ _ _
              refine aw_skip ?_
              try show aw _ _ _ _ _ _
              iterate 2 refine aw_seq ?_
              refine aw_reg ?_
              refine st_op (ev_move rfl) rfl rfl rfl ?_
              try show aw _ _ _ _ _ _
              by_cases hc471 : in1b = true
              ·
               refine aw_condT hc471 rfl ?_
               try show aw _ _ _ _ _ _
               refine aw_marks (fun b => b < H467.next) [(false, false), (false, false), (false, false), (false, false), (false, false), (false, false), (false, false), (false, false), (false, false), (false, false), (false, false), (false, false), (false, false)] mixed (by kernel_rfl) (by kernel_rfl) ?_
               refine sm_op (ev_move rfl) rfl rfl rfl ?_
               refine sm_op (ev_fieldAddr rfl fa57_1 (o' := 1) rfl) rfl rfl rfl ?_
               have h472 := Ext.blk hx468 (by omega) h456
               refine sm_op (ev_load rfl (lvar_one one3 h472 rfl)) rfl rfl rfl ?_
               refine sm_op (ev_fieldAddr rfl fa57_1 (o' := 1) rfl) rfl rfl rfl ?_
               refine sm_op (ev_load rfl (lvar_one one3 h472 rfl)) rfl rfl rfl ?_
               have h484 := My.ext h452 hx468
               obtain ⟨A481, hs482, hm483⟩ := sliceA_my3 MsgC.cells el55 (by decide) h484 (k2 := .i64) (k3 := .i64) (j := x25.i) (by omega) (by omega) (by omega)
               obtain ⟨L485, hL486⟩ : ∃ l_, l_ = l.take (x25.i).toNat := ⟨_, rfl⟩
               have hl487 : L485.length = (x25.i).toNat := by rw [hL486, List.length_take]; omega
               rw [← hL486] at hm483
               rw [← hl487] at hs482 hm483
               refine sm_op (ev_slice rfl rfl rfl rfl hs482) rfl rfl rfl ?_
               have hcut488 := cut_inA el55 h484 (by simp) hs482 (by omega)
               have h490 := Each.ext h464 hx468
               have hE489 : Each MsgC.sub H5 H467 L485 := Each.sub h490 (fun _ hx => by rw [hL486] at hx; exact List.mem_of_mem_take hx)
               refine sm_op (ev_move rfl) rfl rfl rfl ?_
               refine sm_op (ev_fieldAddr rfl fa57_1 (o' := 1) rfl) rfl rfl rfl ?_
               refine sm_op (ev_load rfl (lvar_one one3 h472 rfl)) rfl rfl rfl ?_
               refine sm_op (ev_int64 (c := x25.i + 1) rfl rfl rfl (by omega) (by omega)) rfl rfl rfl ?_
               obtain ⟨A491, c492, L493, hL494, hl495, hs496, hr497⟩ := sliceA_my MsgC.cells el55 (by decide) h484 (by omega) (lo := some (.int .i64 (x25.i + 1))) (hi := none) (p := ((x25.i + 1)).toNat) (q := l.length) rfl (bound_int (by omega) (by omega) (by first | rfl | omega)) (by omega) (by omega) (.inl rfl)
               refine sm_op (ev_slice rfl rfl rfl rfl hs496) rfl rfl rfl ?_
               have hE499 : Each MsgC.sub H5 H467 L493 := Each.sub h490 (fun _ hx => mem_cut hL494 hx)
               have h509 := My.hext hh446 hx468
               obtain ⟨A500, c501, H502, W503, he504, hm505, hf507, hA508⟩ := mem_append3 (f := MsgC.cells) (old := L485) (new := L493) (m := L485.length) (mx := L493.length) (c := L485.length) (by first | rfl | simp) (by first | rfl | simp) eok55 (by decide) hm483 hm483 (by omega) (((My.row hr497)).srcF (by decide) (by first | rfl | simp)) rfl MsgC.cells_len MsgC.cells_one (by omega) (by omega)
               have hf506 := Fr.mono hf507 (fun q h => h.2)
               have hh510 := My.rehide h509 hf507 (fun q w _ => hcut488 q w.1) (fun q e => (hA508 q e).imp (hcut488 q) id)
               refine sm_op (he504 _ _ _ _ _ _ _ _ _ _ rfl rfl isrow55) rfl rfl rfl ?_
               have H502n : H467.next ≤ H502.next := hf506.1
               have h511 := My.under hh510 hide_under
               have h513 := Each.frS hE489 hf506 (fun q hq e => (ZB.ne e.2.2 (show (13 : Nat) ≠ 4 by decide)))
               have h514 := Each.frS hE499 hf506 (fun q hq e => (ZB.ne e.2.2 (show (13 : Nat) ≠ 4 by decide)))
               have hE512 : Each MsgC.sub H5 H502 (L485 ++ L493) := Each.append h513 h514
               refine sm_op (ev_assign rfl) rfl rfl rfl ?_
               try show aw _ _ _ _ _ _
               refine aw_seq ?_
               refine aw_reg ?_
               refine st_op (ev_fieldAddr rfl fa57_0 (o' := 0) rfl) rfl rfl rfl ?_
               have h515 := Fr.blk hf506 (by omega) (fun e => (zb_ne h472 e.2.2 (show (0 : Nat) ≠ 13 by decide))) h472
               refine st_op (ev_load rfl (lvar_one one3 h515 rfl)) rfl rfl rfl ?_
               refine st_op (ev_int rfl rfl rfl) rfl rfl rfl ?_
               refine st_op (ev_move rfl) rfl rfl rfl ?_
               refine st_bool 155 rfl (fun hb516 => ?_) (fun hb516 => ?_)
               ·
                have hb516 := eq_of_beq hb516
                refine st_op (ev_move rfl) rfl rfl rfl ?_
                refine st_op (ev_pickT rfl rfl) rfl rfl rfl ?_
                try show aw _ _ _ _ _ _
                by_cases hc517 : in1b = true
                ·
                 refine aw_condT hc517 rfl ?_
                 try show aw _ _ _ _ _ _
                 refine aw_reg ?_
                 refine st_op (ev_move rfl) rfl rfl rfl ?_
                 have h518 := Ext.blk hx468 (by omega) h455
                 have h519 := Fr.blk hf506 (by omega) (fun e => (zb_ne h518 e.2.2 (show (0 : Nat) ≠ 13 by decide))) h518
                 refine st_op (ev_load rfl (lvar_part (l := [.int .i64 z395, .int .i64 z396, .int .i64 z397, .int .i64 z398, .int .i64 z399, .int .i64 z400, .int .i64 z401, .bool z402, .slice A381 z403.length c382, .int .i64 z404, .int .i64 z405, .string z406, .string z407]) many46 h519 rfl rfl (by decide))) rfl rfl rfl ?_
                 obtain ⟨b520, H521, he522, b520e, H521n_, hm524, f523⟩ := mem_lit H502 (xs := ([.agg #[.int .i64 z395, .int .i64 z396, .int .i64 z397, .int .i64 z398, .int .i64 z399, .int .i64 z400, .int .i64 z401, .bool z402, .slice A381 z403.length c382, .int .i64 z404, .int .i64 z405, .string z406, .string z407]] : List Value)) (m := 1) (rows := [[.int .i64 z395, .int .i64 z396, .int .i64 z397, .int .i64 z398, .int .i64 z399, .int .i64 z400, .int .i64 z401, .bool z402, .slice A381 z403.length c382, .int .i64 z404, .int .i64 z405, .string z406, .string z407]]) rfl eok55 (by decide) (by decide) zf46 rfl (allLen rfl) rfl
                 replace hm524 : My H502 H521 (some ⟨b520, 0, none⟩) 1 13 ([(⟨z395, z396, z397, z398, z399, z400, z401, z402, z403, A381, c382, (⟨z404, z405, z406, z407⟩ : Snap)⟩ : MsgC)].map MsgC.cells) := hm524
                 refine st_op (he522 _ _ _ _ _ _ _ _ rfl) rfl rfl rfl ?_
                 have hx525 : Ext H502 H521 := Ext.new (by omega) H521n_ f523
                 have H521n : H502.next ≤ H521.next := hx525.1
                 have h527 := My.ext h465 hx468
                 have h528 := My.frS h527 hf506 (fun q hq e => (ZB.ne e.2.2 (show (13 : Nat) ≠ 4 by decide)))
                 have h529 := My.ext h528 hx525
                 have hE526 : Each MsgC.sub Hl67 H521 ([(⟨z395, z396, z397, z398, z399, z400, z401, z402, z403, A381, c382, (⟨z404, z405, z406, z407⟩ : Snap)⟩ : MsgC)]) := Each.one h529
                 have h530 := My.ext hm505 hx525
                 have h540 := My.hext hh510 hx525
                 obtain ⟨A531, c532, H533, W534, he535, hm536, hf538, hA539⟩ := mem_append3 (f := MsgC.cells) (old := (L485 ++ L493)) (new := [(⟨z395, z396, z397, z398, z399, z400, z401, z402, z403, A381, c382, (⟨z404, z405, z406, z407⟩ : Snap)⟩ : MsgC)]) (m := (L485 ++ L493).length) (mx := 1) (c := c501) (by first | rfl | simp) (by first | rfl | simp) eok55 (by decide) hm505 h530 (by omega) (((My.row hm524)).srcF (by decide) (by first | rfl | simp)) rfl MsgC.cells_len MsgC.cells_one (by first | omega | (simp only [List.length_append, List.length_cons, List.length_nil, List.length_map, List.length_set, List.length_replicate, Spec.bytesOf_length]; omega) | (simp; omega)) (by first | omega | (simp only [List.length_append, List.length_cons, List.length_nil, List.length_map, List.length_set, List.length_replicate, Spec.bytesOf_length]; omega) | (simp; omega))
                 have hf537 := Fr.mono hf538 (fun q h => h.2)
                 have hh541 := My.rehide h540 hf538 (fun q w _ => w.1) hA539
                 refine st_op (he535 _ _ _ _ _ _ _ _ _ _ rfl rfl isrow55) rfl rfl rfl ?_
                 have H533n : H521.next ≤ H533.next := hf537.1
                 have h542 := My.under hh541 hide_under
                 have h544 := Each.ext hE512 hx525
                 have h545 := Each.frS h544 hf537 (fun q hq e => (ZB.ne e.2.2 (show (13 : Nat) ≠ 4 by decide)))
                 have h546 := Each.frS hE526 hf537 (fun q hq e => (ZB.ne e.2.2 (show (13 : Nat) ≠ 4 by decide)))
                 have hE543 : Each MsgC.sub H5 H533 ((L485 ++ L493) ++ [(⟨z395, z396, z397, z398, z399, z400, z401, z402, z403, A381, c382, (⟨z404, z405, z406, z407⟩ : Snap)⟩ : MsgC)]) := Each.append h545 (Each.older h546 (by omega))
                 refine st_op (ev_assign rfl) rfl rfl rfl ?_
                 try show aw _ _ _ _ _ _
                 have h547 := Each.ext hE442 hx468
                 have h548 := Each.frS h547 hf506 (fun q hq e => (ZB.ne e.2.2 (show (13 : Nat) ≠ 4 by decide)))
                 have h549 := Each.ext h548 hx525
                 have h550 := Each.frS h549 hf537 (fun q hq e => (ZB.ne e.2.2 (show (13 : Nat) ≠ 4 by decide)))
                 have h551 := Ext.blk hx468 (by omega) hB443
                 have h552 := Fr.blk hf506 (by omega) (fun e => (zb_ne h551 e.2.2 (show (0 : Nat) ≠ 13 by decide))) h551
                 have h553 := Ext.blk hx525 (by omega) h552
                 have h554 := Fr.blk hf537 (by omega) (fun e => (zb_ne h553 e.2.2 (show (0 : Nat) ≠ 13 by decide))) h553
                 refine aw_keep [0, 4, 5, 6, 7, 25, 26] (l' := (.cons 0 (.slice opsA ops.length opsc) (.cons 4 (.pointer (some ⟨b7, 0, none⟩)) (.cons 5 (.slice A531 (((L485 ++ L493) ++ [(⟨z395, z396, z397, z398, z399, z400, z401, z402, z403, A381, c382, (⟨z404, z405, z406, z407⟩ : Snap)⟩ : MsgC)]).length) c532) (.cons 6 (.int .i64 (i : Int)) (.cons 7 (.pointer (some ⟨b29, 0, none⟩)) (.cons 25 (.int .i64 (i : Int)) (.cons 26 (.bool (decide ((i : Int) < 60))) .nil)))))))) (by repeat (first | exact Up.done | refine Up.then ?_ | refine Up.inBlock ?_)) rfl ?_
                 exact hJ85 (A531, c532, ((L485 ++ L493) ++ [(⟨z395, z396, z397, z398, z399, z400, z401, z402, z403, A381, c382, (⟨z404, z405, z406, z407⟩ : Snap)⟩ : MsgC)]), A435, c436, rl438, H533) ⟨(show Spec.NetRel rl438 ((L485 ++ L493) ++ [(⟨z395, z396, z397, z398, z399, z400, z401, z402, z403, A381, c382, (⟨z404, z405, z406, z407⟩ : Snap)⟩ : MsgC)]) from (by rw [hL486, show L493 = l.drop (x25.i + 1).toNat from hL494.trans (List.take_of_length_le (by rw [List.length_drop]; exact Nat.le_refl _))]; exact sd.2.2 _ rfl (tk.2.2.1 hi1).2)), (show ((L485 ++ L493) ++ [(⟨z395, z396, z397, z398, z399, z400, z401, z402, z403, A381, c382, (⟨z404, z405, z406, z407⟩ : Snap)⟩ : MsgC)]).length ≤ i + 1 from (by first | omega | (simp; omega))), (show My H5 H533 A531 c532 13 (((L485 ++ L493) ++ [(⟨z395, z396, z397, z398, z399, z400, z401, z402, z403, A381, c382, (⟨z404, z405, z406, z407⟩ : Snap)⟩ : MsgC)]).map MsgC.cells) from hm536), (show Each MsgC.sub H5 H533 ((L485 ++ L493) ++ [(⟨z395, z396, z397, z398, z399, z400, z401, z402, z403, A381, c382, (⟨z404, z405, z406, z407⟩ : Snap)⟩ : MsgC)]) from hE543), (show My H5 H533 A435 c436 13 (rl438.map MsgC.cells) from h542), (show Each MsgC.sub H5 H533 rl438 from h550), (show H533.blk b7 = some ⟨[.slice A435 rl438.length c436], 0, false, false⟩ from h554), (show My H5 (H533.hide (inA A531 c532)) A435 c436 13 (rl438.map MsgC.cells) from hh541), (show Fr (fun q => (H5.next ≤ q ∧ q < Hl67.next ∧ ZB Hl67 q 13) ∨ (H5.next ≤ q ∧ q < Hl67.next ∧ ZB Hl67 q 13) ∨ q = b7) Hl67 H533 from (Fr.transG (Fr.trans (Fr.transG (Fr.trans (Fr.transG (Fr.transG (Fr.trans (Fr.transG (Fr.refl (fun q => (H5.next ≤ q ∧ q < Hl67.next ∧ ZB Hl67 q 13) ∨ (H5.next ≤ q ∧ q < Hl67.next ∧ ZB Hl67 q 13) ∨ q = b7) Hl67) hx410 (fun q hq hE e => Or.elim e (fun e => Or.inr (Or.inr ((e)))) (fun e => Or.inl (⟨by omega, by omega, ZB.back hE e.2.2⟩)))) (hx417.fr fun _ => False) (fun q hq (e : False) => e.elim)) hf422 (fun q hq hE e => absurd hq (by omega))) hx451 (fun q hq hE e => Or.elim e (fun e => Or.inr (Or.inr ((e)))) (fun e => Or.inl (⟨by omega, by omega, ZB.back hE e.2.2⟩)))) (hx468.fr fun _ => False) (fun q hq (e : False) => e.elim)) hf506 (fun q hq hE e => Or.inl (⟨by omega, by omega, ZB.back hE e.2.2⟩))) (hx525.fr fun _ => False) (fun q hq (e : False) => e.elim)) hf537 (fun q hq hE e => Or.inl (⟨by omega, by omega, ZB.back hE e.2.2⟩))))⟩
                ·
                 rw [Bool.not_eq_true] at hc517; refine aw_condF hc517 rfl ?_
                 try show aw _ _ _ _ _ _
                 exact absurd (hc517.symm.trans hc427) (by decide)
               ·
                have hb516 := ne_of_beq_false hb516
                exfalso; omega
              ·
               rw [Bool.not_eq_true] at hc471; refine aw_condF hc471 rfl ?_
               try show aw _ _ _ _ _ _
               exact absurd (hc471.symm.trans hc427) (by decide)
           ·
            exact absurd (hb454.symm.trans hc427) (by decide)
         ·
          rw [Bool.not_eq_true] at hc427; refine aw_condF hc427 rfl ?_
          try show aw _ _ _ _ _ _
          have hi1 := of_decide_eq_false (hin1.symm.trans hc427)
          refine aw_skip ?_
          try show aw _ _ _ _ _ _
          iterate 2 refine aw_seq ?_
          refine aw_marks (fun b => b < H418.next) [(false, false), (false, false), (false, false), (false, false), (false, false), (false, false), (false, false), (false, false), (false, false), (false, false), (false, false), (false, false), (false, false), (false, false), (false, false), (false, false), (false, false), (false, false), (false, false), (false, false), (false, false), (false, false), (false, false), (false, false), (false, false)] mixed (by kernel_rfl) (by kernel_rfl) ?_
          iterate 2 refine sm_op (ev_move rfl) rfl rfl rfl ?_
          refine sm_op (ev_neBool isbool4 rfl rfl) rfl rfl rfl ?_
          refine sm_op (ev_move rfl) rfl rfl rfl ?_
          refine sm_bool 117 rfl (fun hb555 => ?_) (fun hb555 => ?_)
          ·
           exact absurd hb555 (by rw [hokT]; simp)
          ·
           have hb555 : (z408 = in1b) := by simpa using hb555
           iterate 2 refine sm_op (ev_move rfl) rfl rfl rfl ?_
           refine sm_bool 119 rfl (fun hb556 => ?_) (fun hb556 => ?_)
           ·
            exact absurd (hb556.symm.trans hc427) (by decide)
           ·
            iterate 8 refine sm_skip rfl rfl rfl ?_
            iterate 2 refine sm_op (ev_pickF rfl rfl) rfl rfl rfl ?_
            iterate 2 refine sm_op (ev_move rfl) rfl rfl rfl ?_
            refine sm_op (ev_not rfl) rfl rfl rfl ?_
            refine sm_op (ev_move rfl) rfl rfl rfl ?_
            refine sm_bool 133 rfl (fun hb557 => ?_) (fun hb557 => ?_)
            ·
             replace hb557 : in1b = false := by rw [Bool.not_eq_true'] at hb557; exact hb557
             refine sm_op (ev_fieldAddr rfl fa46_0 (o' := 0) rfl) rfl rfl rfl ?_
             refine sm_op (ev_load rfl (lvar_one one3 hB420 rfl)) rfl rfl rfl ?_
             refine sm_op (ev_int rfl rfl rfl) rfl rfl rfl ?_
             refine sm_op (ev_pickT rfl rfl) rfl rfl rfl ?_
             refine sm_op (ev_pickF rfl rfl) rfl rfl rfl ?_
             try show aw _ _ _ _ _ _
             by_cases hc558 : (z395 != 0) = true
             ·
              refine aw_condT hc558 rfl ?_
              try show aw _ _ _ _ _ _
              exact absurd hc558 (by rw [(tk.2.1 hi1).1]; decide)
             ·
              rw [Bool.not_eq_true] at hc558; refine aw_condF hc558 rfl ?_
              try show aw _ _ _ _ _ _
              have hc558 : (z395 = 0) := by simpa using hc558
              refine aw_skip ?_
              try show aw _ _ _ _ _ _
              iterate 2 refine aw_seq ?_
              refine aw_reg ?_
              refine st_op (ev_move rfl) rfl rfl rfl ?_
              try show aw _ _ _ _ _ _
              by_cases hc559 : in1b = true
              ·
               refine aw_condT hc559 rfl ?_
               try show aw _ _ _ _ _ _
               exact absurd (hc559.symm.trans hc427) (by decide)
              ·
               rw [Bool.not_eq_true] at hc559; refine aw_condF hc559 rfl ?_
               try show aw _ _ _ _ _ _
               refine aw_skip ?_
               try show aw _ _ _ _ _ _
               refine aw_seq ?_
               refine aw_reg ?_
               refine st_op (ev_fieldAddr rfl fa57_0 (o' := 0) rfl) rfl rfl rfl ?_
               refine st_op (ev_load rfl (lvar_one one3 h424 rfl)) rfl rfl rfl ?_
               refine st_op (ev_int rfl rfl rfl) rfl rfl rfl ?_
               refine st_op (ev_move rfl) rfl rfl rfl ?_
               refine st_bool 155 rfl (fun hb560 => ?_) (fun hb560 => ?_)
               ·
                have hb560 := eq_of_beq hb560
                refine st_op (ev_move rfl) rfl rfl rfl ?_
                refine st_op (ev_pickT rfl rfl) rfl rfl rfl ?_
                try show aw _ _ _ _ _ _
                by_cases hc561 : in1b = true
                ·
                 refine aw_condT hc561 rfl ?_
                 try show aw _ _ _ _ _ _
                 exact absurd (hc561.symm.trans hc427) (by decide)
                ·
                 rw [Bool.not_eq_true] at hc561; refine aw_condF hc561 rfl ?_
                 try show aw _ _ _ _ _ _
                 refine aw_skip ?_
                 try show aw _ _ _ _ _ _
                 have h562 := My.ext h411 hx425
                 have h563 := Each.frS h74 hx410 (fun q hq e => Or.elim e (fun e => ⟨_, e ▸ h76, show (0 : Nat) ≠ 4 by decide⟩) (fun e => (ZB.ne e.2.2 (show (13 : Nat) ≠ 4 by decide))))
                 have h564 := Each.ext h563 hx425
                 have h565 := My.ext hm386 hx425
                 have h566 := Each.ext hE390 hx425
                 have h567 := Ext.blk hx425 (by omega) hB391
                 have h568 := My.hext hh392 hx425
                 refine aw_keep [0, 4, 5, 6, 7, 25, 26] (l' := (.cons 0 (.slice opsA ops.length opsc) (.cons 4 (.pointer (some ⟨b7, 0, none⟩)) (.cons 5 (.slice lA l.length lc) (.cons 6 (.int .i64 (i : Int)) (.cons 7 (.pointer (some ⟨b29, 0, none⟩)) (.cons 25 (.int .i64 (i : Int)) (.cons 26 (.bool (decide ((i : Int) < 60))) .nil)))))))) (by repeat (first | exact Up.done | refine Up.then ?_ | refine Up.inBlock ?_)) rfl ?_
                 exact hJ85 (lA, lc, l, A384, c385, rl387, H418) ⟨(show Spec.NetRel rl387 l from (tk.2.1 hi1).2), (show l.length ≤ i + 1 from (by first | omega | (simp; omega))), (show My H5 H418 lA lc 13 (l.map MsgC.cells) from h562), (show Each MsgC.sub H5 H418 l from h564), (show My H5 H418 A384 c385 13 (rl387.map MsgC.cells) from h565), (show Each MsgC.sub H5 H418 rl387 from h566), (show H418.blk b7 = some ⟨[.slice A384 rl387.length c385], 0, false, false⟩ from h567), (show My H5 (H418.hide (inA lA lc)) A384 c385 13 (rl387.map MsgC.cells) from h568), (show Fr (fun q => (H5.next ≤ q ∧ q < Hl67.next ∧ ZB Hl67 q 13) ∨ (H5.next ≤ q ∧ q < Hl67.next ∧ ZB Hl67 q 13) ∨ q = b7) Hl67 H418 from (Fr.transG (Fr.trans (Fr.transG (Fr.refl (fun q => (H5.next ≤ q ∧ q < Hl67.next ∧ ZB Hl67 q 13) ∨ (H5.next ≤ q ∧ q < Hl67.next ∧ ZB Hl67 q 13) ∨ q = b7) Hl67) hx410 (fun q hq hE e => Or.elim e (fun e => Or.inr (Or.inr ((e)))) (fun e => Or.inl (⟨by omega, by omega, ZB.back hE e.2.2⟩)))) (hx417.fr fun _ => False) (fun q hq (e : False) => e.elim)) hf422 (fun q hq hE e => absurd hq (by omega))))⟩
               ·
                have hb560 := ne_of_beq_false hb560
                exfalso; omega
            ·
             replace hb557 : in1b = true := by rw [Bool.not_eq_false'] at hb557; exact hb557
             exact absurd (hb557.symm.trans hc427) (by decide)
        ·
         have hb426 := ne_of_beq_false hb426
         exfalso; omega
       ·
        rw [Bool.not_eq_true] at hc377; refine aw_condF hc377 rfl ?_
        try show aw _ _ _ _ _ _
        have hc377 := ne_of_beq_false hc377
        refine aw_seq ?_
        refine aw_reg ?_
        refine st_op (ev_int rfl rfl rfl) rfl rfl rfl ?_
        refine st_op (ev_assign rfl) rfl rfl rfl ?_
        try show aw _ _ _ _ _ _
        by_cases hc569 : (x25.kind == 3) = true
        ·
         refine aw_condT hc569 rfl ?_
         try show aw _ _ _ _ _ _
         have hc569 := eq_of_beq hc569
         iterate 2 refine aw_seq ?_
         refine aw_reg ?_
         refine st_op (ev_move rfl) rfl rfl rfl ?_
         refine st_op (ev_fieldAddr rfl fa57_1 (o' := 1) rfl) rfl rfl rfl ?_
         refine st_op (ev_load rfl (lvar_one one3 h170 rfl)) rfl rfl rfl ?_
         refine st_call rfl rfl rfl ent27 rfl rfl rfl ?_
         obtain ⟨_, H571, hs570, A573, c574, rl576, hs570v, hl577, hm575, hE580, hB581, hq578, hq579, hh582, hx572⟩ := net_Drop_specH Hl67 H5 nA nl nc h77 (by omega) (by omega) (by first | assumption | omega | decide | (simp_all; done)) H5 h79 (by omega) b7 (by omega) h76 x25.i (inA lA lc) (inA.zb h71) (inA.lt h71) h83
         rw [hs570v] at hs570; clear hs570v
         generalize hR584 : (Spec.dropF (nl.map MsgC.val) x25.i) = r583 at hs570 hl577 hm575 hE580 hB581 hq578 hq579
         obtain ⟨z585, z586⟩ := r583
         dsimp only at hs570 hl577 hm575 hE580 hB581 hq578 hq579
         refine ⟨_, H571, hs570, ?_⟩
         have hx587 := Fr.mono hx572 (fun q e => e.1)
         have H571n : Hl67.next ≤ H571.next := hx587.1
         have h588 := My.hid h71 hx572
         have hl577n := congrArg List.length hl577; rw [List.length_map] at hl577n
         have dp := hrel.drop hR584 hl577
         have hokT := dp.1.trans hin1.symm
         refine st_op (ev_move rfl) rfl rfl rfl ?_
         refine st_op (ev_neBool isbool4 rfl rfl) rfl rfl rfl ?_
         try show aw _ _ _ _ _ _
         by_cases hc589 : (z585 != in1b) = true
         ·
          refine aw_condT hc589 rfl ?_
          try show aw _ _ _ _ _ _
          exact absurd hc589 (by rw [hokT]; simp)
         ·
          rw [Bool.not_eq_true] at hc589; refine aw_condF hc589 rfl ?_
          try show aw _ _ _ _ _ _
          have hc589 : (z585 = in1b) := by simpa using hc589
          refine aw_skip ?_
          try show aw _ _ _ _ _ _
          refine aw_seq ?_
          refine aw_reg ?_
          refine st_op (ev_move rfl) rfl rfl rfl ?_
          try show aw _ _ _ _ _ _
          by_cases hc590 : in1b = true
          ·
           refine aw_condT hc590 rfl ?_
           try show aw _ _ _ _ _ _
           have hi1 := of_decide_eq_true (hin1.symm.trans hc590)
           refine aw_marks (fun b => b < H571.next) [(false, false), (false, false), (false, false), (false, false), (false, false), (false, false), (false, false), (false, false), (false, false), (false, false), (false, false), (false, false), (false, false)] mixed (by kernel_rfl) (by kernel_rfl) ?_
           refine sm_op (ev_move rfl) rfl rfl rfl ?_
           refine sm_op (ev_fieldAddr rfl fa57_1 (o' := 1) rfl) rfl rfl rfl ?_
           have h591 := Fr.blk hx587 (by omega) (fun e => Or.elim e (fun e => (by omega)) (fun e => (zb_ne h170 e.2.2 (show (0 : Nat) ≠ 13 by decide)))) h170
           refine sm_op (ev_load rfl (lvar_one one3 h591 rfl)) rfl rfl rfl ?_
           refine sm_op (ev_fieldAddr rfl fa57_1 (o' := 1) rfl) rfl rfl rfl ?_
           refine sm_op (ev_load rfl (lvar_one one3 h591 rfl)) rfl rfl rfl ?_
           obtain ⟨A600, hs601, hm602⟩ := sliceA_my3 MsgC.cells el55 (by decide) h588 (k2 := .i64) (k3 := .i64) (j := x25.i) (by omega) (by omega) (by omega)
           obtain ⟨L603, hL604⟩ : ∃ l_, l_ = l.take (x25.i).toNat := ⟨_, rfl⟩
           have hl605 : L603.length = (x25.i).toNat := by rw [hL604, List.length_take]; omega
           rw [← hL604] at hm602
           rw [← hl605] at hs601 hm602
           refine sm_op (ev_slice rfl rfl rfl rfl hs601) rfl rfl rfl ?_
           have hcut606 := cut_inA el55 h588 (by simp) hs601 (by omega)
           have h608 := Each.frS h74 hx587 (fun q hq e => Or.elim e (fun e => ⟨_, e ▸ h76, show (0 : Nat) ≠ 4 by decide⟩) (fun e => (ZB.ne e.2.2 (show (13 : Nat) ≠ 4 by decide))))
           have hE607 : Each MsgC.sub H5 H571 L603 := Each.sub h608 (fun _ hx => by rw [hL604] at hx; exact List.mem_of_mem_take hx)
           refine sm_op (ev_move rfl) rfl rfl rfl ?_
           refine sm_op (ev_fieldAddr rfl fa57_1 (o' := 1) rfl) rfl rfl rfl ?_
           refine sm_op (ev_load rfl (lvar_one one3 h591 rfl)) rfl rfl rfl ?_
           refine sm_op (ev_int64 (c := x25.i + 1) rfl rfl rfl (by omega) (by omega)) rfl rfl rfl ?_
           obtain ⟨A609, c610, L611, hL612, hl613, hs614, hr615⟩ := sliceA_my MsgC.cells el55 (by decide) h588 (by omega) (lo := some (.int .i64 (x25.i + 1))) (hi := none) (p := ((x25.i + 1)).toNat) (q := l.length) rfl (bound_int (by omega) (by omega) (by first | rfl | omega)) (by omega) (by omega) (.inl rfl)
           refine sm_op (ev_slice rfl rfl rfl rfl hs614) rfl rfl rfl ?_
           have hE617 : Each MsgC.sub H5 H571 L611 := Each.sub h608 (fun _ hx => mem_cut hL612 hx)
           obtain ⟨A618, c619, H620, W621, he622, hm623, hf625, hA626⟩ := mem_append3 (f := MsgC.cells) (old := L603) (new := L611) (m := L603.length) (mx := L611.length) (c := L603.length) (by first | rfl | simp) (by first | rfl | simp) eok55 (by decide) hm602 hm602 (by omega) (((My.row hr615)).srcF (by decide) (by first | rfl | simp)) rfl MsgC.cells_len MsgC.cells_one (by omega) (by omega)
           have hf624 := Fr.mono hf625 (fun q h => h.2)
           have hh627 := My.rehide hh582 hf625 (fun q w _ => hcut606 q w.1) (fun q e => (hA626 q e).imp (hcut606 q) id)
           refine sm_op (he622 _ _ _ _ _ _ _ _ _ _ rfl rfl isrow55) rfl rfl rfl ?_
           have H620n : H571.next ≤ H620.next := hf624.1
           have h628 := My.under hh627 hide_under
           have h630 := Each.frS hE607 hf624 (fun q hq e => (ZB.ne e.2.2 (show (13 : Nat) ≠ 4 by decide)))
           have h631 := Each.frS hE617 hf624 (fun q hq e => (ZB.ne e.2.2 (show (13 : Nat) ≠ 4 by decide)))
           have hE629 : Each MsgC.sub H5 H620 (L603 ++ L611) := Each.append h630 h631
           refine sm_op (ev_assign rfl) rfl rfl rfl ?_
           try show aw _ _ _ _ _ _
           have h632 := Each.frS hE580 hf624 (fun q hq e => (ZB.ne e.2.2 (show (13 : Nat) ≠ 4 by decide)))
           have h633 := Fr.blk hf624 (by omega) (fun e => (zb_ne hB581 e.2.2 (show (0 : Nat) ≠ 13 by decide))) hB581
           refine aw_keep [0, 4, 5, 6, 7, 25, 26] (l' := (.cons 0 (.slice opsA ops.length opsc) (.cons 4 (.pointer (some ⟨b7, 0, none⟩)) (.cons 5 (.slice A618 ((L603 ++ L611).length) c619) (.cons 6 (.int .i64 (i : Int)) (.cons 7 (.pointer (some ⟨b29, 0, none⟩)) (.cons 25 (.int .i64 (i : Int)) (.cons 26 (.bool (decide ((i : Int) < 60))) .nil)))))))) (by repeat (first | exact Up.done | refine Up.then ?_ | refine Up.inBlock ?_)) rfl ?_
           exact hJ85 (A618, c619, (L603 ++ L611), A573, c574, rl576, H620) ⟨(show Spec.NetRel rl576 (L603 ++ L611) from (by rw [hL604, show L611 = l.drop (x25.i + 1).toNat from hL612.trans (List.take_of_length_le (by rw [List.length_drop]; exact Nat.le_refl _))]; exact dp.2.2 hi1)), (show (L603 ++ L611).length ≤ i + 1 from (by first | omega | (simp; omega))), (show My H5 H620 A618 c619 13 ((L603 ++ L611).map MsgC.cells) from hm623), (show Each MsgC.sub H5 H620 (L603 ++ L611) from hE629), (show My H5 H620 A573 c574 13 (rl576.map MsgC.cells) from h628), (show Each MsgC.sub H5 H620 rl576 from h632), (show H620.blk b7 = some ⟨[.slice A573 rl576.length c574], 0, false, false⟩ from h633), (show My H5 (H620.hide (inA A618 c619)) A573 c574 13 (rl576.map MsgC.cells) from hh627), (show Fr (fun q => (H5.next ≤ q ∧ q < Hl67.next ∧ ZB Hl67 q 13) ∨ (H5.next ≤ q ∧ q < Hl67.next ∧ ZB Hl67 q 13) ∨ q = b7) Hl67 H620 from (Fr.transG (Fr.transG (Fr.refl (fun q => (H5.next ≤ q ∧ q < Hl67.next ∧ ZB Hl67 q 13) ∨ (H5.next ≤ q ∧ q < Hl67.next ∧ ZB Hl67 q 13) ∨ q = b7) Hl67) hx587 (fun q hq hE e => Or.elim e (fun e => Or.inr (Or.inr ((e)))) (fun e => Or.inl (⟨by omega, by omega, ZB.back hE e.2.2⟩)))) hf624 (fun q hq hE e => Or.inl (⟨by omega, by omega, ZB.back hE e.2.2⟩))))⟩
          ·
           rw [Bool.not_eq_true] at hc590; refine aw_condF hc590 rfl ?_
           try show aw _ _ _ _ _ _
           have hi1 := of_decide_eq_false (hin1.symm.trans hc590)
           refine aw_skip ?_
           try show aw _ _ _ _ _ _
           have h634 := Each.frS h74 hx587 (fun q hq e => Or.elim e (fun e => ⟨_, e ▸ h76, show (0 : Nat) ≠ 4 by decide⟩) (fun e => (ZB.ne e.2.2 (show (13 : Nat) ≠ 4 by decide))))
           refine aw_keep [0, 4, 5, 6, 7, 25, 26] (l' := (.cons 0 (.slice opsA ops.length opsc) (.cons 4 (.pointer (some ⟨b7, 0, none⟩)) (.cons 5 (.slice lA l.length lc) (.cons 6 (.int .i64 (i : Int)) (.cons 7 (.pointer (some ⟨b29, 0, none⟩)) (.cons 25 (.int .i64 (i : Int)) (.cons 26 (.bool (decide ((i : Int) < 60))) .nil)))))))) (by repeat (first | exact Up.done | refine Up.then ?_ | refine Up.inBlock ?_)) rfl ?_
           exact hJ85 (lA, lc, l, A573, c574, rl576, H571) ⟨(show Spec.NetRel rl576 l from (dp.2.1 hi1)), (show l.length ≤ i + 1 from (by first | omega | (simp; omega))), (show My H5 H571 lA lc 13 (l.map MsgC.cells) from h588), (show Each MsgC.sub H5 H571 l from h634), (show My H5 H571 A573 c574 13 (rl576.map MsgC.cells) from hm575), (show Each MsgC.sub H5 H571 rl576 from hE580), (show H571.blk b7 = some ⟨[.slice A573 rl576.length c574], 0, false, false⟩ from hB581), (show My H5 (H571.hide (inA lA lc)) A573 c574 13 (rl576.map MsgC.cells) from hh582), (show Fr (fun q => (H5.next ≤ q ∧ q < Hl67.next ∧ ZB Hl67 q 13) ∨ (H5.next ≤ q ∧ q < Hl67.next ∧ ZB Hl67 q 13) ∨ q = b7) Hl67 H571 from (Fr.transG (Fr.refl (fun q => (H5.next ≤ q ∧ q < Hl67.next ∧ ZB Hl67 q 13) ∨ (H5.next ≤ q ∧ q < Hl67.next ∧ ZB Hl67 q 13) ∨ q = b7) Hl67) hx587 (fun q hq hE e => Or.elim e (fun e => Or.inr (Or.inr ((e)))) (fun e => Or.inl (⟨by omega, by omega, ZB.back hE e.2.2⟩)))))⟩
        ·
         rw [Bool.not_eq_true] at hc569; refine aw_condF hc569 rfl ?_
         try show aw _ _ _ _ _ _
         have hc569 := ne_of_beq_false hc569
         refine aw_seq ?_
         refine aw_reg ?_
         refine st_op (ev_assign rfl) rfl rfl rfl ?_
         try show aw _ _ _ _ _ _
         iterate 2 refine aw_seq ?_
         refine aw_reg ?_
         refine st_op (ev_assign rfl) rfl rfl rfl ?_
         try show aw _ _ _ _ _ _
         refine aw_block ?_
         have hm636 : My Hl67 Hl67 none 0 13 (([] : List MsgC).map MsgC.cells) := .nil
         refine aw_keep [0, 4, 5, 6, 7, 12, 13, 25, 26] (l' := (.cons 0 (.slice opsA ops.length opsc) (.cons 4 (.pointer (some ⟨b7, 0, none⟩)) (.cons 5 (.slice lA l.length lc) (.cons 6 (.int .i64 (i : Int)) (.cons 7 (.pointer (some ⟨b29, 0, none⟩)) (.cons 12 (.slice none 0 0) (.cons 13 (.int .i64 0) (.cons 25 (.int .i64 (i : Int)) (.cons 26 (.bool (decide ((i : Int) < 60))) .nil)))))))))) (by repeat (first | exact Up.done | refine Up.then ?_ | refine Up.inBlock ?_)) rfl ?_
         refine aw_iter (α := Nat × Option Addr × Nat × List MsgC × Heap) (fun a => l.length - a.1) (fun a => (.cons 0 (.slice opsA ops.length opsc) (.cons 4 (.pointer (some ⟨b7, 0, none⟩)) (.cons 5 (.slice lA l.length lc) (.cons 6 (.int .i64 (i : Int)) (.cons 7 (.pointer (some ⟨b29, 0, none⟩)) (.cons 12 (.slice a.2.1 a.2.2.2.1.length a.2.2.1) (.cons 13 (.int .i64 (a.1 : Int)) (.cons 25 (.int .i64 (i : Int)) (.cons 26 (.bool (decide ((i : Int) < 60))) .nil)))))))))) (fun a => a.2.2.2.2) (fun a => (a.1 ≤ l.length) ∧ (a.2.2.2.1 = (l.take a.1).filter (Spec.notp fun (y : MsgC) => y.to_ == x25.i)) ∧ (a.2.2.2.1.length ≤ a.1) ∧ (My Hl67 a.2.2.2.2 a.2.1 a.2.2.1 13 (a.2.2.2.1.map MsgC.cells)) ∧ (Each MsgC.sub H5 a.2.2.2.2 a.2.2.2.1) ∧ (Ext Hl67 a.2.2.2.2)) (0, none, 0, ([] : List MsgC), Hl67) ⟨(show 0 ≤ l.length from Nat.zero_le _), (show ([] : List MsgC) = (l.take 0).filter (Spec.notp fun (y : MsgC) => y.to_ == x25.i) from rfl), (show ([] : List MsgC).length ≤ 0 from Nat.le_refl _), (show My Hl67 Hl67 none 0 13 (([] : List MsgC).map MsgC.cells) from hm636), (show Each MsgC.sub H5 Hl67 ([] : List MsgC) from (Each.nil (S := MsgC.sub) (H0 := H5) (H := Hl67))), (show Ext Hl67 Hl67 from (Ext.refl Hl67))⟩ ?_
         rintro ⟨j, kA, kc, kl, Hl635⟩ ⟨hj, hkl, hkj, hm637, hE638, hxl639⟩ ih640
         replace hj : j ≤ l.length := hj
         replace hkl : kl = (l.take j).filter (Spec.notp fun (y : MsgC) => y.to_ == x25.i) := hkl
         replace hkj : kl.length ≤ j := hkj
         replace hm637 : My Hl67 Hl635 kA kc 13 (kl.map MsgC.cells) := hm637
         replace hE638 : Each MsgC.sub H5 Hl635 kl := hE638
         replace hxl639 : Ext Hl67 Hl635 := hxl639
         show aw _ _ _ (RL _ (.cons 0 (.slice opsA ops.length opsc) (.cons 4 (.pointer (some ⟨b7, 0, none⟩)) (.cons 5 (.slice lA l.length lc) (.cons 6 (.int .i64 (i : Int)) (.cons 7 (.pointer (some ⟨b29, 0, none⟩)) (.cons 12 (.slice kA kl.length kc) (.cons 13 (.int .i64 (j : Int)) (.cons 25 (.int .i64 (i : Int)) (.cons 26 (.bool (decide ((i : Int) < 60))) .nil)))))))))) Hl635 _
         have Hl635n : Hl67.next ≤ Hl635.next := hxl639.1
         iterate 2 refine aw_seq ?_
         refine aw_reg ?_
         iterate 2 refine st_op (ev_move rfl) rfl rfl rfl ?_
         refine st_op (ev_lenSl rfl Try.underlying55) rfl rfl rfl ?_
         refine st_op (ev_int rfl rfl rfl) rfl rfl rfl ?_
         try show aw _ _ _ _ _ _
         by_cases hc641 : (decide ((j : Int) < (l.length : Int))) = true
         ·
          refine aw_condT hc641 rfl ?_
          try show aw _ _ _ _ _ _
          have hc641 := of_decide_eq_true hc641
          refine aw_skip ?_
          try show aw _ _ _ _ _ _
          refine aw_seq ?_
          refine aw_block ?_
          refine aw_seq ?_
          refine aw_marks (fun b => b < Hl635.next) [(false, false), (false, false), (false, false), (false, false), (false, false), (false, false), (false, false), (false, false)] mixed (by kernel_rfl) (by kernel_rfl) ?_
          iterate 2 refine sm_op (ev_move rfl) rfl rfl rfl ?_
          have h642 := My.ext h71 hxl639
          have hi643 : 0 ≤ ((j : Int) : Int) := by omega
          have hi644 : ((j : Int) : Int) < ((l.length : Nat) : Int) := by omega
          obtain ⟨x645, hx646⟩ : ∃ e, l[j]? = some e := ⟨_, List.getElem?_eq_getElem (by omega)⟩
          have h648 := Each.ext h74 hxl639
          have hm647 : My H5 Hl635 x645.esA x645.esc 4 (x645.es.map Entry.cells) := Each.get h648 hx646
          have x645e := (show Spec.Short l from by first | exact bl | assumption) _ (List.mem_of_getElem? hx646)
          refine sm_op (ev_at rfl rfl (My.row h642) (getMap MsgC.cells hx646) (by first | rfl | omega | simp) hi643 hi644 el55) rfl rfl rfl ?_
          refine sm_op (ev_atF rfl (My.row h642) (getMap MsgC.cells hx646) fa46_2 rfl) rfl rfl rfl ?_
          refine sm_op (ev_atL rfl (My.row h642) (getMap MsgC.cells hx646) one3 rfl) rfl rfl rfl ?_
          refine sm_op (ev_fieldAddr rfl fa57_1 (o' := 1) rfl) rfl rfl rfl ?_
          have h649 := Ext.blk hxl639 (by omega) h170
          refine sm_op (ev_load rfl (lvar_one one3 h649 rfl)) rfl rfl rfl ?_
          refine sm_op (ev_int rfl rfl rfl) rfl rfl rfl ?_
          try show aw _ _ _ _ _ _
          by_cases hc650 : (x645.to_ != x25.i) = true
          ·
           refine aw_condT hc650 rfl ?_
           try show aw _ _ _ _ _ _
           have hc650 : ¬ (x645.to_ = x25.i) := by simpa using hc650
           refine aw_reg ?_
           iterate 3 refine st_op (ev_move rfl) rfl rfl rfl ?_
           have hi651 : 0 ≤ ((j : Int) : Int) := by omega
           have hi652 : ((j : Int) : Int) < ((l.length : Nat) : Int) := by omega
           refine st_op (ev_at rfl rfl (My.row h642) (getMap MsgC.cells hx646) (by first | rfl | omega | simp) hi651 hi652 el55) rfl rfl rfl ?_
           refine st_op (ev_atN (cs := [.int .i64 x645.kind, .int .i64 x645.from_, .int .i64 x645.to_, .int .i64 x645.term, .int .i64 x645.index, .int .i64 x645.logterm, .int .i64 x645.commit, .bool x645.yes, .slice x645.esA x645.es.length x645.esc, .int .i64 x645.snap.index, .int .i64 x645.snap.term, .string x645.snap.conf, .string x645.snap.data]) rfl (My.row h642) (getMap MsgC.cells hx646) many46 rfl rfl (by decide)) rfl rfl rfl ?_
           obtain ⟨b653, H654, he655, b653e, H654n_, hm657, f656⟩ := mem_lit Hl635 (xs := ([.agg #[.int .i64 x645.kind, .int .i64 x645.from_, .int .i64 x645.to_, .int .i64 x645.term, .int .i64 x645.index, .int .i64 x645.logterm, .int .i64 x645.commit, .bool x645.yes, .slice x645.esA x645.es.length x645.esc, .int .i64 x645.snap.index, .int .i64 x645.snap.term, .string x645.snap.conf, .string x645.snap.data]] : List Value)) (m := 1) (rows := [[.int .i64 x645.kind, .int .i64 x645.from_, .int .i64 x645.to_, .int .i64 x645.term, .int .i64 x645.index, .int .i64 x645.logterm, .int .i64 x645.commit, .bool x645.yes, .slice x645.esA x645.es.length x645.esc, .int .i64 x645.snap.index, .int .i64 x645.snap.term, .string x645.snap.conf, .string x645.snap.data]]) rfl eok55 (by decide) (by decide) zf46 rfl (allLen rfl) rfl
           replace hm657 : My Hl635 H654 (some ⟨b653, 0, none⟩) 1 13 ([x645].map MsgC.cells) := hm657
           refine st_op (he655 _ _ _ _ _ _ _ _ rfl) rfl rfl rfl ?_
           have hx658 : Ext Hl635 H654 := Ext.new (by omega) H654n_ f656
           have H654n : Hl635.next ≤ H654.next := hx658.1
           have h660 := My.ext hm647 hx658
           have hE659 : Each MsgC.sub H5 H654 ([x645]) := Each.one h660
           have h661 := My.ext hm637 hx658
           obtain ⟨A662, c663, H664, W665, he666, hm667, hf668⟩ := mem_append (f := MsgC.cells) (old := kl) (new := [x645]) (m := kl.length) (mx := 1) (c := kc) (by first | rfl | simp) (by first | rfl | simp) eok55 (by decide) hm637 h661 (by omega) (((My.row hm657)).srcF (by decide) (by first | rfl | simp)) rfl MsgC.cells_len MsgC.cells_one (by first | omega | (simp only [List.length_append, List.length_cons, List.length_nil, List.length_map, List.length_set, List.length_replicate, Spec.bytesOf_length]; omega) | (simp; omega)) (by first | omega | (simp only [List.length_append, List.length_cons, List.length_nil, List.length_map, List.length_set, List.length_replicate, Spec.bytesOf_length]; omega) | (simp; omega))
           refine st_op (he666 _ _ _ _ _ _ _ _ _ _ rfl rfl isrow55) rfl rfl rfl ?_
           have H664n : H654.next ≤ H664.next := hf668.1
           have h670 := Each.ext hE638 hx658
           have h671 := Each.frS h670 hf668 (fun q hq e => (ZB.ne e.2.2 (show (13 : Nat) ≠ 4 by decide)))
           have h672 := Each.frS hE659 hf668 (fun q hq e => (ZB.ne e.2.2 (show (13 : Nat) ≠ 4 by decide)))
           have hE669 : Each MsgC.sub H5 H664 (kl ++ [x645]) := Each.append h671 h672
           refine st_op (ev_assign rfl) rfl rfl rfl ?_
           try show aw _ _ _ _ _ _
           refine aw_reg ?_
           refine st_op (ev_move rfl) rfl rfl rfl ?_
           refine st_op (ev_int64 (c := (j : Int) + 1) rfl rfl rfl (by omega) (by omega)) rfl rfl rfl ?_
           refine st_op (ev_assign rfl) rfl rfl rfl ?_
           try show aw _ _ _ _ _ _
           have hx673 : Ext Hl67 H664 := (Ext.then (Ext.trans hxl639 hx658) hf668 (fun q hq e => by omega))
           refine aw_keep [0, 4, 5, 6, 7, 12, 13, 25, 26] (l' := (.cons 0 (.slice opsA ops.length opsc) (.cons 4 (.pointer (some ⟨b7, 0, none⟩)) (.cons 5 (.slice lA l.length lc) (.cons 6 (.int .i64 (i : Int)) (.cons 7 (.pointer (some ⟨b29, 0, none⟩)) (.cons 12 (.slice A662 ((kl ++ [x645]).length) c663) (.cons 13 (.int .i64 ((j : Int) + 1)) (.cons 25 (.int .i64 (i : Int)) (.cons 26 (.bool (decide ((i : Int) < 60))) .nil)))))))))) (by repeat (first | exact Up.done | refine Up.then ?_ | refine Up.inBlock ?_)) rfl ?_
           exact ih640 (j + 1, A662, c663, (kl ++ [x645]), H664) ⟨(show (j + 1) ≤ l.length from (by omega)), (show (kl ++ [x645]) = (l.take (j + 1)).filter (Spec.notp fun (y : MsgC) => y.to_ == x25.i) from (Spec.clear_keep hx646 (by first | omega | simp_all) hkl)), (show (kl ++ [x645]).length ≤ (j + 1) from (by first | omega | (simp; omega))), (show My Hl67 H664 A662 c663 13 ((kl ++ [x645]).map MsgC.cells) from hm667), (show Each MsgC.sub H5 H664 (kl ++ [x645]) from hE669), (show Ext Hl67 H664 from hx673)⟩ (by simp only; refine Nat.sub_lt_sub_left ?_ (Nat.lt_succ_self _); first | omega | exact Int.ofNat_lt.1 (by assumption))
          ·
           rw [Bool.not_eq_true] at hc650; refine aw_condF hc650 rfl ?_
           try show aw _ _ _ _ _ _
           have hc650 : (x645.to_ = x25.i) := by simpa using hc650
           refine aw_skip ?_
           try show aw _ _ _ _ _ _
           refine aw_reg ?_
           refine st_op (ev_move rfl) rfl rfl rfl ?_
           refine st_op (ev_int64 (c := (j : Int) + 1) rfl rfl rfl (by omega) (by omega)) rfl rfl rfl ?_
           refine st_op (ev_assign rfl) rfl rfl rfl ?_
           try show aw _ _ _ _ _ _
           refine aw_keep [0, 4, 5, 6, 7, 12, 13, 25, 26] (l' := (.cons 0 (.slice opsA ops.length opsc) (.cons 4 (.pointer (some ⟨b7, 0, none⟩)) (.cons 5 (.slice lA l.length lc) (.cons 6 (.int .i64 (i : Int)) (.cons 7 (.pointer (some ⟨b29, 0, none⟩)) (.cons 12 (.slice kA kl.length kc) (.cons 13 (.int .i64 ((j : Int) + 1)) (.cons 25 (.int .i64 (i : Int)) (.cons 26 (.bool (decide ((i : Int) < 60))) .nil)))))))))) (by repeat (first | exact Up.done | refine Up.then ?_ | refine Up.inBlock ?_)) rfl ?_
           exact ih640 (j + 1, kA, kc, kl, Hl635) ⟨(show (j + 1) ≤ l.length from (by omega)), (show kl = (l.take (j + 1)).filter (Spec.notp fun (y : MsgC) => y.to_ == x25.i) from (Spec.clear_skip hx646 (by first | omega | simp_all) hkl)), (show kl.length ≤ (j + 1) from (by first | omega | (simp; omega))), (show My Hl67 Hl635 kA kc 13 (kl.map MsgC.cells) from hm637), (show Each MsgC.sub H5 Hl635 kl from hE638), (show Ext Hl67 Hl635 from hxl639)⟩ (by simp only; refine Nat.sub_lt_sub_left ?_ (Nat.lt_succ_self _); first | omega | exact Int.ofNat_lt.1 (by assumption))
         ·
          rw [Bool.not_eq_true] at hc641; refine aw_condF hc641 rfl ?_
          try show aw _ _ _ _ _ _
          have hc641 := of_decide_eq_false hc641
          refine aw_exit ?_
          try show aw _ _ _ _ _ _
          iterate 2 refine aw_seq ?_
          refine aw_reg ?_
          refine st_op (ev_move rfl) rfl rfl rfl ?_
          refine st_op (ev_fieldAddr rfl fa57_1 (o' := 1) rfl) rfl rfl rfl ?_
          have h674 := Ext.blk hxl639 (by omega) h170
          refine st_op (ev_load rfl (lvar_one one3 h674 rfl)) rfl rfl rfl ?_
          refine st_call rfl rfl rfl ent28 rfl rfl rfl ?_
          have h675 := Each.ext h79 hxl639
          have h676 := My.ext h77 hxl639
          have h677 := Ext.blk hxl639 (by omega) h76
          have hh690 := My.hideNew h77 hxl639 (show Hl67.next ≤ Hl67.next by omega) hm637
          obtain ⟨_, H679, hs678, A681, c682, rl684, hs678v, hl685, hm683, hE688, hB689, hq686, hq687, hh691, hx680⟩ := net_Clear_specH Hl635 H5 nA nl nc h676 (by omega) (by omega) (by first | assumption | omega | decide | (simp_all; done)) H5 h675 (by omega) b7 (by omega) h677 x25.i (inA kA kc) (inA.zb hm637) (inA.lt hm637) hh690
          rw [hs678v] at hs678; clear hs678v
          generalize hR693 : (Spec.clearF (nl.map MsgC.val) x25.i) = r692 at hs678 hl685 hm683 hE688 hB689 hq686 hq687
          obtain ⟨z694, z695⟩ := r692
          dsimp only at hs678 hl685 hm683 hE688 hB689 hq686 hq687
          refine ⟨_, H679, hs678, ?_⟩
          have hx696 := Fr.mono hx680 (fun q e => e.1)
          have H679n : Hl635.next ≤ H679.next := hx696.1
          have h697 := My.hid hm637 hx680
          have hl685n := congrArg List.length hl685; rw [List.length_map] at hl685n
          have cl := hrel.clear hR693 hl685 hkl (by omega)
          refine st_op (ev_move rfl) rfl rfl rfl ?_
          refine st_op (ev_lenSl rfl Try.underlying55) rfl rfl rfl ?_
          refine st_op (ev_move rfl) rfl rfl rfl ?_
          refine st_op (ev_lenSl rfl Try.underlying55) rfl rfl rfl ?_
          iterate 2 refine st_op (ev_int rfl rfl rfl) rfl rfl rfl ?_
          try show aw _ _ _ _ _ _
          by_cases hc698 : (z694 != (IntKind.i64.wrap ((l.length : Int) - (kl.length : Int)))) = true
          ·
           refine aw_condT hc698 rfl ?_
           try show aw _ _ _ _ _ _
           exact absurd hc698 (by rw [cl.1]; simp; try (rw [IntKind.wrap_i64]; omega))
          ·
           rw [Bool.not_eq_true] at hc698; refine aw_condF hc698 rfl ?_
           try show aw _ _ _ _ _ _
           have hc698 : (z694 = (IntKind.i64.wrap ((l.length : Int) - (kl.length : Int)))) := by simpa using hc698
           refine aw_skip ?_
           try show aw _ _ _ _ _ _
           refine aw_reg ?_
           refine st_op (ev_move rfl) rfl rfl rfl ?_
           refine st_op (ev_assign rfl) rfl rfl rfl ?_
           try show aw _ _ _ _ _ _
           have h699 := Each.frS hE638 hx696 (fun q hq e => Or.elim e (fun e => ⟨_, e ▸ h677, show (0 : Nat) ≠ 4 by decide⟩) (fun e => (ZB.ne e.2.2 (show (13 : Nat) ≠ 4 by decide))))
           refine aw_keep [0, 4, 5, 6, 7, 25, 26] (l' := (.cons 0 (.slice opsA ops.length opsc) (.cons 4 (.pointer (some ⟨b7, 0, none⟩)) (.cons 5 (.slice kA kl.length kc) (.cons 6 (.int .i64 (i : Int)) (.cons 7 (.pointer (some ⟨b29, 0, none⟩)) (.cons 25 (.int .i64 (i : Int)) (.cons 26 (.bool (decide ((i : Int) < 60))) .nil)))))))) (by repeat (first | exact Up.done | refine Up.then ?_ | refine Up.inBlock ?_)) rfl ?_
           exact hJ85 (kA, kc, kl, A681, c682, rl684, H679) ⟨(show Spec.NetRel rl684 kl from cl.2), (show kl.length ≤ i + 1 from (by omega)), (show My H5 H679 kA kc 13 (kl.map MsgC.cells) from (My.older h697 (by omega))), (show Each MsgC.sub H5 H679 kl from h699), (show My H5 H679 A681 c682 13 (rl684.map MsgC.cells) from hm683), (show Each MsgC.sub H5 H679 rl684 from hE688), (show H679.blk b7 = some ⟨[.slice A681 rl684.length c682], 0, false, false⟩ from hB689), (show My H5 (H679.hide (inA kA kc)) A681 c682 13 (rl684.map MsgC.cells) from hh691), (show Fr (fun q => (H5.next ≤ q ∧ q < Hl67.next ∧ ZB Hl67 q 13) ∨ (H5.next ≤ q ∧ q < Hl67.next ∧ ZB Hl67 q 13) ∨ q = b7) Hl67 H679 from (Fr.transG (Fr.trans (Fr.refl (fun q => (H5.next ≤ q ∧ q < Hl67.next ∧ ZB Hl67 q 13) ∨ (H5.next ≤ q ∧ q < Hl67.next ∧ ZB Hl67 q 13) ∨ q = b7) Hl67) (hxl639.fr fun _ => False) (fun q hq (e : False) => e.elim)) hx696 (fun q hq hE e => Or.elim e (fun e => Or.inr (Or.inr ((e)))) (fun e => Or.inl (⟨by omega, by omega, ZB.back hE e.2.2⟩)))))⟩
   ·
    skip
    refine aw_reg ?_
    refine st_op (ev_fieldAddr rfl fa57_1 (o' := 1) rfl) rfl rfl rfl ?_
    have hx701 : Ext H35 H62 := (Ext.then (Ext.trans hx44 hx61) hf66 (fun q hq e => by omega))
    have h700 := Ext.blk hx701 (by omega) hB37
    refine st_op (ev_load rfl (lvar_one one3 h700 rfl)) rfl rfl rfl ?_
    refine st_op (ev_int rfl rfl rfl) rfl rfl rfl ?_
    refine st_op (ev_move rfl) rfl rfl rfl ?_
    refine st_bool 40 rfl (fun hb702 => ?_) (fun hb702 => ?_)
    ·
     have hb702 := of_decide_eq_true hb702
     refine st_op (ev_fieldAddr rfl fa57_1 (o' := 1) rfl) rfl rfl rfl ?_
     refine st_op (ev_load rfl (lvar_one one3 h700 rfl)) rfl rfl rfl ?_
     refine st_op (ev_move rfl) rfl rfl rfl ?_
     refine st_op (ev_lenSl rfl Try.underlying55) rfl rfl rfl ?_
     refine st_op (ev_int rfl rfl rfl) rfl rfl rfl ?_
     refine st_op (ev_pickT rfl rfl) rfl rfl rfl ?_
     refine st_op (ev_assign rfl) rfl rfl rfl ?_
     try show aw _ _ _ _ _ _
     refine aw_keep [0, 4, 5, 6, 7, 8, 9, 25, 26] (l' := (.cons 0 (.slice opsA ops.length opsc) (.cons 4 (.pointer (some ⟨b7, 0, none⟩)) (.cons 5 (.slice lA l.length lc) (.cons 6 (.int .i64 (i : Int)) (.cons 7 (.pointer (some ⟨b29, 0, none⟩)) (.cons 8 (.pointer (some ⟨b56, 0, none⟩)) (.cons 9 (.bool (decide (x25.i < (l.length : Int)))) (.cons 25 (.int .i64 (i : Int)) (.cons 26 (.bool (decide ((i : Int) < 60))) .nil)))))))))) (by repeat (first | exact Up.done | refine Up.then ?_ | refine Up.inBlock ?_)) rfl ?_
     exact hJ69 (decide (x25.i < (l.length : Int)), H62) ⟨(show (decide (x25.i < (l.length : Int))) = decide (0 ≤ x25.i ∧ x25.i < (l.length : Int)) from (by first | exact decide_eq_decide.2 (by omega) | exact (decide_eq_false (by omega)).symm | exact (decide_eq_true (by omega)).symm)), (show Ext H62 H62 from (Ext.refl H62))⟩
    ·
     have hb702 := of_decide_eq_false hb702
     iterate 5 refine st_skip rfl rfl rfl ?_
     refine st_op (ev_pickF rfl rfl) rfl rfl rfl ?_
     refine st_op (ev_assign rfl) rfl rfl rfl ?_
     try show aw _ _ _ _ _ _
     refine aw_keep [0, 4, 5, 6, 7, 8, 9, 25, 26] (l' := (.cons 0 (.slice opsA ops.length opsc) (.cons 4 (.pointer (some ⟨b7, 0, none⟩)) (.cons 5 (.slice lA l.length lc) (.cons 6 (.int .i64 (i : Int)) (.cons 7 (.pointer (some ⟨b29, 0, none⟩)) (.cons 8 (.pointer (some ⟨b56, 0, none⟩)) (.cons 9 (.bool false) (.cons 25 (.int .i64 (i : Int)) (.cons 26 (.bool (decide ((i : Int) < 60))) .nil)))))))))) (by repeat (first | exact Up.done | refine Up.then ?_ | refine Up.inBlock ?_)) rfl ?_
     exact hJ69 (false, H62) ⟨(show false = decide (0 ≤ x25.i ∧ x25.i < (l.length : Int)) from (by first | exact decide_eq_decide.2 (by omega) | exact (decide_eq_false (by omega)).symm | exact (decide_eq_true (by omega)).symm)), (show Ext H62 H62 from (Ext.refl H62))⟩
  ·
   rw [Bool.not_eq_true] at hc20; refine aw_condF hc20 rfl ?_
   try show aw _ _ _ _ _ _
   have hc20 := of_decide_eq_false hc20
   refine aw_exit ?_
   try show aw _ _ _ _ _ _
   refine aw_seq ?_
   refine aw_reg ?_
   refine st_op (ev_assign rfl) rfl rfl rfl ?_
   try show aw _ _ _ _ _ _
   refine aw_ret ?_
   have hx703 : Ext H Hl8 := (Ext.then hx6 hxl17 (fun q hq e => by omega))
   have hres : true = true := by rfl
   exact ⟨.bool true, rfl, by first | (rw [hres]; done) | rw [← hres], hx703⟩
 ·
  have hb19 := of_decide_eq_false hb19
  iterate 2 refine st_skip rfl rfl rfl ?_
  refine st_op (ev_pickF rfl rfl) rfl rfl rfl ?_
  try show aw _ _ _ _ _ _
  refine aw_cond (t := false) rfl ?_
  try show aw _ _ _ _ _ _
  refine aw_exit ?_
  try show aw _ _ _ _ _ _
  refine aw_seq ?_
  refine aw_reg ?_
  refine st_op (ev_assign rfl) rfl rfl rfl ?_
  try show aw _ _ _ _ _ _
  refine aw_ret ?_
  have hx704 : Ext H Hl8 := (Ext.then hx6 hxl17 (fun q hq e => by omega))
  have hres : true = true := by rfl
  exact ⟨.bool true, rfl, by first | (rw [hres]; done) | rw [← hres], hx704⟩

end Go.AM
