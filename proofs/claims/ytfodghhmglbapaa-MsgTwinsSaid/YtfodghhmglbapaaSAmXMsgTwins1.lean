/- Part of a machine of its own for this claim: the program's code over memory without draws. -/
import Derived.Test.YtfodghhmglbapaaSAmXMsgB4
set_option linter.unusedVariables false
set_option linter.unusedSimpArgs false
set_option linter.unnecessarySimpa false
set_option linter.unusedVariables false
set_option linter.unusedSimpArgs false
set_option linter.unnecessarySimpa false
namespace Go.AM
open Go Go.Proofs
theorem ent10 : enters Try.prog 10 = true := by kernel_rfl
theorem ent12 : enters Try.prog 12 = true := by kernel_rfl
theorem ent14 : enters Try.prog 14 = true := by kernel_rfl
theorem ent9 : enters Try.prog 9 = true := by kernel_rfl
theorem law_MsgTwins_spec (H : Heap) (a_kind : Int) (a_from_ : Int) (a_to_ : Int) (a_term : Int) (a_index : Int) (a_logterm : Int) (a_commit : Int) (a_yes : Bool) (a_esA : Option Addr) (a_es : List Entry) (a_esc : Nat) (ha_es : Row H a_esA a_esc 4 (a_es.map Entry.cells)) (ca_es : a_es.length ≤ a_esc) (la_es : a_es.length ≤ 140737488355328) (a_s_index : Int) (a_s_term : Int) (a_s_conf : ByteArray) (a_s_data : ByteArray) (b_kind : Int) (b_from_ : Int) (b_to_ : Int) (b_term : Int) (b_index : Int) (b_logterm : Int) (b_commit : Int) (b_yes : Bool) (b_esA : Option Addr) (b_es : List Entry) (b_esc : Nat) (hb_es : Row H b_esA b_esc 4 (b_es.map Entry.cells)) (cb_es : b_es.length ≤ b_esc) (lb_es : b_es.length ≤ 140737488355328) (b_s_index : Int) (b_s_term : Int) (b_s_conf : ByteArray) (b_s_data : ByteArray) : ∃ v H', Spec Try.prog 5 [.agg #[.int .i64 a_kind, .int .i64 a_from_, .int .i64 a_to_, .int .i64 a_term, .int .i64 a_index, .int .i64 a_logterm, .int .i64 a_commit, .bool a_yes, .slice a_esA a_es.length a_esc, .int .i64 a_s_index, .int .i64 a_s_term, .string a_s_conf, .string a_s_data], .agg #[.int .i64 b_kind, .int .i64 b_from_, .int .i64 b_to_, .int .i64 b_term, .int .i64 b_index, .int .i64 b_logterm, .int .i64 b_commit, .bool b_yes, .slice b_esA b_es.length b_esc, .int .i64 b_s_index, .int .i64 b_s_term, .string b_s_conf, .string b_s_data]] H v H' ∧ ((v = .bool true) ∧ (Ext H H')) := by
 refine spec_go2 E0_ok 32 (f := 5) Try.func5 rfl rfl rfl ?_
 refine aw_seq ?_
 refine aw_reg ?_
 obtain ⟨b1, H2, he3, b1e, H2n_, hB5, f4⟩ := mem_box (P := Try.prog) H (v := .agg #[.int .i64 a_kind, .int .i64 a_from_, .int .i64 a_to_, .int .i64 a_term, .int .i64 a_index, .int .i64 a_logterm, .int .i64 a_commit, .bool a_yes, .slice a_esA a_es.length a_esc, .int .i64 a_s_index, .int .i64 a_s_term, .string a_s_conf, .string a_s_data]) (cs := [.int .i64 a_kind, .int .i64 a_from_, .int .i64 a_to_, .int .i64 a_term, .int .i64 a_index, .int .i64 a_logterm, .int .i64 a_commit, .bool a_yes, .slice a_esA a_es.length a_esc, .int .i64 a_s_index, .int .i64 a_s_term, .string a_s_conf, .string a_s_data]) rfl rfl
 refine st_op (he3 _ _ _ _ _ _ _ _ _ rfl) rfl rfl rfl ?_
 have hx6 : Ext H H2 := Ext.new (by omega) H2n_ f4
 have H2n : H.next ≤ H2.next := hx6.1
 obtain ⟨b7, H8, he9, b7e, H8n_, hB11, f10⟩ := mem_box (P := Try.prog) H2 (v := .agg #[.int .i64 b_kind, .int .i64 b_from_, .int .i64 b_to_, .int .i64 b_term, .int .i64 b_index, .int .i64 b_logterm, .int .i64 b_commit, .bool b_yes, .slice b_esA b_es.length b_esc, .int .i64 b_s_index, .int .i64 b_s_term, .string b_s_conf, .string b_s_data]) (cs := [.int .i64 b_kind, .int .i64 b_from_, .int .i64 b_to_, .int .i64 b_term, .int .i64 b_index, .int .i64 b_logterm, .int .i64 b_commit, .bool b_yes, .slice b_esA b_es.length b_esc, .int .i64 b_s_index, .int .i64 b_s_term, .string b_s_conf, .string b_s_data]) rfl rfl
 refine st_op (he9 _ _ _ _ _ _ _ _ _ rfl) rfl rfl rfl ?_
 have hx12 : Ext H2 H8 := Ext.new (by omega) H8n_ f10
 have H8n : H2.next ≤ H8.next := hx12.1
 refine st_op (ev_assign rfl) rfl rfl rfl ?_
 try show aw _ _ _ _ _ _
 refine aw_seq ?_
 refine aw_reg ?_
 refine st_call rfl rfl rfl ent9 rfl rfl rfl ?_
 obtain ⟨_, H14, hs13, hs13v, hx15⟩ := law25_begun_spec H8 
 rw [hs13v] at hs13; clear hs13v
 rw [hx15] at hs13; clear hx15
 refine ⟨_, H8, hs13, ?_⟩
 refine st_op (ev_assign rfl) rfl rfl rfl ?_
 try show aw _ _ _ _ _ _
 iterate 2 refine aw_seq ?_
 refine aw_reg ?_
 refine st_op (ev_move rfl) rfl rfl rfl ?_
 refine st_op (ev_not rfl) rfl rfl rfl ?_
 try show aw _ _ _ _ _ _
 refine aw_cond (t := false) rfl ?_
 try show aw _ _ _ _ _ _
 refine aw_skip ?_
 try show aw _ _ _ _ _ _
 refine aw_seq ?_
 refine aw_marks (fun b => b < H8.next) [(false, false), (false, true), (true, false), (false, false), (false, false), (false, false)] mixed (by kernel_rfl) (by kernel_rfl) ?_
 have h16 := Ext.blk hx12 (by omega) hB5
 refine sm_op (ev_load rfl (lvar_part (l := [.int .i64 a_kind, .int .i64 a_from_, .int .i64 a_to_, .int .i64 a_term, .int .i64 a_index, .int .i64 a_logterm, .int .i64 a_commit, .bool a_yes, .slice a_esA a_es.length a_esc, .int .i64 a_s_index, .int .i64 a_s_term, .string a_s_conf, .string a_s_data]) many26 h16 rfl rfl (by decide))) rfl rfl rfl ?_
 refine sm_call rfl rfl rfl ent10 rfl rfl rfl ?_
 have hx18 : Ext H H8 := (Ext.trans hx6 hx12)
 have h17 := Row.ext ha_es hx18
 obtain ⟨_, H20, hs19, A22, c23, hs19v, hm24, hq25, hq26, hq27, hx21⟩ := law24_Cut_spec H8 a_kind a_from_ a_to_ a_term a_index a_logterm a_commit a_yes a_esA a_es a_esc h17 ca_es (by omega) a_s_index a_s_term a_s_conf a_s_data
 rw [hs19v] at hs19; clear hs19v
 generalize hR29 : (((a_es.take 10).map Entry.cut), cutB a_s_conf 60, cutB a_s_data 100) = r28 at hs19 hm24 hq25 hq26 hq27
 obtain ⟨z30, z31, z32⟩ := r28
 dsimp only at hs19 hm24 hq25 hq26 hq27
 refine ⟨_, H20, hs19, (fun _ b hb => hx21.2 b (by omega)), ?_⟩
 have H20n : H8.next ≤ H20.next := hx21.1
 have h33 := Ext.blk hx21 (by omega) hB11
 refine sm_read (ev_load rfl (lvar_part (l := [.int .i64 b_kind, .int .i64 b_from_, .int .i64 b_to_, .int .i64 b_term, .int .i64 b_index, .int .i64 b_logterm, .int .i64 b_commit, .bool b_yes, .slice b_esA b_es.length b_esc, .int .i64 b_s_index, .int .i64 b_s_term, .string b_s_conf, .string b_s_data]) many26 h33 rfl rfl (by decide))) rfl rfl rfl (fun b hb => by cases hb; dsimp only; omega) ?_
 refine sm_call rfl rfl rfl ent10 rfl rfl rfl ?_
 have hx35 : Ext H H20 := (Ext.trans hx18 hx21)
 have h34 := Row.ext hb_es hx35
 obtain ⟨_, H37, hs36, A39, c40, hs36v, hm41, hq42, hq43, hq44, hx38⟩ := law24_Cut_spec H20 b_kind b_from_ b_to_ b_term b_index b_logterm b_commit b_yes b_esA b_es b_esc h34 cb_es (by omega) b_s_index b_s_term b_s_conf b_s_data
 rw [hs36v] at hs36; clear hs36v
 generalize hR46 : (((b_es.take 10).map Entry.cut), cutB b_s_conf 60, cutB b_s_data 100) = r45 at hs36 hm41 hq42 hq43 hq44
 obtain ⟨z47, z48, z49⟩ := r45
 dsimp only at hs36 hm41 hq42 hq43 hq44
 refine ⟨_, H37, hs36, (fun _ b hb => hx38.2 b (by omega)), ?_⟩
 have H37n : H20.next ≤ H37.next := hx38.1
 have hx51 : Ext H8 H37 := (Ext.trans hx21 hx38)
 have h50 := Ext.blk hx51 (by omega) h16
 obtain ⟨H52, he53, H52n_, hB54, f55⟩ := mem_store (v := .agg #[.int .i64 a_kind, .int .i64 a_from_, .int .i64 a_to_, .int .i64 a_term, .int .i64 a_index, .int .i64 a_logterm, .int .i64 a_commit, .bool a_yes, .slice A22 z30.length c23, .int .i64 a_s_index, .int .i64 a_s_term, .string z31, .string z32]) (o := 0) (cs' := [.int .i64 a_kind, .int .i64 a_from_, .int .i64 a_to_, .int .i64 a_term, .int .i64 a_index, .int .i64 a_logterm, .int .i64 a_commit, .bool a_yes, .slice A22 z30.length c23, .int .i64 a_s_index, .int .i64 a_s_term, .string z31, .string z32]) 13 rfl rfl size26 h50 rfl rfl rfl
 refine sm_op0 (he53 _ _ _ _ _ _ _ _ _ rfl rfl) rfl rfl ?_
 have hf56 : Fr (fun q => q = b1) H37 H52 := Fr.write H52n_ f55
 have H52n : H37.next ≤ H52.next := hf56.1
 have h57 := Ext.blk hx38 (by omega) h33
 have h58 := Fr.blk hf56 (by omega) (fun e => (by omega)) h57
 obtain ⟨H59, he60, H59n_, hB61, f62⟩ := mem_store (v := .agg #[.int .i64 b_kind, .int .i64 b_from_, .int .i64 b_to_, .int .i64 b_term, .int .i64 b_index, .int .i64 b_logterm, .int .i64 b_commit, .bool b_yes, .slice A39 z47.length c40, .int .i64 b_s_index, .int .i64 b_s_term, .string z48, .string z49]) (o := 0) (cs' := [.int .i64 b_kind, .int .i64 b_from_, .int .i64 b_to_, .int .i64 b_term, .int .i64 b_index, .int .i64 b_logterm, .int .i64 b_commit, .bool b_yes, .slice A39 z47.length c40, .int .i64 b_s_index, .int .i64 b_s_term, .string z48, .string z49]) 13 rfl rfl size26 h58 rfl rfl rfl
 refine sm_op0 (he60 _ _ _ _ _ _ _ _ _ rfl rfl) rfl rfl ?_
 have hf63 : Fr (fun q => q = b7) H52 H59 := Fr.write H59n_ f62
 have H59n : H52.next ≤ H59.next := hf63.1
 try show aw _ _ _ _ _ _
 iterate 2 refine aw_seq ?_
 refine aw_reg ?_
 have h64 := Fr.blk hf63 (by omega) (fun e => (by omega)) hB54
 refine st_op (ev_load rfl (lvar_part (l := [.int .i64 a_kind, .int .i64 a_from_, .int .i64 a_to_, .int .i64 a_term, .int .i64 a_index, .int .i64 a_logterm, .int .i64 a_commit, .bool a_yes, .slice A22 z30.length c23, .int .i64 a_s_index, .int .i64 a_s_term, .string z31, .string z32]) many26 h64 rfl rfl (by decide))) rfl rfl rfl ?_
 refine st_call rfl rfl rfl ent12 rfl rfl rfl ?_
 have h65 := My.ext hm24 hx38
 have h66 := My.frS h65 hf56 (fun q hq e => ⟨_, e ▸ h50, show (0 : Nat) ≠ 4 by decide⟩)
 have h67 := My.frS h66 hf63 (fun q hq e => ⟨_, e ▸ h58, show (0 : Nat) ≠ 4 by decide⟩)
 obtain ⟨_, H69, hs68, hs68v, hx70⟩ := ref21_May_spec H59 a_kind a_from_ a_to_ a_term a_index a_logterm a_commit a_yes A22 z30 c23 (My.row h67) (My.capF h67 (by omega)) (by omega) a_s_index a_s_term z31 (by omega) z32 (by omega)
 rw [hs68v] at hs68; clear hs68v
 refine ⟨_, H69, hs68, ?_⟩
 have H69n : H59.next ≤ H69.next := hx70.1
 refine st_op (ev_not rfl) rfl rfl rfl ?_
 refine st_op (ev_move rfl) rfl rfl rfl ?_
 refine st_bool 16 rfl (fun hb71 => ?_) (fun hb71 => ?_)
 ·
  replace hb71 : (Spec.mayMsg a_kind a_from_ a_to_ a_term a_index a_logterm a_commit a_yes z30 a_s_index a_s_term z31 z32) = false := by rw [Bool.not_eq_true'] at hb71; exact hb71
  iterate 3 refine st_skip rfl rfl rfl ?_
  refine st_op (ev_pickT rfl rfl) rfl rfl rfl ?_
  try show aw _ _ _ _ _ _
  refine aw_cond (t := true) rfl ?_
  try show aw _ _ _ _ _ _
  refine aw_seq ?_
  refine aw_reg ?_
  refine st_op (ev_assign rfl) rfl rfl rfl ?_
  try show aw _ _ _ _ _ _
  refine aw_ret ?_
  have hx72 : Ext H H69 := (Ext.trans (Ext.then (Ext.then (Ext.trans hx35 hx38) hf56 (fun q hq e => by omega)) hf63 (fun q hq e => by omega)) hx70)
  have hres : true = true := by first | rfl | simp_all
  exact ⟨.bool true, rfl, by first | (rw [hres]; done) | rw [← hres], hx72⟩
 ·
  replace hb71 : (Spec.mayMsg a_kind a_from_ a_to_ a_term a_index a_logterm a_commit a_yes z30 a_s_index a_s_term z31 z32) = true := by rw [Bool.not_eq_false'] at hb71; exact hb71
  have h73 := Ext.blk hx70 (by omega) hB61
  refine st_op (ev_load rfl (lvar_part (l := [.int .i64 b_kind, .int .i64 b_from_, .int .i64 b_to_, .int .i64 b_term, .int .i64 b_index, .int .i64 b_logterm, .int .i64 b_commit, .bool b_yes, .slice A39 z47.length c40, .int .i64 b_s_index, .int .i64 b_s_term, .string z48, .string z49]) many26 h73 rfl rfl (by decide))) rfl rfl rfl ?_
  refine st_call rfl rfl rfl ent12 rfl rfl rfl ?_
  have h74 := My.frS hm41 hf56 (fun q hq e => ⟨_, e ▸ h50, show (0 : Nat) ≠ 4 by decide⟩)
  have h75 := My.frS h74 hf63 (fun q hq e => ⟨_, e ▸ h58, show (0 : Nat) ≠ 4 by decide⟩)
  have h76 := My.ext h75 hx70
  obtain ⟨_, H78, hs77, hs77v, hx79⟩ := ref21_May_spec H69 b_kind b_from_ b_to_ b_term b_index b_logterm b_commit b_yes A39 z47 c40 (My.row h76) (My.capF h76 (by omega)) (by omega) b_s_index b_s_term z48 (by omega) z49 (by omega)
  rw [hs77v] at hs77; clear hs77v
  refine ⟨_, H78, hs77, ?_⟩
  have H78n : H69.next ≤ H78.next := hx79.1
  refine st_op (ev_not rfl) rfl rfl rfl ?_
  refine st_op (ev_pickF rfl rfl) rfl rfl rfl ?_
  try show aw _ _ _ _ _ _
  by_cases hc80 : (!(Spec.mayMsg b_kind b_from_ b_to_ b_term b_index b_logterm b_commit b_yes z47 b_s_index b_s_term z48 z49)) = true
  ·
   refine aw_condT hc80 rfl ?_
   try show aw _ _ _ _ _ _
   replace hc80 : (Spec.mayMsg b_kind b_from_ b_to_ b_term b_index b_logterm b_commit b_yes z47 b_s_index b_s_term z48 z49) = false := by rw [Bool.not_eq_true'] at hc80; exact hc80
   refine aw_seq ?_
   refine aw_reg ?_
   refine st_op (ev_assign rfl) rfl rfl rfl ?_
   try show aw _ _ _ _ _ _
   refine aw_ret ?_
   have hx81 : Ext H H78 := (Ext.trans (Ext.trans (Ext.then (Ext.then (Ext.trans hx35 hx38) hf56 (fun q hq e => by omega)) hf63 (fun q hq e => by omega)) hx70) hx79)
   have hres : true = true := by first | rfl | simp_all
   exact ⟨.bool true, rfl, by first | (rw [hres]; done) | rw [← hres], hx81⟩
  ·
   rw [Bool.not_eq_true] at hc80; refine aw_condF hc80 rfl ?_
   try show aw _ _ _ _ _ _
   replace hc80 : (Spec.mayMsg b_kind b_from_ b_to_ b_term b_index b_logterm b_commit b_yes z47 b_s_index b_s_term z48 z49) = true := by rw [Bool.not_eq_false'] at hc80; exact hc80
   refine aw_skip ?_
   try show aw _ _ _ _ _ _
   refine aw_seq ?_
   refine aw_marksX [(false, false, false), (false, false, true), (false, true, false), (true, false, false), (false, false, true), (false, true, false), (false, false, false), (true, false, false), (true, false, false), (false, false, true), (false, false, false), (false, false, false)] mixed (by kernel_rfl) (by kernel_rfl) ?_
   have hx83 : Ext H59 H78 := (Ext.trans hx70 hx79)
   have h82 := Ext.blk hx83 (by omega) h64
   refine sx_op (ev_load rfl (lvar_part (l := [.int .i64 a_kind, .int .i64 a_from_, .int .i64 a_to_, .int .i64 a_term, .int .i64 a_index, .int .i64 a_logterm, .int .i64 a_commit, .bool a_yes, .slice A22 z30.length c23, .int .i64 a_s_index, .int .i64 a_s_term, .string z31, .string z32]) many26 h82 rfl rfl (by decide))) rfl rfl rfl ?_
   refine sx_call rfl rfl rfl ent11 rfl rfl rfl ?_
   have h84 := My.ext h67 hx83
   obtain ⟨_, H86, hs85, A88, c89, hs85v, hm90, hq91, hq92, hq93, hx87⟩ := msg_Encode_spec H78 a_kind a_from_ a_to_ a_term a_index a_logterm a_commit a_yes A22 z30 c23 (My.row h84) (My.capF h84 (by omega)) (by omega) a_s_index a_s_term z31 (by omega) z32 (by omega)
   rw [hs85v] at hs85; clear hs85v
   refine ⟨_, H86, hs85, hx87, ?_⟩
   have H86n : H78.next ≤ H86.next := hx87.1
   refine sx_read (ev_strOf (l := (Spec.encM (⟨a_kind, a_from_, a_to_, a_term, a_index, a_logterm, a_commit, a_yes, z30, ⟨a_s_index, a_s_term, z31, z32⟩⟩ : Msg))) (A := A88) (c := c89) slu8_29 isstr_9 rfl (My.anil hm90) (My.row hm90)) rfl rfl rfl (fun h => nomatch h) (fun q hq => rd_conv rfl rfl (My.row hm90) (by simp) hq) ?_
   have hx95 : Ext H69 H86 := (Ext.trans hx79 hx87)
   have h94 := Ext.blk hx95 (by omega) h73
   refine sx_read (ev_load rfl (lvar_part (l := [.int .i64 b_kind, .int .i64 b_from_, .int .i64 b_to_, .int .i64 b_term, .int .i64 b_index, .int .i64 b_logterm, .int .i64 b_commit, .bool b_yes, .slice A39 z47.length c40, .int .i64 b_s_index, .int .i64 b_s_term, .string z48, .string z49]) many26 h94 rfl rfl (by decide))) rfl rfl rfl (fun _ x hx => by cases hx; dsimp only; omega) (fun x hx => by cases hx; dsimp only; omega) ?_
   refine sx_call rfl rfl rfl ent11 rfl rfl rfl ?_
   have h96 := My.ext h76 hx95
   obtain ⟨_, H98, hs97, A100, c101, hs97v, hm102, hq103, hq104, hq105, hx99⟩ := msg_Encode_spec H86 b_kind b_from_ b_to_ b_term b_index b_logterm b_commit b_yes A39 z47 c40 (My.row h96) (My.capF h96 (by first | omega | (simp only [List.length_append, List.length_cons, List.length_nil, List.length_map, List.length_set, List.length_replicate, Spec.bytesOf_length]; omega) | (simp; omega))) (by first | omega | (simp only [List.length_append, List.length_cons, List.length_nil, List.length_map, List.length_set, List.length_replicate, Spec.bytesOf_length]; omega) | (simp; omega)) b_s_index b_s_term z48 (by first | omega | (simp only [List.length_append, List.length_cons, List.length_nil, List.length_map, List.length_set, List.length_replicate, Spec.bytesOf_length]; omega) | (simp; omega)) z49 (by first | omega | (simp only [List.length_append, List.length_cons, List.length_nil, List.length_map, List.length_set, List.length_replicate, Spec.bytesOf_length]; omega) | (simp; omega))
   rw [hs97v] at hs97; clear hs97v
   refine ⟨_, H98, hs97, hx99, ?_⟩
   have H98n : H86.next ≤ H98.next := hx99.1
   refine sx_read (ev_strOf (l := (Spec.encM (⟨b_kind, b_from_, b_to_, b_term, b_index, b_logterm, b_commit, b_yes, z47, ⟨b_s_index, b_s_term, z48, z49⟩⟩ : Msg))) (A := A100) (c := c101) slu8_29 isstr_9 rfl (My.anil hm102) (My.row hm102)) rfl rfl rfl (fun h => nomatch h) (fun q hq => rd_conv rfl rfl (My.row hm102) (by simp) hq) ?_
   refine sx_op (ev_str rfl rfl rfl) rfl rfl rfl ?_
   have hx107 : Ext H78 H98 := (Ext.trans hx87 hx99)
   have h106 := Ext.blk hx107 (by omega) h82
   refine sx_read (ev_load rfl (lvar_part (l := [.int .i64 a_kind, .int .i64 a_from_, .int .i64 a_to_, .int .i64 a_term, .int .i64 a_index, .int .i64 a_logterm, .int .i64 a_commit, .bool a_yes, .slice A22 z30.length c23, .int .i64 a_s_index, .int .i64 a_s_term, .string z31, .string z32]) many26 h106 rfl rfl (by decide))) rfl rfl rfl (fun _ x hx => by cases hx; dsimp only; omega) (fun x hx => by cases hx; dsimp only; omega) ?_
   have h108 := Ext.blk hx99 (by omega) h94
   refine sx_read (ev_load rfl (lvar_part (l := [.int .i64 b_kind, .int .i64 b_from_, .int .i64 b_to_, .int .i64 b_term, .int .i64 b_index, .int .i64 b_logterm, .int .i64 b_commit, .bool b_yes, .slice A39 z47.length c40, .int .i64 b_s_index, .int .i64 b_s_term, .string z48, .string z49]) many26 h108 rfl rfl (by decide))) rfl rfl rfl (fun _ x hx => by cases hx; dsimp only; omega) (fun x hx => by cases hx; dsimp only; omega) ?_
   refine sx_call rfl rfl rfl ent14 rfl rfl rfl ?_
   have h109 := My.ext h84 hx107
   have h110 := My.ext h96 hx99
   obtain ⟨_, H112, hs111, hs111v, hx113⟩ := law24_EqMsg_spec H98 a_kind a_from_ a_to_ a_term a_index a_logterm a_commit a_yes A22 z30 c23 (My.row h109) (My.capF h109 (by first | omega | (simp only [List.length_append, List.length_cons, List.length_nil, List.length_map, List.length_set, List.length_replicate, Spec.bytesOf_length]; omega) | (simp; omega))) (by first | omega | (simp only [List.length_append, List.length_cons, List.length_nil, List.length_map, List.length_set, List.length_replicate, Spec.bytesOf_length]; omega) | (simp; omega)) a_s_index a_s_term z31 z32 b_kind b_from_ b_to_ b_term b_index b_logterm b_commit b_yes A39 z47 c40 (My.row h110) (My.capF h110 (by first | omega | (simp only [List.length_append, List.length_cons, List.length_nil, List.length_map, List.length_set, List.length_replicate, Spec.bytesOf_length]; omega) | (simp; omega))) (by first | omega | (simp only [List.length_append, List.length_cons, List.length_nil, List.length_map, List.length_set, List.length_replicate, Spec.bytesOf_length]; omega) | (simp; omega)) b_s_index b_s_term z48 z49
   rw [hs111v] at hs111; clear hs111v
   refine ⟨_, H112, hs111, hx113, ?_⟩
   have H112n : H98.next ≤ H112.next := hx113.1
   refine sx_op (ev_eqBool isbool4 rfl rfl) rfl rfl rfl ?_
   refine sx_op (ev_assign rfl) rfl rfl rfl ?_
   try show aw _ _ _ _ _ _
   refine aw_ret ?_
   have hx114 : Ext H H112 := (Ext.trans (Ext.trans (Ext.trans (Ext.trans (Ext.trans (Ext.then (Ext.then (Ext.trans hx35 hx38) hf56 (fun q hq e => by omega)) hf63 (fun q hq e => by omega)) hx70) hx79) hx87) hx99) hx113)
   have hres : true = ((((strOfNums (Spec.encM (⟨a_kind, a_from_, a_to_, a_term, a_index, a_logterm, a_commit, a_yes, z30, ⟨a_s_index, a_s_term, z31, z32⟩⟩ : Msg)))).toList == ((strOfNums (Spec.encM (⟨b_kind, b_from_, b_to_, b_term, b_index, b_logterm, b_commit, b_yes, z47, ⟨b_s_index, b_s_term, z48, z49⟩⟩ : Msg)))).toList) == (decide (a_kind = b_kind ∧ a_from_ = b_from_ ∧ a_to_ = b_to_ ∧ a_term = b_term ∧ a_index = b_index ∧ a_logterm = b_logterm ∧ a_commit = b_commit ∧ a_yes = b_yes ∧ Spec.eqEs z30 z47 = true ∧ Spec.eqSn a_s_index a_s_term z31 z32 b_s_index b_s_term z48 z49 = true))) := by exact (Spec.msg_twins (by assumption) (by assumption)).symm
   exact ⟨.bool ((((strOfNums (Spec.encM (⟨a_kind, a_from_, a_to_, a_term, a_index, a_logterm, a_commit, a_yes, z30, ⟨a_s_index, a_s_term, z31, z32⟩⟩ : Msg)))).toList == ((strOfNums (Spec.encM (⟨b_kind, b_from_, b_to_, b_term, b_index, b_logterm, b_commit, b_yes, z47, ⟨b_s_index, b_s_term, z48, z49⟩⟩ : Msg)))).toList) == (decide (a_kind = b_kind ∧ a_from_ = b_from_ ∧ a_to_ = b_to_ ∧ a_term = b_term ∧ a_index = b_index ∧ a_logterm = b_logterm ∧ a_commit = b_commit ∧ a_yes = b_yes ∧ Spec.eqEs z30 z47 = true ∧ Spec.eqSn a_s_index a_s_term z31 z32 b_s_index b_s_term z48 z49 = true))), rfl, by first | (rw [hres]; done) | rw [← hres], hx114⟩

end Go.AM
