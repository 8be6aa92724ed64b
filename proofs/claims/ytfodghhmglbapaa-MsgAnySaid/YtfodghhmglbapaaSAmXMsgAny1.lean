/- Part of a machine of its own for this claim: the program's code over memory without draws. -/
import Derived.Test.YtfodghhmglbapaaSAmXMsgB4
set_option linter.unusedVariables false
set_option linter.unusedSimpArgs false
set_option linter.unnecessarySimpa false
set_option linter.unusedVariables false
set_option linter.unusedSimpArgs false
set_option linter.unnecessarySimpa false
namespace Go.AM
open Go Go.Proofs
theorem ent12 : enters Try.prog 12 = true := by kernel_rfl
theorem ent13 : enters Try.prog 13 = true := by kernel_rfl
theorem ent15 : enters Try.prog 15 = true := by kernel_rfl
theorem ent9 : enters Try.prog 9 = true := by kernel_rfl
theorem law_MsgAny_spec (H : Heap) (bA : Option Addr) (b : List Int) (bc : Nat) (hb : Row H bA bc 1 (b.map u8c)) (cb : b.length ≤ bc) (lb : b.length ≤ 140737488355328) (ab : bA = none → bc = 0) (bb : Spec.Bytes b) : ∃ v H', Spec Try.prog 4 [.slice bA b.length bc] H v H' ∧ ((v = .bool true) ∧ (Ext H H')) := by
 refine spec_go1 E0_ok 35 (f := 4) Try.func4 rfl rfl rfl ?_
 refine aw_seq ?_
 refine aw_reg ?_
 refine st_op (ev_assign rfl) rfl rfl rfl ?_
 try show aw _ _ _ _ _ _
 refine aw_seq ?_
 refine aw_reg ?_
 refine st_call rfl rfl rfl ent9 rfl rfl rfl ?_
 obtain ⟨_, H2, hs1, hs1v, hx3⟩ := law25_begun_spec H 
 rw [hs1v] at hs1; clear hs1v
 rw [hx3] at hs1; clear hx3
 refine ⟨_, H, hs1, ?_⟩
 refine st_op (ev_assign rfl) rfl rfl rfl ?_
 try show aw _ _ _ _ _ _
 iterate 2 refine aw_seq ?_
 refine aw_reg ?_
 refine st_op (ev_move rfl) rfl rfl rfl ?_
 refine st_op (ev_not rfl) rfl rfl rfl ?_
 try show aw _ _ _ _ _ _
 refine aw_cond (t := false) rfl ?_
 try show aw _ _ _ _ _ _
 refine aw_skip ?_
 try show aw _ _ _ _ _ _
 refine aw_seq ?_
 refine aw_reg ?_
 refine st_op (ev_move rfl) rfl rfl rfl ?_
 refine st_call rfl rfl rfl ent15 rfl rfl rfl ?_
 obtain ⟨_, H5, hs4, A7, c8, hs4v, hm9, hk13, hq10, hq11, hq12, hx6⟩ := law1_Short_spec H bA b bc hb cb (by omega) ab (by assumption) 200 (by decide)
 rw [hs4v] at hs4; clear hs4v
 generalize hR15 : (b.take (200 : Int).toNat) = r14 at hs4 hm9 hk13 hq10 hq11 hq12
 refine ⟨_, H5, hs4, ?_⟩
 have H5n : H.next ≤ H5.next := hx6.1
 refine st_op (ev_assign rfl) rfl rfl rfl ?_
 try show aw _ _ _ _ _ _
 refine aw_seq ?_
 refine aw_reg ?_
 refine st_op (ev_move rfl) rfl rfl rfl ?_
 refine st_call rfl rfl rfl ent13 rfl rfl rfl ?_
 obtain ⟨_, H17, hs16, A19, c20, hs16v, hm21, hq22, hq23, hq24, hq25, hx18⟩ := msg_Decode_spec H5 A7 r14 c8 hm9 hk13 (by omega) hq12 (by assumption)
 rw [hs16v] at hs16; clear hs16v
 generalize hR27 : (Spec.decM r14) = r26 at hs16 hm21 hq22 hq23 hq24 hq25
 obtain ⟨z28, z29, z30, z31, z32, z33, z34, z35, z36, z37, z38, z39, z40, z41⟩ := r26
 dsimp only at hs16 hm21 hq22 hq23 hq24 hq25
 refine ⟨_, H17, hs16, ?_⟩
 have H17n : H5.next ≤ H17.next := hx18.1
 refine st_op (ev_move rfl) rfl rfl rfl ?_
 iterate 2 refine st_op (ev_extract rfl rfl) rfl rfl rfl ?_
 obtain ⟨b42, H43, he44, b42e, H43n_, hB46, f45⟩ := mem_alloc H17 zero26
 refine st_op (he44 _ _ _ _ _ _ _) rfl rfl rfl ?_
 have hx47 : Ext H17 H43 := Ext.new (by omega) H43n_ f45
 have H43n : H17.next ≤ H43.next := hx47.1
 obtain ⟨H48, he49, H48n_, hB50, f51⟩ := mem_store (v := .agg #[.int .i64 z28, .int .i64 z29, .int .i64 z30, .int .i64 z31, .int .i64 z32, .int .i64 z33, .int .i64 z34, .bool z35, .slice A19 z36.length c20, .int .i64 z37, .int .i64 z38, .string z39, .string z40]) (o := 0) (cs' := [.int .i64 z28, .int .i64 z29, .int .i64 z30, .int .i64 z31, .int .i64 z32, .int .i64 z33, .int .i64 z34, .bool z35, .slice A19 z36.length c20, .int .i64 z37, .int .i64 z38, .string z39, .string z40]) 13 rfl rfl size26 hB46 rfl rfl rfl
 refine st_op0 (he49 _ _ _ _ _ _ _ _ _ rfl rfl) rfl rfl ?_
 have hf52 : Fr (fun q => q = b42) H43 H48 := Fr.write H48n_ f51
 have H48n : H43.next ≤ H48.next := hf52.1
 refine st_op (ev_assign rfl) rfl rfl rfl ?_
 try show aw _ _ _ _ _ _
 iterate 2 refine aw_seq ?_
 refine aw_reg ?_
 refine st_op (ev_move rfl) rfl rfl rfl ?_
 refine st_op (ev_int rfl rfl rfl) rfl rfl rfl ?_
 try show aw _ _ _ _ _ _
 by_cases hc53 : (z41 != 0) = true
 ·
  refine aw_condT hc53 rfl ?_
  try show aw _ _ _ _ _ _
  have hc53 : ¬ (z41 = 0) := by simpa using hc53
  refine aw_seq ?_
  refine aw_reg ?_
  refine st_op (ev_move rfl) rfl rfl rfl ?_
  refine st_op (ev_int rfl rfl rfl) rfl rfl rfl ?_
  refine st_op (ev_move rfl) rfl rfl rfl ?_
  refine st_bool 20 rfl (fun hb54 => ?_) (fun hb54 => ?_)
  ·
   have hb54 := eq_of_beq hb54
   refine st_op (ev_fieldAddr rfl fa26_0 (o' := 0) rfl) rfl rfl rfl ?_
   refine st_op (ev_load rfl (lvar_one one3 hB50 rfl)) rfl rfl rfl ?_
   refine st_op (ev_int rfl rfl rfl) rfl rfl rfl ?_
   refine st_op (ev_pickT rfl rfl) rfl rfl rfl ?_
   refine st_op (ev_assign rfl) rfl rfl rfl ?_
   try show aw _ _ _ _ _ _
   refine aw_ret ?_
   have hx55 : Ext H H48 := (Ext.then (Ext.trans (Ext.trans hx6 hx18) hx47) hf52 (fun q hq e => by omega))
   have hres : true = (z28 == 0) := by have q := Spec.mdec_err hR27 (by omega); simp_all
   exact ⟨.bool (z28 == 0), rfl, by first | (rw [hres]; done) | rw [← hres], hx55⟩
  ·
   have hb54 := ne_of_beq_false hb54
   exfalso; omega
 ·
  rw [Bool.not_eq_true] at hc53; refine aw_condF hc53 rfl ?_
  try show aw _ _ _ _ _ _
  have hc53 : (z41 = 0) := by simpa using hc53
  refine aw_skip ?_
  try show aw _ _ _ _ _ _
  refine aw_seq ?_
  refine aw_marks (fun b => b < H48.next) [(false, false), (false, false), (false, false), (false, false), (false, true), (false, false), (false, false), (true, false), (false, false), (false, false), (false, false)] mixed (by kernel_rfl) (by kernel_rfl) ?_
  refine sm_op (ev_load rfl (lvar_part (l := [.int .i64 z28, .int .i64 z29, .int .i64 z30, .int .i64 z31, .int .i64 z32, .int .i64 z33, .int .i64 z34, .bool z35, .slice A19 z36.length c20, .int .i64 z37, .int .i64 z38, .string z39, .string z40]) many26 hB50 rfl rfl (by decide))) rfl rfl rfl ?_
  refine sm_call rfl rfl rfl ent12 rfl rfl rfl ?_
  have hx57 : Ext H17 H48 := (Ext.then hx47 hf52 (fun q hq e => by omega))
  have h56 := My.ext hm21 hx57
  obtain ⟨_, H59, hs58, hs58v, hx60⟩ := ref21_May_spec H48 z28 z29 z30 z31 z32 z33 z34 z35 A19 z36 c20 (My.row h56) (My.capF h56 (by omega)) (by omega) z37 z38 z39 (by omega) z40 (by omega)
  rw [hs58v] at hs58; clear hs58v
  refine ⟨_, H59, hs58, (fun _ b hb => hx60.2 b (by omega)), ?_⟩
  have H59n : H48.next ≤ H59.next := hx60.1
  refine sm_op (ev_move rfl) rfl rfl rfl ?_
  refine sm_bool 27 rfl (fun hb61 => ?_) (fun hb61 => ?_)
  ·
   have h62 := Ext.blk hx60 (by omega) hB50
   refine sm_op (ev_load rfl (lvar_part (l := [.int .i64 z28, .int .i64 z29, .int .i64 z30, .int .i64 z31, .int .i64 z32, .int .i64 z33, .int .i64 z34, .bool z35, .slice A19 z36.length c20, .int .i64 z37, .int .i64 z38, .string z39, .string z40]) many26 h62 rfl rfl (by decide))) rfl rfl rfl ?_
   refine sm_call rfl rfl rfl ent11 rfl rfl rfl ?_
   have h63 := My.ext h56 hx60
   obtain ⟨_, H65, hs64, A67, c68, hs64v, hm69, hq70, hq71, hq72, hx66⟩ := msg_Encode_spec H59 z28 z29 z30 z31 z32 z33 z34 z35 A19 z36 c20 (My.row h63) (My.capF h63 (by omega)) (by omega) z37 z38 z39 (by omega) z40 (by omega)
   rw [hs64v] at hs64; clear hs64v
   refine ⟨_, H65, hs64, (fun _ b hb => hx66.2 b (by omega)), ?_⟩
   have H65n : H59.next ≤ H65.next := hx66.1
   refine sm_op (ev_strOf (l := (Spec.encM (⟨z28, z29, z30, z31, z32, z33, z34, z35, z36, ⟨z37, z38, z39, z40⟩⟩ : Msg))) (A := A67) (c := c68) slu8_29 isstr_9 rfl (My.anil hm69) (My.row hm69)) rfl rfl rfl ?_
   refine sm_op (ev_move rfl) rfl rfl rfl ?_
   have hx74 : Ext H5 H65 := (Ext.trans (Ext.trans (Ext.then (Ext.trans hx18 hx47) hf52 (fun q hq e => by omega)) hx60) hx66)
   have h73 := Row.ext hm9 hx74
   refine sm_read (ev_strOf (l := r14) (A := A7) (c := c8) slu8_29 isstr_9 rfl hq12 h73) rfl rfl rfl (fun q hq => Nat.lt_of_lt_of_le (rd_conv rfl rfl hm9 (by simp) hq) (by omega)) ?_
   refine sm_op (ev_str rfl rfl rfl) rfl rfl rfl ?_
   refine sm_op (ev_pickT rfl rfl) rfl rfl rfl ?_
   refine sm_op (ev_assign rfl) rfl rfl rfl ?_
   try show aw _ _ _ _ _ _
   refine aw_ret ?_
   have hx75 : Ext H H65 := (Ext.trans (Ext.trans (Ext.then (Ext.trans (Ext.trans hx6 hx18) hx47) hf52 (fun q hq e => by omega)) hx60) hx66)
   have hres : true = (((strOfNums (Spec.encM (⟨z28, z29, z30, z31, z32, z33, z34, z35, z36, ⟨z37, z38, z39, z40⟩⟩ : Msg)))).toList == ((strOfNums r14)).toList) := by rw [(Spec.mdec_good hR27 (by omega)).2]; simp
   exact ⟨.bool (((strOfNums (Spec.encM (⟨z28, z29, z30, z31, z32, z33, z34, z35, z36, ⟨z37, z38, z39, z40⟩⟩ : Msg)))).toList == ((strOfNums r14)).toList), rfl, by first | (rw [hres]; done) | rw [← hres], hx75⟩
  ·
   iterate 6 refine sm_skip rfl rfl rfl ?_
   refine sm_op (ev_pickF rfl rfl) rfl rfl rfl ?_
   refine sm_op (ev_assign rfl) rfl rfl rfl ?_
   try show aw _ _ _ _ _ _
   refine aw_ret ?_
   have hx76 : Ext H H59 := (Ext.trans (Ext.then (Ext.trans (Ext.trans hx6 hx18) hx47) hf52 (fun q hq e => by omega)) hx60)
   have hres : true = false := by first | (have q := Spec.mdec_err hR27 (by omega); simp_all; done) | (have q := (Spec.mdec_good hR27 (by omega)).1; simp_all)
   exact ⟨.bool false, rfl, by first | (rw [hres]; done) | rw [← hres], hx76⟩

end Go.AM
