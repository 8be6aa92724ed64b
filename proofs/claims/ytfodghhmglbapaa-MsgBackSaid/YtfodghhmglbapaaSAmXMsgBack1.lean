/- Part of a machine of its own for this claim: the program's code over memory without draws. -/
import Derived.Test.YtfodghhmglbapaaSAmXMsgB4
set_option linter.unusedVariables false
set_option linter.unusedSimpArgs false
set_option linter.unnecessarySimpa false
set_option linter.unusedVariables false
set_option linter.unusedSimpArgs false
set_option linter.unnecessarySimpa false
namespace Go.AM
open Go Go.Proofs
theorem ent10 : enters Try.prog 10 = true := by kernel_rfl
theorem ent12 : enters Try.prog 12 = true := by kernel_rfl
theorem ent9 : enters Try.prog 9 = true := by kernel_rfl
theorem size5 : sizeIs Try.prog 5 1 = true := by kernel_rfl
theorem zero5 : ZeroIs Try.prog 5 [.int .u8 0] := ⟨.int .u8 0, by kernel_rfl, rfl, rfl, rfl⟩
theorem law_MsgBack_spec (H : Heap) (kind : Int) (from_ : Int) (to_ : Int) (term : Int) (index : Int) (logterm : Int) (commit : Int) (yes : Bool) (esA : Option Addr) (es : List Entry) (esc : Nat) (hes : Row H esA esc 4 (es.map Entry.cells)) (ces : es.length ≤ esc) (les : es.length ≤ 140737488355328) (s_index : Int) (s_term : Int) (s_conf : ByteArray) (s_data : ByteArray) (size : Int) (hsize : -9223372036854775808 ≤ size ∧ size ≤ 9223372036854775807) (at_ : Int) (hat_ : -9223372036854775808 ≤ at_ ∧ at_ ≤ 9223372036854775807) (cut : Int) (hcut : -9223372036854775808 ≤ cut ∧ cut ≤ 9223372036854775807) (x : Int) (hx : 0 ≤ x ∧ x ≤ 255) : ∃ v H', Spec Try.prog 3 [.agg #[.int .i64 kind, .int .i64 from_, .int .i64 to_, .int .i64 term, .int .i64 index, .int .i64 logterm, .int .i64 commit, .bool yes, .slice esA es.length esc, .int .i64 s_index, .int .i64 s_term, .string s_conf, .string s_data], .int .i64 size, .int .i64 at_, .int .i64 cut, .int .u8 x] H v H' ∧ ((v = .bool true) ∧ (Ext H H')) := by
 refine spec_go5 E0_ok 113 (f := 3) Try.func3 rfl rfl rfl ?_
 refine aw_seq ?_
 refine aw_reg ?_
 obtain ⟨b1, H2, he3, b1e, H2n_, hB5, f4⟩ := mem_box (P := Try.prog) H (v := .agg #[.int .i64 kind, .int .i64 from_, .int .i64 to_, .int .i64 term, .int .i64 index, .int .i64 logterm, .int .i64 commit, .bool yes, .slice esA es.length esc, .int .i64 s_index, .int .i64 s_term, .string s_conf, .string s_data]) (cs := [.int .i64 kind, .int .i64 from_, .int .i64 to_, .int .i64 term, .int .i64 index, .int .i64 logterm, .int .i64 commit, .bool yes, .slice esA es.length esc, .int .i64 s_index, .int .i64 s_term, .string s_conf, .string s_data]) rfl rfl
 refine st_op (he3 _ _ _ _ _ _ _ _ _ rfl) rfl rfl rfl ?_
 have hx6 : Ext H H2 := Ext.new (by omega) H2n_ f4
 have H2n : H.next ≤ H2.next := hx6.1
 refine st_op (ev_assign rfl) rfl rfl rfl ?_
 try show aw _ _ _ _ _ _
 refine aw_seq ?_
 refine aw_reg ?_
 refine st_call rfl rfl rfl ent9 rfl rfl rfl ?_
 obtain ⟨_, H8, hs7, hs7v, hx9⟩ := law25_begun_spec H2 
 rw [hs7v] at hs7; clear hs7v
 refine ⟨_, H8, hs7, ?_⟩
 have H8n : H2.next ≤ H8.next := hx9.1
 refine st_op (ev_assign rfl) rfl rfl rfl ?_
 try show aw _ _ _ _ _ _
 iterate 2 refine aw_seq ?_
 refine aw_reg ?_
 refine st_op (ev_move rfl) rfl rfl rfl ?_
 refine st_op (ev_not rfl) rfl rfl rfl ?_
 try show aw _ _ _ _ _ _
 refine aw_cond (t := false) rfl ?_
 try show aw _ _ _ _ _ _
 refine aw_skip ?_
 try show aw _ _ _ _ _ _
 refine aw_seq ?_
 refine aw_reg ?_
 have h10 := Ext.blk hx9 (by omega) hB5
 refine st_op (ev_load rfl (lvar_part (l := [.int .i64 kind, .int .i64 from_, .int .i64 to_, .int .i64 term, .int .i64 index, .int .i64 logterm, .int .i64 commit, .bool yes, .slice esA es.length esc, .int .i64 s_index, .int .i64 s_term, .string s_conf, .string s_data]) many26 h10 rfl rfl (by decide))) rfl rfl rfl ?_
 refine st_call rfl rfl rfl ent10 rfl rfl rfl ?_
 have hx12 : Ext H H8 := (Ext.trans hx6 hx9)
 have h11 := Row.ext hes hx12
 obtain ⟨_, H14, hs13, A16, c17, hs13v, hm18, hq19, hq20, hq21, hx15⟩ := law24_Cut_spec H8 kind from_ to_ term index logterm commit yes esA es esc h11 ces (by omega) s_index s_term s_conf s_data
 rw [hs13v] at hs13; clear hs13v
 generalize hR23 : (((es.take 10).map Entry.cut), cutB s_conf 60, cutB s_data 100) = r22 at hs13 hm18 hq19 hq20 hq21
 obtain ⟨z24, z25, z26⟩ := r22
 dsimp only at hs13 hm18 hq19 hq20 hq21
 refine ⟨_, H14, hs13, ?_⟩
 have H14n : H8.next ≤ H14.next := hx15.1
 have h27 := Ext.blk hx15 (by omega) h10
 obtain ⟨H28, he29, H28n_, hB30, f31⟩ := mem_store (v := .agg #[.int .i64 kind, .int .i64 from_, .int .i64 to_, .int .i64 term, .int .i64 index, .int .i64 logterm, .int .i64 commit, .bool yes, .slice A16 z24.length c17, .int .i64 s_index, .int .i64 s_term, .string z25, .string z26]) (o := 0) (cs' := [.int .i64 kind, .int .i64 from_, .int .i64 to_, .int .i64 term, .int .i64 index, .int .i64 logterm, .int .i64 commit, .bool yes, .slice A16 z24.length c17, .int .i64 s_index, .int .i64 s_term, .string z25, .string z26]) 13 rfl rfl size26 h27 rfl rfl rfl
 refine st_op0 (he29 _ _ _ _ _ _ _ _ _ rfl rfl) rfl rfl ?_
 have hf32 : Fr (fun q => q = b1) H14 H28 := Fr.write H28n_ f31
 have H28n : H14.next ≤ H28.next := hf32.1
 try show aw _ _ _ _ _ _
 refine aw_join (α := ByteArray × Heap) (fun a => (.cons 2 (.int .i64 at_) (.cons 3 (.int .i64 cut) (.cons 4 (.int .u8 x) (.cons 5 (.pointer (some ⟨b1, 0, none⟩)) .nil))))) (fun a => a.2) (fun a => (a.1.size ≤ 10000) ∧ (a.2.blk b1 = some ⟨[.int .i64 kind, .int .i64 from_, .int .i64 to_, .int .i64 term, .int .i64 index, .int .i64 logterm, .int .i64 commit, .bool yes, .slice A16 z24.length c17, .int .i64 s_index, .int .i64 s_term, .string z25, .string a.1], 0, false, false⟩) ∧ (Fr (fun q => q = b1) H28 a.2)) ?_ (fun hJ36 => ?_)
 ·
  rintro ⟨dt, Hl33⟩ ⟨hdt, hB34, hxl35⟩
  replace hdt : dt.size ≤ 10000 := hdt
  replace hB34 : Hl33.blk b1 = some ⟨[.int .i64 kind, .int .i64 from_, .int .i64 to_, .int .i64 term, .int .i64 index, .int .i64 logterm, .int .i64 commit, .bool yes, .slice A16 z24.length c17, .int .i64 s_index, .int .i64 s_term, .string z25, .string dt], 0, false, false⟩ := hB34
  replace hxl35 : Fr (fun q => q = b1) H28 Hl33 := hxl35
  show aw _ _ _ (RL _ (.cons 2 (.int .i64 at_) (.cons 3 (.int .i64 cut) (.cons 4 (.int .u8 x) (.cons 5 (.pointer (some ⟨b1, 0, none⟩)) .nil))))) Hl33 _
  have Hl33n : H28.next ≤ Hl33.next := hxl35.1
  refine aw_seq ?_
  refine aw_reg ?_
  refine st_op (ev_load rfl (lvar_part (l := [.int .i64 kind, .int .i64 from_, .int .i64 to_, .int .i64 term, .int .i64 index, .int .i64 logterm, .int .i64 commit, .bool yes, .slice A16 z24.length c17, .int .i64 s_index, .int .i64 s_term, .string z25, .string dt]) many26 hB34 rfl rfl (by decide))) rfl rfl rfl ?_
  refine st_call rfl rfl rfl ent11 rfl rfl rfl ?_
  have h37 := My.frS hm18 hf32 (fun q hq e => ⟨_, e ▸ h27, show (0 : Nat) ≠ 4 by decide⟩)
  have h38 := My.frS h37 hxl35 (fun q hq e => ⟨_, e ▸ hB30, show (0 : Nat) ≠ 4 by decide⟩)
  obtain ⟨_, H40, hs39, A42, c43, hs39v, hm44, hq45, hq46, hq47, hx41⟩ := msg_Encode_spec Hl33 kind from_ to_ term index logterm commit yes A16 z24 c17 (My.row h38) (My.capF h38 (by omega)) (by omega) s_index s_term z25 (by omega) dt (by omega)
  rw [hs39v] at hs39; clear hs39v
  refine ⟨_, H40, hs39, ?_⟩
  have H40n : Hl33.next ≤ H40.next := hx41.1
  refine st_op (ev_assign rfl) rfl rfl rfl ?_
  try show aw _ _ _ _ _ _
  iterate 2 refine aw_seq ?_
  refine aw_reg ?_
  have h48 := Ext.blk hx41 (by omega) hB34
  refine st_op (ev_load rfl (lvar_part (l := [.int .i64 kind, .int .i64 from_, .int .i64 to_, .int .i64 term, .int .i64 index, .int .i64 logterm, .int .i64 commit, .bool yes, .slice A16 z24.length c17, .int .i64 s_index, .int .i64 s_term, .string z25, .string dt]) many26 h48 rfl rfl (by decide))) rfl rfl rfl ?_
  refine st_call rfl rfl rfl ent12 rfl rfl rfl ?_
  have h49 := My.ext h38 hx41
  obtain ⟨_, H51, hs50, hs50v, hx52⟩ := ref21_May_spec H40 kind from_ to_ term index logterm commit yes A16 z24 c17 (My.row h49) (My.capF h49 (by first | omega | (simp only [List.length_append, List.length_cons, List.length_nil, List.length_map, List.length_set, List.length_replicate, Spec.bytesOf_length]; omega) | (simp; omega))) (by first | omega | (simp only [List.length_append, List.length_cons, List.length_nil, List.length_map, List.length_set, List.length_replicate, Spec.bytesOf_length]; omega) | (simp; omega)) s_index s_term z25 (by first | omega | (simp only [List.length_append, List.length_cons, List.length_nil, List.length_map, List.length_set, List.length_replicate, Spec.bytesOf_length]; omega) | (simp; omega)) dt (by first | omega | (simp only [List.length_append, List.length_cons, List.length_nil, List.length_map, List.length_set, List.length_replicate, Spec.bytesOf_length]; omega) | (simp; omega))
  rw [hs50v] at hs50; clear hs50v
  refine ⟨_, H51, hs50, ?_⟩
  have H51n : H40.next ≤ H51.next := hx52.1
  refine st_op (ev_not rfl) rfl rfl rfl ?_
  try show aw _ _ _ _ _ _
  by_cases hc53 : (!(Spec.mayMsg kind from_ to_ term index logterm commit yes z24 s_index s_term z25 dt)) = true
  ·
   refine aw_condT hc53 rfl ?_
   try show aw _ _ _ _ _ _
   replace hc53 : (Spec.mayMsg kind from_ to_ term index logterm commit yes z24 s_index s_term z25 dt) = false := by rw [Bool.not_eq_true'] at hc53; exact hc53
   refine aw_seq ?_
   refine aw_reg ?_
   refine st_op (ev_move rfl) rfl rfl rfl ?_
   refine st_op (ev_lenSl rfl Try.underlying29) rfl rfl rfl ?_
   refine st_op (ev_int rfl rfl rfl) rfl rfl rfl ?_
   refine st_op (ev_assign rfl) rfl rfl rfl ?_
   try show aw _ _ _ _ _ _
   refine aw_ret ?_
   have hx54 : Ext H H51 := (Ext.trans (Ext.trans (Ext.then (Ext.then (Ext.trans hx12 hx15) hf32 (fun q hq e => by omega)) hxl35 (fun q hq e => by omega)) hx41) hx52)
   have hres : true = (((Spec.encM (⟨kind, from_, to_, term, index, logterm, commit, yes, z24, ⟨s_index, s_term, z25, dt⟩⟩ : Msg)).length : Int) == 0) := by symm; rw [beq_iff_eq, Spec.encM, if_neg (fun h => Bool.noConfusion (h.symm.trans (show Spec.mayM (⟨kind, from_, to_, term, index, logterm, commit, yes, z24, ⟨s_index, s_term, z25, dt⟩⟩ : Msg) = false from hc53)))]; rfl
   exact ⟨.bool (((Spec.encM (⟨kind, from_, to_, term, index, logterm, commit, yes, z24, ⟨s_index, s_term, z25, dt⟩⟩ : Msg)).length : Int) == 0), rfl, by first | (rw [hres]; done) | rw [← hres], hx54⟩
  ·
   rw [Bool.not_eq_true] at hc53; refine aw_condF hc53 rfl ?_
   try show aw _ _ _ _ _ _
   replace hc53 : (Spec.mayMsg kind from_ to_ term index logterm commit yes z24 s_index s_term z25 dt) = true := by rw [Bool.not_eq_false'] at hc53; exact hc53
   refine aw_skip ?_
   try show aw _ _ _ _ _ _
   refine aw_seq ?_
   refine aw_reg ?_
   refine st_op (ev_move rfl) rfl rfl rfl ?_
   refine st_call rfl rfl rfl ent13 rfl rfl rfl ?_
   have h55 := My.ext hm44 hx52
   obtain ⟨_, H57, hs56, A59, c60, hs56v, hm61, hq62, hq63, hq64, hq65, hx58⟩ := msg_Decode_spec H51 A42 (Spec.encM (⟨kind, from_, to_, term, index, logterm, commit, yes, z24, ⟨s_index, s_term, z25, dt⟩⟩ : Msg)) c43 (My.row h55) (My.capF h55 (by first | omega | (simp only [List.length_append, List.length_cons, List.length_nil, List.length_map, List.length_set, List.length_replicate, Spec.bytesOf_length]; omega) | (simp; omega))) (by first | omega | (simp only [List.length_append, List.length_cons, List.length_nil, List.length_map, List.length_set, List.length_replicate, Spec.bytesOf_length]; omega) | (simp; omega)) (My.anil h55) (Spec.encM_bytes _)
   rw [hs56v] at hs56; clear hs56v
   generalize hR67 : (Spec.decM (Spec.encM (⟨kind, from_, to_, term, index, logterm, commit, yes, z24, ⟨s_index, s_term, z25, dt⟩⟩ : Msg))) = r66 at hs56 hm61 hq62 hq63 hq64 hq65
   obtain ⟨z68, z69, z70, z71, z72, z73, z74, z75, z76, z77, z78, z79, z80, z81⟩ := r66
   dsimp only at hs56 hm61 hq62 hq63 hq64 hq65
   refine ⟨_, H57, hs56, ?_⟩
   have H57n : H51.next ≤ H57.next := hx58.1
   refine st_op (ev_move rfl) rfl rfl rfl ?_
   iterate 2 refine st_op (ev_extract rfl rfl) rfl rfl rfl ?_
   obtain ⟨b82, H83, he84, b82e, H83n_, hB86, f85⟩ := mem_alloc H57 zero26
   refine st_op (he84 _ _ _ _ _ _ _) rfl rfl rfl ?_
   have hx87 : Ext H57 H83 := Ext.new (by omega) H83n_ f85
   have H83n : H57.next ≤ H83.next := hx87.1
   obtain ⟨H88, he89, H88n_, hB90, f91⟩ := mem_store (v := .agg #[.int .i64 z68, .int .i64 z69, .int .i64 z70, .int .i64 z71, .int .i64 z72, .int .i64 z73, .int .i64 z74, .bool z75, .slice A59 z76.length c60, .int .i64 z77, .int .i64 z78, .string z79, .string z80]) (o := 0) (cs' := [.int .i64 z68, .int .i64 z69, .int .i64 z70, .int .i64 z71, .int .i64 z72, .int .i64 z73, .int .i64 z74, .bool z75, .slice A59 z76.length c60, .int .i64 z77, .int .i64 z78, .string z79, .string z80]) 13 rfl rfl size26 hB86 rfl rfl rfl
   refine st_op0 (he89 _ _ _ _ _ _ _ _ _ rfl rfl) rfl rfl ?_
   have hf92 : Fr (fun q => q = b82) H83 H88 := Fr.write H88n_ f91
   have H88n : H83.next ≤ H88.next := hf92.1
   refine st_op (ev_assign rfl) rfl rfl rfl ?_
   try show aw _ _ _ _ _ _
   iterate 2 refine aw_seq ?_
   refine aw_reg ?_
   refine st_op (ev_move rfl) rfl rfl rfl ?_
   refine st_op (ev_lenSl rfl Try.underlying29) rfl rfl rfl ?_
   refine st_op (ev_int rfl rfl rfl) rfl rfl rfl ?_
   refine st_op (ev_move rfl) rfl rfl rfl ?_
   refine st_bool 53 rfl (fun hb93 => ?_) (fun hb93 => ?_)
   ·
    have hb93 := eq_of_beq hb93
    iterate 2 refine st_skip rfl rfl rfl ?_
    refine st_op (ev_pickT rfl rfl) rfl rfl rfl ?_
    refine st_op (ev_move rfl) rfl rfl rfl ?_
    iterate 4 refine st_skip rfl rfl rfl ?_
    refine st_op (ev_pickT rfl rfl) rfl rfl rfl ?_
    try show aw _ _ _ _ _ _
    refine aw_cond (t := true) rfl ?_
    try show aw _ _ _ _ _ _
    refine aw_seq ?_
    refine aw_reg ?_
    refine st_op (ev_assign rfl) rfl rfl rfl ?_
    try show aw _ _ _ _ _ _
    refine aw_ret ?_
    have hx94 : Ext H H88 := (Ext.then (Ext.trans (Ext.trans (Ext.trans (Ext.trans (Ext.then (Ext.then (Ext.trans hx12 hx15) hf32 (fun q hq e => by omega)) hxl35 (fun q hq e => by omega)) hx41) hx52) hx58) hx87) hf92 (fun q hq e => by omega))
    have hres : true = false := by have q := Spec.back_same (show Spec.mayM (⟨kind, from_, to_, term, index, logterm, commit, yes, z24, ⟨s_index, s_term, z25, dt⟩⟩ : Msg) = true from hc53) hR67; have q0 := Spec.encM_pos (show Spec.mayM (⟨kind, from_, to_, term, index, logterm, commit, yes, z24, ⟨s_index, s_term, z25, dt⟩⟩ : Msg) = true from hc53); first | (exfalso; omega) | (exfalso; simp_all [Spec.eqEs_self, Spec.eqSn_iff])
    exact ⟨.bool false, rfl, by first | (rw [hres]; done) | rw [← hres], hx94⟩
   ·
    have hb93 := ne_of_beq_false hb93
    refine st_op (ev_move rfl) rfl rfl rfl ?_
    refine st_op (ev_int rfl rfl rfl) rfl rfl rfl ?_
    refine st_op (ev_pickF rfl rfl) rfl rfl rfl ?_
    refine st_op (ev_move rfl) rfl rfl rfl ?_
    refine st_bool 57 rfl (fun hb95 => ?_) (fun hb95 => ?_)
    ·
     have hb95 : ¬ (z81 = 0) := by simpa using hb95
     iterate 4 refine st_skip rfl rfl rfl ?_
     refine st_op (ev_pickT rfl rfl) rfl rfl rfl ?_
     try show aw _ _ _ _ _ _
     refine aw_cond (t := true) rfl ?_
     try show aw _ _ _ _ _ _
     refine aw_seq ?_
     refine aw_reg ?_
     refine st_op (ev_assign rfl) rfl rfl rfl ?_
     try show aw _ _ _ _ _ _
     refine aw_ret ?_
     have hx96 : Ext H H88 := (Ext.then (Ext.trans (Ext.trans (Ext.trans (Ext.trans (Ext.then (Ext.then (Ext.trans hx12 hx15) hf32 (fun q hq e => by omega)) hxl35 (fun q hq e => by omega)) hx41) hx52) hx58) hx87) hf92 (fun q hq e => by omega))
     have hres : true = false := by have q := Spec.back_same (show Spec.mayM (⟨kind, from_, to_, term, index, logterm, commit, yes, z24, ⟨s_index, s_term, z25, dt⟩⟩ : Msg) = true from hc53) hR67; have q0 := Spec.encM_pos (show Spec.mayM (⟨kind, from_, to_, term, index, logterm, commit, yes, z24, ⟨s_index, s_term, z25, dt⟩⟩ : Msg) = true from hc53); first | (exfalso; omega) | (exfalso; simp_all [Spec.eqEs_self, Spec.eqSn_iff])
     exact ⟨.bool false, rfl, by first | (rw [hres]; done) | rw [← hres], hx96⟩
    ·
     have hb95 : (z81 = 0) := by simpa using hb95
     have hx98 : Ext H40 H88 := (Ext.then (Ext.trans (Ext.trans hx52 hx58) hx87) hf92 (fun q hq e => by omega))
     have h97 := Ext.blk hx98 (by omega) h48
     refine st_op (ev_load rfl (lvar_part (l := [.int .i64 kind, .int .i64 from_, .int .i64 to_, .int .i64 term, .int .i64 index, .int .i64 logterm, .int .i64 commit, .bool yes, .slice A16 z24.length c17, .int .i64 s_index, .int .i64 s_term, .string z25, .string dt]) many26 h97 rfl rfl (by decide))) rfl rfl rfl ?_
     refine st_op (ev_load rfl (lvar_part (l := [.int .i64 z68, .int .i64 z69, .int .i64 z70, .int .i64 z71, .int .i64 z72, .int .i64 z73, .int .i64 z74, .bool z75, .slice A59 z76.length c60, .int .i64 z77, .int .i64 z78, .string z79, .string z80]) many26 hB90 rfl rfl (by decide))) rfl rfl rfl ?_
     refine st_call rfl rfl rfl ent14 rfl rfl rfl ?_
     have h99 := My.ext h49 hx98
     have hx101 : Ext H57 H88 := (Ext.then hx87 hf92 (fun q hq e => by omega))
     have h100 := My.ext hm61 hx101
     obtain ⟨_, H103, hs102, hs102v, hx104⟩ := law24_EqMsg_spec H88 kind from_ to_ term index logterm commit yes A16 z24 c17 (My.row h99) (My.capF h99 (by first | omega | (simp only [List.length_append, List.length_cons, List.length_nil, List.length_map, List.length_set, List.length_replicate, Spec.bytesOf_length]; omega) | (simp; omega))) (by first | omega | (simp only [List.length_append, List.length_cons, List.length_nil, List.length_map, List.length_set, List.length_replicate, Spec.bytesOf_length]; omega) | (simp; omega)) s_index s_term z25 dt z68 z69 z70 z71 z72 z73 z74 z75 A59 z76 c60 (My.row h100) (My.capF h100 (by first | omega | (simp only [List.length_append, List.length_cons, List.length_nil, List.length_map, List.length_set, List.length_replicate, Spec.bytesOf_length]; omega) | (simp; omega))) (by first | omega | (simp only [List.length_append, List.length_cons, List.length_nil, List.length_map, List.length_set, List.length_replicate, Spec.bytesOf_length]; omega) | (simp; omega)) z77 z78 z79 z80
     rw [hs102v] at hs102; clear hs102v
     refine ⟨_, H103, hs102, ?_⟩
     have H103n : H88.next ≤ H103.next := hx104.1
     refine st_op (ev_not rfl) rfl rfl rfl ?_
     refine st_op (ev_pickF rfl rfl) rfl rfl rfl ?_
     try show aw _ _ _ _ _ _
     by_cases hc105 : (!(decide (kind = z68 ∧ from_ = z69 ∧ to_ = z70 ∧ term = z71 ∧ index = z72 ∧ logterm = z73 ∧ commit = z74 ∧ yes = z75 ∧ Spec.eqEs z24 z76 = true ∧ Spec.eqSn s_index s_term z25 dt z77 z78 z79 z80 = true))) = true
     ·
      refine aw_condT hc105 rfl ?_
      try show aw _ _ _ _ _ _
      replace hc105 : (decide (kind = z68 ∧ from_ = z69 ∧ to_ = z70 ∧ term = z71 ∧ index = z72 ∧ logterm = z73 ∧ commit = z74 ∧ yes = z75 ∧ Spec.eqEs z24 z76 = true ∧ Spec.eqSn s_index s_term z25 dt z77 z78 z79 z80 = true)) = false := by rw [Bool.not_eq_true'] at hc105; exact hc105
      have hc105 := of_decide_eq_false hc105
      refine aw_seq ?_
      refine aw_reg ?_
      refine st_op (ev_assign rfl) rfl rfl rfl ?_
      try show aw _ _ _ _ _ _
      refine aw_ret ?_
      have hx106 : Ext H H103 := (Ext.trans (Ext.then (Ext.trans (Ext.trans (Ext.trans (Ext.trans (Ext.then (Ext.then (Ext.trans hx12 hx15) hf32 (fun q hq e => by omega)) hxl35 (fun q hq e => by omega)) hx41) hx52) hx58) hx87) hf92 (fun q hq e => by omega)) hx104)
      have hres : true = false := by have q := Spec.back_same (show Spec.mayM (⟨kind, from_, to_, term, index, logterm, commit, yes, z24, ⟨s_index, s_term, z25, dt⟩⟩ : Msg) = true from hc53) hR67; have q0 := Spec.encM_pos (show Spec.mayM (⟨kind, from_, to_, term, index, logterm, commit, yes, z24, ⟨s_index, s_term, z25, dt⟩⟩ : Msg) = true from hc53); first | (exfalso; omega) | (exfalso; simp_all [Spec.eqEs_self, Spec.eqSn_iff])
      exact ⟨.bool false, rfl, by first | (rw [hres]; done) | rw [← hres], hx106⟩
     ·
      rw [Bool.not_eq_true] at hc105; refine aw_condF hc105 rfl ?_
      try show aw _ _ _ _ _ _
      replace hc105 : (decide (kind = z68 ∧ from_ = z69 ∧ to_ = z70 ∧ term = z71 ∧ index = z72 ∧ logterm = z73 ∧ commit = z74 ∧ yes = z75 ∧ Spec.eqEs z24 z76 = true ∧ Spec.eqSn s_index s_term z25 dt z77 z78 z79 z80 = true)) = true := by rw [Bool.not_eq_false'] at hc105; exact hc105
      have hc105 := of_decide_eq_true hc105
      refine aw_skip ?_
      try show aw _ _ _ _ _ _
      refine aw_join (α := Heap) (fun a => (.cons 2 (.int .i64 at_) (.cons 4 (.int .u8 x) (.cons 12 (.slice A42 ((Spec.encM (⟨kind, from_, to_, term, index, logterm, commit, yes, z24, ⟨s_index, s_term, z25, dt⟩⟩ : Msg)).length) c43) (.cons 13 (.pointer (some ⟨b82, 0, none⟩)) .nil))))) (fun a => a) (fun a => (Ext H103 a)) ?_ (fun hJ109 => ?_)
      ·
       rintro Hl107 hxl108
       replace hxl108 : Ext H103 Hl107 := hxl108
       show aw _ _ _ (RL _ (.cons 2 (.int .i64 at_) (.cons 4 (.int .u8 x) (.cons 12 (.slice A42 ((Spec.encM (⟨kind, from_, to_, term, index, logterm, commit, yes, z24, ⟨s_index, s_term, z25, dt⟩⟩ : Msg)).length) c43) (.cons 13 (.pointer (some ⟨b82, 0, none⟩)) .nil))))) Hl107 _
       have Hl107n : H103.next ≤ Hl107.next := hxl108.1
       iterate 2 refine aw_seq ?_
       refine aw_reg ?_
       refine st_op (ev_move rfl) rfl rfl rfl ?_
       refine st_op (ev_int rfl rfl rfl) rfl rfl rfl ?_
       refine st_op (ev_move rfl) rfl rfl rfl ?_
       refine st_bool 85 rfl (fun hb110 => ?_) (fun hb110 => ?_)
       ·
        have hb110 := of_decide_eq_true hb110
        iterate 2 refine st_skip rfl rfl rfl ?_
        refine st_op (ev_pickT rfl rfl) rfl rfl rfl ?_
        try show aw _ _ _ _ _ _
        refine aw_cond (t := true) rfl ?_
        try show aw _ _ _ _ _ _
        refine aw_seq ?_
        refine aw_reg ?_
        refine st_op (ev_assign rfl) rfl rfl rfl ?_
        try show aw _ _ _ _ _ _
        refine aw_ret ?_
        have hx111 : Ext H Hl107 := (Ext.trans (Ext.trans (Ext.then (Ext.trans (Ext.trans (Ext.trans (Ext.trans (Ext.then (Ext.then (Ext.trans hx12 hx15) hf32 (fun q hq e => by omega)) hxl35 (fun q hq e => by omega)) hx41) hx52) hx58) hx87) hf92 (fun q hq e => by omega)) hx104) hxl108)
        have hres : true = true := by rfl
        exact ⟨.bool true, rfl, by first | (rw [hres]; done) | rw [← hres], hx111⟩
       ·
        have hb110 := of_decide_eq_false hb110
        refine st_op (ev_move rfl) rfl rfl rfl ?_
        refine st_op (ev_int rfl rfl rfl) rfl rfl rfl ?_
        refine st_op (ev_pickF rfl rfl) rfl rfl rfl ?_
        try show aw _ _ _ _ _ _
        by_cases hc112 : (x == 0) = true
        ·
         refine aw_condT hc112 rfl ?_
         try show aw _ _ _ _ _ _
         have hc112 := eq_of_beq hc112
         refine aw_seq ?_
         refine aw_reg ?_
         refine st_op (ev_assign rfl) rfl rfl rfl ?_
         try show aw _ _ _ _ _ _
         refine aw_ret ?_
         have hx113 : Ext H Hl107 := (Ext.trans (Ext.trans (Ext.then (Ext.trans (Ext.trans (Ext.trans (Ext.trans (Ext.then (Ext.then (Ext.trans hx12 hx15) hf32 (fun q hq e => by omega)) hxl35 (fun q hq e => by omega)) hx41) hx52) hx58) hx87) hf92 (fun q hq e => by omega)) hx104) hxl108)
         have hres : true = true := by rfl
         exact ⟨.bool true, rfl, by first | (rw [hres]; done) | rw [← hres], hx113⟩
        ·
         rw [Bool.not_eq_true] at hc112; refine aw_condF hc112 rfl ?_
         try show aw _ _ _ _ _ _
         have hc112 := ne_of_beq_false hc112
         refine aw_skip ?_
         try show aw _ _ _ _ _ _
         refine aw_seq ?_
         refine aw_reg ?_
         refine st_op (ev_move rfl) rfl rfl rfl ?_
         have hm114 : My Hl107 Hl107 none 0 1 (([] : List Int).map u8c) := .nil
         have hx116 : Ext H51 Hl107 := (Ext.trans (Ext.trans (Ext.then (Ext.trans hx58 hx87) hf92 (fun q hq e => by omega)) hx104) hxl108)
         have h115 := My.ext h55 hx116
         obtain ⟨A117, c118, H119, W120, he121, hm122, hf123⟩ := mem_append (f := u8c) (old := ([] : List Int)) (new := (Spec.encM (⟨kind, from_, to_, term, index, logterm, commit, yes, z24, ⟨s_index, s_term, z25, dt⟩⟩ : Msg))) (m := 0) (mx := (Spec.encM (⟨kind, from_, to_, term, index, logterm, commit, yes, z24, ⟨s_index, s_term, z25, dt⟩⟩ : Msg)).length) (c := 0) (by first | rfl | simp) (by first | rfl | simp) eok29 (by decide) hm114 hm114 (by omega) (((My.row h115)).srcF (by decide) (by first | rfl | simp)) rfl u8c_len u8c_one (by first | omega | (simp only [List.length_append, List.length_cons, List.length_nil, List.length_map, List.length_set, List.length_replicate, Spec.bytesOf_length]; omega) | (simp; omega)) (by first | omega | (simp only [List.length_append, List.length_cons, List.length_nil, List.length_map, List.length_set, List.length_replicate, Spec.bytesOf_length]; omega) | (simp; omega))
         refine st_op (he121 _ _ _ _ _ _ _ _ _ _ rfl rfl isrow29) rfl rfl rfl ?_
         have H119n : Hl107.next ≤ H119.next := hf123.1
         rw [List.nil_append] at hm122
         refine st_op (ev_assign rfl) rfl rfl rfl ?_
         try show aw _ _ _ _ _ _
         refine aw_seq ?_
         refine aw_reg ?_
         iterate 3 refine st_op (ev_move rfl) rfl rfl rfl ?_
         refine st_op (ev_lenSl rfl Try.underlying29) rfl rfl rfl ?_
         have ht124 : 0 ≤ Int.tmod at_ ((Spec.encM (⟨kind, from_, to_, term, index, logterm, commit, yes, z24, ⟨s_index, s_term, z25, dt⟩⟩ : Msg)).length : Int) ∧ Int.tmod at_ ((Spec.encM (⟨kind, from_, to_, term, index, logterm, commit, yes, z24, ⟨s_index, s_term, z25, dt⟩⟩ : Msg)).length : Int) < ((Spec.encM (⟨kind, from_, to_, term, index, logterm, commit, yes, z24, ⟨s_index, s_term, z25, dt⟩⟩ : Msg)).length : Int) := ⟨Int.tmod_nonneg _ (by omega), Int.tmod_lt_of_pos _ (by omega)⟩
         refine st_op (ev_rem (b := ((Spec.encM (⟨kind, from_, to_, term, index, logterm, commit, yes, z24, ⟨s_index, s_term, z25, dt⟩⟩ : Msg)).length : Int)) rfl rfl (by omega)) rfl rfl rfl ?_
         have hi125 : 0 ≤ ((Int.tmod at_ ((Spec.encM (⟨kind, from_, to_, term, index, logterm, commit, yes, z24, ⟨s_index, s_term, z25, dt⟩⟩ : Msg)).length : Int)) : Int) := by omega
         have hi126 : ((Int.tmod at_ ((Spec.encM (⟨kind, from_, to_, term, index, logterm, commit, yes, z24, ⟨s_index, s_term, z25, dt⟩⟩ : Msg)).length : Int)) : Int) < (((Spec.encM (⟨kind, from_, to_, term, index, logterm, commit, yes, z24, ⟨s_index, s_term, z25, dt⟩⟩ : Msg)).length : Nat) : Int) := by first | omega | (simp only [List.length_append, List.length_cons, List.length_nil, List.length_map, List.length_set, List.length_replicate, Spec.bytesOf_length]; omega) | (simp; omega)
         obtain ⟨x127, hx128⟩ : ∃ e, (Spec.encM (⟨kind, from_, to_, term, index, logterm, commit, yes, z24, ⟨s_index, s_term, z25, dt⟩⟩ : Msg))[((Int.tmod at_ ((Spec.encM (⟨kind, from_, to_, term, index, logterm, commit, yes, z24, ⟨s_index, s_term, z25, dt⟩⟩ : Msg)).length : Int))).toNat]? = some e := ⟨_, List.getElem?_eq_getElem (by first | omega | (simp only [List.length_append, List.length_cons, List.length_nil, List.length_map, List.length_set, List.length_replicate, Spec.bytesOf_length]; omega) | (simp; omega))⟩
         have x127b : 0 ≤ x127 ∧ x127 < 256 := ((Spec.encM_bytes _) : Spec.Bytes (Spec.encM (⟨kind, from_, to_, term, index, logterm, commit, yes, z24, ⟨s_index, s_term, z25, dt⟩⟩ : Msg))) _ (List.mem_of_getElem? hx128)
         refine st_op (ev_at rfl rfl (My.row hm122) (getMap u8c hx128) (by first | rfl | omega | simp) hi125 hi126 el29) rfl rfl rfl ?_
         refine st_op (ev_atL rfl (My.row hm122) (getMap u8c hx128) one5 rfl) rfl rfl rfl ?_
         refine st_op (ev_move rfl) rfl rfl rfl ?_
         have hw129 : 0 ≤ (Go.bits .xor .u8 x127 x) ∧ (Go.bits .xor .u8 x127 x) ≤ 255 := bitsU8 _ _ _
         refine st_op (ev_bits rfl rfl rfl) rfl rfl rfl ?_
         have hi130 : 0 ≤ ((Int.tmod at_ ((Spec.encM (⟨kind, from_, to_, term, index, logterm, commit, yes, z24, ⟨s_index, s_term, z25, dt⟩⟩ : Msg)).length : Int)) : Int) := by omega
         have hi131 : ((Int.tmod at_ ((Spec.encM (⟨kind, from_, to_, term, index, logterm, commit, yes, z24, ⟨s_index, s_term, z25, dt⟩⟩ : Msg)).length : Int)) : Int) < (((Spec.encM (⟨kind, from_, to_, term, index, logterm, commit, yes, z24, ⟨s_index, s_term, z25, dt⟩⟩ : Msg)).length : Nat) : Int) := by first | omega | (simp only [List.length_append, List.length_cons, List.length_nil, List.length_map, List.length_set, List.length_replicate, Spec.bytesOf_length]; omega) | (simp; omega)
         refine st_op (ev_at rfl rfl (My.row hm122) (getMap u8c hx128) (by first | rfl | omega | simp) hi130 hi131 el29) rfl rfl rfl ?_
         obtain ⟨H132, W133, he134, hm135, hf136, H132n_⟩ := mem_storeAt (v := .int .u8 (Go.bits .xor .u8 x127 x)) size5 rfl rfl hm122 hm122 (getMap u8c hx128) (show 0 < 1 by decide)
         rw [show (u8c x127).set 0 (.int .u8 (Go.bits .xor .u8 x127 x)) = u8c (Go.bits .xor .u8 x127 x) from rfl, ← List.map_set] at hm135
         refine st_op0 (he134 _ _ _ _ _ _ _ _ _ rfl rfl) rfl rfl ?_
         have H132n : H119.next ≤ H132.next := hf136.1
         try show aw _ _ _ _ _ _
         refine aw_seq ?_
         refine aw_reg ?_
         refine st_op (ev_move rfl) rfl rfl rfl ?_
         refine st_call rfl rfl rfl ent13 rfl rfl rfl ?_
         obtain ⟨_, H138, hs137, A140, c141, hs137v, hm142, hq143, hq144, hq145, hq146, hx139⟩ := msg_Decode_spec H132 A117 ((Spec.encM (⟨kind, from_, to_, term, index, logterm, commit, yes, z24, ⟨s_index, s_term, z25, dt⟩⟩ : Msg)).set (((Int.tmod at_ ((Spec.encM (⟨kind, from_, to_, term, index, logterm, commit, yes, z24, ⟨s_index, s_term, z25, dt⟩⟩ : Msg)).length : Int))).toNat) (Go.bits .xor .u8 x127 x)) c118 (My.row hm135) (My.capF hm135 (by first | omega | (simp only [List.length_append, List.length_cons, List.length_nil, List.length_map, List.length_set, List.length_replicate, Spec.bytesOf_length]; omega) | (simp; omega))) (by first | omega | (simp only [List.length_append, List.length_cons, List.length_nil, List.length_map, List.length_set, List.length_replicate, Spec.bytesOf_length]; omega) | (simp; omega)) (My.anil hm135) (Spec.Bytes.set (Spec.encM_bytes _) (by omega))
         rw [hs137v] at hs137; clear hs137v
         rw [show ((Spec.encM (⟨kind, from_, to_, term, index, logterm, commit, yes, z24, ⟨s_index, s_term, z25, dt⟩⟩ : Msg)).set (((Int.tmod at_ ((Spec.encM (⟨kind, from_, to_, term, index, logterm, commit, yes, z24, ⟨s_index, s_term, z25, dt⟩⟩ : Msg)).length : Int))).toNat) (Go.bits .xor .u8 x127 x)).length = (Spec.encM (⟨kind, from_, to_, term, index, logterm, commit, yes, z24, ⟨s_index, s_term, z25, dt⟩⟩ : Msg)).length from by first | rfl | (simp; done) | omega] at hs137
         generalize hR148 : (Spec.decM ((Spec.encM (⟨kind, from_, to_, term, index, logterm, commit, yes, z24, ⟨s_index, s_term, z25, dt⟩⟩ : Msg)).set (((Int.tmod at_ ((Spec.encM (⟨kind, from_, to_, term, index, logterm, commit, yes, z24, ⟨s_index, s_term, z25, dt⟩⟩ : Msg)).length : Int))).toNat) (Go.bits .xor .u8 x127 x))) = r147 at hs137 hm142 hq143 hq144 hq145 hq146
         obtain ⟨z149, z150, z151, z152, z153, z154, z155, z156, z157, z158, z159, z160, z161, z162⟩ := r147
         dsimp only at hs137 hm142 hq143 hq144 hq145 hq146
         refine ⟨_, H138, hs137, ?_⟩
         have H138n : H132.next ≤ H138.next := hx139.1
         refine st_op (ev_move rfl) rfl rfl rfl ?_
         iterate 2 refine st_op (ev_extract rfl rfl) rfl rfl rfl ?_
         have hx164 : Ext H88 H138 := (Ext.trans (Ext.then (Ext.then (Ext.trans hx104 hxl108) hf123 (fun q hq e => by omega)) hf136 (fun q hq e => by omega)) hx139)
         have h163 := Ext.blk hx164 (by omega) hB90
         obtain ⟨H165, he166, H165n_, hB167, f168⟩ := mem_store (v := .agg #[.int .i64 z149, .int .i64 z150, .int .i64 z151, .int .i64 z152, .int .i64 z153, .int .i64 z154, .int .i64 z155, .bool z156, .slice A140 z157.length c141, .int .i64 z158, .int .i64 z159, .string z160, .string z161]) (o := 0) (cs' := [.int .i64 z149, .int .i64 z150, .int .i64 z151, .int .i64 z152, .int .i64 z153, .int .i64 z154, .int .i64 z155, .bool z156, .slice A140 z157.length c141, .int .i64 z158, .int .i64 z159, .string z160, .string z161]) 13 rfl rfl size26 h163 rfl rfl rfl
         refine st_op0 (he166 _ _ _ _ _ _ _ _ _ rfl rfl) rfl rfl ?_
         have hf169 : Fr (fun q => q = b82) H138 H165 := Fr.write H165n_ f168
         have H165n : H138.next ≤ H165.next := hf169.1
         refine st_op (ev_assign rfl) rfl rfl rfl ?_
         try show aw _ _ _ _ _ _
         refine aw_seq ?_
         refine aw_reg ?_
         refine st_op (ev_move rfl) rfl rfl rfl ?_
         refine st_op (ev_int rfl rfl rfl) rfl rfl rfl ?_
         refine st_op (ev_move rfl) rfl rfl rfl ?_
         refine st_bool 108 rfl (fun hb170 => ?_) (fun hb170 => ?_)
         ·
          have hb170 := eq_of_beq hb170
          refine st_op (ev_fieldAddr rfl fa26_0 (o' := 0) rfl) rfl rfl rfl ?_
          refine st_op (ev_load rfl (lvar_one one3 hB167 rfl)) rfl rfl rfl ?_
          refine st_op (ev_int rfl rfl rfl) rfl rfl rfl ?_
          refine st_op (ev_pickT rfl rfl) rfl rfl rfl ?_
          refine st_op (ev_assign rfl) rfl rfl rfl ?_
          try show aw _ _ _ _ _ _
          refine aw_ret ?_
          have hx171 : Ext H H165 := (Ext.then (Ext.trans (Ext.then (Ext.then (Ext.trans (Ext.trans (Ext.then (Ext.trans (Ext.trans (Ext.trans (Ext.trans (Ext.then (Ext.then (Ext.trans hx12 hx15) hf32 (fun q hq e => by omega)) hxl35 (fun q hq e => by omega)) hx41) hx52) hx58) hx87) hf92 (fun q hq e => by omega)) hx104) hxl108) hf123 (fun q hq e => by omega)) hf136 (fun q hq e => by omega)) hx139) hf169 (fun q hq e => by omega))
          have hres : true = (z149 == 0) := by have q := Spec.back_byte (show Spec.mayM (⟨kind, from_, to_, term, index, logterm, commit, yes, z24, ⟨s_index, s_term, z25, dt⟩⟩ : Msg) = true from hc53) hx128 (by omega) (by omega) hR148; simp_all
          exact ⟨.bool (z149 == 0), rfl, by first | (rw [hres]; done) | rw [← hres], hx171⟩
         ·
          have hb170 := ne_of_beq_false hb170
          iterate 3 refine st_skip rfl rfl rfl ?_
          refine st_op (ev_pickF rfl rfl) rfl rfl rfl ?_
          refine st_op (ev_assign rfl) rfl rfl rfl ?_
          try show aw _ _ _ _ _ _
          refine aw_ret ?_
          have hx172 : Ext H H165 := (Ext.then (Ext.trans (Ext.then (Ext.then (Ext.trans (Ext.trans (Ext.then (Ext.trans (Ext.trans (Ext.trans (Ext.trans (Ext.then (Ext.then (Ext.trans hx12 hx15) hf32 (fun q hq e => by omega)) hxl35 (fun q hq e => by omega)) hx41) hx52) hx58) hx87) hf92 (fun q hq e => by omega)) hx104) hxl108) hf123 (fun q hq e => by omega)) hf136 (fun q hq e => by omega)) hx139) hf169 (fun q hq e => by omega))
          have hres : true = false := by have q := Spec.back_byte (show Spec.mayM (⟨kind, from_, to_, term, index, logterm, commit, yes, z24, ⟨s_index, s_term, z25, dt⟩⟩ : Msg) = true from hc53) hx128 (by omega) (by omega) hR148; simp_all
          exact ⟨.bool false, rfl, by first | (rw [hres]; done) | rw [← hres], hx172⟩
      ·
       skip
       refine aw_seq ?_
       refine aw_reg ?_
       refine st_op (ev_move rfl) rfl rfl rfl ?_
       refine st_op (ev_int rfl rfl rfl) rfl rfl rfl ?_
       refine st_op (ev_move rfl) rfl rfl rfl ?_
       refine st_bool 65 rfl (fun hb173 => ?_) (fun hb173 => ?_)
       ·
        have hb173 := of_decide_eq_true hb173
        iterate 2 refine st_op (ev_move rfl) rfl rfl rfl ?_
        refine st_op (ev_lenSl rfl Try.underlying29) rfl rfl rfl ?_
        refine st_op (ev_int rfl rfl rfl) rfl rfl rfl ?_
        refine st_op (ev_pickT rfl rfl) rfl rfl rfl ?_
        try show aw _ _ _ _ _ _
        by_cases hc174 : (decide (cut ≤ ((Spec.encM (⟨kind, from_, to_, term, index, logterm, commit, yes, z24, ⟨s_index, s_term, z25, dt⟩⟩ : Msg)).length : Int))) = true
        ·
         refine aw_condT hc174 rfl ?_
         try show aw _ _ _ _ _ _
         have hc174 := of_decide_eq_true hc174
         refine aw_seq ?_
         refine aw_reg ?_
         iterate 2 refine st_op (ev_move rfl) rfl rfl rfl ?_
         refine st_op (ev_lenSl rfl Try.underlying29) rfl rfl rfl ?_
         refine st_op (ev_move rfl) rfl rfl rfl ?_
         refine st_op (ev_int64 (c := ((Spec.encM (⟨kind, from_, to_, term, index, logterm, commit, yes, z24, ⟨s_index, s_term, z25, dt⟩⟩ : Msg)).length : Int) - cut) rfl rfl rfl (by omega) (by omega)) rfl rfl rfl ?_
         have hx184 : Ext H51 H103 := (Ext.trans (Ext.then (Ext.trans hx58 hx87) hf92 (fun q hq e => by omega)) hx104)
         have h183 := My.ext h55 hx184
         obtain ⟨A175, c176, L177, hL178, hl179, hs180, hr181⟩ := sliceA_my u8c el29 (by decide) h183 (by first | omega | (simp only [List.length_append, List.length_cons, List.length_nil, List.length_map, List.length_set, List.length_replicate, Spec.bytesOf_length]; omega) | (simp; omega)) (lo := none) (hi := some (.int .i64 (((Spec.encM (⟨kind, from_, to_, term, index, logterm, commit, yes, z24, ⟨s_index, s_term, z25, dt⟩⟩ : Msg)).length : Int) - cut))) (p := 0) (q := ((((Spec.encM (⟨kind, from_, to_, term, index, logterm, commit, yes, z24, ⟨s_index, s_term, z25, dt⟩⟩ : Msg)).length : Int) - cut)).toNat) (by rw [Option.isSome_some, if_pos rfl]; exact bound_int (by first | omega | (simp only [List.length_append, List.length_cons, List.length_nil, List.length_map, List.length_set, List.length_replicate, Spec.bytesOf_length]; omega) | (simp; omega)) (by first | omega | (simp only [List.length_append, List.length_cons, List.length_nil, List.length_map, List.length_set, List.length_replicate, Spec.bytesOf_length]; omega) | (simp; omega)) (by first | rfl | omega)) rfl (by first | omega | (simp only [List.length_append, List.length_cons, List.length_nil, List.length_map, List.length_set, List.length_replicate, Spec.bytesOf_length]; omega) | (simp; omega)) (by first | omega | (simp only [List.length_append, List.length_cons, List.length_nil, List.length_map, List.length_set, List.length_replicate, Spec.bytesOf_length]; omega) | (simp; omega)) (.inr ⟨_, _, rfl⟩)
         refine st_op (ev_slice rfl rfl rfl rfl hs180) rfl rfl rfl ?_
         have hL178b : Spec.Bytes L177 := by rw [hL178]; exact Spec.Bytes.take (Spec.Bytes.drop (Spec.encM_bytes _) _) _
         refine st_call rfl rfl rfl ent13 rfl rfl rfl ?_
         obtain ⟨_, H186, hs185, A188, c189, hs185v, hm190, hq191, hq192, hq193, hq194, hx187⟩ := msg_Decode_spec H103 A175 L177 c176 (My.row hr181) (My.capF hr181 (by first | omega | (simp only [List.length_append, List.length_cons, List.length_nil, List.length_map, List.length_set, List.length_replicate, Spec.bytesOf_length]; omega) | (simp; omega))) (by first | omega | (simp only [List.length_append, List.length_cons, List.length_nil, List.length_map, List.length_set, List.length_replicate, Spec.bytesOf_length]; omega) | (simp; omega)) (My.anil hr181) (by assumption)
         rw [hs185v] at hs185; clear hs185v
         generalize hR196 : (Spec.decM L177) = r195 at hs185 hm190 hq191 hq192 hq193 hq194
         obtain ⟨z197, z198, z199, z200, z201, z202, z203, z204, z205, z206, z207, z208, z209, z210⟩ := r195
         dsimp only at hs185 hm190 hq191 hq192 hq193 hq194
         refine ⟨_, H186, hs185, ?_⟩
         have H186n : H103.next ≤ H186.next := hx187.1
         refine st_op (ev_move rfl) rfl rfl rfl ?_
         iterate 2 refine st_op (ev_extract rfl rfl) rfl rfl rfl ?_
         refine st_op (ev_assign rfl) rfl rfl rfl ?_
         try show aw _ _ _ _ _ _
         refine aw_seq ?_
         refine aw_reg ?_
         refine st_op (ev_move rfl) rfl rfl rfl ?_
         refine st_op (ev_int rfl rfl rfl) rfl rfl rfl ?_
         try show aw _ _ _ _ _ _
         by_cases hc211 : (z210 != 1) = true
         ·
          refine aw_condT hc211 rfl ?_
          try show aw _ _ _ _ _ _
          have hc211 : ¬ (z210 = 1) := by simpa using hc211
          refine aw_seq ?_
          refine aw_reg ?_
          refine st_op (ev_assign rfl) rfl rfl rfl ?_
          try show aw _ _ _ _ _ _
          refine aw_ret ?_
          have hx212 : Ext H H186 := (Ext.trans (Ext.trans (Ext.then (Ext.trans (Ext.trans (Ext.trans (Ext.trans (Ext.then (Ext.then (Ext.trans hx12 hx15) hf32 (fun q hq e => by omega)) hxl35 (fun q hq e => by omega)) hx41) hx52) hx58) hx87) hf92 (fun q hq e => by omega)) hx104) hx187)
          have hres : true = false := by have q := Spec.back_cut (show Spec.mayM (⟨kind, from_, to_, term, index, logterm, commit, yes, z24, ⟨s_index, s_term, z25, dt⟩⟩ : Msg) = true from hc53) hL178 (by omega) hR196; exfalso; omega
          exact ⟨.bool false, rfl, by first | (rw [hres]; done) | rw [← hres], hx212⟩
         ·
          rw [Bool.not_eq_true] at hc211; refine aw_condF hc211 rfl ?_
          try show aw _ _ _ _ _ _
          have hc211 : (z210 = 1) := by simpa using hc211
          refine aw_skip ?_
          try show aw _ _ _ _ _ _
          refine aw_keep [2, 4, 12, 13] (l' := (.cons 2 (.int .i64 at_) (.cons 4 (.int .u8 x) (.cons 12 (.slice A42 ((Spec.encM (⟨kind, from_, to_, term, index, logterm, commit, yes, z24, ⟨s_index, s_term, z25, dt⟩⟩ : Msg)).length) c43) (.cons 13 (.pointer (some ⟨b82, 0, none⟩)) .nil))))) (by repeat (first | exact Up.done | refine Up.then ?_ | refine Up.inBlock ?_)) rfl ?_
          exact hJ109 (H186) (show Ext H103 H186 from hx187)
        ·
         rw [Bool.not_eq_true] at hc174; refine aw_condF hc174 rfl ?_
         try show aw _ _ _ _ _ _
         have hc174 := of_decide_eq_false hc174
         refine aw_skip ?_
         try show aw _ _ _ _ _ _
         refine aw_keep [2, 4, 12, 13] (l' := (.cons 2 (.int .i64 at_) (.cons 4 (.int .u8 x) (.cons 12 (.slice A42 ((Spec.encM (⟨kind, from_, to_, term, index, logterm, commit, yes, z24, ⟨s_index, s_term, z25, dt⟩⟩ : Msg)).length) c43) (.cons 13 (.pointer (some ⟨b82, 0, none⟩)) .nil))))) (by repeat (first | exact Up.done | refine Up.then ?_ | refine Up.inBlock ?_)) rfl ?_
         exact hJ109 (H103) (show Ext H103 H103 from (Ext.refl H103))
       ·
        have hb173 := of_decide_eq_false hb173
        iterate 4 refine st_skip rfl rfl rfl ?_
        refine st_op (ev_pickF rfl rfl) rfl rfl rfl ?_
        try show aw _ _ _ _ _ _
        refine aw_cond (t := false) rfl ?_
        try show aw _ _ _ _ _ _
        refine aw_skip ?_
        try show aw _ _ _ _ _ _
        refine aw_keep [2, 4, 12, 13] (l' := (.cons 2 (.int .i64 at_) (.cons 4 (.int .u8 x) (.cons 12 (.slice A42 ((Spec.encM (⟨kind, from_, to_, term, index, logterm, commit, yes, z24, ⟨s_index, s_term, z25, dt⟩⟩ : Msg)).length) c43) (.cons 13 (.pointer (some ⟨b82, 0, none⟩)) .nil))))) (by repeat (first | exact Up.done | refine Up.then ?_ | refine Up.inBlock ?_)) rfl ?_
        exact hJ109 (H103) (show Ext H103 H103 from (Ext.refl H103))
 ·
  skip
  refine aw_seq ?_
  refine aw_reg ?_
  refine st_op (ev_fieldAddr rfl fa26_0 (o' := 0) rfl) rfl rfl rfl ?_
  refine st_op (ev_load rfl (lvar_one one3 hB30 rfl)) rfl rfl rfl ?_
  refine st_op (ev_int rfl rfl rfl) rfl rfl rfl ?_
  refine st_op (ev_move rfl) rfl rfl rfl ?_
  refine st_bool 24 rfl (fun hb213 => ?_) (fun hb213 => ?_)
  ·
   have hb213 := eq_of_beq hb213
   refine st_op (ev_move rfl) rfl rfl rfl ?_
   refine st_op (ev_int rfl rfl rfl) rfl rfl rfl ?_
   refine st_op (ev_pickT rfl rfl) rfl rfl rfl ?_
   refine st_op (ev_move rfl) rfl rfl rfl ?_
   refine st_bool 28 rfl (fun hb214 => ?_) (fun hb214 => ?_)
   ·
    have hb214 := of_decide_eq_true hb214
    refine st_op (ev_move rfl) rfl rfl rfl ?_
    refine st_op (ev_int rfl rfl rfl) rfl rfl rfl ?_
    refine st_op (ev_pickT rfl rfl) rfl rfl rfl ?_
    try show aw _ _ _ _ _ _
    by_cases hc215 : (decide (size < 9000)) = true
    ·
     refine aw_condT hc215 rfl ?_
     try show aw _ _ _ _ _ _
     have hc215 := of_decide_eq_true hc215
     refine aw_reg ?_
     refine st_op (ev_move rfl) rfl rfl rfl ?_
     obtain ⟨A216, H217, he218, hm219, hx220⟩ := mem_make1 (k1 := .i64) (k2 := .i64) (n := size) (f := u8c) (e0 := (0 : Int)) H28 eok29 zero5 rfl (by omega) (by omega) (by omega)
     refine st_op (he218 _ _ _ _ _ _ _ _ _ rfl rfl) rfl rfl rfl ?_
     have H217n : H28.next ≤ H217.next := hx220.1
     refine st_op (ev_strOf (l := (List.replicate (size).toNat (0 : Int))) (A := A216) (c := (size).toNat) slu8_29 isstr_9 rfl (My.anil hm219) (My.row hm219)) rfl rfl rfl ?_
     refine st_op (ev_fieldAddr rfl fa26_9 (o' := 9) rfl) rfl rfl rfl ?_
     refine st_op (ev_fieldAddr rfl fa24_3 (o' := 12) rfl) rfl rfl rfl ?_
     have h221 := Ext.blk hx220 (by omega) hB30
     obtain ⟨H222, he223, H222n_, hB224, f225⟩ := mem_store (v := .string (strOfNums (List.replicate (size).toNat (0 : Int)))) (o := 12) (cs' := [.int .i64 kind, .int .i64 from_, .int .i64 to_, .int .i64 term, .int .i64 index, .int .i64 logterm, .int .i64 commit, .bool yes, .slice A16 z24.length c17, .int .i64 s_index, .int .i64 s_term, .string z25, .string (strOfNums (List.replicate (size).toNat (0 : Int)))]) 1 rfl rfl size9 h221 rfl rfl rfl
     refine st_op0 (he223 _ _ _ _ _ _ _ _ _ rfl rfl) rfl rfl ?_
     have hf226 : Fr (fun q => q = b1) H217 H222 := Fr.write H222n_ f225
     have H222n : H217.next ≤ H222.next := hf226.1
     try show aw _ _ _ _ _ _
     refine aw_keep [2, 3, 4, 5] (l' := (.cons 2 (.int .i64 at_) (.cons 3 (.int .i64 cut) (.cons 4 (.int .u8 x) (.cons 5 (.pointer (some ⟨b1, 0, none⟩)) .nil))))) (by repeat (first | exact Up.done | refine Up.then ?_ | refine Up.inBlock ?_)) rfl ?_
     exact hJ36 ((strOfNums (List.replicate (size).toNat (0 : Int))), H222) ⟨(show (strOfNums (List.replicate (size).toNat (0 : Int))).size ≤ 10000 from (by first | omega | (rw [strOfNums_size, List.length_replicate]; omega))), (show H222.blk b1 = some ⟨[.int .i64 kind, .int .i64 from_, .int .i64 to_, .int .i64 term, .int .i64 index, .int .i64 logterm, .int .i64 commit, .bool yes, .slice A16 z24.length c17, .int .i64 s_index, .int .i64 s_term, .string z25, .string (strOfNums (List.replicate (size).toNat (0 : Int)))], 0, false, false⟩ from hB224), (show Fr (fun q => q = b1) H28 H222 from (Fr.transG (Fr.trans (Fr.refl (fun q => q = b1) H28) (hx220.fr fun _ => False) (fun q hq (e : False) => e.elim)) hf226 (fun q hq hE e => (e))))⟩
    ·
     rw [Bool.not_eq_true] at hc215; refine aw_condF hc215 rfl ?_
     try show aw _ _ _ _ _ _
     have hc215 := of_decide_eq_false hc215
     refine aw_skip ?_
     try show aw _ _ _ _ _ _
     refine aw_keep [2, 3, 4, 5] (l' := (.cons 2 (.int .i64 at_) (.cons 3 (.int .i64 cut) (.cons 4 (.int .u8 x) (.cons 5 (.pointer (some ⟨b1, 0, none⟩)) .nil))))) (by repeat (first | exact Up.done | refine Up.then ?_ | refine Up.inBlock ?_)) rfl ?_
     exact hJ36 (z26, H28) ⟨(show z26.size ≤ 10000 from (by first | omega | (rw [strOfNums_size, List.length_replicate]; omega))), (show H28.blk b1 = some ⟨[.int .i64 kind, .int .i64 from_, .int .i64 to_, .int .i64 term, .int .i64 index, .int .i64 logterm, .int .i64 commit, .bool yes, .slice A16 z24.length c17, .int .i64 s_index, .int .i64 s_term, .string z25, .string z26], 0, false, false⟩ from hB30), (show Fr (fun q => q = b1) H28 H28 from (Fr.refl (fun q => q = b1) H28))⟩
   ·
    have hb214 := of_decide_eq_false hb214
    iterate 2 refine st_skip rfl rfl rfl ?_
    refine st_op (ev_pickF rfl rfl) rfl rfl rfl ?_
    try show aw _ _ _ _ _ _
    refine aw_cond (t := false) rfl ?_
    try show aw _ _ _ _ _ _
    refine aw_skip ?_
    try show aw _ _ _ _ _ _
    refine aw_keep [2, 3, 4, 5] (l' := (.cons 2 (.int .i64 at_) (.cons 3 (.int .i64 cut) (.cons 4 (.int .u8 x) (.cons 5 (.pointer (some ⟨b1, 0, none⟩)) .nil))))) (by repeat (first | exact Up.done | refine Up.then ?_ | refine Up.inBlock ?_)) rfl ?_
    exact hJ36 (z26, H28) ⟨(show z26.size ≤ 10000 from (by first | omega | (rw [strOfNums_size, List.length_replicate]; omega))), (show H28.blk b1 = some ⟨[.int .i64 kind, .int .i64 from_, .int .i64 to_, .int .i64 term, .int .i64 index, .int .i64 logterm, .int .i64 commit, .bool yes, .slice A16 z24.length c17, .int .i64 s_index, .int .i64 s_term, .string z25, .string z26], 0, false, false⟩ from hB30), (show Fr (fun q => q = b1) H28 H28 from (Fr.refl (fun q => q = b1) H28))⟩
  ·
   have hb213 := ne_of_beq_false hb213
   iterate 2 refine st_skip rfl rfl rfl ?_
   refine st_op (ev_pickF rfl rfl) rfl rfl rfl ?_
   refine st_op (ev_move rfl) rfl rfl rfl ?_
   iterate 2 refine st_skip rfl rfl rfl ?_
   refine st_op (ev_pickF rfl rfl) rfl rfl rfl ?_
   try show aw _ _ _ _ _ _
   refine aw_cond (t := false) rfl ?_
   try show aw _ _ _ _ _ _
   refine aw_skip ?_
   try show aw _ _ _ _ _ _
   refine aw_keep [2, 3, 4, 5] (l' := (.cons 2 (.int .i64 at_) (.cons 3 (.int .i64 cut) (.cons 4 (.int .u8 x) (.cons 5 (.pointer (some ⟨b1, 0, none⟩)) .nil))))) (by repeat (first | exact Up.done | refine Up.then ?_ | refine Up.inBlock ?_)) rfl ?_
   exact hJ36 (z26, H28) ⟨(show z26.size ≤ 10000 from (by first | omega | (rw [strOfNums_size, List.length_replicate]; omega))), (show H28.blk b1 = some ⟨[.int .i64 kind, .int .i64 from_, .int .i64 to_, .int .i64 term, .int .i64 index, .int .i64 logterm, .int .i64 commit, .bool yes, .slice A16 z24.length c17, .int .i64 s_index, .int .i64 s_term, .string z25, .string z26], 0, false, false⟩ from hB30), (show Fr (fun q => q = b1) H28 H28 from (Fr.refl (fun q => q = b1) H28))⟩

end Go.AM
