/- Part of a machine of its own for this claim: the program's code over memory without draws. -/
import Derived.Test.YtoolcbdceijjlaaGreatSAmXRaftB1
set_option linter.unusedVariables false
set_option linter.unusedSimpArgs false
set_option linter.unnecessarySimpa false
set_option linter.unusedVariables false
set_option linter.unusedSimpArgs false
set_option linter.unnecessarySimpa false
namespace Go.AM
open Go Go.Proofs
theorem ref21_May_spec (H : Heap) (kind : Int) (from_ : Int) (to_ : Int) (term : Int) (index : Int) (logterm : Int) (commit : Int) (yes : Bool) (esA : Option Addr) (es : List Entry) (esc : Nat) (hes : Row H esA esc 4 (es.map Entry.cells)) (ces : es.length ≤ esc) (les : es.length ≤ 1048576) (s_index : Int) (s_term : Int) (s_conf : ByteArray) (hs_conf : s_conf.size ≤ 1073741824) (s_data : ByteArray) (hs_data : s_data.size ≤ 1073741824) : ∃ v H', Spec Tryz.prog 12 [.agg #[.int .i64 kind, .int .i64 from_, .int .i64 to_, .int .i64 term, .int .i64 index, .int .i64 logterm, .int .i64 commit, .bool yes, .slice esA es.length esc, .int .i64 s_index, .int .i64 s_term, .string s_conf, .string s_data]] H v H' ∧ ((v = .bool (Spec.mayMsg kind from_ to_ term index logterm commit yes es s_index s_term s_conf s_data)) ∧ (Ext H H')) := by
 refine spec_go1 E0_ok 147 (f := 12) Tryz.func12 rfl rfl rfl ?_
 refine aw_seq ?_
 refine aw_reg ?_
 obtain ⟨b1, H2, he3, b1e, H2n_, hB5, f4⟩ := mem_box (P := Tryz.prog) H (v := .agg #[.int .i64 kind, .int .i64 from_, .int .i64 to_, .int .i64 term, .int .i64 index, .int .i64 logterm, .int .i64 commit, .bool yes, .slice esA es.length esc, .int .i64 s_index, .int .i64 s_term, .string s_conf, .string s_data]) (cs := [.int .i64 kind, .int .i64 from_, .int .i64 to_, .int .i64 term, .int .i64 index, .int .i64 logterm, .int .i64 commit, .bool yes, .slice esA es.length esc, .int .i64 s_index, .int .i64 s_term, .string s_conf, .string s_data]) rfl rfl
 refine st_op (he3 _ _ _ _ _ _ _ _ _ rfl) rfl rfl rfl ?_
 have hx6 : Ext H H2 := Ext.new (by omega) H2n_ f4
 have H2n : H.next ≤ H2.next := hx6.1
 refine st_op (ev_assign rfl) rfl rfl rfl ?_
 try show aw _ _ _ _ _ _
 iterate 2 refine aw_seq ?_
 refine aw_reg ?_
 refine st_op (ev_fieldAddr rfl fa26_0 (o' := 0) rfl) rfl rfl rfl ?_
 refine st_op (ev_load rfl (lvar_one one3 hB5 rfl)) rfl rfl rfl ?_
 refine st_op (ev_int rfl rfl rfl) rfl rfl rfl ?_
 refine st_op (ev_move rfl) rfl rfl rfl ?_
 refine st_bool 11 rfl (fun hb7 => ?_) (fun hb7 => ?_)
 ·
  have hb7 := of_decide_eq_true hb7
  iterate 3 refine st_skip rfl rfl rfl ?_
  refine st_op (ev_pickT rfl rfl) rfl rfl rfl ?_
  refine st_op (ev_move rfl) rfl rfl rfl ?_
  iterate 4 refine st_skip rfl rfl rfl ?_
  refine st_op (ev_pickT rfl rfl) rfl rfl rfl ?_
  refine st_op (ev_move rfl) rfl rfl rfl ?_
  iterate 4 refine st_skip rfl rfl rfl ?_
  refine st_op (ev_pickT rfl rfl) rfl rfl rfl ?_
  refine st_op (ev_move rfl) rfl rfl rfl ?_
  iterate 3 refine st_skip rfl rfl rfl ?_
  refine st_op (ev_pickT rfl rfl) rfl rfl rfl ?_
  refine st_op (ev_move rfl) rfl rfl rfl ?_
  iterate 3 refine st_skip rfl rfl rfl ?_
  refine st_op (ev_pickT rfl rfl) rfl rfl rfl ?_
  refine st_op (ev_move rfl) rfl rfl rfl ?_
  iterate 4 refine st_skip rfl rfl rfl ?_
  refine st_op (ev_pickT rfl rfl) rfl rfl rfl ?_
  refine st_op (ev_move rfl) rfl rfl rfl ?_
  iterate 4 refine st_skip rfl rfl rfl ?_
  refine st_op (ev_pickT rfl rfl) rfl rfl rfl ?_
  refine st_op (ev_move rfl) rfl rfl rfl ?_
  iterate 4 refine st_skip rfl rfl rfl ?_
  refine st_op (ev_pickT rfl rfl) rfl rfl rfl ?_
  refine st_op (ev_move rfl) rfl rfl rfl ?_
  iterate 4 refine st_skip rfl rfl rfl ?_
  refine st_op (ev_pickT rfl rfl) rfl rfl rfl ?_
  try show aw _ _ _ _ _ _
  refine aw_cond (t := true) rfl ?_
  try show aw _ _ _ _ _ _
  refine aw_seq ?_
  refine aw_reg ?_
  refine st_op (ev_assign rfl) rfl rfl rfl ?_
  try show aw _ _ _ _ _ _
  refine aw_ret ?_
  have hres : (Spec.mayMsg kind from_ to_ term index logterm commit yes es s_index s_term s_conf s_data) = false := by first | exact Spec.mayMsg_f1 (by omega) | exact Spec.mayMsg_f5 (by omega) | exact Spec.mayMsg_f4 (by omega) (by omega) | exact Spec.mayMsg_f3 (by assumption) (by omega) (by omega)
  exact ⟨.bool false, rfl, by first | (rw [hres]; done) | rw [← hres], hx6⟩
 ·
  have hb7 := of_decide_eq_false hb7
  refine st_op (ev_fieldAddr rfl fa26_0 (o' := 0) rfl) rfl rfl rfl ?_
  refine st_op (ev_load rfl (lvar_one one3 hB5 rfl)) rfl rfl rfl ?_
  refine st_op (ev_int rfl rfl rfl) rfl rfl rfl ?_
  refine st_op (ev_pickF rfl rfl) rfl rfl rfl ?_
  refine st_op (ev_move rfl) rfl rfl rfl ?_
  refine st_bool 16 rfl (fun hb8 => ?_) (fun hb8 => ?_)
  ·
   have hb8 := of_decide_eq_true hb8
   iterate 4 refine st_skip rfl rfl rfl ?_
   refine st_op (ev_pickT rfl rfl) rfl rfl rfl ?_
   refine st_op (ev_move rfl) rfl rfl rfl ?_
   iterate 4 refine st_skip rfl rfl rfl ?_
   refine st_op (ev_pickT rfl rfl) rfl rfl rfl ?_
   refine st_op (ev_move rfl) rfl rfl rfl ?_
   iterate 3 refine st_skip rfl rfl rfl ?_
   refine st_op (ev_pickT rfl rfl) rfl rfl rfl ?_
   refine st_op (ev_move rfl) rfl rfl rfl ?_
   iterate 3 refine st_skip rfl rfl rfl ?_
   refine st_op (ev_pickT rfl rfl) rfl rfl rfl ?_
   refine st_op (ev_move rfl) rfl rfl rfl ?_
   iterate 4 refine st_skip rfl rfl rfl ?_
   refine st_op (ev_pickT rfl rfl) rfl rfl rfl ?_
   refine st_op (ev_move rfl) rfl rfl rfl ?_
   iterate 4 refine st_skip rfl rfl rfl ?_
   refine st_op (ev_pickT rfl rfl) rfl rfl rfl ?_
   refine st_op (ev_move rfl) rfl rfl rfl ?_
   iterate 4 refine st_skip rfl rfl rfl ?_
   refine st_op (ev_pickT rfl rfl) rfl rfl rfl ?_
   refine st_op (ev_move rfl) rfl rfl rfl ?_
   iterate 4 refine st_skip rfl rfl rfl ?_
   refine st_op (ev_pickT rfl rfl) rfl rfl rfl ?_
   try show aw _ _ _ _ _ _
   refine aw_cond (t := true) rfl ?_
   try show aw _ _ _ _ _ _
   refine aw_seq ?_
   refine aw_reg ?_
   refine st_op (ev_assign rfl) rfl rfl rfl ?_
   try show aw _ _ _ _ _ _
   refine aw_ret ?_
   have hres : (Spec.mayMsg kind from_ to_ term index logterm commit yes es s_index s_term s_conf s_data) = false := by first | exact Spec.mayMsg_f1 (by omega) | exact Spec.mayMsg_f5 (by omega) | exact Spec.mayMsg_f4 (by omega) (by omega) | exact Spec.mayMsg_f3 (by assumption) (by omega) (by omega)
   exact ⟨.bool false, rfl, by first | (rw [hres]; done) | rw [← hres], hx6⟩
  ·
   have hb8 := of_decide_eq_false hb8
   refine st_op (ev_fieldAddr rfl fa26_1 (o' := 1) rfl) rfl rfl rfl ?_
   refine st_op (ev_load rfl (lvar_one one3 hB5 rfl)) rfl rfl rfl ?_
   refine st_call rfl rfl rfl ent34 rfl rfl rfl ?_
   obtain ⟨_, H10, hs9, hs9v, hx11⟩ := ref21_id_spec H2 from_
   rw [hs9v] at hs9; clear hs9v
   refine ⟨_, H10, hs9, ?_⟩
   have H10n : H2.next ≤ H10.next := hx11.1
   refine st_op (ev_not rfl) rfl rfl rfl ?_
   refine st_op (ev_pickF rfl rfl) rfl rfl rfl ?_
   refine st_op (ev_move rfl) rfl rfl rfl ?_
   refine st_bool 22 rfl (fun hb12 => ?_) (fun hb12 => ?_)
   ·
    replace hb12 : (decide (1 ≤ from_ ∧ from_ ≤ 7)) = false := by rw [Bool.not_eq_true'] at hb12; exact hb12
    have hb12 := of_decide_eq_false hb12
    iterate 4 refine st_skip rfl rfl rfl ?_
    refine st_op (ev_pickT rfl rfl) rfl rfl rfl ?_
    refine st_op (ev_move rfl) rfl rfl rfl ?_
    iterate 3 refine st_skip rfl rfl rfl ?_
    refine st_op (ev_pickT rfl rfl) rfl rfl rfl ?_
    refine st_op (ev_move rfl) rfl rfl rfl ?_
    iterate 3 refine st_skip rfl rfl rfl ?_
    refine st_op (ev_pickT rfl rfl) rfl rfl rfl ?_
    refine st_op (ev_move rfl) rfl rfl rfl ?_
    iterate 4 refine st_skip rfl rfl rfl ?_
    refine st_op (ev_pickT rfl rfl) rfl rfl rfl ?_
    refine st_op (ev_move rfl) rfl rfl rfl ?_
    iterate 4 refine st_skip rfl rfl rfl ?_
    refine st_op (ev_pickT rfl rfl) rfl rfl rfl ?_
    refine st_op (ev_move rfl) rfl rfl rfl ?_
    iterate 4 refine st_skip rfl rfl rfl ?_
    refine st_op (ev_pickT rfl rfl) rfl rfl rfl ?_
    refine st_op (ev_move rfl) rfl rfl rfl ?_
    iterate 4 refine st_skip rfl rfl rfl ?_
    refine st_op (ev_pickT rfl rfl) rfl rfl rfl ?_
    try show aw _ _ _ _ _ _
    refine aw_cond (t := true) rfl ?_
    try show aw _ _ _ _ _ _
    refine aw_seq ?_
    refine aw_reg ?_
    refine st_op (ev_assign rfl) rfl rfl rfl ?_
    try show aw _ _ _ _ _ _
    refine aw_ret ?_
    have hx13 : Ext H H10 := (Ext.trans hx6 hx11)
    have hres : (Spec.mayMsg kind from_ to_ term index logterm commit yes es s_index s_term s_conf s_data) = false := by first | exact Spec.mayMsg_f1 (by omega) | exact Spec.mayMsg_f5 (by omega) | exact Spec.mayMsg_f4 (by omega) (by omega) | exact Spec.mayMsg_f3 (by assumption) (by omega) (by omega)
    exact ⟨.bool false, rfl, by first | (rw [hres]; done) | rw [← hres], hx13⟩
   ·
    replace hb12 : (decide (1 ≤ from_ ∧ from_ ≤ 7)) = true := by rw [Bool.not_eq_false'] at hb12; exact hb12
    have hb12 := of_decide_eq_true hb12
    refine st_op (ev_fieldAddr rfl fa26_2 (o' := 2) rfl) rfl rfl rfl ?_
    have h14 := Ext.blk hx11 (by omega) hB5
    refine st_op (ev_load rfl (lvar_one one3 h14 rfl)) rfl rfl rfl ?_
    refine st_call rfl rfl rfl ent34 rfl rfl rfl ?_
    obtain ⟨_, H16, hs15, hs15v, hx17⟩ := ref21_id_spec H10 to_
    rw [hs15v] at hs15; clear hs15v
    refine ⟨_, H16, hs15, ?_⟩
    have H16n : H10.next ≤ H16.next := hx17.1
    refine st_op (ev_not rfl) rfl rfl rfl ?_
    refine st_op (ev_pickF rfl rfl) rfl rfl rfl ?_
    refine st_op (ev_move rfl) rfl rfl rfl ?_
    refine st_bool 28 rfl (fun hb18 => ?_) (fun hb18 => ?_)
    ·
     replace hb18 : (decide (1 ≤ to_ ∧ to_ ≤ 7)) = false := by rw [Bool.not_eq_true'] at hb18; exact hb18
     have hb18 := of_decide_eq_false hb18
     iterate 3 refine st_skip rfl rfl rfl ?_
     refine st_op (ev_pickT rfl rfl) rfl rfl rfl ?_
     refine st_op (ev_move rfl) rfl rfl rfl ?_
     iterate 3 refine st_skip rfl rfl rfl ?_
     refine st_op (ev_pickT rfl rfl) rfl rfl rfl ?_
     refine st_op (ev_move rfl) rfl rfl rfl ?_
     iterate 4 refine st_skip rfl rfl rfl ?_
     refine st_op (ev_pickT rfl rfl) rfl rfl rfl ?_
     refine st_op (ev_move rfl) rfl rfl rfl ?_
     iterate 4 refine st_skip rfl rfl rfl ?_
     refine st_op (ev_pickT rfl rfl) rfl rfl rfl ?_
     refine st_op (ev_move rfl) rfl rfl rfl ?_
     iterate 4 refine st_skip rfl rfl rfl ?_
     refine st_op (ev_pickT rfl rfl) rfl rfl rfl ?_
     refine st_op (ev_move rfl) rfl rfl rfl ?_
     iterate 4 refine st_skip rfl rfl rfl ?_
     refine st_op (ev_pickT rfl rfl) rfl rfl rfl ?_
     try show aw _ _ _ _ _ _
     refine aw_cond (t := true) rfl ?_
     try show aw _ _ _ _ _ _
     refine aw_seq ?_
     refine aw_reg ?_
     refine st_op (ev_assign rfl) rfl rfl rfl ?_
     try show aw _ _ _ _ _ _
     refine aw_ret ?_
     have hx19 : Ext H H16 := (Ext.trans (Ext.trans hx6 hx11) hx17)
     have hres : (Spec.mayMsg kind from_ to_ term index logterm commit yes es s_index s_term s_conf s_data) = false := by first | exact Spec.mayMsg_f1 (by omega) | exact Spec.mayMsg_f5 (by omega) | exact Spec.mayMsg_f4 (by omega) (by omega) | exact Spec.mayMsg_f3 (by assumption) (by omega) (by omega)
     exact ⟨.bool false, rfl, by first | (rw [hres]; done) | rw [← hres], hx19⟩
    ·
     replace hb18 : (decide (1 ≤ to_ ∧ to_ ≤ 7)) = true := by rw [Bool.not_eq_false'] at hb18; exact hb18
     have hb18 := of_decide_eq_true hb18
     refine st_op (ev_fieldAddr rfl fa26_3 (o' := 3) rfl) rfl rfl rfl ?_
     have h20 := Ext.blk hx17 (by omega) h14
     refine st_op (ev_load rfl (lvar_one one2 h20 rfl)) rfl rfl rfl ?_
     refine st_op (ev_int rfl rfl rfl) rfl rfl rfl ?_
     refine st_op (ev_pickF rfl rfl) rfl rfl rfl ?_
     refine st_op (ev_move rfl) rfl rfl rfl ?_
     refine st_bool 33 rfl (fun hb21 => ?_) (fun hb21 => ?_)
     ·
      have hb21 := of_decide_eq_true hb21
      iterate 3 refine st_skip rfl rfl rfl ?_
      refine st_op (ev_pickT rfl rfl) rfl rfl rfl ?_
      refine st_op (ev_move rfl) rfl rfl rfl ?_
      iterate 4 refine st_skip rfl rfl rfl ?_
      refine st_op (ev_pickT rfl rfl) rfl rfl rfl ?_
      refine st_op (ev_move rfl) rfl rfl rfl ?_
      iterate 4 refine st_skip rfl rfl rfl ?_
      refine st_op (ev_pickT rfl rfl) rfl rfl rfl ?_
      refine st_op (ev_move rfl) rfl rfl rfl ?_
      iterate 4 refine st_skip rfl rfl rfl ?_
      refine st_op (ev_pickT rfl rfl) rfl rfl rfl ?_
      refine st_op (ev_move rfl) rfl rfl rfl ?_
      iterate 4 refine st_skip rfl rfl rfl ?_
      refine st_op (ev_pickT rfl rfl) rfl rfl rfl ?_
      try show aw _ _ _ _ _ _
      refine aw_cond (t := true) rfl ?_
      try show aw _ _ _ _ _ _
      refine aw_seq ?_
      refine aw_reg ?_
      refine st_op (ev_assign rfl) rfl rfl rfl ?_
      try show aw _ _ _ _ _ _
      refine aw_ret ?_
      have hx22 : Ext H H16 := (Ext.trans (Ext.trans hx6 hx11) hx17)
      have hres : (Spec.mayMsg kind from_ to_ term index logterm commit yes es s_index s_term s_conf s_data) = false := by first | exact Spec.mayMsg_f1 (by omega) | exact Spec.mayMsg_f5 (by omega) | exact Spec.mayMsg_f4 (by omega) (by omega) | exact Spec.mayMsg_f3 (by assumption) (by omega) (by omega)
      exact ⟨.bool false, rfl, by first | (rw [hres]; done) | rw [← hres], hx22⟩
     ·
      have hb21 := of_decide_eq_false hb21
      refine st_op (ev_fieldAddr rfl fa26_3 (o' := 3) rfl) rfl rfl rfl ?_
      refine st_op (ev_load rfl (lvar_one one2 h20 rfl)) rfl rfl rfl ?_
      refine st_op (ev_int rfl rfl rfl) rfl rfl rfl ?_
      refine st_op (ev_pickF rfl rfl) rfl rfl rfl ?_
      refine st_op (ev_move rfl) rfl rfl rfl ?_
      refine st_bool 38 rfl (fun hb23 => ?_) (fun hb23 => ?_)
      ·
       have hb23 := of_decide_eq_true hb23
       iterate 4 refine st_skip rfl rfl rfl ?_
       refine st_op (ev_pickT rfl rfl) rfl rfl rfl ?_
       refine st_op (ev_move rfl) rfl rfl rfl ?_
       iterate 4 refine st_skip rfl rfl rfl ?_
       refine st_op (ev_pickT rfl rfl) rfl rfl rfl ?_
       refine st_op (ev_move rfl) rfl rfl rfl ?_
       iterate 4 refine st_skip rfl rfl rfl ?_
       refine st_op (ev_pickT rfl rfl) rfl rfl rfl ?_
       refine st_op (ev_move rfl) rfl rfl rfl ?_
       iterate 4 refine st_skip rfl rfl rfl ?_
       refine st_op (ev_pickT rfl rfl) rfl rfl rfl ?_
       try show aw _ _ _ _ _ _
       refine aw_cond (t := true) rfl ?_
       try show aw _ _ _ _ _ _
       refine aw_seq ?_
       refine aw_reg ?_
       refine st_op (ev_assign rfl) rfl rfl rfl ?_
       try show aw _ _ _ _ _ _
       refine aw_ret ?_
       have hx24 : Ext H H16 := (Ext.trans (Ext.trans hx6 hx11) hx17)
       have hres : (Spec.mayMsg kind from_ to_ term index logterm commit yes es s_index s_term s_conf s_data) = false := by first | exact Spec.mayMsg_f1 (by omega) | exact Spec.mayMsg_f5 (by omega) | exact Spec.mayMsg_f4 (by omega) (by omega) | exact Spec.mayMsg_f3 (by assumption) (by omega) (by omega)
       exact ⟨.bool false, rfl, by first | (rw [hres]; done) | rw [← hres], hx24⟩
      ·
       have hb23 := of_decide_eq_false hb23
       refine st_op (ev_fieldAddr rfl fa26_4 (o' := 4) rfl) rfl rfl rfl ?_
       refine st_op (ev_load rfl (lvar_one one2 h20 rfl)) rfl rfl rfl ?_
       refine st_call rfl rfl rfl ent35 rfl rfl rfl ?_
       obtain ⟨_, H26, hs25, hs25v, hx27⟩ := ref21_num_spec H16 index
       rw [hs25v] at hs25; clear hs25v
       refine ⟨_, H26, hs25, ?_⟩
       have H26n : H16.next ≤ H26.next := hx27.1
       refine st_op (ev_not rfl) rfl rfl rfl ?_
       refine st_op (ev_pickF rfl rfl) rfl rfl rfl ?_
       refine st_op (ev_move rfl) rfl rfl rfl ?_
       refine st_bool 44 rfl (fun hb28 => ?_) (fun hb28 => ?_)
       ·
        replace hb28 : (decide (0 ≤ index ∧ index ≤ 1099511627776)) = false := by rw [Bool.not_eq_true'] at hb28; exact hb28
        have hb28 := of_decide_eq_false hb28
        iterate 4 refine st_skip rfl rfl rfl ?_
        refine st_op (ev_pickT rfl rfl) rfl rfl rfl ?_
        refine st_op (ev_move rfl) rfl rfl rfl ?_
        iterate 4 refine st_skip rfl rfl rfl ?_
        refine st_op (ev_pickT rfl rfl) rfl rfl rfl ?_
        refine st_op (ev_move rfl) rfl rfl rfl ?_
        iterate 4 refine st_skip rfl rfl rfl ?_
        refine st_op (ev_pickT rfl rfl) rfl rfl rfl ?_
        try show aw _ _ _ _ _ _
        refine aw_cond (t := true) rfl ?_
        try show aw _ _ _ _ _ _
        refine aw_seq ?_
        refine aw_reg ?_
        refine st_op (ev_assign rfl) rfl rfl rfl ?_
        try show aw _ _ _ _ _ _
        refine aw_ret ?_
        have hx29 : Ext H H26 := (Ext.trans (Ext.trans (Ext.trans hx6 hx11) hx17) hx27)
        have hres : (Spec.mayMsg kind from_ to_ term index logterm commit yes es s_index s_term s_conf s_data) = false := by first | exact Spec.mayMsg_f1 (by omega) | exact Spec.mayMsg_f5 (by omega) | exact Spec.mayMsg_f4 (by omega) (by omega) | exact Spec.mayMsg_f3 (by assumption) (by omega) (by omega)
        exact ⟨.bool false, rfl, by first | (rw [hres]; done) | rw [← hres], hx29⟩
       ·
        replace hb28 : (decide (0 ≤ index ∧ index ≤ 1099511627776)) = true := by rw [Bool.not_eq_false'] at hb28; exact hb28
        have hb28 := of_decide_eq_true hb28
        refine st_op (ev_fieldAddr rfl fa26_5 (o' := 5) rfl) rfl rfl rfl ?_
        have h30 := Ext.blk hx27 (by omega) h20
        refine st_op (ev_load rfl (lvar_one one2 h30 rfl)) rfl rfl rfl ?_
        refine st_call rfl rfl rfl ent35 rfl rfl rfl ?_
        obtain ⟨_, H32, hs31, hs31v, hx33⟩ := ref21_num_spec H26 logterm
        rw [hs31v] at hs31; clear hs31v
        refine ⟨_, H32, hs31, ?_⟩
        have H32n : H26.next ≤ H32.next := hx33.1
        refine st_op (ev_not rfl) rfl rfl rfl ?_
        refine st_op (ev_pickF rfl rfl) rfl rfl rfl ?_
        refine st_op (ev_move rfl) rfl rfl rfl ?_
        refine st_bool 50 rfl (fun hb34 => ?_) (fun hb34 => ?_)
        ·
         replace hb34 : (decide (0 ≤ logterm ∧ logterm ≤ 1099511627776)) = false := by rw [Bool.not_eq_true'] at hb34; exact hb34
         have hb34 := of_decide_eq_false hb34
         iterate 4 refine st_skip rfl rfl rfl ?_
         refine st_op (ev_pickT rfl rfl) rfl rfl rfl ?_
         refine st_op (ev_move rfl) rfl rfl rfl ?_
         iterate 4 refine st_skip rfl rfl rfl ?_
         refine st_op (ev_pickT rfl rfl) rfl rfl rfl ?_
         try show aw _ _ _ _ _ _
         refine aw_cond (t := true) rfl ?_
         try show aw _ _ _ _ _ _
         refine aw_seq ?_
         refine aw_reg ?_
         refine st_op (ev_assign rfl) rfl rfl rfl ?_
         try show aw _ _ _ _ _ _
         refine aw_ret ?_
         have hx35 : Ext H H32 := (Ext.trans (Ext.trans (Ext.trans (Ext.trans hx6 hx11) hx17) hx27) hx33)
         have hres : (Spec.mayMsg kind from_ to_ term index logterm commit yes es s_index s_term s_conf s_data) = false := by first | exact Spec.mayMsg_f1 (by omega) | exact Spec.mayMsg_f5 (by omega) | exact Spec.mayMsg_f4 (by omega) (by omega) | exact Spec.mayMsg_f3 (by assumption) (by omega) (by omega)
         exact ⟨.bool false, rfl, by first | (rw [hres]; done) | rw [← hres], hx35⟩
        ·
         replace hb34 : (decide (0 ≤ logterm ∧ logterm ≤ 1099511627776)) = true := by rw [Bool.not_eq_false'] at hb34; exact hb34
         have hb34 := of_decide_eq_true hb34
         refine st_op (ev_fieldAddr rfl fa26_6 (o' := 6) rfl) rfl rfl rfl ?_
         have h36 := Ext.blk hx33 (by omega) h30
         refine st_op (ev_load rfl (lvar_one one2 h36 rfl)) rfl rfl rfl ?_
         refine st_call rfl rfl rfl ent35 rfl rfl rfl ?_
         obtain ⟨_, H38, hs37, hs37v, hx39⟩ := ref21_num_spec H32 commit
         rw [hs37v] at hs37; clear hs37v
         refine ⟨_, H38, hs37, ?_⟩
         have H38n : H32.next ≤ H38.next := hx39.1
         refine st_op (ev_not rfl) rfl rfl rfl ?_
         refine st_op (ev_pickF rfl rfl) rfl rfl rfl ?_
         refine st_op (ev_move rfl) rfl rfl rfl ?_
         refine st_bool 56 rfl (fun hb40 => ?_) (fun hb40 => ?_)
         ·
          replace hb40 : (decide (0 ≤ commit ∧ commit ≤ 1099511627776)) = false := by rw [Bool.not_eq_true'] at hb40; exact hb40
          have hb40 := of_decide_eq_false hb40
          iterate 4 refine st_skip rfl rfl rfl ?_
          refine st_op (ev_pickT rfl rfl) rfl rfl rfl ?_
          try show aw _ _ _ _ _ _
          refine aw_cond (t := true) rfl ?_
          try show aw _ _ _ _ _ _
          refine aw_seq ?_
          refine aw_reg ?_
          refine st_op (ev_assign rfl) rfl rfl rfl ?_
          try show aw _ _ _ _ _ _
          refine aw_ret ?_
          have hx41 : Ext H H38 := (Ext.trans (Ext.trans (Ext.trans (Ext.trans (Ext.trans hx6 hx11) hx17) hx27) hx33) hx39)
          have hres : (Spec.mayMsg kind from_ to_ term index logterm commit yes es s_index s_term s_conf s_data) = false := by first | exact Spec.mayMsg_f1 (by omega) | exact Spec.mayMsg_f5 (by omega) | exact Spec.mayMsg_f4 (by omega) (by omega) | exact Spec.mayMsg_f3 (by assumption) (by omega) (by omega)
          exact ⟨.bool false, rfl, by first | (rw [hres]; done) | rw [← hres], hx41⟩
         ·
          replace hb40 : (decide (0 ≤ commit ∧ commit ≤ 1099511627776)) = true := by rw [Bool.not_eq_false'] at hb40; exact hb40
          have hb40 := of_decide_eq_true hb40
          refine st_op (ev_fieldAddr rfl fa26_8 (o' := 8) rfl) rfl rfl rfl ?_
          have h42 := Ext.blk hx39 (by omega) h36
          refine st_op (ev_load rfl (lvar_one one22 h42 rfl)) rfl rfl rfl ?_
          refine st_op (ev_lenSl rfl Tryz.underlying22) rfl rfl rfl ?_
          refine st_op (ev_int rfl rfl rfl) rfl rfl rfl ?_
          refine st_op (ev_pickF rfl rfl) rfl rfl rfl ?_
          try show aw _ _ _ _ _ _
          by_cases hc43 : (decide ((es.length : Int) > 8)) = true
          ·
           refine aw_condT hc43 rfl ?_
           try show aw _ _ _ _ _ _
           have hc43 := of_decide_eq_true hc43
           refine aw_seq ?_
           refine aw_reg ?_
           refine st_op (ev_assign rfl) rfl rfl rfl ?_
           try show aw _ _ _ _ _ _
           refine aw_ret ?_
           have hx44 : Ext H H38 := (Ext.trans (Ext.trans (Ext.trans (Ext.trans (Ext.trans hx6 hx11) hx17) hx27) hx33) hx39)
           have hres : (Spec.mayMsg kind from_ to_ term index logterm commit yes es s_index s_term s_conf s_data) = false := by first | exact Spec.mayMsg_f1 (by omega) | exact Spec.mayMsg_f5 (by omega) | exact Spec.mayMsg_f4 (by omega) (by omega) | exact Spec.mayMsg_f3 (by assumption) (by omega) (by omega)
           exact ⟨.bool false, rfl, by first | (rw [hres]; done) | rw [← hres], hx44⟩
          ·
           rw [Bool.not_eq_true] at hc43; refine aw_condF hc43 rfl ?_
           try show aw _ _ _ _ _ _
           have hc43 := of_decide_eq_false hc43
           refine aw_skip ?_
           try show aw _ _ _ _ _ _
           iterate 2 refine aw_seq ?_
           refine aw_reg ?_
           refine st_op (ev_fieldAddr rfl fa26_8 (o' := 8) rfl) rfl rfl rfl ?_
           refine st_op (ev_load rfl (lvar_one one22 h42 rfl)) rfl rfl rfl ?_
           refine st_op (ev_lenSl rfl Tryz.underlying22) rfl rfl rfl ?_
           refine st_op (ev_int rfl rfl rfl) rfl rfl rfl ?_
           refine st_op (ev_move rfl) rfl rfl rfl ?_
           refine st_bool 66 rfl (fun hb45 => ?_) (fun hb45 => ?_)
           ·
            have hb45 := of_decide_eq_true hb45
            refine st_op (ev_fieldAddr rfl fa26_0 (o' := 0) rfl) rfl rfl rfl ?_
            refine st_op (ev_load rfl (lvar_one one3 h42 rfl)) rfl rfl rfl ?_
            refine st_op (ev_int rfl rfl rfl) rfl rfl rfl ?_
            refine st_op (ev_pickT rfl rfl) rfl rfl rfl ?_
            refine st_op (ev_move rfl) rfl rfl rfl ?_
            refine st_bool 71 rfl (fun hb46 => ?_) (fun hb46 => ?_)
            ·
             have hb46 : ¬ (kind = 3) := by simpa using hb46
             iterate 12 refine st_skip rfl rfl rfl ?_
             refine st_op (ev_pickT rfl rfl) rfl rfl rfl ?_
             try show aw _ _ _ _ _ _
             refine aw_cond (t := true) rfl ?_
             try show aw _ _ _ _ _ _
             refine aw_seq ?_
             refine aw_reg ?_
             refine st_op (ev_assign rfl) rfl rfl rfl ?_
             try show aw _ _ _ _ _ _
             refine aw_ret ?_
             have hx47 : Ext H H38 := (Ext.trans (Ext.trans (Ext.trans (Ext.trans (Ext.trans hx6 hx11) hx17) hx27) hx33) hx39)
             have hres : (Spec.mayMsg kind from_ to_ term index logterm commit yes es s_index s_term s_conf s_data) = false := by first | exact Spec.mayMsg_f1 (by omega) | exact Spec.mayMsg_f5 (by omega) | exact Spec.mayMsg_f4 (by omega) (by omega) | exact Spec.mayMsg_f3 (by assumption) (by omega) (by omega)
             exact ⟨.bool false, rfl, by first | (rw [hres]; done) | rw [← hres], hx47⟩
            ·
             have hb46 : (kind = 3) := by simpa using hb46
             refine st_op (ev_fieldAddr rfl fa26_7 (o' := 7) rfl) rfl rfl rfl ?_
             refine st_op (ev_load rfl (lvar_one one4 h42 rfl)) rfl rfl rfl ?_
             refine st_op (ev_move rfl) rfl rfl rfl ?_
             refine st_bool 74 rfl (fun hb48 => ?_) (fun hb48 => ?_)
             ·
              refine st_op (ev_fieldAddr rfl fa26_0 (o' := 0) rfl) rfl rfl rfl ?_
              refine st_op (ev_load rfl (lvar_one one3 h42 rfl)) rfl rfl rfl ?_
              refine st_op (ev_int rfl rfl rfl) rfl rfl rfl ?_
              refine st_op (ev_pickT rfl rfl) rfl rfl rfl ?_
              refine st_op (ev_move rfl) rfl rfl rfl ?_
              refine st_bool 79 rfl (fun hb49 => ?_) (fun hb49 => ?_)
              ·
               have hb49 : ¬ (kind = 2) := by simpa using hb49
               refine st_op (ev_fieldAddr rfl fa26_0 (o' := 0) rfl) rfl rfl rfl ?_
               refine st_op (ev_load rfl (lvar_one one3 h42 rfl)) rfl rfl rfl ?_
               refine st_op (ev_int rfl rfl rfl) rfl rfl rfl ?_
               refine st_op (ev_pickT rfl rfl) rfl rfl rfl ?_
               refine st_op (ev_pickF rfl rfl) rfl rfl rfl ?_
               try show aw _ _ _ _ _ _
               by_cases hc50 : (kind != 4) = true
               ·
                refine aw_condT hc50 rfl ?_
                try show aw _ _ _ _ _ _
                have hc50 : ¬ (kind = 4) := by simpa using hc50
                refine aw_seq ?_
                refine aw_reg ?_
                refine st_op (ev_assign rfl) rfl rfl rfl ?_
                try show aw _ _ _ _ _ _
                refine aw_ret ?_
                have hx51 : Ext H H38 := (Ext.trans (Ext.trans (Ext.trans (Ext.trans (Ext.trans hx6 hx11) hx17) hx27) hx33) hx39)
                have hres : (Spec.mayMsg kind from_ to_ term index logterm commit yes es s_index s_term s_conf s_data) = false := by first | exact Spec.mayMsg_f1 (by omega) | exact Spec.mayMsg_f5 (by omega) | exact Spec.mayMsg_f4 (by omega) (by omega) | exact Spec.mayMsg_f3 (by assumption) (by omega) (by omega)
                exact ⟨.bool false, rfl, by first | (rw [hres]; done) | rw [← hres], hx51⟩
               ·
                rw [Bool.not_eq_true] at hc50; refine aw_condF hc50 rfl ?_
                try show aw _ _ _ _ _ _
                have hc50 : (kind = 4) := by simpa using hc50
                exfalso; omega
              ·
               have hb49 : (kind = 2) := by simpa using hb49
               exfalso; omega
             ·
              iterate 3 refine st_skip rfl rfl rfl ?_
              refine st_op (ev_pickF rfl rfl) rfl rfl rfl ?_
              refine st_op (ev_move rfl) rfl rfl rfl ?_
              iterate 3 refine st_skip rfl rfl rfl ?_
              iterate 2 refine st_op (ev_pickF rfl rfl) rfl rfl rfl ?_
              try show aw _ _ _ _ _ _
              refine aw_cond (t := false) rfl ?_
              try show aw _ _ _ _ _ _
              refine aw_skip ?_
              try show aw _ _ _ _ _ _
              refine aw_seq ?_
              refine aw_reg ?_
              refine st_op (ev_fieldAddr rfl fa26_5 (o' := 5) rfl) rfl rfl rfl ?_
              refine st_op (ev_load rfl (lvar_one one2 h42 rfl)) rfl rfl rfl ?_
              refine st_op (ev_assign rfl) rfl rfl rfl ?_
              try show aw _ _ _ _ _ _
              iterate 2 refine aw_seq ?_
              refine aw_reg ?_
              refine st_op (ev_assign rfl) rfl rfl rfl ?_
              try show aw _ _ _ _ _ _
              refine aw_block ?_
              refine aw_keep [1, 3, 4] (l' := (.cons 1 (.pointer (some ⟨b1, 0, none⟩)) (.cons 3 (.int .i64 logterm) (.cons 4 (.int .i64 0) .nil)))) (by repeat (first | exact Up.done | refine Up.then ?_ | refine Up.inBlock ?_)) rfl ?_
              refine aw_iter (α := Nat × Int × Heap) (fun a => es.length - a.1) (fun a => (.cons 1 (.pointer (some ⟨b1, 0, none⟩)) (.cons 3 (.int .i64 a.2.1) (.cons 4 (.int .i64 (a.1 : Int)) .nil)))) (fun a => a.2.2) (fun a => (a.1 ≤ es.length) ∧ (Spec.entR term index logterm es = Spec.entR term (index + (a.1 : Int)) a.2.1 (es.drop a.1)) ∧ (Ext H38 a.2.2)) (0, logterm, H38) ⟨(show 0 ≤ es.length from Nat.zero_le _), (show Spec.entR term index logterm es = Spec.entR term (index + (0 : Int)) logterm (es.drop 0) from (by simp)), (show Ext H38 H38 from (Ext.refl H38))⟩ ?_
              rintro ⟨i, tm, Hl52⟩ ⟨hi, hv, hxl53⟩ ih54
              replace hi : i ≤ es.length := hi
              replace hv : Spec.entR term index logterm es = Spec.entR term (index + (i : Int)) tm (es.drop i) := hv
              replace hxl53 : Ext H38 Hl52 := hxl53
              show aw _ _ _ (RL _ (.cons 1 (.pointer (some ⟨b1, 0, none⟩)) (.cons 3 (.int .i64 tm) (.cons 4 (.int .i64 (i : Int)) .nil)))) Hl52 _
              have Hl52n : H38.next ≤ Hl52.next := hxl53.1
              iterate 2 refine aw_seq ?_
              refine aw_reg ?_
              refine st_op (ev_move rfl) rfl rfl rfl ?_
              refine st_op (ev_fieldAddr rfl fa26_8 (o' := 8) rfl) rfl rfl rfl ?_
              have h55 := Ext.blk hxl53 (by omega) h42
              refine st_op (ev_load rfl (lvar_one one22 h55 rfl)) rfl rfl rfl ?_
              refine st_op (ev_lenSl rfl Tryz.underlying22) rfl rfl rfl ?_
              refine st_op (ev_int rfl rfl rfl) rfl rfl rfl ?_
              try show aw _ _ _ _ _ _
              by_cases hc56 : (decide ((i : Int) < (es.length : Int))) = true
              ·
               refine aw_condT hc56 rfl ?_
               try show aw _ _ _ _ _ _
               have hc56 := of_decide_eq_true hc56
               refine aw_skip ?_
               try show aw _ _ _ _ _ _
               refine aw_seq ?_
               refine aw_block ?_
               refine aw_seq ?_
               refine aw_reg ?_
               refine st_op (ev_fieldAddr rfl fa26_8 (o' := 8) rfl) rfl rfl rfl ?_
               refine st_op (ev_load rfl (lvar_one one22 h55 rfl)) rfl rfl rfl ?_
               refine st_op (ev_move rfl) rfl rfl rfl ?_
               have hx58 : Ext H Hl52 := (Ext.trans (Ext.trans (Ext.trans (Ext.trans (Ext.trans (Ext.trans hx6 hx11) hx17) hx27) hx33) hx39) hxl53)
               have h57 := Row.ext hes hx58
               have hi59 : 0 ≤ ((i : Int) : Int) := by omega
               have hi60 : ((i : Int) : Int) < ((es.length : Nat) : Int) := by omega
               obtain ⟨x61, hx62⟩ : ∃ e, es[i]? = some e := ⟨_, List.getElem?_eq_getElem (by omega)⟩
               refine st_op (ev_at rfl rfl h57 (getMap Entry.cells hx62) (by first | rfl | omega | simp) hi59 hi60 el22) rfl rfl rfl ?_
               refine st_op (ev_atN (cs := [.int .i64 x61.index, .int .i64 x61.term, .int .i64 x61.kind, .string x61.data]) rfl h57 (getMap Entry.cells hx62) many31 rfl rfl (by decide)) rfl rfl rfl ?_
               obtain ⟨b63, H64, he65, b63e, H64n_, hB67, f66⟩ := mem_alloc Hl52 zero31
               refine st_op (he65 _ _ _ _ _ _ _) rfl rfl rfl ?_
               have hx68 : Ext Hl52 H64 := Ext.new (by omega) H64n_ f66
               have H64n : Hl52.next ≤ H64.next := hx68.1
               obtain ⟨H69, he70, H69n_, hB71, f72⟩ := mem_store (v := .agg #[.int .i64 x61.index, .int .i64 x61.term, .int .i64 x61.kind, .string x61.data]) (o := 0) (cs' := [.int .i64 x61.index, .int .i64 x61.term, .int .i64 x61.kind, .string x61.data]) 4 rfl rfl size31 hB67 rfl rfl rfl
               refine st_op0 (he70 _ _ _ _ _ _ _ _ _ rfl rfl) rfl rfl ?_
               have hf73 : Fr (fun q => q = b63) H64 H69 := Fr.write H69n_ f72
               have H69n : H64.next ≤ H69.next := hf73.1
               try show aw _ _ _ _ _ _
               iterate 2 refine aw_seq ?_
               refine aw_reg ?_
               refine st_op (ev_fieldAddr rfl fa31_0 (o' := 0) rfl) rfl rfl rfl ?_
               refine st_op (ev_load rfl (lvar_one one2 hB71 rfl)) rfl rfl rfl ?_
               refine st_op (ev_fieldAddr rfl fa26_4 (o' := 4) rfl) rfl rfl rfl ?_
               have hx75 : Ext Hl52 H69 := (Ext.then hx68 hf73 (fun q hq e => by omega))
               have h74 := Ext.blk hx75 (by omega) h55
               refine st_op (ev_load rfl (lvar_one one2 h74 rfl)) rfl rfl rfl ?_
               refine st_op (ev_int64 (c := index + 1) rfl rfl rfl (by omega) (by omega)) rfl rfl rfl ?_
               refine st_op (ev_move rfl) rfl rfl rfl ?_
               refine st_op (ev_int64 (c := (index + 1) + (i : Int)) rfl rfl rfl (by omega) (by omega)) rfl rfl rfl ?_
               refine st_op (ev_int rfl rfl rfl) rfl rfl rfl ?_
               refine st_op (ev_move rfl) rfl rfl rfl ?_
               refine st_bool 107 rfl (fun hb76 => ?_) (fun hb76 => ?_)
               ·
                have hb76 : ¬ (x61.index = (index + 1) + (i : Int)) := by simpa using hb76
                iterate 4 refine st_skip rfl rfl rfl ?_
                refine st_op (ev_pickT rfl rfl) rfl rfl rfl ?_
                refine st_op (ev_move rfl) rfl rfl rfl ?_
                iterate 5 refine st_skip rfl rfl rfl ?_
                refine st_op (ev_pickT rfl rfl) rfl rfl rfl ?_
                refine st_op (ev_move rfl) rfl rfl rfl ?_
                iterate 3 refine st_skip rfl rfl rfl ?_
                refine st_op (ev_pickT rfl rfl) rfl rfl rfl ?_
                try show aw _ _ _ _ _ _
                refine aw_cond (t := true) rfl ?_
                try show aw _ _ _ _ _ _
                refine aw_seq ?_
                refine aw_reg ?_
                refine st_op (ev_assign rfl) rfl rfl rfl ?_
                try show aw _ _ _ _ _ _
                refine aw_ret ?_
                have hx77 : Ext H H69 := (Ext.then (Ext.trans hx58 hx68) hf73 (fun q hq e => by omega))
                have hres : (Spec.mayMsg kind from_ to_ term index logterm commit yes es s_index s_term s_conf s_data) = false := by exact Spec.mayMsg_f6 (by rw [hv, drop_at hx62, Spec.entR, if_pos (by first | exact .inl (by omega) | exact .inr (.inl (by omega)) | exact .inr (.inr (.inl (by omega))) | exact .inr (.inr (.inr (by assumption))))])
                exact ⟨.bool false, rfl, by first | (rw [hres]; done) | rw [← hres], hx77⟩
               ·
                have hb76 : (x61.index = (index + 1) + (i : Int)) := by simpa using hb76
                refine st_op (ev_fieldAddr rfl fa31_1 (o' := 1) rfl) rfl rfl rfl ?_
                refine st_op (ev_load rfl (lvar_one one2 hB71 rfl)) rfl rfl rfl ?_
                refine st_op (ev_move rfl) rfl rfl rfl ?_
                refine st_op (ev_int rfl rfl rfl) rfl rfl rfl ?_
                refine st_op (ev_pickF rfl rfl) rfl rfl rfl ?_
                refine st_op (ev_move rfl) rfl rfl rfl ?_
                refine st_bool 113 rfl (fun hb78 => ?_) (fun hb78 => ?_)
                ·
                 have hb78 := of_decide_eq_true hb78
                 iterate 5 refine st_skip rfl rfl rfl ?_
                 refine st_op (ev_pickT rfl rfl) rfl rfl rfl ?_
                 refine st_op (ev_move rfl) rfl rfl rfl ?_
                 iterate 3 refine st_skip rfl rfl rfl ?_
                 refine st_op (ev_pickT rfl rfl) rfl rfl rfl ?_
                 try show aw _ _ _ _ _ _
                 refine aw_cond (t := true) rfl ?_
                 try show aw _ _ _ _ _ _
                 refine aw_seq ?_
                 refine aw_reg ?_
                 refine st_op (ev_assign rfl) rfl rfl rfl ?_
                 try show aw _ _ _ _ _ _
                 refine aw_ret ?_
                 have hx79 : Ext H H69 := (Ext.then (Ext.trans hx58 hx68) hf73 (fun q hq e => by omega))
                 have hres : (Spec.mayMsg kind from_ to_ term index logterm commit yes es s_index s_term s_conf s_data) = false := by exact Spec.mayMsg_f6 (by rw [hv, drop_at hx62, Spec.entR, if_pos (by first | exact .inl (by omega) | exact .inr (.inl (by omega)) | exact .inr (.inr (.inl (by omega))) | exact .inr (.inr (.inr (by assumption))))])
                 exact ⟨.bool false, rfl, by first | (rw [hres]; done) | rw [← hres], hx79⟩
                ·
                 have hb78 := of_decide_eq_false hb78
                 refine st_op (ev_fieldAddr rfl fa31_1 (o' := 1) rfl) rfl rfl rfl ?_
                 refine st_op (ev_load rfl (lvar_one one2 hB71 rfl)) rfl rfl rfl ?_
                 refine st_op (ev_fieldAddr rfl fa26_3 (o' := 3) rfl) rfl rfl rfl ?_
                 refine st_op (ev_load rfl (lvar_one one2 h74 rfl)) rfl rfl rfl ?_
                 refine st_op (ev_int rfl rfl rfl) rfl rfl rfl ?_
                 refine st_op (ev_pickF rfl rfl) rfl rfl rfl ?_
                 refine st_op (ev_move rfl) rfl rfl rfl ?_
                 refine st_bool 120 rfl (fun hb80 => ?_) (fun hb80 => ?_)
                 ·
                  have hb80 := of_decide_eq_true hb80
                  iterate 3 refine st_skip rfl rfl rfl ?_
                  refine st_op (ev_pickT rfl rfl) rfl rfl rfl ?_
                  try show aw _ _ _ _ _ _
                  refine aw_cond (t := true) rfl ?_
                  try show aw _ _ _ _ _ _
                  refine aw_seq ?_
                  refine aw_reg ?_
                  refine st_op (ev_assign rfl) rfl rfl rfl ?_
                  try show aw _ _ _ _ _ _
                  refine aw_ret ?_
                  have hx81 : Ext H H69 := (Ext.then (Ext.trans hx58 hx68) hf73 (fun q hq e => by omega))
                  have hres : (Spec.mayMsg kind from_ to_ term index logterm commit yes es s_index s_term s_conf s_data) = false := by exact Spec.mayMsg_f6 (by rw [hv, drop_at hx62, Spec.entR, if_pos (by first | exact .inl (by omega) | exact .inr (.inl (by omega)) | exact .inr (.inr (.inl (by omega))) | exact .inr (.inr (.inr (by assumption))))])
                  exact ⟨.bool false, rfl, by first | (rw [hres]; done) | rw [← hres], hx81⟩
                 ·
                  have hb80 := of_decide_eq_false hb80
                  refine st_op (ev_load rfl (lvar_part (l := [.int .i64 x61.index, .int .i64 x61.term, .int .i64 x61.kind, .string x61.data]) many31 hB71 rfl rfl (by decide))) rfl rfl rfl ?_
                  refine st_call rfl rfl rfl ent36 rfl rfl rfl ?_
                  obtain ⟨_, H83, hs82, hs82v, hx84⟩ := ref17_MayEntry_spec H69 x61.index x61.term x61.kind x61.data
                  rw [hs82v] at hs82; clear hs82v
                  refine ⟨_, H83, hs82, ?_⟩
                  have H83n : H69.next ≤ H83.next := hx84.1
                  refine st_op (ev_not rfl) rfl rfl rfl ?_
                  refine st_op (ev_pickF rfl rfl) rfl rfl rfl ?_
                  try show aw _ _ _ _ _ _
                  by_cases hc85 : (!(Spec.mayF false 0 0 x61.index x61.term x61.kind x61.data)) = true
                  ·
                   refine aw_condT hc85 rfl ?_
                   try show aw _ _ _ _ _ _
                   replace hc85 : (Spec.mayF false 0 0 x61.index x61.term x61.kind x61.data) = false := by rw [Bool.not_eq_true'] at hc85; exact hc85
                   refine aw_seq ?_
                   refine aw_reg ?_
                   refine st_op (ev_assign rfl) rfl rfl rfl ?_
                   try show aw _ _ _ _ _ _
                   refine aw_ret ?_
                   have hx86 : Ext H H83 := (Ext.trans (Ext.then (Ext.trans hx58 hx68) hf73 (fun q hq e => by omega)) hx84)
                   have hres : (Spec.mayMsg kind from_ to_ term index logterm commit yes es s_index s_term s_conf s_data) = false := by exact Spec.mayMsg_f6 (by rw [hv, drop_at hx62, Spec.entR, if_pos (by first | exact .inl (by omega) | exact .inr (.inl (by omega)) | exact .inr (.inr (.inl (by omega))) | exact .inr (.inr (.inr (by assumption))))])
                   exact ⟨.bool false, rfl, by first | (rw [hres]; done) | rw [← hres], hx86⟩
                  ·
                   rw [Bool.not_eq_true] at hc85; refine aw_condF hc85 rfl ?_
                   try show aw _ _ _ _ _ _
                   replace hc85 : (Spec.mayF false 0 0 x61.index x61.term x61.kind x61.data) = true := by rw [Bool.not_eq_false'] at hc85; exact hc85
                   have hc85m := Spec.may_says hc85
                   refine aw_skip ?_
                   try show aw _ _ _ _ _ _
                   refine aw_reg ?_
                   refine st_op (ev_fieldAddr rfl fa31_1 (o' := 1) rfl) rfl rfl rfl ?_
                   have h87 := Ext.blk hx84 (by omega) hB71
                   refine st_op (ev_load rfl (lvar_one one2 h87 rfl)) rfl rfl rfl ?_
                   refine st_op (ev_assign rfl) rfl rfl rfl ?_
                   try show aw _ _ _ _ _ _
                   refine aw_reg ?_
                   refine st_op (ev_move rfl) rfl rfl rfl ?_
                   refine st_op (ev_int64 (c := (i : Int) + 1) rfl rfl rfl (by omega) (by omega)) rfl rfl rfl ?_
                   refine st_op (ev_assign rfl) rfl rfl rfl ?_
                   try show aw _ _ _ _ _ _
                   have hx88 : Ext H38 H83 := (Ext.trans (Ext.then (Ext.trans hxl53 hx68) hf73 (fun q hq e => by omega)) hx84)
                   refine aw_keep [1, 3, 4] (l' := (.cons 1 (.pointer (some ⟨b1, 0, none⟩)) (.cons 3 (.int .i64 x61.term) (.cons 4 (.int .i64 ((i : Int) + 1)) .nil)))) (by repeat (first | exact Up.done | refine Up.then ?_ | refine Up.inBlock ?_)) rfl ?_
                   exact ih54 (i + 1, x61.term, H83) ⟨(show (i + 1) ≤ es.length from (by omega)), (show Spec.entR term index logterm es = Spec.entR term (index + ((i + 1) : Int)) x61.term (es.drop (i + 1)) from (by rw [hv]; exact Spec.entR_step hx62 (by omega) (by omega) (by omega) (by assumption))), (show Ext H38 H83 from hx88)⟩ (by simp only; omega)
              ·
               rw [Bool.not_eq_true] at hc56; refine aw_condF hc56 rfl ?_
               try show aw _ _ _ _ _ _
               have hc56 := of_decide_eq_false hc56
               refine aw_exit ?_
               try show aw _ _ _ _ _ _
               iterate 2 refine aw_seq ?_
               refine aw_reg ?_
               refine st_op (ev_fieldAddr rfl fa26_0 (o' := 0) rfl) rfl rfl rfl ?_
               refine st_op (ev_load rfl (lvar_one one3 h55 rfl)) rfl rfl rfl ?_
               refine st_op (ev_int rfl rfl rfl) rfl rfl rfl ?_
               try show aw _ _ _ _ _ _
               by_cases hc89 : (kind != 5) = true
               ·
                refine aw_condT hc89 rfl ?_
                try show aw _ _ _ _ _ _
                have hc89 : ¬ (kind = 5) := by simpa using hc89
                refine aw_seq ?_
                refine aw_reg ?_
                refine st_op (ev_fieldAddr rfl fa26_9 (o' := 9) rfl) rfl rfl rfl ?_
                refine st_op (ev_load rfl (lvar_part (l := [.int .i64 s_index, .int .i64 s_term, .string s_conf, .string s_data]) many24 h55 rfl rfl (by decide))) rfl rfl rfl ?_
                refine st_op (ev_build zero24 pl24 (parts := []) rfl (cs := [.int .i64 0, .int .i64 0, .string (⟨#[]⟩), .string (⟨#[]⟩)]) rfl) rfl rfl rfl ?_
                refine st_call rfl rfl rfl ent37 rfl rfl rfl ?_
                obtain ⟨_, H91, hs90, hs90v, hx92⟩ := ref17_EqSnap_spec Hl52 s_index s_term s_conf s_data (0 : Int) (0 : Int) (⟨#[]⟩ : ByteArray) (⟨#[]⟩ : ByteArray)
                rw [hs90v] at hs90; clear hs90v
                refine ⟨_, H91, hs90, ?_⟩
                have H91n : Hl52.next ≤ H91.next := hx92.1
                refine st_op (ev_assign rfl) rfl rfl rfl ?_
                try show aw _ _ _ _ _ _
                refine aw_ret ?_
                have hx93 : Ext H H91 := (Ext.trans (Ext.trans (Ext.trans (Ext.trans (Ext.trans (Ext.trans (Ext.trans hx6 hx11) hx17) hx27) hx33) hx39) hxl53) hx92)
                have hres : (Spec.mayMsg kind from_ to_ term index logterm commit yes es s_index s_term s_conf s_data) = (Spec.eqSn s_index s_term s_conf s_data (0 : Int) (0 : Int) (⟨#[]⟩ : ByteArray) (⟨#[]⟩ : ByteArray)) := by rw [Spec.mayMsg_last (by omega) (by rw [hv, List.drop_eq_nil_of_le (by omega), Spec.entR, Bool.true_and]; exact decide_eq_true (by omega)) (fun h => by first | omega | exact Bool.noConfusion (h.symm.trans (show yes = false by assumption)))]; rw [if_neg (by omega)]; exact Spec.eqSn_zero
                exact ⟨.bool (Spec.eqSn s_index s_term s_conf s_data (0 : Int) (0 : Int) (⟨#[]⟩ : ByteArray) (⟨#[]⟩ : ByteArray)), rfl, by first | (rw [hres]; done) | rw [← hres], hx93⟩
               ·
                rw [Bool.not_eq_true] at hc89; refine aw_condF hc89 rfl ?_
                try show aw _ _ _ _ _ _
                have hc89 : (kind = 5) := by simpa using hc89
                exfalso; omega
           ·
            have hb45 := of_decide_eq_false hb45
            iterate 3 refine st_skip rfl rfl rfl ?_
            refine st_op (ev_pickF rfl rfl) rfl rfl rfl ?_
            refine st_op (ev_move rfl) rfl rfl rfl ?_
            refine st_op (ev_fieldAddr rfl fa26_7 (o' := 7) rfl) rfl rfl rfl ?_
            refine st_op (ev_load rfl (lvar_one one4 h42 rfl)) rfl rfl rfl ?_
            refine st_op (ev_move rfl) rfl rfl rfl ?_
            refine st_bool 74 rfl (fun hb94 => ?_) (fun hb94 => ?_)
            ·
             refine st_op (ev_fieldAddr rfl fa26_0 (o' := 0) rfl) rfl rfl rfl ?_
             refine st_op (ev_load rfl (lvar_one one3 h42 rfl)) rfl rfl rfl ?_
             refine st_op (ev_int rfl rfl rfl) rfl rfl rfl ?_
             refine st_op (ev_pickT rfl rfl) rfl rfl rfl ?_
             refine st_op (ev_move rfl) rfl rfl rfl ?_
             refine st_bool 79 rfl (fun hb95 => ?_) (fun hb95 => ?_)
             ·
              have hb95 : ¬ (kind = 2) := by simpa using hb95
              refine st_op (ev_fieldAddr rfl fa26_0 (o' := 0) rfl) rfl rfl rfl ?_
              refine st_op (ev_load rfl (lvar_one one3 h42 rfl)) rfl rfl rfl ?_
              refine st_op (ev_int rfl rfl rfl) rfl rfl rfl ?_
              refine st_op (ev_pickT rfl rfl) rfl rfl rfl ?_
              refine st_op (ev_pickF rfl rfl) rfl rfl rfl ?_
              try show aw _ _ _ _ _ _
              by_cases hc96 : (kind != 4) = true
              ·
               refine aw_condT hc96 rfl ?_
               try show aw _ _ _ _ _ _
               have hc96 : ¬ (kind = 4) := by simpa using hc96
               refine aw_seq ?_
               refine aw_reg ?_
               refine st_op (ev_assign rfl) rfl rfl rfl ?_
               try show aw _ _ _ _ _ _
               refine aw_ret ?_
               have hx97 : Ext H H38 := (Ext.trans (Ext.trans (Ext.trans (Ext.trans (Ext.trans hx6 hx11) hx17) hx27) hx33) hx39)
               have hres : (Spec.mayMsg kind from_ to_ term index logterm commit yes es s_index s_term s_conf s_data) = false := by first | exact Spec.mayMsg_f1 (by omega) | exact Spec.mayMsg_f5 (by omega) | exact Spec.mayMsg_f4 (by omega) (by omega) | exact Spec.mayMsg_f3 (by assumption) (by omega) (by omega)
               exact ⟨.bool false, rfl, by first | (rw [hres]; done) | rw [← hres], hx97⟩
              ·
               rw [Bool.not_eq_true] at hc96; refine aw_condF hc96 rfl ?_
               try show aw _ _ _ _ _ _
               have hc96 : (kind = 4) := by simpa using hc96
               refine aw_skip ?_
               try show aw _ _ _ _ _ _
               refine aw_seq ?_
               refine aw_reg ?_
               refine st_op (ev_fieldAddr rfl fa26_5 (o' := 5) rfl) rfl rfl rfl ?_
               refine st_op (ev_load rfl (lvar_one one2 h42 rfl)) rfl rfl rfl ?_
               refine st_op (ev_assign rfl) rfl rfl rfl ?_
               try show aw _ _ _ _ _ _
               iterate 2 refine aw_seq ?_
               refine aw_reg ?_
               refine st_op (ev_assign rfl) rfl rfl rfl ?_
               try show aw _ _ _ _ _ _
               refine aw_block ?_
               refine aw_keep [1, 3, 4] (l' := (.cons 1 (.pointer (some ⟨b1, 0, none⟩)) (.cons 3 (.int .i64 logterm) (.cons 4 (.int .i64 0) .nil)))) (by repeat (first | exact Up.done | refine Up.then ?_ | refine Up.inBlock ?_)) rfl ?_
               refine aw_iter (α := Nat × Int × Heap) (fun a => es.length - a.1) (fun a => (.cons 1 (.pointer (some ⟨b1, 0, none⟩)) (.cons 3 (.int .i64 a.2.1) (.cons 4 (.int .i64 (a.1 : Int)) .nil)))) (fun a => a.2.2) (fun a => (a.1 ≤ es.length) ∧ (Spec.entR term index logterm es = Spec.entR term (index + (a.1 : Int)) a.2.1 (es.drop a.1)) ∧ (Ext H38 a.2.2)) (0, logterm, H38) ⟨(show 0 ≤ es.length from Nat.zero_le _), (show Spec.entR term index logterm es = Spec.entR term (index + (0 : Int)) logterm (es.drop 0) from (by simp)), (show Ext H38 H38 from (Ext.refl H38))⟩ ?_
               rintro ⟨i, tm, Hl98⟩ ⟨hi, hv, hxl99⟩ ih100
               replace hi : i ≤ es.length := hi
               replace hv : Spec.entR term index logterm es = Spec.entR term (index + (i : Int)) tm (es.drop i) := hv
               replace hxl99 : Ext H38 Hl98 := hxl99
               show aw _ _ _ (RL _ (.cons 1 (.pointer (some ⟨b1, 0, none⟩)) (.cons 3 (.int .i64 tm) (.cons 4 (.int .i64 (i : Int)) .nil)))) Hl98 _
               have Hl98n : H38.next ≤ Hl98.next := hxl99.1
               iterate 2 refine aw_seq ?_
               refine aw_reg ?_
               refine st_op (ev_move rfl) rfl rfl rfl ?_
               refine st_op (ev_fieldAddr rfl fa26_8 (o' := 8) rfl) rfl rfl rfl ?_
               have h101 := Ext.blk hxl99 (by omega) h42
               refine st_op (ev_load rfl (lvar_one one22 h101 rfl)) rfl rfl rfl ?_
               refine st_op (ev_lenSl rfl Tryz.underlying22) rfl rfl rfl ?_
               refine st_op (ev_int rfl rfl rfl) rfl rfl rfl ?_
               try show aw _ _ _ _ _ _
               by_cases hc102 : (decide ((i : Int) < (es.length : Int))) = true
               ·
                refine aw_condT hc102 rfl ?_
                try show aw _ _ _ _ _ _
                have hc102 := of_decide_eq_true hc102
                exfalso; omega
               ·
                rw [Bool.not_eq_true] at hc102; refine aw_condF hc102 rfl ?_
                try show aw _ _ _ _ _ _
                have hc102 := of_decide_eq_false hc102
                refine aw_exit ?_
                try show aw _ _ _ _ _ _
                iterate 2 refine aw_seq ?_
                refine aw_reg ?_
                refine st_op (ev_fieldAddr rfl fa26_0 (o' := 0) rfl) rfl rfl rfl ?_
                refine st_op (ev_load rfl (lvar_one one3 h101 rfl)) rfl rfl rfl ?_
                refine st_op (ev_int rfl rfl rfl) rfl rfl rfl ?_
                try show aw _ _ _ _ _ _
                by_cases hc103 : (kind != 5) = true
                ·
                 refine aw_condT hc103 rfl ?_
                 try show aw _ _ _ _ _ _
                 have hc103 : ¬ (kind = 5) := by simpa using hc103
                 refine aw_seq ?_
                 refine aw_reg ?_
                 refine st_op (ev_fieldAddr rfl fa26_9 (o' := 9) rfl) rfl rfl rfl ?_
                 refine st_op (ev_load rfl (lvar_part (l := [.int .i64 s_index, .int .i64 s_term, .string s_conf, .string s_data]) many24 h101 rfl rfl (by decide))) rfl rfl rfl ?_
                 refine st_op (ev_build zero24 pl24 (parts := []) rfl (cs := [.int .i64 0, .int .i64 0, .string (⟨#[]⟩), .string (⟨#[]⟩)]) rfl) rfl rfl rfl ?_
                 refine st_call rfl rfl rfl ent37 rfl rfl rfl ?_
                 obtain ⟨_, H105, hs104, hs104v, hx106⟩ := ref17_EqSnap_spec Hl98 s_index s_term s_conf s_data (0 : Int) (0 : Int) (⟨#[]⟩ : ByteArray) (⟨#[]⟩ : ByteArray)
                 rw [hs104v] at hs104; clear hs104v
                 refine ⟨_, H105, hs104, ?_⟩
                 have H105n : Hl98.next ≤ H105.next := hx106.1
                 refine st_op (ev_assign rfl) rfl rfl rfl ?_
                 try show aw _ _ _ _ _ _
                 refine aw_ret ?_
                 have hx107 : Ext H H105 := (Ext.trans (Ext.trans (Ext.trans (Ext.trans (Ext.trans (Ext.trans (Ext.trans hx6 hx11) hx17) hx27) hx33) hx39) hxl99) hx106)
                 have hres : (Spec.mayMsg kind from_ to_ term index logterm commit yes es s_index s_term s_conf s_data) = (Spec.eqSn s_index s_term s_conf s_data (0 : Int) (0 : Int) (⟨#[]⟩ : ByteArray) (⟨#[]⟩ : ByteArray)) := by rw [Spec.mayMsg_last (by omega) (by rw [hv, List.drop_eq_nil_of_le (by omega), Spec.entR, Bool.true_and]; exact decide_eq_true (by omega)) (fun h => by first | omega | exact Bool.noConfusion (h.symm.trans (show yes = false by assumption)))]; rw [if_neg (by omega)]; exact Spec.eqSn_zero
                 exact ⟨.bool (Spec.eqSn s_index s_term s_conf s_data (0 : Int) (0 : Int) (⟨#[]⟩ : ByteArray) (⟨#[]⟩ : ByteArray)), rfl, by first | (rw [hres]; done) | rw [← hres], hx107⟩
                ·
                 rw [Bool.not_eq_true] at hc103; refine aw_condF hc103 rfl ?_
                 try show aw _ _ _ _ _ _
                 have hc103 : (kind = 5) := by simpa using hc103
                 exfalso; omega
             ·
              have hb95 : (kind = 2) := by simpa using hb95
              iterate 3 refine st_skip rfl rfl rfl ?_
              iterate 2 refine st_op (ev_pickF rfl rfl) rfl rfl rfl ?_
              try show aw _ _ _ _ _ _
              refine aw_cond (t := false) rfl ?_
              try show aw _ _ _ _ _ _
              refine aw_skip ?_
              try show aw _ _ _ _ _ _
              refine aw_seq ?_
              refine aw_reg ?_
              refine st_op (ev_fieldAddr rfl fa26_5 (o' := 5) rfl) rfl rfl rfl ?_
              refine st_op (ev_load rfl (lvar_one one2 h42 rfl)) rfl rfl rfl ?_
              refine st_op (ev_assign rfl) rfl rfl rfl ?_
              try show aw _ _ _ _ _ _
              iterate 2 refine aw_seq ?_
              refine aw_reg ?_
              refine st_op (ev_assign rfl) rfl rfl rfl ?_
              try show aw _ _ _ _ _ _
              refine aw_block ?_
              refine aw_keep [1, 3, 4] (l' := (.cons 1 (.pointer (some ⟨b1, 0, none⟩)) (.cons 3 (.int .i64 logterm) (.cons 4 (.int .i64 0) .nil)))) (by repeat (first | exact Up.done | refine Up.then ?_ | refine Up.inBlock ?_)) rfl ?_
              refine aw_iter (α := Nat × Int × Heap) (fun a => es.length - a.1) (fun a => (.cons 1 (.pointer (some ⟨b1, 0, none⟩)) (.cons 3 (.int .i64 a.2.1) (.cons 4 (.int .i64 (a.1 : Int)) .nil)))) (fun a => a.2.2) (fun a => (a.1 ≤ es.length) ∧ (Spec.entR term index logterm es = Spec.entR term (index + (a.1 : Int)) a.2.1 (es.drop a.1)) ∧ (Ext H38 a.2.2)) (0, logterm, H38) ⟨(show 0 ≤ es.length from Nat.zero_le _), (show Spec.entR term index logterm es = Spec.entR term (index + (0 : Int)) logterm (es.drop 0) from (by simp)), (show Ext H38 H38 from (Ext.refl H38))⟩ ?_
              rintro ⟨i, tm, Hl108⟩ ⟨hi, hv, hxl109⟩ ih110
              replace hi : i ≤ es.length := hi
              replace hv : Spec.entR term index logterm es = Spec.entR term (index + (i : Int)) tm (es.drop i) := hv
              replace hxl109 : Ext H38 Hl108 := hxl109
              show aw _ _ _ (RL _ (.cons 1 (.pointer (some ⟨b1, 0, none⟩)) (.cons 3 (.int .i64 tm) (.cons 4 (.int .i64 (i : Int)) .nil)))) Hl108 _
              have Hl108n : H38.next ≤ Hl108.next := hxl109.1
              iterate 2 refine aw_seq ?_
              refine aw_reg ?_
              refine st_op (ev_move rfl) rfl rfl rfl ?_
              refine st_op (ev_fieldAddr rfl fa26_8 (o' := 8) rfl) rfl rfl rfl ?_
              have h111 := Ext.blk hxl109 (by omega) h42
              refine st_op (ev_load rfl (lvar_one one22 h111 rfl)) rfl rfl rfl ?_
              refine st_op (ev_lenSl rfl Tryz.underlying22) rfl rfl rfl ?_
              refine st_op (ev_int rfl rfl rfl) rfl rfl rfl ?_
              try show aw _ _ _ _ _ _
              by_cases hc112 : (decide ((i : Int) < (es.length : Int))) = true
              ·
               refine aw_condT hc112 rfl ?_
               try show aw _ _ _ _ _ _
               have hc112 := of_decide_eq_true hc112
               exfalso; omega
              ·
               rw [Bool.not_eq_true] at hc112; refine aw_condF hc112 rfl ?_
               try show aw _ _ _ _ _ _
               have hc112 := of_decide_eq_false hc112
               refine aw_exit ?_
               try show aw _ _ _ _ _ _
               iterate 2 refine aw_seq ?_
               refine aw_reg ?_
               refine st_op (ev_fieldAddr rfl fa26_0 (o' := 0) rfl) rfl rfl rfl ?_
               refine st_op (ev_load rfl (lvar_one one3 h111 rfl)) rfl rfl rfl ?_
               refine st_op (ev_int rfl rfl rfl) rfl rfl rfl ?_
               try show aw _ _ _ _ _ _
               by_cases hc113 : (kind != 5) = true
               ·
                refine aw_condT hc113 rfl ?_
                try show aw _ _ _ _ _ _
                have hc113 : ¬ (kind = 5) := by simpa using hc113
                refine aw_seq ?_
                refine aw_reg ?_
                refine st_op (ev_fieldAddr rfl fa26_9 (o' := 9) rfl) rfl rfl rfl ?_
                refine st_op (ev_load rfl (lvar_part (l := [.int .i64 s_index, .int .i64 s_term, .string s_conf, .string s_data]) many24 h111 rfl rfl (by decide))) rfl rfl rfl ?_
                refine st_op (ev_build zero24 pl24 (parts := []) rfl (cs := [.int .i64 0, .int .i64 0, .string (⟨#[]⟩), .string (⟨#[]⟩)]) rfl) rfl rfl rfl ?_
                refine st_call rfl rfl rfl ent37 rfl rfl rfl ?_
                obtain ⟨_, H115, hs114, hs114v, hx116⟩ := ref17_EqSnap_spec Hl108 s_index s_term s_conf s_data (0 : Int) (0 : Int) (⟨#[]⟩ : ByteArray) (⟨#[]⟩ : ByteArray)
                rw [hs114v] at hs114; clear hs114v
                refine ⟨_, H115, hs114, ?_⟩
                have H115n : Hl108.next ≤ H115.next := hx116.1
                refine st_op (ev_assign rfl) rfl rfl rfl ?_
                try show aw _ _ _ _ _ _
                refine aw_ret ?_
                have hx117 : Ext H H115 := (Ext.trans (Ext.trans (Ext.trans (Ext.trans (Ext.trans (Ext.trans (Ext.trans hx6 hx11) hx17) hx27) hx33) hx39) hxl109) hx116)
                have hres : (Spec.mayMsg kind from_ to_ term index logterm commit yes es s_index s_term s_conf s_data) = (Spec.eqSn s_index s_term s_conf s_data (0 : Int) (0 : Int) (⟨#[]⟩ : ByteArray) (⟨#[]⟩ : ByteArray)) := by rw [Spec.mayMsg_last (by omega) (by rw [hv, List.drop_eq_nil_of_le (by omega), Spec.entR, Bool.true_and]; exact decide_eq_true (by omega)) (fun h => by first | omega | exact Bool.noConfusion (h.symm.trans (show yes = false by assumption)))]; rw [if_neg (by omega)]; exact Spec.eqSn_zero
                exact ⟨.bool (Spec.eqSn s_index s_term s_conf s_data (0 : Int) (0 : Int) (⟨#[]⟩ : ByteArray) (⟨#[]⟩ : ByteArray)), rfl, by first | (rw [hres]; done) | rw [← hres], hx117⟩
               ·
                rw [Bool.not_eq_true] at hc113; refine aw_condF hc113 rfl ?_
                try show aw _ _ _ _ _ _
                have hc113 : (kind = 5) := by simpa using hc113
                exfalso; omega
            ·
             iterate 3 refine st_skip rfl rfl rfl ?_
             refine st_op (ev_pickF rfl rfl) rfl rfl rfl ?_
             refine st_op (ev_move rfl) rfl rfl rfl ?_
             iterate 3 refine st_skip rfl rfl rfl ?_
             iterate 2 refine st_op (ev_pickF rfl rfl) rfl rfl rfl ?_
             try show aw _ _ _ _ _ _
             refine aw_cond (t := false) rfl ?_
             try show aw _ _ _ _ _ _
             refine aw_skip ?_
             try show aw _ _ _ _ _ _
             refine aw_seq ?_
             refine aw_reg ?_
             refine st_op (ev_fieldAddr rfl fa26_5 (o' := 5) rfl) rfl rfl rfl ?_
             refine st_op (ev_load rfl (lvar_one one2 h42 rfl)) rfl rfl rfl ?_
             refine st_op (ev_assign rfl) rfl rfl rfl ?_
             try show aw _ _ _ _ _ _
             iterate 2 refine aw_seq ?_
             refine aw_reg ?_
             refine st_op (ev_assign rfl) rfl rfl rfl ?_
             try show aw _ _ _ _ _ _
             refine aw_block ?_
             refine aw_keep [1, 3, 4] (l' := (.cons 1 (.pointer (some ⟨b1, 0, none⟩)) (.cons 3 (.int .i64 logterm) (.cons 4 (.int .i64 0) .nil)))) (by repeat (first | exact Up.done | refine Up.then ?_ | refine Up.inBlock ?_)) rfl ?_
             refine aw_iter (α := Nat × Int × Heap) (fun a => es.length - a.1) (fun a => (.cons 1 (.pointer (some ⟨b1, 0, none⟩)) (.cons 3 (.int .i64 a.2.1) (.cons 4 (.int .i64 (a.1 : Int)) .nil)))) (fun a => a.2.2) (fun a => (a.1 ≤ es.length) ∧ (Spec.entR term index logterm es = Spec.entR term (index + (a.1 : Int)) a.2.1 (es.drop a.1)) ∧ (Ext H38 a.2.2)) (0, logterm, H38) ⟨(show 0 ≤ es.length from Nat.zero_le _), (show Spec.entR term index logterm es = Spec.entR term (index + (0 : Int)) logterm (es.drop 0) from (by simp)), (show Ext H38 H38 from (Ext.refl H38))⟩ ?_
             rintro ⟨i, tm, Hl118⟩ ⟨hi, hv, hxl119⟩ ih120
             replace hi : i ≤ es.length := hi
             replace hv : Spec.entR term index logterm es = Spec.entR term (index + (i : Int)) tm (es.drop i) := hv
             replace hxl119 : Ext H38 Hl118 := hxl119
             show aw _ _ _ (RL _ (.cons 1 (.pointer (some ⟨b1, 0, none⟩)) (.cons 3 (.int .i64 tm) (.cons 4 (.int .i64 (i : Int)) .nil)))) Hl118 _
             have Hl118n : H38.next ≤ Hl118.next := hxl119.1
             iterate 2 refine aw_seq ?_
             refine aw_reg ?_
             refine st_op (ev_move rfl) rfl rfl rfl ?_
             refine st_op (ev_fieldAddr rfl fa26_8 (o' := 8) rfl) rfl rfl rfl ?_
             have h121 := Ext.blk hxl119 (by omega) h42
             refine st_op (ev_load rfl (lvar_one one22 h121 rfl)) rfl rfl rfl ?_
             refine st_op (ev_lenSl rfl Tryz.underlying22) rfl rfl rfl ?_
             refine st_op (ev_int rfl rfl rfl) rfl rfl rfl ?_
             try show aw _ _ _ _ _ _
             by_cases hc122 : (decide ((i : Int) < (es.length : Int))) = true
             ·
              refine aw_condT hc122 rfl ?_
              try show aw _ _ _ _ _ _
              have hc122 := of_decide_eq_true hc122
              exfalso; omega
             ·
              rw [Bool.not_eq_true] at hc122; refine aw_condF hc122 rfl ?_
              try show aw _ _ _ _ _ _
              have hc122 := of_decide_eq_false hc122
              refine aw_exit ?_
              try show aw _ _ _ _ _ _
              iterate 2 refine aw_seq ?_
              refine aw_reg ?_
              refine st_op (ev_fieldAddr rfl fa26_0 (o' := 0) rfl) rfl rfl rfl ?_
              refine st_op (ev_load rfl (lvar_one one3 h121 rfl)) rfl rfl rfl ?_
              refine st_op (ev_int rfl rfl rfl) rfl rfl rfl ?_
              try show aw _ _ _ _ _ _
              by_cases hc123 : (kind != 5) = true
              ·
               refine aw_condT hc123 rfl ?_
               try show aw _ _ _ _ _ _
               have hc123 : ¬ (kind = 5) := by simpa using hc123
               refine aw_seq ?_
               refine aw_reg ?_
               refine st_op (ev_fieldAddr rfl fa26_9 (o' := 9) rfl) rfl rfl rfl ?_
               refine st_op (ev_load rfl (lvar_part (l := [.int .i64 s_index, .int .i64 s_term, .string s_conf, .string s_data]) many24 h121 rfl rfl (by decide))) rfl rfl rfl ?_
               refine st_op (ev_build zero24 pl24 (parts := []) rfl (cs := [.int .i64 0, .int .i64 0, .string (⟨#[]⟩), .string (⟨#[]⟩)]) rfl) rfl rfl rfl ?_
               refine st_call rfl rfl rfl ent37 rfl rfl rfl ?_
               obtain ⟨_, H125, hs124, hs124v, hx126⟩ := ref17_EqSnap_spec Hl118 s_index s_term s_conf s_data (0 : Int) (0 : Int) (⟨#[]⟩ : ByteArray) (⟨#[]⟩ : ByteArray)
               rw [hs124v] at hs124; clear hs124v
               refine ⟨_, H125, hs124, ?_⟩
               have H125n : Hl118.next ≤ H125.next := hx126.1
               refine st_op (ev_assign rfl) rfl rfl rfl ?_
               try show aw _ _ _ _ _ _
               refine aw_ret ?_
               have hx127 : Ext H H125 := (Ext.trans (Ext.trans (Ext.trans (Ext.trans (Ext.trans (Ext.trans (Ext.trans hx6 hx11) hx17) hx27) hx33) hx39) hxl119) hx126)
               have hres : (Spec.mayMsg kind from_ to_ term index logterm commit yes es s_index s_term s_conf s_data) = (Spec.eqSn s_index s_term s_conf s_data (0 : Int) (0 : Int) (⟨#[]⟩ : ByteArray) (⟨#[]⟩ : ByteArray)) := by rw [Spec.mayMsg_last (by omega) (by rw [hv, List.drop_eq_nil_of_le (by omega), Spec.entR, Bool.true_and]; exact decide_eq_true (by omega)) (fun h => by first | omega | exact Bool.noConfusion (h.symm.trans (show yes = false by assumption)))]; rw [if_neg (by omega)]; exact Spec.eqSn_zero
               exact ⟨.bool (Spec.eqSn s_index s_term s_conf s_data (0 : Int) (0 : Int) (⟨#[]⟩ : ByteArray) (⟨#[]⟩ : ByteArray)), rfl, by first | (rw [hres]; done) | rw [← hres], hx127⟩
              ·
               rw [Bool.not_eq_true] at hc123; refine aw_condF hc123 rfl ?_
               try show aw _ _ _ _ _ _
               have hc123 : (kind = 5) := by simpa using hc123
               refine aw_skip ?_
               try show aw _ _ _ _ _ _
               refine aw_seq ?_
               refine aw_reg ?_
               refine st_op (ev_fieldAddr rfl fa26_9 (o' := 9) rfl) rfl rfl rfl ?_
               refine st_op (ev_fieldAddr rfl fa24_2 (o' := 11) rfl) rfl rfl rfl ?_
               refine st_op (ev_load rfl (lvar_one one9 h121 rfl)) rfl rfl rfl ?_
               refine st_call rfl rfl rfl ent38 rfl rfl rfl ?_
               obtain ⟨_, H129, hs128, A131, c132, hs128v, hm133, hx130⟩ := ref21_DecodeConf_spec Hl118 s_conf (by omega)
               rw [hs128v] at hs128; clear hs128v
               refine ⟨_, H129, hs128, ?_⟩
               have H129n : Hl118.next ≤ H129.next := hx130.1
               refine st_op (ev_move rfl) rfl rfl rfl ?_
               iterate 2 refine st_op (ev_extract rfl rfl) rfl rfl rfl ?_
               iterate 2 refine st_op (ev_assign rfl) rfl rfl rfl ?_
               try show aw _ _ _ _ _ _
               refine aw_seq ?_
               refine aw_reg ?_
               iterate 2 refine st_op (ev_move rfl) rfl rfl rfl ?_
               refine st_bool 142 rfl (fun hb134 => ?_) (fun hb134 => ?_)
               ·
                refine st_op (ev_fieldAddr rfl fa26_9 (o' := 9) rfl) rfl rfl rfl ?_
                have h135 := Ext.blk hx130 (by omega) h121
                refine st_op (ev_load rfl (lvar_part (l := [.int .i64 s_index, .int .i64 s_term, .string s_conf, .string s_data]) many24 h135 rfl rfl (by decide))) rfl rfl rfl ?_
                refine st_call rfl rfl rfl ent39 rfl rfl rfl ?_
                obtain ⟨_, H137, hs136, hs136v, hx138⟩ := ref17_MaySnap_spec H129 s_index s_term s_conf s_data
                rw [hs136v] at hs136; clear hs136v
                refine ⟨_, H137, hs136, ?_⟩
                have H137n : H129.next ≤ H137.next := hx138.1
                refine st_op (ev_pickT rfl rfl) rfl rfl rfl ?_
                refine st_op (ev_assign rfl) rfl rfl rfl ?_
                try show aw _ _ _ _ _ _
                refine aw_ret ?_
                have hx139 : Ext H H137 := (Ext.trans (Ext.trans (Ext.trans (Ext.trans (Ext.trans (Ext.trans (Ext.trans (Ext.trans hx6 hx11) hx17) hx27) hx33) hx39) hxl119) hx130) hx138)
                have hres : (Spec.mayMsg kind from_ to_ term index logterm commit yes es s_index s_term s_conf s_data) = (Spec.mayS s_index s_term s_conf s_data) := by rw [Spec.mayMsg_last (by omega) (by rw [hv, List.drop_eq_nil_of_le (by omega), Spec.entR, Bool.true_and]; exact decide_eq_true (by omega)) (fun h => by first | omega | exact Bool.noConfusion (h.symm.trans (show yes = false by assumption)))]; rw [if_pos (by omega), show (Spec.decC s_conf).2 = true by assumption, Bool.true_and]
                exact ⟨.bool (Spec.mayS s_index s_term s_conf s_data), rfl, by first | (rw [hres]; done) | rw [← hres], hx139⟩
               ·
                iterate 3 refine st_skip rfl rfl rfl ?_
                refine st_op (ev_pickF rfl rfl) rfl rfl rfl ?_
                refine st_op (ev_assign rfl) rfl rfl rfl ?_
                try show aw _ _ _ _ _ _
                refine aw_ret ?_
                have hx140 : Ext H H129 := (Ext.trans (Ext.trans (Ext.trans (Ext.trans (Ext.trans (Ext.trans (Ext.trans hx6 hx11) hx17) hx27) hx33) hx39) hxl119) hx130)
                have hres : (Spec.mayMsg kind from_ to_ term index logterm commit yes es s_index s_term s_conf s_data) = false := by rw [Spec.mayMsg_last (by omega) (by rw [hv, List.drop_eq_nil_of_le (by omega), Spec.entR, Bool.true_and]; exact decide_eq_true (by omega)) (fun h => by first | omega | exact Bool.noConfusion (h.symm.trans (show yes = false by assumption)))]; rw [if_pos (by omega), show (Spec.decC s_conf).2 = false by assumption]; rfl
                exact ⟨.bool false, rfl, by first | (rw [hres]; done) | rw [← hres], hx140⟩
theorem law1_Cut_spec (H : Heap) (s : ByteArray) (n : Int) (hn : 0 ≤ n ∧ n ≤ 1099511627776) : ∃ v H', Spec Tryz.prog 72 [.string s, .int .i64 n] H v H' ∧ ((v = .string (cutB s n)) ∧ ((((cutB s n)).size : Int) ≤ n) ∧ (Ext H H')) := by
 refine spec_go2 E0_ok 13 (f := 72) Tryz.func72 rfl rfl rfl ?_
 refine aw_seq ?_
 refine aw_reg ?_
 refine st_op (ev_assign rfl) rfl rfl rfl ?_
 try show aw _ _ _ _ _ _
 iterate 2 refine aw_seq ?_
 refine aw_reg ?_
 refine st_op (ev_move rfl) rfl rfl rfl ?_
 refine st_op (ev_lenStr rfl Tryz.underlying9) rfl rfl rfl ?_
 refine st_op (ev_move rfl) rfl rfl rfl ?_
 refine st_op (ev_int rfl rfl rfl) rfl rfl rfl ?_
 try show aw _ _ _ _ _ _
 by_cases hc1 : (decide (((s).size : Int) > n)) = true
 ·
  refine aw_condT hc1 rfl ?_
  try show aw _ _ _ _ _ _
  have hc1 := of_decide_eq_true hc1
  refine aw_seq ?_
  refine aw_reg ?_
  iterate 2 refine st_op (ev_move rfl) rfl rfl rfl ?_
  refine st_op (ev_slStr Tryz.underlying9 rfl rfl rfl (bound_int (by omega) (by omega) rfl) rfl) rfl rfl rfl ?_
  refine st_op (ev_assign rfl) rfl rfl rfl ?_
  try show aw _ _ _ _ _ _
  refine aw_ret ?_
  have hres : (cutB s n) = ((s).extract 0 ((n).toNat)) := by first | rw [cutB, if_pos (by omega)] | rw [cutB, if_neg (by omega)]
  exact ⟨.string ((s).extract 0 ((n).toNat)), rfl, by first | (rw [hres]; done) | rw [← hres], (by exact cutB_size hn.1), (Ext.refl H)⟩
 ·
  rw [Bool.not_eq_true] at hc1; refine aw_condF hc1 rfl ?_
  try show aw _ _ _ _ _ _
  have hc1 := of_decide_eq_false hc1
  refine aw_skip ?_
  try show aw _ _ _ _ _ _
  refine aw_seq ?_
  refine aw_reg ?_
  refine st_op (ev_move rfl) rfl rfl rfl ?_
  refine st_op (ev_assign rfl) rfl rfl rfl ?_
  try show aw _ _ _ _ _ _
  refine aw_ret ?_
  have hres : (cutB s n) = s := by first | rw [cutB, if_pos (by omega)] | rw [cutB, if_neg (by omega)]
  exact ⟨.string s, rfl, by first | (rw [hres]; done) | rw [← hres], (by exact cutB_size hn.1), (Ext.refl H)⟩
theorem law21_Entries_spec (H : Heap) (esA : Option Addr) (es : List Entry) (esc : Nat) (hes : Row H esA esc 4 (es.map Entry.cells)) (ces : es.length ≤ esc) (les : es.length ≤ 140737488355328) (n : Int) (hn : 0 ≤ n ∧ n ≤ 1000) : ∃ v H', Spec Tryz.prog 27 [.slice esA es.length esc, .int .i64 n] H v H' ∧ (∃ rA0 rc0, (v = .slice rA0 (((es.take n.toNat).map Entry.cut).length) rc0) ∧ (My H H' rA0 rc0 4 (((es.take n.toNat).map Entry.cut).map Entry.cells)) ∧ ((((((es.take n.toNat).map Entry.cut)).length : Nat) : Int) ≤ n) ∧ (Ext H H')) := by
 refine spec_go2 E0_ok 32 (f := 27) Tryz.func27 rfl rfl rfl ?_
 refine aw_seq ?_
 refine aw_reg ?_
 refine st_op (ev_assign rfl) rfl rfl rfl ?_
 try show aw _ _ _ _ _ _
 refine aw_seq ?_
 refine aw_reg ?_
 refine st_op (ev_assign rfl) rfl rfl rfl ?_
 try show aw _ _ _ _ _ _
 iterate 2 refine aw_seq ?_
 refine aw_reg ?_
 refine st_op (ev_assign rfl) rfl rfl rfl ?_
 try show aw _ _ _ _ _ _
 refine aw_block ?_
 have hm2 : My H H none 0 4 (([] : List Entry).map Entry.cells) := .nil
 refine aw_keep [0, 1, 5, 6] (l' := (.cons 0 (.slice esA es.length esc) (.cons 1 (.int .i64 n) (.cons 5 (.slice none 0 0) (.cons 6 (.int .i64 0) .nil))))) (by repeat (first | exact Up.done | refine Up.then ?_ | refine Up.inBlock ?_)) rfl ?_
 refine aw_iter (α := Nat × Option Addr × Nat × List Entry × Heap) (fun a => es.length - a.1) (fun a => (.cons 0 (.slice esA es.length esc) (.cons 1 (.int .i64 n) (.cons 5 (.slice a.2.1 a.2.2.2.1.length a.2.2.1) (.cons 6 (.int .i64 (a.1 : Int)) .nil))))) (fun a => a.2.2.2.2) (fun a => (a.1 ≤ es.length) ∧ ((a.1 : Int) ≤ n) ∧ (a.2.2.2.1 = (es.take a.1).map Entry.cut) ∧ (My H a.2.2.2.2 a.2.1 a.2.2.1 4 (a.2.2.2.1.map Entry.cells)) ∧ (Ext H a.2.2.2.2)) (0, none, 0, ([] : List Entry), H) ⟨(show 0 ≤ es.length from Nat.zero_le _), (show (0 : Int) ≤ n from (by omega)), (show ([] : List Entry) = (es.take 0).map Entry.cut from rfl), (show My H H none 0 4 (([] : List Entry).map Entry.cells) from hm2), (show Ext H H from (Ext.refl H))⟩ ?_
 rintro ⟨i, A, cp, l, Hl1⟩ ⟨hi, hin, hl, hm3, hxl4⟩ ih5
 replace hi : i ≤ es.length := hi
 replace hin : (i : Int) ≤ n := hin
 replace hl : l = (es.take i).map Entry.cut := hl
 replace hm3 : My H Hl1 A cp 4 (l.map Entry.cells) := hm3
 replace hxl4 : Ext H Hl1 := hxl4
 show aw _ _ _ (RL _ (.cons 0 (.slice esA es.length esc) (.cons 1 (.int .i64 n) (.cons 5 (.slice A l.length cp) (.cons 6 (.int .i64 (i : Int)) .nil))))) Hl1 _
 have Hl1n : H.next ≤ Hl1.next := hxl4.1
 have hll : l.length = i := by rw [hl, List.length_map, List.length_take]; omega
 iterate 2 refine aw_seq ?_
 refine aw_reg ?_
 iterate 2 refine st_op (ev_move rfl) rfl rfl rfl ?_
 refine st_op (ev_lenSl rfl Tryz.underlying22) rfl rfl rfl ?_
 refine st_op (ev_int rfl rfl rfl) rfl rfl rfl ?_
 refine st_op (ev_move rfl) rfl rfl rfl ?_
 refine st_bool 12 rfl (fun hb6 => ?_) (fun hb6 => ?_)
 ·
  have hb6 := of_decide_eq_true hb6
  iterate 2 refine st_op (ev_move rfl) rfl rfl rfl ?_
  refine st_op (ev_int rfl rfl rfl) rfl rfl rfl ?_
  refine st_op (ev_pickT rfl rfl) rfl rfl rfl ?_
  try show aw _ _ _ _ _ _
  by_cases hc7 : (decide ((i : Int) < n)) = true
  ·
   refine aw_condT hc7 rfl ?_
   try show aw _ _ _ _ _ _
   have hc7 := of_decide_eq_true hc7
   refine aw_skip ?_
   try show aw _ _ _ _ _ _
   refine aw_seq ?_
   refine aw_block ?_
   refine aw_seq ?_
   refine aw_reg ?_
   iterate 2 refine st_op (ev_move rfl) rfl rfl rfl ?_
   have h8 := Row.ext hes hxl4
   have hi9 : 0 ≤ ((i : Int) : Int) := by omega
   have hi10 : ((i : Int) : Int) < ((es.length : Nat) : Int) := by omega
   obtain ⟨x11, hx12⟩ : ∃ e, es[i]? = some e := ⟨_, List.getElem?_eq_getElem (by omega)⟩
   refine st_op (ev_at rfl rfl h8 (getMap Entry.cells hx12) (by first | rfl | omega | simp) hi9 hi10 el22) rfl rfl rfl ?_
   refine st_op (ev_atN (cs := [.int .i64 x11.index, .int .i64 x11.term, .int .i64 x11.kind, .string x11.data]) rfl h8 (getMap Entry.cells hx12) many31 rfl rfl (by decide)) rfl rfl rfl ?_
   obtain ⟨b13, H14, he15, b13e, H14n_, hB17, f16⟩ := mem_alloc Hl1 zero31
   refine st_op (he15 _ _ _ _ _ _ _) rfl rfl rfl ?_
   have hx18 : Ext Hl1 H14 := Ext.new (by omega) H14n_ f16
   have H14n : Hl1.next ≤ H14.next := hx18.1
   obtain ⟨H19, he20, H19n_, hB21, f22⟩ := mem_store (v := .agg #[.int .i64 x11.index, .int .i64 x11.term, .int .i64 x11.kind, .string x11.data]) (o := 0) (cs' := [.int .i64 x11.index, .int .i64 x11.term, .int .i64 x11.kind, .string x11.data]) 4 rfl rfl size31 hB17 rfl rfl rfl
   refine st_op0 (he20 _ _ _ _ _ _ _ _ _ rfl rfl) rfl rfl ?_
   have hf23 : Fr (fun q => q = b13) H14 H19 := Fr.write H19n_ f22
   have H19n : H14.next ≤ H19.next := hf23.1
   try show aw _ _ _ _ _ _
   refine aw_seq ?_
   refine aw_reg ?_
   refine st_op (ev_fieldAddr rfl fa31_3 (o' := 3) rfl) rfl rfl rfl ?_
   refine st_op (ev_load rfl (lvar_one one9 hB21 rfl)) rfl rfl rfl ?_
   refine st_call rfl rfl rfl ent72 rfl rfl rfl ?_
   obtain ⟨_, H25, hs24, hs24v, hq27, hx26⟩ := law1_Cut_spec H19 x11.data 60 (by decide)
   rw [hs24v] at hs24; clear hs24v
   refine ⟨_, H25, hs24, ?_⟩
   have H25n : H19.next ≤ H25.next := hx26.1
   refine st_op (ev_fieldAddr rfl fa31_3 (o' := 3) rfl) rfl rfl rfl ?_
   have h28 := Ext.blk hx26 (by omega) hB21
   obtain ⟨H29, he30, H29n_, hB31, f32⟩ := mem_store (v := .string (cutB x11.data (60 : Int))) (o := 3) (cs' := [.int .i64 x11.index, .int .i64 x11.term, .int .i64 x11.kind, .string (cutB x11.data (60 : Int))]) 1 rfl rfl size9 h28 rfl rfl rfl
   refine st_op0 (he30 _ _ _ _ _ _ _ _ _ rfl rfl) rfl rfl ?_
   have hf33 : Fr (fun q => q = b13) H25 H29 := Fr.write H29n_ f32
   have H29n : H25.next ≤ H29.next := hf33.1
   try show aw _ _ _ _ _ _
   refine aw_reg ?_
   refine st_op (ev_move rfl) rfl rfl rfl ?_
   refine st_op (ev_load rfl (lvar_part (l := [.int .i64 x11.index, .int .i64 x11.term, .int .i64 x11.kind, .string (cutB x11.data (60 : Int))]) many31 hB31 rfl rfl (by decide))) rfl rfl rfl ?_
   obtain ⟨b34, H35, he36, b34e, H35n_, hm38, f37⟩ := mem_lit H29 (xs := ([.agg #[.int .i64 x11.index, .int .i64 x11.term, .int .i64 x11.kind, .string (cutB x11.data (60 : Int))]] : List Value)) (m := 1) (rows := [[.int .i64 x11.index, .int .i64 x11.term, .int .i64 x11.kind, .string (cutB x11.data (60 : Int))]]) rfl eok22 (by decide) (by decide) zf31 rfl (allLen rfl) rfl
   replace hm38 : My H29 H35 (some ⟨b34, 0, none⟩) 1 4 ([(⟨x11.index, x11.term, x11.kind, (cutB x11.data (60 : Int))⟩ : Entry)].map Entry.cells) := hm38
   refine st_op (he36 _ _ _ _ _ _ _ _ rfl) rfl rfl rfl ?_
   have hx39 : Ext H29 H35 := Ext.new (by omega) H35n_ f37
   have H35n : H29.next ≤ H35.next := hx39.1
   have hx41 : Ext Hl1 H35 := (Ext.trans (Ext.then (Ext.trans (Ext.then hx18 hf23 (fun q hq e => by omega)) hx26) hf33 (fun q hq e => by omega)) hx39)
   have h40 := My.ext hm3 hx41
   obtain ⟨A42, c43, H44, W45, he46, hm47, hf48⟩ := mem_append (f := Entry.cells) (old := l) (new := [(⟨x11.index, x11.term, x11.kind, (cutB x11.data (60 : Int))⟩ : Entry)]) (m := l.length) (mx := 1) (c := cp) (by first | rfl | simp) (by first | rfl | simp) eok22 (by decide) hm3 h40 (by omega) (((My.row hm38)).srcF (by decide) (by first | rfl | simp)) rfl Entry.cells_len Entry.cells_one (by first | omega | (simp only [List.length_append, List.length_cons, List.length_nil, List.length_map, List.length_set, List.length_replicate, Spec.bytesOf_length]; omega) | (simp; omega)) (by first | omega | (simp only [List.length_append, List.length_cons, List.length_nil, List.length_map, List.length_set, List.length_replicate, Spec.bytesOf_length]; omega) | (simp; omega))
   refine st_op (he46 _ _ _ _ _ _ _ _ _ _ rfl rfl isrow22) rfl rfl rfl ?_
   have H44n : H35.next ≤ H44.next := hf48.1
   refine st_op (ev_assign rfl) rfl rfl rfl ?_
   try show aw _ _ _ _ _ _
   refine aw_reg ?_
   refine st_op (ev_move rfl) rfl rfl rfl ?_
   refine st_op (ev_int64 (c := (i : Int) + 1) rfl rfl rfl (by omega) (by omega)) rfl rfl rfl ?_
   refine st_op (ev_assign rfl) rfl rfl rfl ?_
   try show aw _ _ _ _ _ _
   have hx49 : Ext H H44 := (Ext.then (Ext.trans (Ext.then (Ext.trans (Ext.then (Ext.trans hxl4 hx18) hf23 (fun q hq e => by omega)) hx26) hf33 (fun q hq e => by omega)) hx39) hf48 (fun q hq e => by omega))
   refine aw_keep [0, 1, 5, 6] (l' := (.cons 0 (.slice esA es.length esc) (.cons 1 (.int .i64 n) (.cons 5 (.slice A42 ((l ++ [(⟨x11.index, x11.term, x11.kind, (cutB x11.data (60 : Int))⟩ : Entry)]).length) c43) (.cons 6 (.int .i64 ((i : Int) + 1)) .nil))))) (by repeat (first | exact Up.done | refine Up.then ?_ | refine Up.inBlock ?_)) rfl ?_
   exact ih5 (i + 1, A42, c43, (l ++ [(⟨x11.index, x11.term, x11.kind, (cutB x11.data (60 : Int))⟩ : Entry)]), H44) ⟨(show (i + 1) ≤ es.length from (by omega)), (show ((i + 1) : Int) ≤ n from (by omega)), (show (l ++ [(⟨x11.index, x11.term, x11.kind, (cutB x11.data (60 : Int))⟩ : Entry)]) = (es.take (i + 1)).map Entry.cut from (by rw [List.take_add_one, List.map_append, ← hl, hx12]; rfl)), (show My H H44 A42 c43 4 ((l ++ [(⟨x11.index, x11.term, x11.kind, (cutB x11.data (60 : Int))⟩ : Entry)]).map Entry.cells) from hm47), (show Ext H H44 from hx49)⟩ (by simp only; omega)
  ·
   rw [Bool.not_eq_true] at hc7; refine aw_condF hc7 rfl ?_
   try show aw _ _ _ _ _ _
   have hc7 := of_decide_eq_false hc7
   refine aw_exit ?_
   try show aw _ _ _ _ _ _
   refine aw_seq ?_
   refine aw_reg ?_
   refine st_op (ev_move rfl) rfl rfl rfl ?_
   refine st_op (ev_assign rfl) rfl rfl rfl ?_
   try show aw _ _ _ _ _ _
   refine aw_ret ?_
   have hres : ((es.take n.toNat).map Entry.cut) = l := by rw [hl]; congr 1; rw [List.take_eq_take_iff]; omega
   exact ⟨.slice A l.length cp, rfl, A, cp, by first | (rw [hres]; first | done | rfl | simp; done) | rfl, (by rw [hres]; exact hm3), (by rw [List.length_map, List.length_take]; omega), hxl4⟩
 ·
  have hb6 := of_decide_eq_false hb6
  iterate 3 refine st_skip rfl rfl rfl ?_
  refine st_op (ev_pickF rfl rfl) rfl rfl rfl ?_
  try show aw _ _ _ _ _ _
  refine aw_cond (t := false) rfl ?_
  try show aw _ _ _ _ _ _
  refine aw_exit ?_
  try show aw _ _ _ _ _ _
  refine aw_seq ?_
  refine aw_reg ?_
  refine st_op (ev_move rfl) rfl rfl rfl ?_
  refine st_op (ev_assign rfl) rfl rfl rfl ?_
  try show aw _ _ _ _ _ _
  refine aw_ret ?_
  have hres : ((es.take n.toNat).map Entry.cut) = l := by rw [hl]; congr 1; rw [List.take_eq_take_iff]; omega
  exact ⟨.slice A l.length cp, rfl, A, cp, by first | (rw [hres]; first | done | rfl | simp; done) | rfl, (by rw [hres]; exact hm3), (by rw [List.length_map, List.length_take]; omega), hxl4⟩
theorem law21_Snap_spec (H : Heap) (s_index : Int) (s_term : Int) (s_conf : ByteArray) (s_data : ByteArray) : ∃ v H', Spec Tryz.prog 28 [.agg #[.int .i64 s_index, .int .i64 s_term, .string s_conf, .string s_data]] H v H' ∧ ((v = .agg #[.int .i64 s_index, .int .i64 s_term, .string ((cutB s_conf 60, cutB s_data 100).1), .string ((cutB s_conf 60, cutB s_data 100).2)]) ∧ (((((cutB s_conf 60, cutB s_data 100)).1.size : Nat) : Int) ≤ 60) ∧ (((((cutB s_conf 60, cutB s_data 100)).2.size : Nat) : Int) ≤ 100) ∧ (Ext H H')) := by
 refine spec_go1 E0_ok 12 (f := 28) Tryz.func28 rfl rfl rfl ?_
 refine aw_seq ?_
 refine aw_reg ?_
 obtain ⟨b1, H2, he3, b1e, H2n_, hB5, f4⟩ := mem_box (P := Tryz.prog) H (v := .agg #[.int .i64 s_index, .int .i64 s_term, .string s_conf, .string s_data]) (cs := [.int .i64 s_index, .int .i64 s_term, .string s_conf, .string s_data]) rfl rfl
 refine st_op (he3 _ _ _ _ _ _ _ _ _ rfl) rfl rfl rfl ?_
 have hx6 : Ext H H2 := Ext.new (by omega) H2n_ f4
 have H2n : H.next ≤ H2.next := hx6.1
 obtain ⟨b7, H8, he9, b7e, H8n_, hB11, f10⟩ := mem_alloc H2 zero24
 refine st_op (he9 _ _ _ _ _ _ _) rfl rfl rfl ?_
 have hx12 : Ext H2 H8 := Ext.new (by omega) H8n_ f10
 have H8n : H2.next ≤ H8.next := hx12.1
 try show aw _ _ _ _ _ _
 refine aw_seq ?_
 refine aw_marks (fun b => b < H8.next) [(false, false), (false, false), (false, true), (false, false), (true, false), (false, false), (false, false), (false, false), (false, false), (false, false)] mixed (by kernel_rfl) (by kernel_rfl) ?_
 refine sm_op (ev_fieldAddr rfl fa24_2 (o' := 2) rfl) rfl rfl rfl ?_
 have h13 := Ext.blk hx12 (by omega) hB5
 refine sm_op (ev_load rfl (lvar_one one9 h13 rfl)) rfl rfl rfl ?_
 refine sm_call rfl rfl rfl ent72 rfl rfl rfl ?_
 obtain ⟨_, H15, hs14, hs14v, hq17, hx16⟩ := law1_Cut_spec H8 s_conf 60 (by decide)
 rw [hs14v] at hs14; clear hs14v
 refine ⟨_, H15, hs14, (fun _ b hb => hx16.2 b (by omega)), ?_⟩
 have H15n : H8.next ≤ H15.next := hx16.1
 refine sm_op (ev_fieldAddr rfl fa24_3 (o' := 3) rfl) rfl rfl rfl ?_
 have h18 := Ext.blk hx16 (by omega) h13
 refine sm_read (ev_load rfl (lvar_one one9 h18 rfl)) rfl rfl rfl (fun b hb => by cases hb; dsimp only <;> omega) ?_
 refine sm_call rfl rfl rfl ent72 rfl rfl rfl ?_
 obtain ⟨_, H20, hs19, hs19v, hq22, hx21⟩ := law1_Cut_spec H15 s_data 100 (by decide)
 rw [hs19v] at hs19; clear hs19v
 refine ⟨_, H20, hs19, (fun _ b hb => hx21.2 b (by omega)), ?_⟩
 have H20n : H15.next ≤ H20.next := hx21.1
 refine sm_op (ev_fieldAddr rfl fa24_2 (o' := 2) rfl) rfl rfl rfl ?_
 have h23 := Ext.blk hx21 (by omega) h18
 obtain ⟨H24, he25, H24n_, hB26, f27⟩ := mem_store (v := .string (cutB s_conf (60 : Int))) (o := 2) (cs' := [.int .i64 s_index, .int .i64 s_term, .string (cutB s_conf (60 : Int)), .string s_data]) 1 rfl rfl size9 h23 rfl rfl rfl
 refine sm_op0 (he25 _ _ _ _ _ _ _ _ _ rfl rfl) rfl rfl ?_
 have hf28 : Fr (fun q => q = b1) H20 H24 := Fr.write H24n_ f27
 have H24n : H20.next ≤ H24.next := hf28.1
 refine sm_op (ev_fieldAddr rfl fa24_3 (o' := 3) rfl) rfl rfl rfl ?_
 obtain ⟨H29, he30, H29n_, hB31, f32⟩ := mem_store (v := .string (cutB s_data (100 : Int))) (o := 3) (cs' := [.int .i64 s_index, .int .i64 s_term, .string (cutB s_conf (60 : Int)), .string (cutB s_data (100 : Int))]) 1 rfl rfl size9 hB26 rfl rfl rfl
 refine sm_op0 (he30 _ _ _ _ _ _ _ _ _ rfl rfl) rfl rfl ?_
 have hf33 : Fr (fun q => q = b1) H24 H29 := Fr.write H29n_ f32
 have H29n : H24.next ≤ H29.next := hf33.1
 try show aw _ _ _ _ _ _
 refine aw_seq ?_
 refine aw_reg ?_
 refine st_op (ev_load rfl (lvar_part (l := [.int .i64 s_index, .int .i64 s_term, .string (cutB s_conf (60 : Int)), .string (cutB s_data (100 : Int))]) many24 hB31 rfl rfl (by decide))) rfl rfl rfl ?_
 have hx35 : Ext H8 H20 := (Ext.trans hx16 hx21)
 have h34 := Ext.blk hx35 (by omega) hB11
 have h36 := Fr.blk hf28 (by omega) (fun e => (by omega)) h34
 have h37 := Fr.blk hf33 (by omega) (fun e => (by omega)) h36
 obtain ⟨H38, he39, H38n_, hB40, f41⟩ := mem_store (v := .agg #[.int .i64 s_index, .int .i64 s_term, .string (cutB s_conf (60 : Int)), .string (cutB s_data (100 : Int))]) (o := 0) (cs' := [.int .i64 s_index, .int .i64 s_term, .string (cutB s_conf (60 : Int)), .string (cutB s_data (100 : Int))]) 4 rfl rfl size24 h37 rfl rfl rfl
 refine st_op0 (he39 _ _ _ _ _ _ _ _ _ rfl rfl) rfl rfl ?_
 have hf42 : Fr (fun q => q = b7) H29 H38 := Fr.write H38n_ f41
 have H38n : H29.next ≤ H38.next := hf42.1
 try show aw _ _ _ _ _ _
 refine aw_ret ?_
 have hx43 : Ext H H38 := (Ext.then (Ext.then (Ext.then (Ext.trans (Ext.trans (Ext.trans hx6 hx12) hx16) hx21) hf28 (fun q hq e => by omega)) hf33 (fun q hq e => by omega)) hf42 (fun q hq e => by omega))
 have hres : (cutB s_conf 60, cutB s_data 100) = ((cutB s_conf (60 : Int)), (cutB s_data (100 : Int))) := by rfl
 exact ⟨.agg #[.int .i64 s_index, .int .i64 s_term, .string (cutB s_conf (60 : Int)), .string (cutB s_data (100 : Int))], (resA_of (resL_cell rfl (lvar_part (l := [.int .i64 s_index, .int .i64 s_term, .string (cutB s_conf (60 : Int)), .string (cutB s_data (100 : Int))]) many24 hB40 rfl rfl (by decide)) resL_nil) rfl), by first | (rw [hres]; done) | rw [← hres], (by exact cutB_size (by decide)), (by exact cutB_size (by decide)), hx43⟩
theorem law24_Cut_spec (H : Heap) (kind : Int) (from_ : Int) (to_ : Int) (term : Int) (index : Int) (logterm : Int) (commit : Int) (yes : Bool) (esA : Option Addr) (es : List Entry) (esc : Nat) (hes : Row H esA esc 4 (es.map Entry.cells)) (ces : es.length ≤ esc) (les : es.length ≤ 140737488355328) (s_index : Int) (s_term : Int) (s_conf : ByteArray) (s_data : ByteArray) : ∃ v H', Spec Tryz.prog 10 [.agg #[.int .i64 kind, .int .i64 from_, .int .i64 to_, .int .i64 term, .int .i64 index, .int .i64 logterm, .int .i64 commit, .bool yes, .slice esA es.length esc, .int .i64 s_index, .int .i64 s_term, .string s_conf, .string s_data]] H v H' ∧ (∃ rA8 rc8, (v = .agg #[.int .i64 kind, .int .i64 from_, .int .i64 to_, .int .i64 term, .int .i64 index, .int .i64 logterm, .int .i64 commit, .bool yes, .slice rA8 (((((es.take 10).map Entry.cut), cutB s_conf 60, cutB s_data 100).1).length) rc8, .int .i64 s_index, .int .i64 s_term, .string ((((es.take 10).map Entry.cut), cutB s_conf 60, cutB s_data 100).2.1), .string ((((es.take 10).map Entry.cut), cutB s_conf 60, cutB s_data 100).2.2)]) ∧ (My H H' rA8 rc8 4 (((((es.take 10).map Entry.cut), cutB s_conf 60, cutB s_data 100).1).map Entry.cells)) ∧ (((((((es.take 10).map Entry.cut), cutB s_conf 60, cutB s_data 100)).1.length : Nat) : Int) ≤ 10) ∧ (((((((es.take 10).map Entry.cut), cutB s_conf 60, cutB s_data 100)).2.1.size : Nat) : Int) ≤ 60) ∧ (((((((es.take 10).map Entry.cut), cutB s_conf 60, cutB s_data 100)).2.2.size : Nat) : Int) ≤ 100) ∧ (Ext H H')) := by
 refine spec_go1 E0_ok 12 (f := 10) Tryz.func10 rfl rfl rfl ?_
 refine aw_seq ?_
 refine aw_reg ?_
 obtain ⟨b1, H2, he3, b1e, H2n_, hB5, f4⟩ := mem_box (P := Tryz.prog) H (v := .agg #[.int .i64 kind, .int .i64 from_, .int .i64 to_, .int .i64 term, .int .i64 index, .int .i64 logterm, .int .i64 commit, .bool yes, .slice esA es.length esc, .int .i64 s_index, .int .i64 s_term, .string s_conf, .string s_data]) (cs := [.int .i64 kind, .int .i64 from_, .int .i64 to_, .int .i64 term, .int .i64 index, .int .i64 logterm, .int .i64 commit, .bool yes, .slice esA es.length esc, .int .i64 s_index, .int .i64 s_term, .string s_conf, .string s_data]) rfl rfl
 refine st_op (he3 _ _ _ _ _ _ _ _ _ rfl) rfl rfl rfl ?_
 have hx6 : Ext H H2 := Ext.new (by omega) H2n_ f4
 have H2n : H.next ≤ H2.next := hx6.1
 obtain ⟨b7, H8, he9, b7e, H8n_, hB11, f10⟩ := mem_alloc H2 zero26
 refine st_op (he9 _ _ _ _ _ _ _) rfl rfl rfl ?_
 have hx12 : Ext H2 H8 := Ext.new (by omega) H8n_ f10
 have H8n : H2.next ≤ H8.next := hx12.1
 try show aw _ _ _ _ _ _
 refine aw_seq ?_
 refine aw_reg ?_
 refine st_op (ev_fieldAddr rfl fa26_8 (o' := 8) rfl) rfl rfl rfl ?_
 have h13 := Ext.blk hx12 (by omega) hB5
 refine st_op (ev_load rfl (lvar_one one22 h13 rfl)) rfl rfl rfl ?_
 refine st_call rfl rfl rfl ent27 rfl rfl rfl ?_
 have hx15 : Ext H H8 := (Ext.trans hx6 hx12)
 have h14 := Row.ext hes hx15
 obtain ⟨_, H17, hs16, A19, c20, hs16v, hm21, hq22, hx18⟩ := law21_Entries_spec H8 esA es esc h14 ces (by omega) 10 (by decide)
 rw [hs16v] at hs16; clear hs16v
 refine ⟨_, H17, hs16, ?_⟩
 have H17n : H8.next ≤ H17.next := hx18.1
 refine st_op (ev_fieldAddr rfl fa26_8 (o' := 8) rfl) rfl rfl rfl ?_
 have h23 := Ext.blk hx18 (by omega) h13
 obtain ⟨H24, he25, H24n_, hB26, f27⟩ := mem_store (v := .slice A19 (((es.take (10 : Int).toNat).map Entry.cut).length) c20) (o := 8) (cs' := [.int .i64 kind, .int .i64 from_, .int .i64 to_, .int .i64 term, .int .i64 index, .int .i64 logterm, .int .i64 commit, .bool yes, .slice A19 (((es.take (10 : Int).toNat).map Entry.cut).length) c20, .int .i64 s_index, .int .i64 s_term, .string s_conf, .string s_data]) 1 rfl rfl size22 h23 rfl rfl rfl
 refine st_op0 (he25 _ _ _ _ _ _ _ _ _ rfl rfl) rfl rfl ?_
 have hf28 : Fr (fun q => q = b1) H17 H24 := Fr.write H24n_ f27
 have H24n : H17.next ≤ H24.next := hf28.1
 try show aw _ _ _ _ _ _
 refine aw_seq ?_
 refine aw_reg ?_
 refine st_op (ev_fieldAddr rfl fa26_9 (o' := 9) rfl) rfl rfl rfl ?_
 refine st_op (ev_load rfl (lvar_part (l := [.int .i64 s_index, .int .i64 s_term, .string s_conf, .string s_data]) many24 hB26 rfl rfl (by decide))) rfl rfl rfl ?_
 refine st_call rfl rfl rfl ent28 rfl rfl rfl ?_
 obtain ⟨_, H30, hs29, hs29v, hq32, hq33, hx31⟩ := law21_Snap_spec H24 s_index s_term s_conf s_data
 rw [hs29v] at hs29; clear hs29v
 refine ⟨_, H30, hs29, ?_⟩
 have H30n : H24.next ≤ H30.next := hx31.1
 refine st_op (ev_fieldAddr rfl fa26_9 (o' := 9) rfl) rfl rfl rfl ?_
 have h34 := Ext.blk hx31 (by omega) hB26
 obtain ⟨H35, he36, H35n_, hB37, f38⟩ := mem_store (v := .agg #[.int .i64 s_index, .int .i64 s_term, .string ((cutB s_conf 60, cutB s_data 100).1), .string ((cutB s_conf 60, cutB s_data 100).2)]) (o := 9) (cs' := [.int .i64 kind, .int .i64 from_, .int .i64 to_, .int .i64 term, .int .i64 index, .int .i64 logterm, .int .i64 commit, .bool yes, .slice A19 (((es.take (10 : Int).toNat).map Entry.cut).length) c20, .int .i64 s_index, .int .i64 s_term, .string ((cutB s_conf 60, cutB s_data 100).1), .string ((cutB s_conf 60, cutB s_data 100).2)]) 4 rfl rfl size24 h34 rfl rfl rfl
 refine st_op0 (he36 _ _ _ _ _ _ _ _ _ rfl rfl) rfl rfl ?_
 have hf39 : Fr (fun q => q = b1) H30 H35 := Fr.write H35n_ f38
 have H35n : H30.next ≤ H35.next := hf39.1
 try show aw _ _ _ _ _ _
 refine aw_seq ?_
 refine aw_reg ?_
 refine st_op (ev_load rfl (lvar_part (l := [.int .i64 kind, .int .i64 from_, .int .i64 to_, .int .i64 term, .int .i64 index, .int .i64 logterm, .int .i64 commit, .bool yes, .slice A19 (((es.take (10 : Int).toNat).map Entry.cut).length) c20, .int .i64 s_index, .int .i64 s_term, .string ((cutB s_conf 60, cutB s_data 100).1), .string ((cutB s_conf 60, cutB s_data 100).2)]) many26 hB37 rfl rfl (by decide))) rfl rfl rfl ?_
 have h40 := Ext.blk hx18 (by omega) hB11
 have h41 := Fr.blk hf28 (by omega) (fun e => (by omega)) h40
 have h42 := Ext.blk hx31 (by omega) h41
 have h43 := Fr.blk hf39 (by omega) (fun e => (by omega)) h42
 obtain ⟨H44, he45, H44n_, hB46, f47⟩ := mem_store (v := .agg #[.int .i64 kind, .int .i64 from_, .int .i64 to_, .int .i64 term, .int .i64 index, .int .i64 logterm, .int .i64 commit, .bool yes, .slice A19 (((es.take (10 : Int).toNat).map Entry.cut).length) c20, .int .i64 s_index, .int .i64 s_term, .string ((cutB s_conf 60, cutB s_data 100).1), .string ((cutB s_conf 60, cutB s_data 100).2)]) (o := 0) (cs' := [.int .i64 kind, .int .i64 from_, .int .i64 to_, .int .i64 term, .int .i64 index, .int .i64 logterm, .int .i64 commit, .bool yes, .slice A19 (((es.take (10 : Int).toNat).map Entry.cut).length) c20, .int .i64 s_index, .int .i64 s_term, .string ((cutB s_conf 60, cutB s_data 100).1), .string ((cutB s_conf 60, cutB s_data 100).2)]) 13 rfl rfl size26 h43 rfl rfl rfl
 refine st_op0 (he45 _ _ _ _ _ _ _ _ _ rfl rfl) rfl rfl ?_
 have hf48 : Fr (fun q => q = b7) H35 H44 := Fr.write H44n_ f47
 have H44n : H35.next ≤ H44.next := hf48.1
 try show aw _ _ _ _ _ _
 refine aw_ret ?_
 have h49 := My.frS hm21 hf28 (fun q hq e => ⟨_, e ▸ h23, show (0 : Nat) ≠ 4 by decide⟩)
 have h50 := My.ext h49 hx31
 have h51 := My.frS h50 hf39 (fun q hq e => ⟨_, e ▸ h34, show (0 : Nat) ≠ 4 by decide⟩)
 have h52 := My.frS h51 hf48 (fun q hq e => ⟨_, e ▸ h43, show (0 : Nat) ≠ 4 by decide⟩)
 have hx53 : Ext H H44 := (Ext.then (Ext.then (Ext.trans (Ext.then (Ext.trans hx15 hx18) hf28 (fun q hq e => by omega)) hx31) hf39 (fun q hq e => by omega)) hf48 (fun q hq e => by omega))
 have hres : (((es.take 10).map Entry.cut), cutB s_conf 60, cutB s_data 100) = (((es.take (10 : Int).toNat).map Entry.cut), ((cutB s_conf 60, cutB s_data 100).1), ((cutB s_conf 60, cutB s_data 100).2)) := by rfl
 exact ⟨.agg #[.int .i64 kind, .int .i64 from_, .int .i64 to_, .int .i64 term, .int .i64 index, .int .i64 logterm, .int .i64 commit, .bool yes, .slice A19 (((es.take (10 : Int).toNat).map Entry.cut).length) c20, .int .i64 s_index, .int .i64 s_term, .string ((cutB s_conf 60, cutB s_data 100).1), .string ((cutB s_conf 60, cutB s_data 100).2)], (resA_of (resL_cell rfl (lvar_part (l := [.int .i64 kind, .int .i64 from_, .int .i64 to_, .int .i64 term, .int .i64 index, .int .i64 logterm, .int .i64 commit, .bool yes, .slice A19 (((es.take (10 : Int).toNat).map Entry.cut).length) c20, .int .i64 s_index, .int .i64 s_term, .string ((cutB s_conf 60, cutB s_data 100).1), .string ((cutB s_conf 60, cutB s_data 100).2)]) many26 hB46 rfl rfl (by decide)) resL_nil) rfl), A19, c20, by first | (rw [hres]; first | done | rfl | simp; done) | rfl, (by rw [hres]; exact (My.older h52 (by omega))), (by rw [List.length_map, List.length_take]; omega), (by exact cutB_size (by decide)), (by exact cutB_size (by decide)), hx53⟩
theorem law24_begun_ran : okF (runF Tryz.prog X0 1000 40 9 [] Hp.nil) = true := by kernel_rfl
theorem law24_begun_spec (H : Heap) : ∃ v H', Spec Tryz.prog 9 [] H v H' ∧ (v = .bool true ∧ H' = H) := ⟨_, _, okF_any mixed law24_begun_ran H, rfl, rfl⟩

end Go.AM
