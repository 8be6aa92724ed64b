/- Part of a machine of its own for this claim: the program's code over memory without draws. -/
import Derived.Test.YtfodghhmglbapabSAmXNetB1
set_option linter.unusedVariables false
set_option linter.unusedSimpArgs false
set_option linter.unnecessarySimpa false
set_option linter.unusedVariables false
set_option linter.unusedSimpArgs false
set_option linter.unnecessarySimpa false
namespace Go.AM
open Go Go.Proofs
theorem raft_May_spec (H : Heap) (kind : Int) (from_ : Int) (to_ : Int) (term : Int) (index : Int) (logterm : Int) (commit : Int) (yes : Bool) (esA : Option Addr) (es : List Entry) (esc : Nat) (hes : Row H esA esc 4 (es.map Entry.cells)) (ces : es.length ≤ esc) (les : es.length ≤ 1048576) (s_index : Int) (s_term : Int) (s_conf : ByteArray) (hs_conf : s_conf.size ≤ 1073741824) (s_data : ByteArray) (hs_data : s_data.size ≤ 1073741824) : ∃ v H', Spec Try.prog 46 [.agg #[.int .i64 kind, .int .i64 from_, .int .i64 to_, .int .i64 term, .int .i64 index, .int .i64 logterm, .int .i64 commit, .bool yes, .slice esA es.length esc, .int .i64 s_index, .int .i64 s_term, .string s_conf, .string s_data]] H v H' ∧ ((v = .bool (Spec.mayMsg kind from_ to_ term index logterm commit yes es s_index s_term s_conf s_data)) ∧ (Ext H H')) := by
 refine spec_go1 E0_ok 81 (f := 46) Try.func46 rfl rfl rfl ?_
 refine aw_seq ?_
 refine aw_reg ?_
 obtain ⟨b1, H2, he3, b1e, H2n_, hB5, f4⟩ := mem_box (P := Try.prog) H (v := .agg #[.int .i64 kind, .int .i64 from_, .int .i64 to_, .int .i64 term, .int .i64 index, .int .i64 logterm, .int .i64 commit, .bool yes, .slice esA es.length esc, .int .i64 s_index, .int .i64 s_term, .string s_conf, .string s_data]) (cs := [.int .i64 kind, .int .i64 from_, .int .i64 to_, .int .i64 term, .int .i64 index, .int .i64 logterm, .int .i64 commit, .bool yes, .slice esA es.length esc, .int .i64 s_index, .int .i64 s_term, .string s_conf, .string s_data]) rfl rfl
 refine st_op (he3 _ _ _ _ _ _ _ _ _ rfl) rfl rfl rfl ?_
 have hx6 : Ext H H2 := Ext.new (by omega) H2n_ f4
 have H2n : H.next ≤ H2.next := hx6.1
 refine st_op (ev_assign rfl) rfl rfl rfl ?_
 try show aw _ _ _ _ _ _
 iterate 2 refine aw_seq ?_
 refine aw_reg ?_
 refine st_op (ev_fieldAddr rfl fa46_0 (o' := 0) rfl) rfl rfl rfl ?_
 refine st_op (ev_load rfl (lvar_one one3 hB5 rfl)) rfl rfl rfl ?_
 refine st_op (ev_int rfl rfl rfl) rfl rfl rfl ?_
 refine st_op (ev_move rfl) rfl rfl rfl ?_
 refine st_bool 8 rfl (fun hb7 => ?_) (fun hb7 => ?_)
 ·
  have hb7 := of_decide_eq_true hb7
  iterate 3 refine st_skip rfl rfl rfl ?_
  refine st_op (ev_pickT rfl rfl) rfl rfl rfl ?_
  refine st_op (ev_move rfl) rfl rfl rfl ?_
  iterate 4 refine st_skip rfl rfl rfl ?_
  refine st_op (ev_pickT rfl rfl) rfl rfl rfl ?_
  refine st_op (ev_move rfl) rfl rfl rfl ?_
  iterate 4 refine st_skip rfl rfl rfl ?_
  refine st_op (ev_pickT rfl rfl) rfl rfl rfl ?_
  refine st_op (ev_move rfl) rfl rfl rfl ?_
  iterate 5 refine st_skip rfl rfl rfl ?_
  refine st_op (ev_pickT rfl rfl) rfl rfl rfl ?_
  refine st_op (ev_move rfl) rfl rfl rfl ?_
  iterate 9 refine st_skip rfl rfl rfl ?_
  refine st_op (ev_pickT rfl rfl) rfl rfl rfl ?_
  refine st_op (ev_move rfl) rfl rfl rfl ?_
  iterate 3 refine st_skip rfl rfl rfl ?_
  refine st_op (ev_pickT rfl rfl) rfl rfl rfl ?_
  try show aw _ _ _ _ _ _
  refine aw_cond (t := true) rfl ?_
  try show aw _ _ _ _ _ _
  refine aw_seq ?_
  refine aw_reg ?_
  refine st_op (ev_assign rfl) rfl rfl rfl ?_
  try show aw _ _ _ _ _ _
  refine aw_ret ?_
  have hres : (Spec.mayMsg kind from_ to_ term index logterm commit yes es s_index s_term s_conf s_data) = false := by first | exact Spec.mayMsg_f1 (by omega) | exact Spec.mayMsg_f2 (by assumption) | exact Spec.mayMsg_f3 (by assumption) (by omega) (by omega) | (rw [Spec.mayMsg_last (by omega) (by assumption) (fun h => by first | omega | exact Bool.noConfusion (h.symm.trans (show yes = false by assumption)))]; rw [if_pos (by omega), show (Spec.decC s_conf).2 = false by assumption]; rfl)
  exact ⟨.bool false, rfl, by first | (rw [hres]; done) | rw [← hres], hx6⟩
 ·
  have hb7 := of_decide_eq_false hb7
  refine st_op (ev_fieldAddr rfl fa46_0 (o' := 0) rfl) rfl rfl rfl ?_
  refine st_op (ev_load rfl (lvar_one one3 hB5 rfl)) rfl rfl rfl ?_
  refine st_op (ev_int rfl rfl rfl) rfl rfl rfl ?_
  refine st_op (ev_pickF rfl rfl) rfl rfl rfl ?_
  refine st_op (ev_move rfl) rfl rfl rfl ?_
  refine st_bool 13 rfl (fun hb8 => ?_) (fun hb8 => ?_)
  ·
   have hb8 := of_decide_eq_true hb8
   iterate 4 refine st_skip rfl rfl rfl ?_
   refine st_op (ev_pickT rfl rfl) rfl rfl rfl ?_
   refine st_op (ev_move rfl) rfl rfl rfl ?_
   iterate 4 refine st_skip rfl rfl rfl ?_
   refine st_op (ev_pickT rfl rfl) rfl rfl rfl ?_
   refine st_op (ev_move rfl) rfl rfl rfl ?_
   iterate 5 refine st_skip rfl rfl rfl ?_
   refine st_op (ev_pickT rfl rfl) rfl rfl rfl ?_
   refine st_op (ev_move rfl) rfl rfl rfl ?_
   iterate 9 refine st_skip rfl rfl rfl ?_
   refine st_op (ev_pickT rfl rfl) rfl rfl rfl ?_
   refine st_op (ev_move rfl) rfl rfl rfl ?_
   iterate 3 refine st_skip rfl rfl rfl ?_
   refine st_op (ev_pickT rfl rfl) rfl rfl rfl ?_
   try show aw _ _ _ _ _ _
   refine aw_cond (t := true) rfl ?_
   try show aw _ _ _ _ _ _
   refine aw_seq ?_
   refine aw_reg ?_
   refine st_op (ev_assign rfl) rfl rfl rfl ?_
   try show aw _ _ _ _ _ _
   refine aw_ret ?_
   have hres : (Spec.mayMsg kind from_ to_ term index logterm commit yes es s_index s_term s_conf s_data) = false := by first | exact Spec.mayMsg_f1 (by omega) | exact Spec.mayMsg_f2 (by assumption) | exact Spec.mayMsg_f3 (by assumption) (by omega) (by omega) | (rw [Spec.mayMsg_last (by omega) (by assumption) (fun h => by first | omega | exact Bool.noConfusion (h.symm.trans (show yes = false by assumption)))]; rw [if_pos (by omega), show (Spec.decC s_conf).2 = false by assumption]; rfl)
   exact ⟨.bool false, rfl, by first | (rw [hres]; done) | rw [← hres], hx6⟩
  ·
   have hb8 := of_decide_eq_false hb8
   refine st_op (ev_fieldAddr rfl fa46_1 (o' := 1) rfl) rfl rfl rfl ?_
   refine st_op (ev_load rfl (lvar_one one3 hB5 rfl)) rfl rfl rfl ?_
   refine st_call rfl rfl rfl ent73 rfl rfl rfl ?_
   obtain ⟨_, H10, hs9, hs9v, hx11⟩ := raft_server_spec H2 from_
   rw [hs9v] at hs9; clear hs9v
   refine ⟨_, H10, hs9, ?_⟩
   have H10n : H2.next ≤ H10.next := hx11.1
   refine st_op (ev_not rfl) rfl rfl rfl ?_
   refine st_op (ev_pickF rfl rfl) rfl rfl rfl ?_
   refine st_op (ev_move rfl) rfl rfl rfl ?_
   refine st_bool 19 rfl (fun hb12 => ?_) (fun hb12 => ?_)
   ·
    replace hb12 : (decide (1 ≤ from_ ∧ from_ ≤ 7)) = false := by rw [Bool.not_eq_true'] at hb12; exact hb12
    have hb12 := of_decide_eq_false hb12
    iterate 4 refine st_skip rfl rfl rfl ?_
    refine st_op (ev_pickT rfl rfl) rfl rfl rfl ?_
    refine st_op (ev_move rfl) rfl rfl rfl ?_
    iterate 5 refine st_skip rfl rfl rfl ?_
    refine st_op (ev_pickT rfl rfl) rfl rfl rfl ?_
    refine st_op (ev_move rfl) rfl rfl rfl ?_
    iterate 9 refine st_skip rfl rfl rfl ?_
    refine st_op (ev_pickT rfl rfl) rfl rfl rfl ?_
    refine st_op (ev_move rfl) rfl rfl rfl ?_
    iterate 3 refine st_skip rfl rfl rfl ?_
    refine st_op (ev_pickT rfl rfl) rfl rfl rfl ?_
    try show aw _ _ _ _ _ _
    refine aw_cond (t := true) rfl ?_
    try show aw _ _ _ _ _ _
    refine aw_seq ?_
    refine aw_reg ?_
    refine st_op (ev_assign rfl) rfl rfl rfl ?_
    try show aw _ _ _ _ _ _
    refine aw_ret ?_
    have hx13 : Ext H H10 := (Ext.trans hx6 hx11)
    have hres : (Spec.mayMsg kind from_ to_ term index logterm commit yes es s_index s_term s_conf s_data) = false := by first | exact Spec.mayMsg_f1 (by omega) | exact Spec.mayMsg_f2 (by assumption) | exact Spec.mayMsg_f3 (by assumption) (by omega) (by omega) | (rw [Spec.mayMsg_last (by omega) (by assumption) (fun h => by first | omega | exact Bool.noConfusion (h.symm.trans (show yes = false by assumption)))]; rw [if_pos (by omega), show (Spec.decC s_conf).2 = false by assumption]; rfl)
    exact ⟨.bool false, rfl, by first | (rw [hres]; done) | rw [← hres], hx13⟩
   ·
    replace hb12 : (decide (1 ≤ from_ ∧ from_ ≤ 7)) = true := by rw [Bool.not_eq_false'] at hb12; exact hb12
    have hb12 := of_decide_eq_true hb12
    refine st_op (ev_fieldAddr rfl fa46_2 (o' := 2) rfl) rfl rfl rfl ?_
    have h14 := Ext.blk hx11 (by omega) hB5
    refine st_op (ev_load rfl (lvar_one one3 h14 rfl)) rfl rfl rfl ?_
    refine st_call rfl rfl rfl ent73 rfl rfl rfl ?_
    obtain ⟨_, H16, hs15, hs15v, hx17⟩ := raft_server_spec H10 to_
    rw [hs15v] at hs15; clear hs15v
    refine ⟨_, H16, hs15, ?_⟩
    have H16n : H10.next ≤ H16.next := hx17.1
    refine st_op (ev_not rfl) rfl rfl rfl ?_
    refine st_op (ev_pickF rfl rfl) rfl rfl rfl ?_
    refine st_op (ev_move rfl) rfl rfl rfl ?_
    refine st_bool 25 rfl (fun hb18 => ?_) (fun hb18 => ?_)
    ·
     replace hb18 : (decide (1 ≤ to_ ∧ to_ ≤ 7)) = false := by rw [Bool.not_eq_true'] at hb18; exact hb18
     have hb18 := of_decide_eq_false hb18
     iterate 5 refine st_skip rfl rfl rfl ?_
     refine st_op (ev_pickT rfl rfl) rfl rfl rfl ?_
     refine st_op (ev_move rfl) rfl rfl rfl ?_
     iterate 9 refine st_skip rfl rfl rfl ?_
     refine st_op (ev_pickT rfl rfl) rfl rfl rfl ?_
     refine st_op (ev_move rfl) rfl rfl rfl ?_
     iterate 3 refine st_skip rfl rfl rfl ?_
     refine st_op (ev_pickT rfl rfl) rfl rfl rfl ?_
     try show aw _ _ _ _ _ _
     refine aw_cond (t := true) rfl ?_
     try show aw _ _ _ _ _ _
     refine aw_seq ?_
     refine aw_reg ?_
     refine st_op (ev_assign rfl) rfl rfl rfl ?_
     try show aw _ _ _ _ _ _
     refine aw_ret ?_
     have hx19 : Ext H H16 := (Ext.trans (Ext.trans hx6 hx11) hx17)
     have hres : (Spec.mayMsg kind from_ to_ term index logterm commit yes es s_index s_term s_conf s_data) = false := by first | exact Spec.mayMsg_f1 (by omega) | exact Spec.mayMsg_f2 (by assumption) | exact Spec.mayMsg_f3 (by assumption) (by omega) (by omega) | (rw [Spec.mayMsg_last (by omega) (by assumption) (fun h => by first | omega | exact Bool.noConfusion (h.symm.trans (show yes = false by assumption)))]; rw [if_pos (by omega), show (Spec.decC s_conf).2 = false by assumption]; rfl)
     exact ⟨.bool false, rfl, by first | (rw [hres]; done) | rw [← hres], hx19⟩
    ·
     replace hb18 : (decide (1 ≤ to_ ∧ to_ ≤ 7)) = true := by rw [Bool.not_eq_false'] at hb18; exact hb18
     have hb18 := of_decide_eq_true hb18
     refine st_op (ev_fieldAddr rfl fa46_3 (o' := 3) rfl) rfl rfl rfl ?_
     have h20 := Ext.blk hx17 (by omega) h14
     refine st_op (ev_load rfl (lvar_one one2 h20 rfl)) rfl rfl rfl ?_
     obtain ⟨b21, H22, he23, b21e, H22n_, hm25, f24⟩ := mem_lit H16 (xs := ([.int .i64 term] : List Value)) (m := 1) (rows := [[.int .i64 term]]) rfl eok35 (by decide) (by decide) zf2 rfl (allLen rfl) rfl
     replace hm25 : My H16 H22 (some ⟨b21, 0, none⟩) 1 1 ([term].map i64c) := hm25
     refine st_op (he23 _ _ _ _ _ _ _ _ rfl) rfl rfl rfl ?_
     have hx26 : Ext H16 H22 := Ext.new (by omega) H22n_ f24
     have H22n : H16.next ≤ H22.next := hx26.1
     refine st_call rfl rfl rfl ent74 rfl rfl rfl ?_
     obtain ⟨_, H28, hs27, hs27v, hx29⟩ := raft_in_spec H22 1 (by decide) (some ⟨b21, 0, none⟩) ([term]) 1 (My.row hm25) (My.capF hm25 (by first | omega | (simp only [List.length_append, List.length_cons, List.length_nil, List.length_map, List.length_set, List.length_replicate, Spec.bytesOf_length]; omega) | (simp; omega))) (by first | omega | (simp only [List.length_append, List.length_cons, List.length_nil, List.length_map, List.length_set, List.length_replicate, Spec.bytesOf_length]; omega) | (simp; omega))
     rw [hs27v] at hs27; clear hs27v
     refine ⟨_, H28, hs27, ?_⟩
     have H28n : H22.next ≤ H28.next := hx29.1
     refine st_op (ev_not rfl) rfl rfl rfl ?_
     refine st_op (ev_pickF rfl rfl) rfl rfl rfl ?_
     refine st_op (ev_move rfl) rfl rfl rfl ?_
     refine st_bool 32 rfl (fun hb30 => ?_) (fun hb30 => ?_)
     ·
      replace hb30 : (Spec.inF (1 : Int) 1099511627776 ([term])) = false := by rw [Bool.not_eq_true'] at hb30; exact hb30
      have hb30m := Spec.inF_oneN hb30
      iterate 9 refine st_skip rfl rfl rfl ?_
      refine st_op (ev_pickT rfl rfl) rfl rfl rfl ?_
      refine st_op (ev_move rfl) rfl rfl rfl ?_
      iterate 3 refine st_skip rfl rfl rfl ?_
      refine st_op (ev_pickT rfl rfl) rfl rfl rfl ?_
      try show aw _ _ _ _ _ _
      refine aw_cond (t := true) rfl ?_
      try show aw _ _ _ _ _ _
      refine aw_seq ?_
      refine aw_reg ?_
      refine st_op (ev_assign rfl) rfl rfl rfl ?_
      try show aw _ _ _ _ _ _
      refine aw_ret ?_
      have hx31 : Ext H H28 := (Ext.trans (Ext.trans (Ext.trans (Ext.trans hx6 hx11) hx17) hx26) hx29)
      have hres : (Spec.mayMsg kind from_ to_ term index logterm commit yes es s_index s_term s_conf s_data) = false := by first | exact Spec.mayMsg_f1 (by omega) | exact Spec.mayMsg_f2 (by assumption) | exact Spec.mayMsg_f3 (by assumption) (by omega) (by omega) | (rw [Spec.mayMsg_last (by omega) (by assumption) (fun h => by first | omega | exact Bool.noConfusion (h.symm.trans (show yes = false by assumption)))]; rw [if_pos (by omega), show (Spec.decC s_conf).2 = false by assumption]; rfl)
      exact ⟨.bool false, rfl, by first | (rw [hres]; done) | rw [← hres], hx31⟩
     ·
      replace hb30 : (Spec.inF (1 : Int) 1099511627776 ([term])) = true := by rw [Bool.not_eq_false'] at hb30; exact hb30
      have hb30m := Spec.inF_one hb30
      refine st_op (ev_fieldAddr rfl fa46_4 (o' := 4) rfl) rfl rfl rfl ?_
      have hx33 : Ext H16 H28 := (Ext.trans hx26 hx29)
      have h32 := Ext.blk hx33 (by omega) h20
      refine st_op (ev_load rfl (lvar_one one2 h32 rfl)) rfl rfl rfl ?_
      refine st_op (ev_fieldAddr rfl fa46_5 (o' := 5) rfl) rfl rfl rfl ?_
      refine st_op (ev_load rfl (lvar_one one2 h32 rfl)) rfl rfl rfl ?_
      refine st_op (ev_fieldAddr rfl fa46_6 (o' := 6) rfl) rfl rfl rfl ?_
      refine st_op (ev_load rfl (lvar_one one2 h32 rfl)) rfl rfl rfl ?_
      obtain ⟨b34, H35, he36, b34e, H35n_, hm38, f37⟩ := mem_lit H28 (xs := ([.int .i64 index, .int .i64 logterm, .int .i64 commit] : List Value)) (m := 3) (rows := [[.int .i64 index], [.int .i64 logterm], [.int .i64 commit]]) rfl eok35 (by decide) (by decide) zf2 rfl (allLen rfl) rfl
      replace hm38 : My H28 H35 (some ⟨b34, 0, none⟩) 3 1 ([index, logterm, commit].map i64c) := hm38
      refine st_op (he36 _ _ _ _ _ _ _ _ rfl) rfl rfl rfl ?_
      have hx39 : Ext H28 H35 := Ext.new (by omega) H35n_ f37
      have H35n : H28.next ≤ H35.next := hx39.1
      refine st_call rfl rfl rfl ent74 rfl rfl rfl ?_
      obtain ⟨_, H41, hs40, hs40v, hx42⟩ := raft_in_spec H35 0 (by decide) (some ⟨b34, 0, none⟩) ([index, logterm, commit]) 3 (My.row hm38) (My.capF hm38 (by first | omega | (simp only [List.length_append, List.length_cons, List.length_nil, List.length_map, List.length_set, List.length_replicate, Spec.bytesOf_length]; omega) | (simp; omega))) (by first | omega | (simp only [List.length_append, List.length_cons, List.length_nil, List.length_map, List.length_set, List.length_replicate, Spec.bytesOf_length]; omega) | (simp; omega))
      rw [hs40v] at hs40; clear hs40v
      refine ⟨_, H41, hs40, ?_⟩
      have H41n : H35.next ≤ H41.next := hx42.1
      refine st_op (ev_not rfl) rfl rfl rfl ?_
      refine st_op (ev_pickF rfl rfl) rfl rfl rfl ?_
      refine st_op (ev_move rfl) rfl rfl rfl ?_
      refine st_bool 43 rfl (fun hb43 => ?_) (fun hb43 => ?_)
      ·
       replace hb43 : (Spec.inF (0 : Int) 1099511627776 ([index, logterm, commit])) = false := by rw [Bool.not_eq_true'] at hb43; exact hb43
       have hb43m := Spec.inF_threeN hb43
       iterate 3 refine st_skip rfl rfl rfl ?_
       refine st_op (ev_pickT rfl rfl) rfl rfl rfl ?_
       try show aw _ _ _ _ _ _
       refine aw_cond (t := true) rfl ?_
       try show aw _ _ _ _ _ _
       refine aw_seq ?_
       refine aw_reg ?_
       refine st_op (ev_assign rfl) rfl rfl rfl ?_
       try show aw _ _ _ _ _ _
       refine aw_ret ?_
       have hx44 : Ext H H41 := (Ext.trans (Ext.trans (Ext.trans (Ext.trans (Ext.trans (Ext.trans hx6 hx11) hx17) hx26) hx29) hx39) hx42)
       have hres : (Spec.mayMsg kind from_ to_ term index logterm commit yes es s_index s_term s_conf s_data) = false := by first | exact Spec.mayMsg_f1 (by omega) | exact Spec.mayMsg_f2 (by assumption) | exact Spec.mayMsg_f3 (by assumption) (by omega) (by omega) | (rw [Spec.mayMsg_last (by omega) (by assumption) (fun h => by first | omega | exact Bool.noConfusion (h.symm.trans (show yes = false by assumption)))]; rw [if_pos (by omega), show (Spec.decC s_conf).2 = false by assumption]; rfl)
       exact ⟨.bool false, rfl, by first | (rw [hres]; done) | rw [← hres], hx44⟩
      ·
       replace hb43 : (Spec.inF (0 : Int) 1099511627776 ([index, logterm, commit])) = true := by rw [Bool.not_eq_false'] at hb43; exact hb43
       have hb43m := Spec.inF_three hb43
       have hx46 : Ext H28 H41 := (Ext.trans hx39 hx42)
       have h45 := Ext.blk hx46 (by omega) h32
       refine st_op (ev_load rfl (lvar_part (l := [.int .i64 kind, .int .i64 from_, .int .i64 to_, .int .i64 term, .int .i64 index, .int .i64 logterm, .int .i64 commit, .bool yes, .slice esA es.length esc, .int .i64 s_index, .int .i64 s_term, .string s_conf, .string s_data]) many46 h45 rfl rfl (by decide))) rfl rfl rfl ?_
       refine st_call rfl rfl rfl ent75 rfl rfl rfl ?_
       have hx48 : Ext H H41 := (Ext.trans (Ext.trans (Ext.trans (Ext.trans (Ext.trans (Ext.trans hx6 hx11) hx17) hx26) hx29) hx39) hx42)
       have h47 := Row.ext hes hx48
       obtain ⟨_, H50, hs49, hs49v, hx51⟩ := raft_entries_spec H41 kind from_ to_ term index ⟨by omega, by omega⟩ logterm commit yes esA es esc h47 ces (by first | omega | (simp only [List.length_append, List.length_cons, List.length_nil, List.length_map, List.length_set, List.length_replicate, Spec.bytesOf_length]; omega) | (simp; omega)) s_index s_term s_conf (by first | omega | (simp only [List.length_append, List.length_cons, List.length_nil, List.length_map, List.length_set, List.length_replicate, Spec.bytesOf_length]; omega) | (simp; omega)) s_data (by first | omega | (simp only [List.length_append, List.length_cons, List.length_nil, List.length_map, List.length_set, List.length_replicate, Spec.bytesOf_length]; omega) | (simp; omega))
       rw [hs49v] at hs49; clear hs49v
       refine ⟨_, H50, hs49, ?_⟩
       have H50n : H41.next ≤ H50.next := hx51.1
       refine st_op (ev_not rfl) rfl rfl rfl ?_
       refine st_op (ev_pickF rfl rfl) rfl rfl rfl ?_
       try show aw _ _ _ _ _ _
       by_cases hc52 : (!(Spec.entR term index logterm es && decide (es.length ≤ 8 ∧ (es.length = 0 ∨ kind = 3)))) = true
       ·
        refine aw_condT hc52 rfl ?_
        try show aw _ _ _ _ _ _
        replace hc52 : (Spec.entR term index logterm es && decide (es.length ≤ 8 ∧ (es.length = 0 ∨ kind = 3))) = false := by rw [Bool.not_eq_true'] at hc52; exact hc52
        refine aw_seq ?_
        refine aw_reg ?_
        refine st_op (ev_assign rfl) rfl rfl rfl ?_
        try show aw _ _ _ _ _ _
        refine aw_ret ?_
        have hx53 : Ext H H50 := (Ext.trans hx48 hx51)
        have hres : (Spec.mayMsg kind from_ to_ term index logterm commit yes es s_index s_term s_conf s_data) = false := by first | exact Spec.mayMsg_f1 (by omega) | exact Spec.mayMsg_f2 (by assumption) | exact Spec.mayMsg_f3 (by assumption) (by omega) (by omega) | (rw [Spec.mayMsg_last (by omega) (by assumption) (fun h => by first | omega | exact Bool.noConfusion (h.symm.trans (show yes = false by assumption)))]; rw [if_pos (by omega), show (Spec.decC s_conf).2 = false by assumption]; rfl)
        exact ⟨.bool false, rfl, by first | (rw [hres]; done) | rw [← hres], hx53⟩
       ·
        rw [Bool.not_eq_true] at hc52; refine aw_condF hc52 rfl ?_
        try show aw _ _ _ _ _ _
        replace hc52 : (Spec.entR term index logterm es && decide (es.length ≤ 8 ∧ (es.length = 0 ∨ kind = 3))) = true := by rw [Bool.not_eq_false'] at hc52; exact hc52
        refine aw_skip ?_
        try show aw _ _ _ _ _ _
        iterate 2 refine aw_seq ?_
        refine aw_reg ?_
        refine st_op (ev_fieldAddr rfl fa46_7 (o' := 7) rfl) rfl rfl rfl ?_
        have h54 := Ext.blk hx51 (by omega) h45
        refine st_op (ev_load rfl (lvar_one one4 h54 rfl)) rfl rfl rfl ?_
        refine st_op (ev_move rfl) rfl rfl rfl ?_
        refine st_bool 50 rfl (fun hb55 => ?_) (fun hb55 => ?_)
        ·
         refine st_op (ev_fieldAddr rfl fa46_0 (o' := 0) rfl) rfl rfl rfl ?_
         refine st_op (ev_load rfl (lvar_one one3 h54 rfl)) rfl rfl rfl ?_
         refine st_op (ev_int rfl rfl rfl) rfl rfl rfl ?_
         refine st_op (ev_pickT rfl rfl) rfl rfl rfl ?_
         refine st_op (ev_move rfl) rfl rfl rfl ?_
         refine st_bool 55 rfl (fun hb56 => ?_) (fun hb56 => ?_)
         ·
          have hb56 : ¬ (kind = 2) := by simpa using hb56
          refine st_op (ev_fieldAddr rfl fa46_0 (o' := 0) rfl) rfl rfl rfl ?_
          refine st_op (ev_load rfl (lvar_one one3 h54 rfl)) rfl rfl rfl ?_
          refine st_op (ev_int rfl rfl rfl) rfl rfl rfl ?_
          refine st_op (ev_pickT rfl rfl) rfl rfl rfl ?_
          try show aw _ _ _ _ _ _
          by_cases hc57 : (kind != 4) = true
          ·
           refine aw_condT hc57 rfl ?_
           try show aw _ _ _ _ _ _
           have hc57 : ¬ (kind = 4) := by simpa using hc57
           refine aw_seq ?_
           refine aw_reg ?_
           refine st_op (ev_assign rfl) rfl rfl rfl ?_
           try show aw _ _ _ _ _ _
           refine aw_ret ?_
           have hx58 : Ext H H50 := (Ext.trans hx48 hx51)
           have hres : (Spec.mayMsg kind from_ to_ term index logterm commit yes es s_index s_term s_conf s_data) = false := by first | exact Spec.mayMsg_f1 (by omega) | exact Spec.mayMsg_f2 (by assumption) | exact Spec.mayMsg_f3 (by assumption) (by omega) (by omega) | (rw [Spec.mayMsg_last (by omega) (by assumption) (fun h => by first | omega | exact Bool.noConfusion (h.symm.trans (show yes = false by assumption)))]; rw [if_pos (by omega), show (Spec.decC s_conf).2 = false by assumption]; rfl)
           exact ⟨.bool false, rfl, by first | (rw [hres]; done) | rw [← hres], hx58⟩
          ·
           rw [Bool.not_eq_true] at hc57; refine aw_condF hc57 rfl ?_
           try show aw _ _ _ _ _ _
           have hc57 : (kind = 4) := by simpa using hc57
           refine aw_skip ?_
           try show aw _ _ _ _ _ _
           iterate 2 refine aw_seq ?_
           refine aw_reg ?_
           refine st_op (ev_fieldAddr rfl fa46_0 (o' := 0) rfl) rfl rfl rfl ?_
           refine st_op (ev_load rfl (lvar_one one3 h54 rfl)) rfl rfl rfl ?_
           refine st_op (ev_int rfl rfl rfl) rfl rfl rfl ?_
           try show aw _ _ _ _ _ _
           by_cases hc59 : (kind != 5) = true
           ·
            refine aw_condT hc59 rfl ?_
            try show aw _ _ _ _ _ _
            have hc59 : ¬ (kind = 5) := by simpa using hc59
            refine aw_seq ?_
            refine aw_reg ?_
            refine st_op (ev_fieldAddr rfl fa46_9 (o' := 9) rfl) rfl rfl rfl ?_
            refine st_op (ev_load rfl (lvar_part (l := [.int .i64 s_index, .int .i64 s_term, .string s_conf, .string s_data]) many44 h54 rfl rfl (by decide))) rfl rfl rfl ?_
            refine st_op (ev_build zero44 pl44 (parts := []) rfl (cs := [.int .i64 0, .int .i64 0, .string (⟨#[]⟩), .string (⟨#[]⟩)]) rfl) rfl rfl rfl ?_
            obtain ⟨q60, hq61, hi62⟩ : ∃ q, bin.eqCells [.int .i64 s_index, .int .i64 s_term, .string s_conf, .string s_data] [.int .i64 0, .int .i64 0, .string (⟨#[]⟩), .string (⟨#[]⟩)] = some q ∧ (q = true ↔ s_index = 0 ∧ s_term = 0 ∧ s_conf = (⟨#[]⟩ : ByteArray) ∧ s_data = (⟨#[]⟩ : ByteArray)) := ⟨_, rfl, by simp [Bool.and_eq_true, ba_beq]⟩
            refine st_op (ev_agg rfl rfl (by rw [eqt44, show fitAgg Try.prog 44 (#[.int .i64 s_index, .int .i64 s_term, .string s_conf, .string s_data] : Array Value).toList = true from fit44 s_index s_term s_conf s_data]; rfl) hq61 rfl) rfl rfl rfl ?_
            refine st_op (ev_assign rfl) rfl rfl rfl ?_
            try show aw _ _ _ _ _ _
            refine aw_ret ?_
            have hx63 : Ext H H50 := (Ext.trans hx48 hx51)
            have hres : (Spec.mayMsg kind from_ to_ term index logterm commit yes es s_index s_term s_conf s_data) = q60 := by rw [Spec.mayMsg_last (by omega) (by assumption) (fun h => by first | omega | exact Bool.noConfusion (h.symm.trans (show yes = false by assumption)))]; rw [if_neg (by omega)]; exact Spec.snap0_iff (by assumption)
            exact ⟨.bool q60, rfl, by first | (rw [hres]; done) | rw [← hres], hx63⟩
           ·
            rw [Bool.not_eq_true] at hc59; refine aw_condF hc59 rfl ?_
            try show aw _ _ _ _ _ _
            have hc59 : (kind = 5) := by simpa using hc59
            exfalso; omega
         ·
          have hb56 : (kind = 2) := by simpa using hb56
          iterate 3 refine st_skip rfl rfl rfl ?_
          refine st_op (ev_pickF rfl rfl) rfl rfl rfl ?_
          try show aw _ _ _ _ _ _
          refine aw_cond (t := false) rfl ?_
          try show aw _ _ _ _ _ _
          refine aw_skip ?_
          try show aw _ _ _ _ _ _
          iterate 2 refine aw_seq ?_
          refine aw_reg ?_
          refine st_op (ev_fieldAddr rfl fa46_0 (o' := 0) rfl) rfl rfl rfl ?_
          refine st_op (ev_load rfl (lvar_one one3 h54 rfl)) rfl rfl rfl ?_
          refine st_op (ev_int rfl rfl rfl) rfl rfl rfl ?_
          try show aw _ _ _ _ _ _
          by_cases hc64 : (kind != 5) = true
          ·
           refine aw_condT hc64 rfl ?_
           try show aw _ _ _ _ _ _
           have hc64 : ¬ (kind = 5) := by simpa using hc64
           refine aw_seq ?_
           refine aw_reg ?_
           refine st_op (ev_fieldAddr rfl fa46_9 (o' := 9) rfl) rfl rfl rfl ?_
           refine st_op (ev_load rfl (lvar_part (l := [.int .i64 s_index, .int .i64 s_term, .string s_conf, .string s_data]) many44 h54 rfl rfl (by decide))) rfl rfl rfl ?_
           refine st_op (ev_build zero44 pl44 (parts := []) rfl (cs := [.int .i64 0, .int .i64 0, .string (⟨#[]⟩), .string (⟨#[]⟩)]) rfl) rfl rfl rfl ?_
           obtain ⟨q65, hq66, hi67⟩ : ∃ q, bin.eqCells [.int .i64 s_index, .int .i64 s_term, .string s_conf, .string s_data] [.int .i64 0, .int .i64 0, .string (⟨#[]⟩), .string (⟨#[]⟩)] = some q ∧ (q = true ↔ s_index = 0 ∧ s_term = 0 ∧ s_conf = (⟨#[]⟩ : ByteArray) ∧ s_data = (⟨#[]⟩ : ByteArray)) := ⟨_, rfl, by simp [Bool.and_eq_true, ba_beq]⟩
           refine st_op (ev_agg rfl rfl (by rw [eqt44, show fitAgg Try.prog 44 (#[.int .i64 s_index, .int .i64 s_term, .string s_conf, .string s_data] : Array Value).toList = true from fit44 s_index s_term s_conf s_data]; rfl) hq66 rfl) rfl rfl rfl ?_
           refine st_op (ev_assign rfl) rfl rfl rfl ?_
           try show aw _ _ _ _ _ _
           refine aw_ret ?_
           have hx68 : Ext H H50 := (Ext.trans hx48 hx51)
           have hres : (Spec.mayMsg kind from_ to_ term index logterm commit yes es s_index s_term s_conf s_data) = q65 := by rw [Spec.mayMsg_last (by omega) (by assumption) (fun h => by first | omega | exact Bool.noConfusion (h.symm.trans (show yes = false by assumption)))]; rw [if_neg (by omega)]; exact Spec.snap0_iff (by assumption)
           exact ⟨.bool q65, rfl, by first | (rw [hres]; done) | rw [← hres], hx68⟩
          ·
           rw [Bool.not_eq_true] at hc64; refine aw_condF hc64 rfl ?_
           try show aw _ _ _ _ _ _
           have hc64 : (kind = 5) := by simpa using hc64
           exfalso; omega
        ·
         iterate 3 refine st_skip rfl rfl rfl ?_
         refine st_op (ev_pickF rfl rfl) rfl rfl rfl ?_
         refine st_op (ev_move rfl) rfl rfl rfl ?_
         iterate 3 refine st_skip rfl rfl rfl ?_
         refine st_op (ev_pickF rfl rfl) rfl rfl rfl ?_
         try show aw _ _ _ _ _ _
         refine aw_cond (t := false) rfl ?_
         try show aw _ _ _ _ _ _
         refine aw_skip ?_
         try show aw _ _ _ _ _ _
         iterate 2 refine aw_seq ?_
         refine aw_reg ?_
         refine st_op (ev_fieldAddr rfl fa46_0 (o' := 0) rfl) rfl rfl rfl ?_
         refine st_op (ev_load rfl (lvar_one one3 h54 rfl)) rfl rfl rfl ?_
         refine st_op (ev_int rfl rfl rfl) rfl rfl rfl ?_
         try show aw _ _ _ _ _ _
         by_cases hc69 : (kind != 5) = true
         ·
          refine aw_condT hc69 rfl ?_
          try show aw _ _ _ _ _ _
          have hc69 : ¬ (kind = 5) := by simpa using hc69
          refine aw_seq ?_
          refine aw_reg ?_
          refine st_op (ev_fieldAddr rfl fa46_9 (o' := 9) rfl) rfl rfl rfl ?_
          refine st_op (ev_load rfl (lvar_part (l := [.int .i64 s_index, .int .i64 s_term, .string s_conf, .string s_data]) many44 h54 rfl rfl (by decide))) rfl rfl rfl ?_
          refine st_op (ev_build zero44 pl44 (parts := []) rfl (cs := [.int .i64 0, .int .i64 0, .string (⟨#[]⟩), .string (⟨#[]⟩)]) rfl) rfl rfl rfl ?_
          obtain ⟨q70, hq71, hi72⟩ : ∃ q, bin.eqCells [.int .i64 s_index, .int .i64 s_term, .string s_conf, .string s_data] [.int .i64 0, .int .i64 0, .string (⟨#[]⟩), .string (⟨#[]⟩)] = some q ∧ (q = true ↔ s_index = 0 ∧ s_term = 0 ∧ s_conf = (⟨#[]⟩ : ByteArray) ∧ s_data = (⟨#[]⟩ : ByteArray)) := ⟨_, rfl, by simp [Bool.and_eq_true, ba_beq]⟩
          refine st_op (ev_agg rfl rfl (by rw [eqt44, show fitAgg Try.prog 44 (#[.int .i64 s_index, .int .i64 s_term, .string s_conf, .string s_data] : Array Value).toList = true from fit44 s_index s_term s_conf s_data]; rfl) hq71 rfl) rfl rfl rfl ?_
          refine st_op (ev_assign rfl) rfl rfl rfl ?_
          try show aw _ _ _ _ _ _
          refine aw_ret ?_
          have hx73 : Ext H H50 := (Ext.trans hx48 hx51)
          have hres : (Spec.mayMsg kind from_ to_ term index logterm commit yes es s_index s_term s_conf s_data) = q70 := by rw [Spec.mayMsg_last (by omega) (by assumption) (fun h => by first | omega | exact Bool.noConfusion (h.symm.trans (show yes = false by assumption)))]; rw [if_neg (by omega)]; exact Spec.snap0_iff (by assumption)
          exact ⟨.bool q70, rfl, by first | (rw [hres]; done) | rw [← hres], hx73⟩
         ·
          rw [Bool.not_eq_true] at hc69; refine aw_condF hc69 rfl ?_
          try show aw _ _ _ _ _ _
          have hc69 : (kind = 5) := by simpa using hc69
          refine aw_skip ?_
          try show aw _ _ _ _ _ _
          refine aw_seq ?_
          refine aw_reg ?_
          refine st_op (ev_fieldAddr rfl fa46_9 (o' := 9) rfl) rfl rfl rfl ?_
          refine st_op (ev_fieldAddr rfl fa44_2 (o' := 11) rfl) rfl rfl rfl ?_
          refine st_op (ev_load rfl (lvar_one one9 h54 rfl)) rfl rfl rfl ?_
          refine st_call rfl rfl rfl ent38 rfl rfl rfl ?_
          obtain ⟨_, H75, hs74, A77, c78, hs74v, hm79, hx76⟩ := conf_Decode_spec H50 s_conf (by omega)
          rw [hs74v] at hs74; clear hs74v
          refine ⟨_, H75, hs74, ?_⟩
          have H75n : H50.next ≤ H75.next := hx76.1
          refine st_op (ev_move rfl) rfl rfl rfl ?_
          iterate 2 refine st_op (ev_extract rfl rfl) rfl rfl rfl ?_
          iterate 2 refine st_op (ev_assign rfl) rfl rfl rfl ?_
          try show aw _ _ _ _ _ _
          refine aw_seq ?_
          refine aw_reg ?_
          iterate 2 refine st_op (ev_move rfl) rfl rfl rfl ?_
          refine st_bool 75 rfl (fun hb80 => ?_) (fun hb80 => ?_)
          ·
           refine st_op (ev_fieldAddr rfl fa46_9 (o' := 9) rfl) rfl rfl rfl ?_
           have h81 := Ext.blk hx76 (by omega) h54
           refine st_op (ev_load rfl (lvar_part (l := [.int .i64 s_index, .int .i64 s_term, .string s_conf, .string s_data]) many44 h81 rfl rfl (by decide))) rfl rfl rfl ?_
           refine st_call rfl rfl rfl ent76 rfl rfl rfl ?_
           obtain ⟨_, H83, hs82, A85, c86, hs82v, hm87, hq88, hq89, hq90, hx84⟩ := wal_PutSnap_spec H75 s_index s_term s_conf s_data
           rw [hs82v] at hs82; clear hs82v
           refine ⟨_, H83, hs82, ?_⟩
           have H83n : H75.next ≤ H83.next := hx84.1
           refine st_op (ev_nilSlNe rfl rfl Try.underlying74) rfl rfl rfl ?_
           refine st_op (ev_pickT rfl rfl) rfl rfl rfl ?_
           refine st_op (ev_assign rfl) rfl rfl rfl ?_
           try show aw _ _ _ _ _ _
           refine aw_ret ?_
           have hx91 : Ext H H83 := (Ext.trans (Ext.trans (Ext.trans hx48 hx51) hx76) hx84)
           have hres : (Spec.mayMsg kind from_ to_ term index logterm commit yes es s_index s_term s_conf s_data) = (!(Option.isNone A85)) := by rw [Spec.mayMsg_last (by omega) (by assumption) (fun h => by first | omega | exact Bool.noConfusion (h.symm.trans (show yes = false by assumption)))]; rw [if_pos (by omega), show (Spec.decC s_conf).2 = true by assumption, Bool.true_and]; exact (Spec.nil_iff (by assumption)).symm
           exact ⟨.bool (!(Option.isNone A85)), rfl, by first | (rw [hres]; done) | rw [← hres], hx91⟩
          ·
           iterate 4 refine st_skip rfl rfl rfl ?_
           refine st_op (ev_pickF rfl rfl) rfl rfl rfl ?_
           refine st_op (ev_assign rfl) rfl rfl rfl ?_
           try show aw _ _ _ _ _ _
           refine aw_ret ?_
           have hx92 : Ext H H75 := (Ext.trans (Ext.trans hx48 hx51) hx76)
           have hres : (Spec.mayMsg kind from_ to_ term index logterm commit yes es s_index s_term s_conf s_data) = false := by first | exact Spec.mayMsg_f1 (by omega) | exact Spec.mayMsg_f2 (by assumption) | exact Spec.mayMsg_f3 (by assumption) (by omega) (by omega) | (rw [Spec.mayMsg_last (by omega) (by assumption) (fun h => by first | omega | exact Bool.noConfusion (h.symm.trans (show yes = false by assumption)))]; rw [if_pos (by omega), show (Spec.decC s_conf).2 = false by assumption]; rfl)
           exact ⟨.bool false, rfl, by first | (rw [hres]; done) | rw [← hres], hx92⟩
theorem net_Send_spec (H : Heap) (lH : Heap) (lA : Option Addr) (l : List MsgC) (lc : Nat) (hl : My lH H lA lc 13 (l.map MsgC.cells)) (nl : lH.next ≤ H.next) (ll : l.length ≤ 400) (bl : Spec.Short l) (lE : Heap) (el : Each MsgC.sub lE H l) (nel : lE.next ≤ H.next) (n : Nat) (hn : n < H.next) (Bn : H.blk n = some ⟨[.slice lA l.length lc], 0, false, false⟩) (kind : Int) (from_ : Int) (to_ : Int) (term : Int) (index : Int) (logterm : Int) (commit : Int) (yes : Bool) (esA : Option Addr) (es : List Entry) (esc : Nat) (hes : Row H esA esc 4 (es.map Entry.cells)) (ces : es.length ≤ esc) (les : es.length ≤ 1048576) (s_index : Int) (s_term : Int) (s_conf : ByteArray) (hs_conf : s_conf.size ≤ 1073741824) (s_data : ByteArray) (hs_data : s_data.size ≤ 1073741824) : ∃ v H', Spec Try.prog 25 [.pointer (some ⟨n, 0, none⟩), .agg #[.int .i64 kind, .int .i64 from_, .int .i64 to_, .int .i64 term, .int .i64 index, .int .i64 logterm, .int .i64 commit, .bool yes, .slice esA es.length esc, .int .i64 s_index, .int .i64 s_term, .string s_conf, .string s_data]] H v H' ∧ (∃ rA1 rc1, ∃ rl1 : List MsgC, (v = .bool ((Spec.sendF (l.map MsgC.val) (⟨kind, from_, to_, term, index, logterm, commit, yes, es, ⟨s_index, s_term, s_conf, s_data⟩⟩ : Msg)).1)) ∧ (rl1.map MsgC.val = ((Spec.sendF (l.map MsgC.val) (⟨kind, from_, to_, term, index, logterm, commit, yes, es, ⟨s_index, s_term, s_conf, s_data⟩⟩ : Msg)).2)) ∧ (My lH H' rA1 rc1 13 (rl1.map MsgC.cells)) ∧ (Each MsgC.sub lE H' rl1) ∧ (H'.blk n = some ⟨[.slice rA1 rl1.length rc1], 0, false, false⟩) ∧ (Spec.Short rl1) ∧ ((Spec.sendF (l.map MsgC.val) (⟨kind, from_, to_, term, index, logterm, commit, yes, es, ⟨s_index, s_term, s_conf, s_data⟩⟩ : Msg)).2.length ≤ 400) ∧ (Fr (fun q => q = n ∨ (lH.next ≤ q ∧ q < H.next ∧ ZB H q 13)) H H')) := by
 refine spec_go2 E0_ok 31 (f := 25) Try.func25 rfl rfl rfl ?_
 refine aw_seq ?_
 refine aw_reg ?_
 obtain ⟨b1, H2, he3, b1e, H2n_, hB5, f4⟩ := mem_box (P := Try.prog) H (v := .agg #[.int .i64 kind, .int .i64 from_, .int .i64 to_, .int .i64 term, .int .i64 index, .int .i64 logterm, .int .i64 commit, .bool yes, .slice esA es.length esc, .int .i64 s_index, .int .i64 s_term, .string s_conf, .string s_data]) (cs := [.int .i64 kind, .int .i64 from_, .int .i64 to_, .int .i64 term, .int .i64 index, .int .i64 logterm, .int .i64 commit, .bool yes, .slice esA es.length esc, .int .i64 s_index, .int .i64 s_term, .string s_conf, .string s_data]) rfl rfl
 refine st_op (he3 _ _ _ _ _ _ _ _ _ rfl) rfl rfl rfl ?_
 have hx6 : Ext H H2 := Ext.new (by omega) H2n_ f4
 have H2n : H.next ≤ H2.next := hx6.1
 refine st_op (ev_assign rfl) rfl rfl rfl ?_
 try show aw _ _ _ _ _ _
 iterate 2 refine aw_seq ?_
 refine aw_reg ?_
 refine st_op (ev_move rfl) rfl rfl rfl ?_
 refine st_op (ev_nilEq rfl rfl Try.underlying41) rfl rfl rfl ?_
 refine st_op (ev_move rfl) rfl rfl rfl ?_
 refine st_op (ev_load rfl (lvar_part (l := [.int .i64 kind, .int .i64 from_, .int .i64 to_, .int .i64 term, .int .i64 index, .int .i64 logterm, .int .i64 commit, .bool yes, .slice esA es.length esc, .int .i64 s_index, .int .i64 s_term, .string s_conf, .string s_data]) many46 hB5 rfl rfl (by decide))) rfl rfl rfl ?_
 refine st_call rfl rfl rfl ent46 rfl rfl rfl ?_
 have h7 := Row.ext hes hx6
 obtain ⟨_, H9, hs8, hs8v, hx10⟩ := raft_May_spec H2 kind from_ to_ term index logterm commit yes esA es esc h7 ces (by omega) s_index s_term s_conf (by omega) s_data (by omega)
 rw [hs8v] at hs8; clear hs8v
 refine ⟨_, H9, hs8, ?_⟩
 have H9n : H2.next ≤ H9.next := hx10.1
 refine st_op (ev_not rfl) rfl rfl rfl ?_
 refine st_op (ev_pickF rfl rfl) rfl rfl rfl ?_
 refine st_op (ev_move rfl) rfl rfl rfl ?_
 refine st_bool 12 rfl (fun hb11 => ?_) (fun hb11 => ?_)
 ·
  replace hb11 : (Spec.mayMsg kind from_ to_ term index logterm commit yes es s_index s_term s_conf s_data) = false := by rw [Bool.not_eq_true'] at hb11; exact hb11
  iterate 6 refine st_skip rfl rfl rfl ?_
  refine st_op (ev_pickT rfl rfl) rfl rfl rfl ?_
  try show aw _ _ _ _ _ _
  refine aw_cond (t := true) rfl ?_
  try show aw _ _ _ _ _ _
  refine aw_seq ?_
  refine aw_reg ?_
  refine st_op (ev_assign rfl) rfl rfl rfl ?_
  try show aw _ _ _ _ _ _
  refine aw_ret ?_
  have hx13 : Ext H H9 := (Ext.trans hx6 hx10)
  have h12 := My.ext hl hx13
  have h14 := Each.ext el hx13
  have h15 := Ext.blk hx13 (by omega) Bn
  have hres : (Spec.sendF (l.map MsgC.val) (⟨kind, from_, to_, term, index, logterm, commit, yes, es, ⟨s_index, s_term, s_conf, s_data⟩⟩ : Msg)) = (false, (l.map MsgC.val)) := by first | rw [Spec.sendF, if_neg (fun h => Bool.noConfusion (h.1.symm.trans (show _ = false by assumption)))] | rw [Spec.sendF, if_neg (fun h => by have := h.2; rw [List.length_map] at this; omega)] | (rw [Spec.sendF, if_pos ⟨by assumption, by rw [List.length_map]; omega⟩, List.map_append]; rfl)
  exact ⟨.bool false, rfl, lA, lc, l, by first | (rw [hres]; first | done | rfl | simp; done) | rfl, (by (rw [hres]) <;> rfl), (by first | exact h12 | (rw [hres]; exact h12)), (by first | exact h14 | (rw [hres]; exact h14)), (by first | exact h15 | (rw [hres]; exact h15)), (by first | exact bl | exact Spec.short_snoc bl (Spec.may_es (by assumption))), (by exact Spec.send_le (by rw [List.length_map]; omega)), (Fr.trans (Fr.trans (Fr.refl (fun q => q = n ∨ (lH.next ≤ q ∧ q < H.next ∧ ZB H q 13)) H) (hx6.fr fun _ => False) (fun q hq (e : False) => e.elim)) (hx10.fr fun _ => False) (fun q hq (e : False) => e.elim))⟩
 ·
  replace hb11 : (Spec.mayMsg kind from_ to_ term index logterm commit yes es s_index s_term s_conf s_data) = true := by rw [Bool.not_eq_false'] at hb11; exact hb11
  refine st_op (ev_move rfl) rfl rfl rfl ?_
  refine st_op (ev_nilCheck rfl) rfl rfl rfl ?_
  refine st_op (ev_fieldAddr rfl fa73_0 (o' := 0) rfl) rfl rfl rfl ?_
  have hx17 : Ext H H9 := (Ext.trans hx6 hx10)
  have h16 := Ext.blk hx17 (by omega) Bn
  refine st_op (ev_load rfl (lvar_one one55 h16 rfl)) rfl rfl rfl ?_
  refine st_op (ev_lenSl rfl Try.underlying55) rfl rfl rfl ?_
  refine st_op (ev_int rfl rfl rfl) rfl rfl rfl ?_
  refine st_op (ev_pickF rfl rfl) rfl rfl rfl ?_
  try show aw _ _ _ _ _ _
  by_cases hc18 : (decide ((l.length : Int) ≥ 400)) = true
  ·
   refine aw_condT hc18 rfl ?_
   try show aw _ _ _ _ _ _
   have hc18 := of_decide_eq_true hc18
   refine aw_seq ?_
   refine aw_reg ?_
   refine st_op (ev_assign rfl) rfl rfl rfl ?_
   try show aw _ _ _ _ _ _
   refine aw_ret ?_
   have h19 := My.ext hl hx17
   have h20 := Each.ext el hx17
   have hres : (Spec.sendF (l.map MsgC.val) (⟨kind, from_, to_, term, index, logterm, commit, yes, es, ⟨s_index, s_term, s_conf, s_data⟩⟩ : Msg)) = (false, (l.map MsgC.val)) := by first | rw [Spec.sendF, if_neg (fun h => Bool.noConfusion (h.1.symm.trans (show _ = false by assumption)))] | rw [Spec.sendF, if_neg (fun h => by have := h.2; rw [List.length_map] at this; omega)] | (rw [Spec.sendF, if_pos ⟨by assumption, by rw [List.length_map]; omega⟩, List.map_append]; rfl)
   exact ⟨.bool false, rfl, lA, lc, l, by first | (rw [hres]; first | done | rfl | simp; done) | rfl, (by (rw [hres]) <;> rfl), (by first | exact h19 | (rw [hres]; exact h19)), (by first | exact h20 | (rw [hres]; exact h20)), (by first | exact h16 | (rw [hres]; exact h16)), (by first | exact bl | exact Spec.short_snoc bl (Spec.may_es (by assumption))), (by exact Spec.send_le (by rw [List.length_map]; omega)), (Fr.trans (Fr.trans (Fr.refl (fun q => q = n ∨ (lH.next ≤ q ∧ q < H.next ∧ ZB H q 13)) H) (hx6.fr fun _ => False) (fun q hq (e : False) => e.elim)) (hx10.fr fun _ => False) (fun q hq (e : False) => e.elim))⟩
  ·
   rw [Bool.not_eq_true] at hc18; refine aw_condF hc18 rfl ?_
   try show aw _ _ _ _ _ _
   have hc18 := of_decide_eq_false hc18
   refine aw_skip ?_
   try show aw _ _ _ _ _ _
   refine aw_seq ?_
   refine aw_marks (fun b => b < H9.next) [(false, false), (false, false), (false, false), (false, false), (true, false), (false, false), (false, true), (false, true), (false, false), (false, false), (false, false), (false, false)] mixed (by kernel_rfl) (by kernel_rfl) ?_
   iterate 2 refine sm_op (ev_move rfl) rfl rfl rfl ?_
   refine sm_op (ev_nilCheck rfl) rfl rfl rfl ?_
   refine sm_op (ev_fieldAddr rfl fa73_0 (o' := 0) rfl) rfl rfl rfl ?_
   refine sm_read (ev_load rfl (lvar_one one55 h16 rfl)) rfl rfl rfl (fun b hb => by cases hb; dsimp only <;> omega) ?_
   have h21 := Ext.blk hx10 (by omega) hB5
   refine sm_op (ev_load rfl (lvar_part (l := [.int .i64 kind, .int .i64 from_, .int .i64 to_, .int .i64 term, .int .i64 index, .int .i64 logterm, .int .i64 commit, .bool yes, .slice esA es.length esc, .int .i64 s_index, .int .i64 s_term, .string s_conf, .string s_data]) many46 h21 rfl rfl (by decide))) rfl rfl rfl ?_
   refine sm_call rfl rfl rfl ent43 rfl rfl rfl ?_
   have h22 := Row.ext h7 hx10
   obtain ⟨_, H24, hs23, A26, c27, hs23v, hm28, hx25⟩ := net_own_spec H9 kind from_ to_ term index logterm commit yes esA es esc h22 ces (by omega) s_index s_term s_conf s_data
   rw [hs23v] at hs23; clear hs23v
   refine ⟨_, H24, hs23, (fun _ b hb => hx25.2 b (by omega)), ?_⟩
   have H24n : H9.next ≤ H24.next := hx25.1
   obtain ⟨b29, H30, he31, b29e, H30n_, hm33, f32⟩ := mem_lit H24 (xs := ([.agg #[.int .i64 kind, .int .i64 from_, .int .i64 to_, .int .i64 term, .int .i64 index, .int .i64 logterm, .int .i64 commit, .bool yes, .slice A26 es.length c27, .int .i64 s_index, .int .i64 s_term, .string s_conf, .string s_data]] : List Value)) (m := 1) (rows := [[.int .i64 kind, .int .i64 from_, .int .i64 to_, .int .i64 term, .int .i64 index, .int .i64 logterm, .int .i64 commit, .bool yes, .slice A26 es.length c27, .int .i64 s_index, .int .i64 s_term, .string s_conf, .string s_data]]) rfl eok55 (by decide) (by decide) zf46 rfl (allLen rfl) rfl
   replace hm33 : My H24 H30 (some ⟨b29, 0, none⟩) 1 13 ([(⟨kind, from_, to_, term, index, logterm, commit, yes, es, A26, c27, (⟨s_index, s_term, s_conf, s_data⟩ : Snap)⟩ : MsgC)].map MsgC.cells) := hm33
   refine sm_act (he31 _ _ _ _ _ _ _ _ rfl) rfl rfl rfl (fun q hq => f32 q (by omega)) ?_
   have hx34 : Ext H24 H30 := Ext.new (by omega) H30n_ f32
   have H30n : H24.next ≤ H30.next := hx34.1
   have h36 := My.ext hm28 hx34
   have hE35 : Each MsgC.sub H9 H30 ([(⟨kind, from_, to_, term, index, logterm, commit, yes, es, A26, c27, (⟨s_index, s_term, s_conf, s_data⟩ : Snap)⟩ : MsgC)]) := Each.one h36
   have hx38 : Ext H H30 := (Ext.trans (Ext.trans hx17 hx25) hx34)
   have h37 := My.ext hl hx38
   obtain ⟨A39, c40, H41, W42, he43, hm44, hf45⟩ := mem_append (f := MsgC.cells) (old := l) (new := [(⟨kind, from_, to_, term, index, logterm, commit, yes, es, A26, c27, (⟨s_index, s_term, s_conf, s_data⟩ : Snap)⟩ : MsgC)]) (m := l.length) (mx := 1) (c := lc) (by first | rfl | simp) (by first | rfl | simp) eok55 (by decide) hl h37 (by omega) (((My.row hm33)).srcF (by decide) (by first | rfl | simp)) rfl MsgC.cells_len MsgC.cells_one (by first | omega | (simp only [List.length_append, List.length_cons, List.length_nil, List.length_map, List.length_set, List.length_replicate, Spec.bytesOf_length]; omega) | (simp; omega)) (by first | omega | (simp only [List.length_append, List.length_cons, List.length_nil, List.length_map, List.length_set, List.length_replicate, Spec.bytesOf_length]; omega) | (simp; omega))
   refine sm_op (he43 _ _ _ _ _ _ _ _ _ _ rfl rfl isrow55) rfl rfl rfl ?_
   have H41n : H30.next ≤ H41.next := hf45.1
   have h47 := Each.ext el hx38
   have h48 := Each.frS h47 hf45 (fun q hq e => (ZB.ne e.2.2 (show (13 : Nat) ≠ 4 by decide)))
   have h49 := Each.frS hE35 hf45 (fun q hq e => (ZB.ne e.2.2 (show (13 : Nat) ≠ 4 by decide)))
   have hE46 : Each MsgC.sub lE H41 (l ++ [(⟨kind, from_, to_, term, index, logterm, commit, yes, es, A26, c27, (⟨s_index, s_term, s_conf, s_data⟩ : Snap)⟩ : MsgC)]) := Each.append h48 (Each.older h49 (by omega))
   refine sm_op (ev_nilCheck rfl) rfl rfl rfl ?_
   refine sm_op (ev_fieldAddr rfl fa73_0 (o' := 0) rfl) rfl rfl rfl ?_
   have hx51 : Ext H9 H30 := (Ext.trans hx25 hx34)
   have h50 := Ext.blk hx51 (by omega) h16
   have h52 := Fr.blk hf45 (by omega) (fun e => (zb_ne h50 e.2.2 (show (0 : Nat) ≠ 13 by decide))) h50
   obtain ⟨H53, he54, H53n_, hB55, f56⟩ := mem_store (v := .slice A39 ((l ++ [(⟨kind, from_, to_, term, index, logterm, commit, yes, es, A26, c27, (⟨s_index, s_term, s_conf, s_data⟩ : Snap)⟩ : MsgC)]).length) c40) (o := 0) (cs' := [.slice A39 ((l ++ [(⟨kind, from_, to_, term, index, logterm, commit, yes, es, A26, c27, (⟨s_index, s_term, s_conf, s_data⟩ : Snap)⟩ : MsgC)]).length) c40]) 1 rfl rfl size55 h52 rfl rfl rfl
   refine sm_op0 (he54 _ _ _ _ _ _ _ _ _ rfl rfl) rfl rfl ?_
   have hf57 : Fr (fun q => q = n) H41 H53 := Fr.write H53n_ f56
   have H53n : H41.next ≤ H53.next := hf57.1
   try show aw _ _ _ _ _ _
   refine aw_seq ?_
   refine aw_reg ?_
   refine st_op (ev_assign rfl) rfl rfl rfl ?_
   try show aw _ _ _ _ _ _
   refine aw_ret ?_
   have h58 := My.frS hm44 hf57 (fun q hq e => ⟨_, e ▸ h52, show (0 : Nat) ≠ 13 by decide⟩)
   have h59 := Each.frS hE46 hf57 (fun q hq e => ⟨_, e ▸ h52, show (0 : Nat) ≠ 4 by decide⟩)
   have hres : (Spec.sendF (l.map MsgC.val) (⟨kind, from_, to_, term, index, logterm, commit, yes, es, ⟨s_index, s_term, s_conf, s_data⟩⟩ : Msg)) = (true, ((l ++ [(⟨kind, from_, to_, term, index, logterm, commit, yes, es, A26, c27, (⟨s_index, s_term, s_conf, s_data⟩ : Snap)⟩ : MsgC)]).map MsgC.val)) := by first | rw [Spec.sendF, if_neg (fun h => Bool.noConfusion (h.1.symm.trans (show _ = false by assumption)))] | rw [Spec.sendF, if_neg (fun h => by have := h.2; rw [List.length_map] at this; omega)] | (rw [Spec.sendF, if_pos ⟨by assumption, by rw [List.length_map]; omega⟩, List.map_append]; rfl)
   exact ⟨.bool true, rfl, A39, c40, (l ++ [(⟨kind, from_, to_, term, index, logterm, commit, yes, es, A26, c27, (⟨s_index, s_term, s_conf, s_data⟩ : Snap)⟩ : MsgC)]), by first | (rw [hres]; first | done | rfl | simp; done) | rfl, (by (rw [hres]) <;> rfl), (by first | exact h58 | (rw [hres]; exact h58)), (by first | exact h59 | (rw [hres]; exact h59)), (by first | exact hB55 | (rw [hres]; exact hB55)), (by first | exact bl | exact Spec.short_snoc bl (Spec.may_es (by assumption))), (by exact Spec.send_le (by rw [List.length_map]; omega)), (Fr.transG (Fr.transG (Fr.trans (Fr.trans (Fr.trans (Fr.trans (Fr.refl (fun q => q = n ∨ (lH.next ≤ q ∧ q < H.next ∧ ZB H q 13)) H) (hx6.fr fun _ => False) (fun q hq (e : False) => e.elim)) (hx10.fr fun _ => False) (fun q hq (e : False) => e.elim)) (hx25.fr fun _ => False) (fun q hq (e : False) => e.elim)) (hx34.fr fun _ => False) (fun q hq (e : False) => e.elim)) hf45 (fun q hq hE e => Or.inr ((⟨by omega, by omega, ZB.back hE e.2.2⟩)))) hf57 (fun q hq hE e => Or.inl (e)))⟩
theorem net_Send_specH (H : Heap) (lH : Heap) (lA : Option Addr) (l : List MsgC) (lc : Nat) (hl : My lH H lA lc 13 (l.map MsgC.cells)) (nl : lH.next ≤ H.next) (ll : l.length ≤ 400) (bl : Spec.Short l) (lE : Heap) (el : Each MsgC.sub lE H l) (nel : lE.next ≤ H.next) (n : Nat) (hn : n < H.next) (Bn : H.blk n = some ⟨[.slice lA l.length lc], 0, false, false⟩) (kind : Int) (from_ : Int) (to_ : Int) (term : Int) (index : Int) (logterm : Int) (commit : Int) (yes : Bool) (esA : Option Addr) (es : List Entry) (esc : Nat) (hes : Row H esA esc 4 (es.map Entry.cells)) (ces : es.length ≤ esc) (les : es.length ≤ 1048576) (s_index : Int) (s_term : Int) (s_conf : ByteArray) (hs_conf : s_conf.size ≤ 1073741824) (s_data : ByteArray) (hs_data : s_data.size ≤ 1073741824) (D : Nat → Prop) (hD : ∀ q, D q → ZB H q 13) (hDl : ∀ q, D q → q < H.next) (hlD : My lH (H.hide D) lA lc 13 (l.map MsgC.cells)) : ∃ v H', Spec Try.prog 25 [.pointer (some ⟨n, 0, none⟩), .agg #[.int .i64 kind, .int .i64 from_, .int .i64 to_, .int .i64 term, .int .i64 index, .int .i64 logterm, .int .i64 commit, .bool yes, .slice esA es.length esc, .int .i64 s_index, .int .i64 s_term, .string s_conf, .string s_data]] H v H' ∧ (∃ rA1 rc1, ∃ rl1 : List MsgC, (v = .bool ((Spec.sendF (l.map MsgC.val) (⟨kind, from_, to_, term, index, logterm, commit, yes, es, ⟨s_index, s_term, s_conf, s_data⟩⟩ : Msg)).1)) ∧ (rl1.map MsgC.val = ((Spec.sendF (l.map MsgC.val) (⟨kind, from_, to_, term, index, logterm, commit, yes, es, ⟨s_index, s_term, s_conf, s_data⟩⟩ : Msg)).2)) ∧ (My lH H' rA1 rc1 13 (rl1.map MsgC.cells)) ∧ (Each MsgC.sub lE H' rl1) ∧ (H'.blk n = some ⟨[.slice rA1 rl1.length rc1], 0, false, false⟩) ∧ (Spec.Short rl1) ∧ ((Spec.sendF (l.map MsgC.val) (⟨kind, from_, to_, term, index, logterm, commit, yes, es, ⟨s_index, s_term, s_conf, s_data⟩⟩ : Msg)).2.length ≤ 400) ∧ (My lH (H'.hide D) rA1 rc1 13 (rl1.map MsgC.cells)) ∧ (Fr (fun q => (q = n ∨ (lH.next ≤ q ∧ q < H.next ∧ ZB H q 13)) ∧ ¬ D q) H H')) := by
 obtain ⟨v, H1, hs, rA1, rc1, rl1, k0, k1, k2, k3, k4, k5, k6, k7⟩ := net_Send_spec (H.hide D) lH lA l lc hlD nl ll bl lE (el.hideN hD (by decide)) nel n hn (blk_hideN Bn hD (show (0 : Nat) ≠ 13 by decide)) kind from_ to_ term index logterm commit yes esA es esc (hes.hideN hD (by decide)) ces les s_index s_term s_conf hs_conf s_data hs_data
 have hW : ∀ q, D q → ¬ (q = n ∨ (lH.next ≤ q ∧ q < H.next ∧ ZB (H.hide D) q 13)) := fun q d e => e.elim (fun e => zb_ne Bn (e ▸ hD q d) (show (0 : Nat) ≠ 13 by decide)) (fun e => e.2.2.hide.1 d)
 have u := back_under k7 hW
 have u2 := back_under2 k7 hW hDl
 exact ⟨v, H.back D H1, hs.hide, rA1, rc1, rl1, k0, k1, (k2.under u), (k3.under u), (u.2 _ _ k4), k5, k6, k2.under u2, Fr.mono (back_fr k7) (fun q e => ⟨e.1.imp id (fun w => ⟨w.1, w.2.1, w.2.2.hide.2⟩), e.2⟩)⟩

theorem net_New_spec (H : Heap)  : ∃ v H', Spec Try.prog 29 [] H v H' ∧ (∃ rb0, (v = .pointer (some ⟨rb0, 0, none⟩)) ∧ (H.next ≤ rb0) ∧ (rb0 < H'.next) ∧ (H'.blk rb0 = some ⟨[.slice none 0 0], 0, false, false⟩) ∧ (Ext H H')) := by
 refine spec_go0 E0_ok 3 (f := 29) Try.func29 rfl rfl ?_
 refine aw_seq ?_
 refine aw_reg ?_
 refine st_op (ev_assign rfl) rfl rfl rfl ?_
 try show aw _ _ _ _ _ _
 refine aw_seq ?_
 refine aw_reg ?_
 refine st_op (ev_build zero73 pl73 (parts := []) rfl (cs := [.slice none 0 0]) rfl) rfl rfl rfl ?_
 obtain ⟨b1, H2, he3, b1e, H2n_, hB5, f4⟩ := mem_box (P := Try.prog) H (v := .agg #[.slice none 0 0]) (cs := [.slice none 0 0]) rfl rfl
 refine st_op (he3 _ _ _ _ _ _ _ _ _ rfl) rfl rfl rfl ?_
 have hx6 : Ext H H2 := Ext.new (by omega) H2n_ f4
 have H2n : H.next ≤ H2.next := hx6.1
 refine st_op (ev_assign rfl) rfl rfl rfl ?_
 try show aw _ _ _ _ _ _
 refine aw_ret ?_
 exact ⟨.pointer (some ⟨b1, 0, none⟩), rfl, b1, rfl, (by omega), (by omega), hB5, hx6⟩
theorem law25_begun_ran : okF (runF Try.prog X0 1000 40 24 [] Hp.nil) = true := by kernel_rfl
theorem law25_begun_spec (H : Heap) : ∃ v H', Spec Try.prog 24 [] H v H' ∧ (v = .bool true ∧ H' = H) := ⟨_, _, okF_any mixed law25_begun_ran H, rfl, rfl⟩
theorem law1_Cut_spec (H : Heap) (s : ByteArray) (n : Int) (hn : 0 ≤ n ∧ n ≤ 1099511627776) : ∃ v H', Spec Try.prog 78 [.string s, .int .i64 n] H v H' ∧ ((v = .string (cutB s n)) ∧ ((((cutB s n)).size : Int) ≤ n) ∧ (Ext H H')) := by
 refine spec_go2 E0_ok 13 (f := 78) Try.func78 rfl rfl rfl ?_
 refine aw_seq ?_
 refine aw_reg ?_
 refine st_op (ev_assign rfl) rfl rfl rfl ?_
 try show aw _ _ _ _ _ _
 iterate 2 refine aw_seq ?_
 refine aw_reg ?_
 refine st_op (ev_move rfl) rfl rfl rfl ?_
 refine st_op (ev_lenStr rfl Try.underlying9) rfl rfl rfl ?_
 refine st_op (ev_move rfl) rfl rfl rfl ?_
 refine st_op (ev_int rfl rfl rfl) rfl rfl rfl ?_
 try show aw _ _ _ _ _ _
 by_cases hc1 : (decide (((s).size : Int) > n)) = true
 ·
  refine aw_condT hc1 rfl ?_
  try show aw _ _ _ _ _ _
  have hc1 := of_decide_eq_true hc1
  refine aw_seq ?_
  refine aw_reg ?_
  iterate 2 refine st_op (ev_move rfl) rfl rfl rfl ?_
  refine st_op (ev_slStr Try.underlying9 rfl rfl rfl (bound_int (by omega) (by omega) rfl) rfl) rfl rfl rfl ?_
  refine st_op (ev_assign rfl) rfl rfl rfl ?_
  try show aw _ _ _ _ _ _
  refine aw_ret ?_
  have hres : (cutB s n) = ((s).extract 0 ((n).toNat)) := by first | rw [cutB, if_pos (by omega)] | rw [cutB, if_neg (by omega)]
  exact ⟨.string ((s).extract 0 ((n).toNat)), rfl, by first | (rw [hres]; done) | rw [← hres], (by exact cutB_size hn.1), (Ext.refl H)⟩
 ·
  rw [Bool.not_eq_true] at hc1; refine aw_condF hc1 rfl ?_
  try show aw _ _ _ _ _ _
  have hc1 := of_decide_eq_false hc1
  refine aw_skip ?_
  try show aw _ _ _ _ _ _
  refine aw_seq ?_
  refine aw_reg ?_
  refine st_op (ev_move rfl) rfl rfl rfl ?_
  refine st_op (ev_assign rfl) rfl rfl rfl ?_
  try show aw _ _ _ _ _ _
  refine aw_ret ?_
  have hres : (cutB s n) = s := by first | rw [cutB, if_pos (by omega)] | rw [cutB, if_neg (by omega)]
  exact ⟨.string s, rfl, by first | (rw [hres]; done) | rw [← hres], (by exact cutB_size hn.1), (Ext.refl H)⟩
theorem law21_Entries_spec (H : Heap) (esA : Option Addr) (es : List Entry) (esc : Nat) (hes : Row H esA esc 4 (es.map Entry.cells)) (ces : es.length ≤ esc) (les : es.length ≤ 140737488355328) (n : Int) (hn : 0 ≤ n ∧ n ≤ 1000) : ∃ v H', Spec Try.prog 50 [.slice esA es.length esc, .int .i64 n] H v H' ∧ (∃ rA0 rc0, (v = .slice rA0 (((es.take n.toNat).map Entry.cut).length) rc0) ∧ (My H H' rA0 rc0 4 (((es.take n.toNat).map Entry.cut).map Entry.cells)) ∧ ((((((es.take n.toNat).map Entry.cut)).length : Nat) : Int) ≤ n) ∧ (Ext H H')) := by
 refine spec_go2 E0_ok 32 (f := 50) Try.func50 rfl rfl rfl ?_
 refine aw_seq ?_
 refine aw_reg ?_
 refine st_op (ev_assign rfl) rfl rfl rfl ?_
 try show aw _ _ _ _ _ _
 refine aw_seq ?_
 refine aw_reg ?_
 refine st_op (ev_assign rfl) rfl rfl rfl ?_
 try show aw _ _ _ _ _ _
 iterate 2 refine aw_seq ?_
 refine aw_reg ?_
 refine st_op (ev_assign rfl) rfl rfl rfl ?_
 try show aw _ _ _ _ _ _
 refine aw_block ?_
 have hm2 : My H H none 0 4 (([] : List Entry).map Entry.cells) := .nil
 refine aw_keep [0, 1, 5, 6] (l' := (.cons 0 (.slice esA es.length esc) (.cons 1 (.int .i64 n) (.cons 5 (.slice none 0 0) (.cons 6 (.int .i64 0) .nil))))) (by repeat (first | exact Up.done | refine Up.then ?_ | refine Up.inBlock ?_)) rfl ?_
 refine aw_iter (α := Nat × Option Addr × Nat × List Entry × Heap) (fun a => es.length - a.1) (fun a => (.cons 0 (.slice esA es.length esc) (.cons 1 (.int .i64 n) (.cons 5 (.slice a.2.1 a.2.2.2.1.length a.2.2.1) (.cons 6 (.int .i64 (a.1 : Int)) .nil))))) (fun a => a.2.2.2.2) (fun a => (a.1 ≤ es.length) ∧ ((a.1 : Int) ≤ n) ∧ (a.2.2.2.1 = (es.take a.1).map Entry.cut) ∧ (My H a.2.2.2.2 a.2.1 a.2.2.1 4 (a.2.2.2.1.map Entry.cells)) ∧ (Ext H a.2.2.2.2)) (0, none, 0, ([] : List Entry), H) ⟨(show 0 ≤ es.length from Nat.zero_le _), (show (0 : Int) ≤ n from (by omega)), (show ([] : List Entry) = (es.take 0).map Entry.cut from rfl), (show My H H none 0 4 (([] : List Entry).map Entry.cells) from hm2), (show Ext H H from (Ext.refl H))⟩ ?_
 rintro ⟨i, A, cp, l, Hl1⟩ ⟨hi, hin, hl, hm3, hxl4⟩ ih5
 replace hi : i ≤ es.length := hi
 replace hin : (i : Int) ≤ n := hin
 replace hl : l = (es.take i).map Entry.cut := hl
 replace hm3 : My H Hl1 A cp 4 (l.map Entry.cells) := hm3
 replace hxl4 : Ext H Hl1 := hxl4
 show aw _ _ _ (RL _ (.cons 0 (.slice esA es.length esc) (.cons 1 (.int .i64 n) (.cons 5 (.slice A l.length cp) (.cons 6 (.int .i64 (i : Int)) .nil))))) Hl1 _
 have Hl1n : H.next ≤ Hl1.next := hxl4.1
 have hll : l.length = i := by rw [hl, List.length_map, List.length_take]; omega
 iterate 2 refine aw_seq ?_
 refine aw_reg ?_
 iterate 2 refine st_op (ev_move rfl) rfl rfl rfl ?_
 refine st_op (ev_lenSl rfl Try.underlying42) rfl rfl rfl ?_
 refine st_op (ev_int rfl rfl rfl) rfl rfl rfl ?_
 refine st_op (ev_move rfl) rfl rfl rfl ?_
 refine st_bool 12 rfl (fun hb6 => ?_) (fun hb6 => ?_)
 ·
  have hb6 := of_decide_eq_true hb6
  iterate 2 refine st_op (ev_move rfl) rfl rfl rfl ?_
  refine st_op (ev_int rfl rfl rfl) rfl rfl rfl ?_
  refine st_op (ev_pickT rfl rfl) rfl rfl rfl ?_
  try show aw _ _ _ _ _ _
  by_cases hc7 : (decide ((i : Int) < n)) = true
  ·
   refine aw_condT hc7 rfl ?_
   try show aw _ _ _ _ _ _
   have hc7 := of_decide_eq_true hc7
   refine aw_skip ?_
   try show aw _ _ _ _ _ _
   refine aw_seq ?_
   refine aw_block ?_
   refine aw_seq ?_
   refine aw_reg ?_
   iterate 2 refine st_op (ev_move rfl) rfl rfl rfl ?_
   have h8 := Row.ext hes hxl4
   have hi9 : 0 ≤ ((i : Int) : Int) := by omega
   have hi10 : ((i : Int) : Int) < ((es.length : Nat) : Int) := by omega
   obtain ⟨x11, hx12⟩ : ∃ e, es[i]? = some e := ⟨_, List.getElem?_eq_getElem (by omega)⟩
   refine st_op (ev_at rfl rfl h8 (getMap Entry.cells hx12) (by first | rfl | omega | simp) hi9 hi10 el42) rfl rfl rfl ?_
   refine st_op (ev_atN (cs := [.int .i64 x11.index, .int .i64 x11.term, .int .i64 x11.kind, .string x11.data]) rfl h8 (getMap Entry.cells hx12) many84 rfl rfl (by decide)) rfl rfl rfl ?_
   obtain ⟨b13, H14, he15, b13e, H14n_, hB17, f16⟩ := mem_alloc Hl1 zero84
   refine st_op (he15 _ _ _ _ _ _ _) rfl rfl rfl ?_
   have hx18 : Ext Hl1 H14 := Ext.new (by omega) H14n_ f16
   have H14n : Hl1.next ≤ H14.next := hx18.1
   obtain ⟨H19, he20, H19n_, hB21, f22⟩ := mem_store (v := .agg #[.int .i64 x11.index, .int .i64 x11.term, .int .i64 x11.kind, .string x11.data]) (o := 0) (cs' := [.int .i64 x11.index, .int .i64 x11.term, .int .i64 x11.kind, .string x11.data]) 4 rfl rfl size84 hB17 rfl rfl rfl
   refine st_op0 (he20 _ _ _ _ _ _ _ _ _ rfl rfl) rfl rfl ?_
   have hf23 : Fr (fun q => q = b13) H14 H19 := Fr.write H19n_ f22
   have H19n : H14.next ≤ H19.next := hf23.1
   try show aw _ _ _ _ _ _
   refine aw_seq ?_
   refine aw_reg ?_
   refine st_op (ev_fieldAddr rfl fa84_3 (o' := 3) rfl) rfl rfl rfl ?_
   refine st_op (ev_load rfl (lvar_one one9 hB21 rfl)) rfl rfl rfl ?_
   refine st_call rfl rfl rfl ent78 rfl rfl rfl ?_
   obtain ⟨_, H25, hs24, hs24v, hq27, hx26⟩ := law1_Cut_spec H19 x11.data 60 (by decide)
   rw [hs24v] at hs24; clear hs24v
   refine ⟨_, H25, hs24, ?_⟩
   have H25n : H19.next ≤ H25.next := hx26.1
   refine st_op (ev_fieldAddr rfl fa84_3 (o' := 3) rfl) rfl rfl rfl ?_
   have h28 := Ext.blk hx26 (by omega) hB21
   obtain ⟨H29, he30, H29n_, hB31, f32⟩ := mem_store (v := .string (cutB x11.data (60 : Int))) (o := 3) (cs' := [.int .i64 x11.index, .int .i64 x11.term, .int .i64 x11.kind, .string (cutB x11.data (60 : Int))]) 1 rfl rfl size9 h28 rfl rfl rfl
   refine st_op0 (he30 _ _ _ _ _ _ _ _ _ rfl rfl) rfl rfl ?_
   have hf33 : Fr (fun q => q = b13) H25 H29 := Fr.write H29n_ f32
   have H29n : H25.next ≤ H29.next := hf33.1
   try show aw _ _ _ _ _ _
   refine aw_reg ?_
   refine st_op (ev_move rfl) rfl rfl rfl ?_
   refine st_op (ev_load rfl (lvar_part (l := [.int .i64 x11.index, .int .i64 x11.term, .int .i64 x11.kind, .string (cutB x11.data (60 : Int))]) many84 hB31 rfl rfl (by decide))) rfl rfl rfl ?_
   obtain ⟨b34, H35, he36, b34e, H35n_, hm38, f37⟩ := mem_lit H29 (xs := ([.agg #[.int .i64 x11.index, .int .i64 x11.term, .int .i64 x11.kind, .string (cutB x11.data (60 : Int))]] : List Value)) (m := 1) (rows := [[.int .i64 x11.index, .int .i64 x11.term, .int .i64 x11.kind, .string (cutB x11.data (60 : Int))]]) rfl eok42 (by decide) (by decide) zf84 rfl (allLen rfl) rfl
   replace hm38 : My H29 H35 (some ⟨b34, 0, none⟩) 1 4 ([(⟨x11.index, x11.term, x11.kind, (cutB x11.data (60 : Int))⟩ : Entry)].map Entry.cells) := hm38
   refine st_op (he36 _ _ _ _ _ _ _ _ rfl) rfl rfl rfl ?_
   have hx39 : Ext H29 H35 := Ext.new (by omega) H35n_ f37
   have H35n : H29.next ≤ H35.next := hx39.1
   have hx41 : Ext Hl1 H35 := (Ext.trans (Ext.then (Ext.trans (Ext.then hx18 hf23 (fun q hq e => by omega)) hx26) hf33 (fun q hq e => by omega)) hx39)
   have h40 := My.ext hm3 hx41
   obtain ⟨A42, c43, H44, W45, he46, hm47, hf48⟩ := mem_append (f := Entry.cells) (old := l) (new := [(⟨x11.index, x11.term, x11.kind, (cutB x11.data (60 : Int))⟩ : Entry)]) (m := l.length) (mx := 1) (c := cp) (by first | rfl | simp) (by first | rfl | simp) eok42 (by decide) hm3 h40 (by omega) (((My.row hm38)).srcF (by decide) (by first | rfl | simp)) rfl Entry.cells_len Entry.cells_one (by first | omega | (simp only [List.length_append, List.length_cons, List.length_nil, List.length_map, List.length_set, List.length_replicate, Spec.bytesOf_length]; omega) | (simp; omega)) (by first | omega | (simp only [List.length_append, List.length_cons, List.length_nil, List.length_map, List.length_set, List.length_replicate, Spec.bytesOf_length]; omega) | (simp; omega))
   refine st_op (he46 _ _ _ _ _ _ _ _ _ _ rfl rfl isrow42) rfl rfl rfl ?_
   have H44n : H35.next ≤ H44.next := hf48.1
   refine st_op (ev_assign rfl) rfl rfl rfl ?_
   try show aw _ _ _ _ _ _
   refine aw_reg ?_
   refine st_op (ev_move rfl) rfl rfl rfl ?_
   refine st_op (ev_int64 (c := (i : Int) + 1) rfl rfl rfl (by omega) (by omega)) rfl rfl rfl ?_
   refine st_op (ev_assign rfl) rfl rfl rfl ?_
   try show aw _ _ _ _ _ _
   have hx49 : Ext H H44 := (Ext.then (Ext.trans (Ext.then (Ext.trans (Ext.then (Ext.trans hxl4 hx18) hf23 (fun q hq e => by omega)) hx26) hf33 (fun q hq e => by omega)) hx39) hf48 (fun q hq e => by omega))
   refine aw_keep [0, 1, 5, 6] (l' := (.cons 0 (.slice esA es.length esc) (.cons 1 (.int .i64 n) (.cons 5 (.slice A42 ((l ++ [(⟨x11.index, x11.term, x11.kind, (cutB x11.data (60 : Int))⟩ : Entry)]).length) c43) (.cons 6 (.int .i64 ((i : Int) + 1)) .nil))))) (by repeat (first | exact Up.done | refine Up.then ?_ | refine Up.inBlock ?_)) rfl ?_
   exact ih5 (i + 1, A42, c43, (l ++ [(⟨x11.index, x11.term, x11.kind, (cutB x11.data (60 : Int))⟩ : Entry)]), H44) ⟨(show (i + 1) ≤ es.length from (by omega)), (show ((i + 1) : Int) ≤ n from (by omega)), (show (l ++ [(⟨x11.index, x11.term, x11.kind, (cutB x11.data (60 : Int))⟩ : Entry)]) = (es.take (i + 1)).map Entry.cut from (by rw [List.take_add_one, List.map_append, ← hl, hx12]; rfl)), (show My H H44 A42 c43 4 ((l ++ [(⟨x11.index, x11.term, x11.kind, (cutB x11.data (60 : Int))⟩ : Entry)]).map Entry.cells) from hm47), (show Ext H H44 from hx49)⟩ (by simp only; omega)
  ·
   rw [Bool.not_eq_true] at hc7; refine aw_condF hc7 rfl ?_
   try show aw _ _ _ _ _ _
   have hc7 := of_decide_eq_false hc7
   refine aw_exit ?_
   try show aw _ _ _ _ _ _
   refine aw_seq ?_
   refine aw_reg ?_
   refine st_op (ev_move rfl) rfl rfl rfl ?_
   refine st_op (ev_assign rfl) rfl rfl rfl ?_
   try show aw _ _ _ _ _ _
   refine aw_ret ?_
   have hres : ((es.take n.toNat).map Entry.cut) = l := by rw [hl]; congr 1; rw [List.take_eq_take_iff]; omega
   exact ⟨.slice A l.length cp, rfl, A, cp, by first | (rw [hres]; first | done | rfl | simp; done) | rfl, (by rw [hres]; exact hm3), (by rw [List.length_map, List.length_take]; omega), hxl4⟩
 ·
  have hb6 := of_decide_eq_false hb6
  iterate 3 refine st_skip rfl rfl rfl ?_
  refine st_op (ev_pickF rfl rfl) rfl rfl rfl ?_
  try show aw _ _ _ _ _ _
  refine aw_cond (t := false) rfl ?_
  try show aw _ _ _ _ _ _
  refine aw_exit ?_
  try show aw _ _ _ _ _ _
  refine aw_seq ?_
  refine aw_reg ?_
  refine st_op (ev_move rfl) rfl rfl rfl ?_
  refine st_op (ev_assign rfl) rfl rfl rfl ?_
  try show aw _ _ _ _ _ _
  refine aw_ret ?_
  have hres : ((es.take n.toNat).map Entry.cut) = l := by rw [hl]; congr 1; rw [List.take_eq_take_iff]; omega
  exact ⟨.slice A l.length cp, rfl, A, cp, by first | (rw [hres]; first | done | rfl | simp; done) | rfl, (by rw [hres]; exact hm3), (by rw [List.length_map, List.length_take]; omega), hxl4⟩
theorem law21_Snap_spec (H : Heap) (s_index : Int) (s_term : Int) (s_conf : ByteArray) (s_data : ByteArray) : ∃ v H', Spec Try.prog 51 [.agg #[.int .i64 s_index, .int .i64 s_term, .string s_conf, .string s_data]] H v H' ∧ ((v = .agg #[.int .i64 s_index, .int .i64 s_term, .string ((cutB s_conf 60, cutB s_data 100).1), .string ((cutB s_conf 60, cutB s_data 100).2)]) ∧ (((((cutB s_conf 60, cutB s_data 100)).1.size : Nat) : Int) ≤ 60) ∧ (((((cutB s_conf 60, cutB s_data 100)).2.size : Nat) : Int) ≤ 100) ∧ (Ext H H')) := by
 refine spec_go1 E0_ok 12 (f := 51) Try.func51 rfl rfl rfl ?_
 refine aw_seq ?_
 refine aw_reg ?_
 obtain ⟨b1, H2, he3, b1e, H2n_, hB5, f4⟩ := mem_box (P := Try.prog) H (v := .agg #[.int .i64 s_index, .int .i64 s_term, .string s_conf, .string s_data]) (cs := [.int .i64 s_index, .int .i64 s_term, .string s_conf, .string s_data]) rfl rfl
 refine st_op (he3 _ _ _ _ _ _ _ _ _ rfl) rfl rfl rfl ?_
 have hx6 : Ext H H2 := Ext.new (by omega) H2n_ f4
 have H2n : H.next ≤ H2.next := hx6.1
 obtain ⟨b7, H8, he9, b7e, H8n_, hB11, f10⟩ := mem_alloc H2 zero44
 refine st_op (he9 _ _ _ _ _ _ _) rfl rfl rfl ?_
 have hx12 : Ext H2 H8 := Ext.new (by omega) H8n_ f10
 have H8n : H2.next ≤ H8.next := hx12.1
 try show aw _ _ _ _ _ _
 refine aw_seq ?_
 refine aw_marks (fun b => b < H8.next) [(false, false), (false, false), (false, true), (false, false), (true, false), (false, false), (false, false), (false, false), (false, false), (false, false)] mixed (by kernel_rfl) (by kernel_rfl) ?_
 refine sm_op (ev_fieldAddr rfl fa44_2 (o' := 2) rfl) rfl rfl rfl ?_
 have h13 := Ext.blk hx12 (by omega) hB5
 refine sm_op (ev_load rfl (lvar_one one9 h13 rfl)) rfl rfl rfl ?_
 refine sm_call rfl rfl rfl ent78 rfl rfl rfl ?_
 obtain ⟨_, H15, hs14, hs14v, hq17, hx16⟩ := law1_Cut_spec H8 s_conf 60 (by decide)
 rw [hs14v] at hs14; clear hs14v
 refine ⟨_, H15, hs14, (fun _ b hb => hx16.2 b (by omega)), ?_⟩
 have H15n : H8.next ≤ H15.next := hx16.1
 refine sm_op (ev_fieldAddr rfl fa44_3 (o' := 3) rfl) rfl rfl rfl ?_
 have h18 := Ext.blk hx16 (by omega) h13
 refine sm_read (ev_load rfl (lvar_one one9 h18 rfl)) rfl rfl rfl (fun b hb => by cases hb; dsimp only <;> omega) ?_
 refine sm_call rfl rfl rfl ent78 rfl rfl rfl ?_
 obtain ⟨_, H20, hs19, hs19v, hq22, hx21⟩ := law1_Cut_spec H15 s_data 100 (by decide)
 rw [hs19v] at hs19; clear hs19v
 refine ⟨_, H20, hs19, (fun _ b hb => hx21.2 b (by omega)), ?_⟩
 have H20n : H15.next ≤ H20.next := hx21.1
 refine sm_op (ev_fieldAddr rfl fa44_2 (o' := 2) rfl) rfl rfl rfl ?_
 have h23 := Ext.blk hx21 (by omega) h18
 obtain ⟨H24, he25, H24n_, hB26, f27⟩ := mem_store (v := .string (cutB s_conf (60 : Int))) (o := 2) (cs' := [.int .i64 s_index, .int .i64 s_term, .string (cutB s_conf (60 : Int)), .string s_data]) 1 rfl rfl size9 h23 rfl rfl rfl
 refine sm_op0 (he25 _ _ _ _ _ _ _ _ _ rfl rfl) rfl rfl ?_
 have hf28 : Fr (fun q => q = b1) H20 H24 := Fr.write H24n_ f27
 have H24n : H20.next ≤ H24.next := hf28.1
 refine sm_op (ev_fieldAddr rfl fa44_3 (o' := 3) rfl) rfl rfl rfl ?_
 obtain ⟨H29, he30, H29n_, hB31, f32⟩ := mem_store (v := .string (cutB s_data (100 : Int))) (o := 3) (cs' := [.int .i64 s_index, .int .i64 s_term, .string (cutB s_conf (60 : Int)), .string (cutB s_data (100 : Int))]) 1 rfl rfl size9 hB26 rfl rfl rfl
 refine sm_op0 (he30 _ _ _ _ _ _ _ _ _ rfl rfl) rfl rfl ?_
 have hf33 : Fr (fun q => q = b1) H24 H29 := Fr.write H29n_ f32
 have H29n : H24.next ≤ H29.next := hf33.1
 try show aw _ _ _ _ _ _
 refine aw_seq ?_
 refine aw_reg ?_
 refine st_op (ev_load rfl (lvar_part (l := [.int .i64 s_index, .int .i64 s_term, .string (cutB s_conf (60 : Int)), .string (cutB s_data (100 : Int))]) many44 hB31 rfl rfl (by decide))) rfl rfl rfl ?_
 have hx35 : Ext H8 H20 := (Ext.trans hx16 hx21)
 have h34 := Ext.blk hx35 (by omega) hB11
 have h36 := Fr.blk hf28 (by omega) (fun e => (by omega)) h34
 have h37 := Fr.blk hf33 (by omega) (fun e => (by omega)) h36
 obtain ⟨H38, he39, H38n_, hB40, f41⟩ := mem_store (v := .agg #[.int .i64 s_index, .int .i64 s_term, .string (cutB s_conf (60 : Int)), .string (cutB s_data (100 : Int))]) (o := 0) (cs' := [.int .i64 s_index, .int .i64 s_term, .string (cutB s_conf (60 : Int)), .string (cutB s_data (100 : Int))]) 4 rfl rfl size44 h37 rfl rfl rfl
 refine st_op0 (he39 _ _ _ _ _ _ _ _ _ rfl rfl) rfl rfl ?_
 have hf42 : Fr (fun q => q = b7) H29 H38 := Fr.write H38n_ f41
 have H38n : H29.next ≤ H38.next := hf42.1
 try show aw _ _ _ _ _ _
 refine aw_ret ?_
 have hx43 : Ext H H38 := (Ext.then (Ext.then (Ext.then (Ext.trans (Ext.trans (Ext.trans hx6 hx12) hx16) hx21) hf28 (fun q hq e => by omega)) hf33 (fun q hq e => by omega)) hf42 (fun q hq e => by omega))
 have hres : (cutB s_conf 60, cutB s_data 100) = ((cutB s_conf (60 : Int)), (cutB s_data (100 : Int))) := by rfl
 exact ⟨.agg #[.int .i64 s_index, .int .i64 s_term, .string (cutB s_conf (60 : Int)), .string (cutB s_data (100 : Int))], (resA_of (resL_cell rfl (lvar_part (l := [.int .i64 s_index, .int .i64 s_term, .string (cutB s_conf (60 : Int)), .string (cutB s_data (100 : Int))]) many44 hB40 rfl rfl (by decide)) resL_nil) rfl), by first | (rw [hres]; done) | rw [← hres], (by exact cutB_size (by decide)), (by exact cutB_size (by decide)), hx43⟩
theorem law24_Cut_spec (H : Heap) (kind : Int) (from_ : Int) (to_ : Int) (term : Int) (index : Int) (logterm : Int) (commit : Int) (yes : Bool) (esA : Option Addr) (es : List Entry) (esc : Nat) (hes : Row H esA esc 4 (es.map Entry.cells)) (ces : es.length ≤ esc) (les : es.length ≤ 140737488355328) (s_index : Int) (s_term : Int) (s_conf : ByteArray) (s_data : ByteArray) : ∃ v H', Spec Try.prog 30 [.agg #[.int .i64 kind, .int .i64 from_, .int .i64 to_, .int .i64 term, .int .i64 index, .int .i64 logterm, .int .i64 commit, .bool yes, .slice esA es.length esc, .int .i64 s_index, .int .i64 s_term, .string s_conf, .string s_data]] H v H' ∧ (∃ rA8 rc8, (v = .agg #[.int .i64 kind, .int .i64 from_, .int .i64 to_, .int .i64 term, .int .i64 index, .int .i64 logterm, .int .i64 commit, .bool yes, .slice rA8 (((((es.take 10).map Entry.cut), cutB s_conf 60, cutB s_data 100).1).length) rc8, .int .i64 s_index, .int .i64 s_term, .string ((((es.take 10).map Entry.cut), cutB s_conf 60, cutB s_data 100).2.1), .string ((((es.take 10).map Entry.cut), cutB s_conf 60, cutB s_data 100).2.2)]) ∧ (My H H' rA8 rc8 4 (((((es.take 10).map Entry.cut), cutB s_conf 60, cutB s_data 100).1).map Entry.cells)) ∧ (((((((es.take 10).map Entry.cut), cutB s_conf 60, cutB s_data 100)).1.length : Nat) : Int) ≤ 10) ∧ (((((((es.take 10).map Entry.cut), cutB s_conf 60, cutB s_data 100)).2.1.size : Nat) : Int) ≤ 60) ∧ (((((((es.take 10).map Entry.cut), cutB s_conf 60, cutB s_data 100)).2.2.size : Nat) : Int) ≤ 100) ∧ (Ext H H')) := by
 refine spec_go1 E0_ok 12 (f := 30) Try.func30 rfl rfl rfl ?_
 refine aw_seq ?_
 refine aw_reg ?_
 obtain ⟨b1, H2, he3, b1e, H2n_, hB5, f4⟩ := mem_box (P := Try.prog) H (v := .agg #[.int .i64 kind, .int .i64 from_, .int .i64 to_, .int .i64 term, .int .i64 index, .int .i64 logterm, .int .i64 commit, .bool yes, .slice esA es.length esc, .int .i64 s_index, .int .i64 s_term, .string s_conf, .string s_data]) (cs := [.int .i64 kind, .int .i64 from_, .int .i64 to_, .int .i64 term, .int .i64 index, .int .i64 logterm, .int .i64 commit, .bool yes, .slice esA es.length esc, .int .i64 s_index, .int .i64 s_term, .string s_conf, .string s_data]) rfl rfl
 refine st_op (he3 _ _ _ _ _ _ _ _ _ rfl) rfl rfl rfl ?_
 have hx6 : Ext H H2 := Ext.new (by omega) H2n_ f4
 have H2n : H.next ≤ H2.next := hx6.1
 obtain ⟨b7, H8, he9, b7e, H8n_, hB11, f10⟩ := mem_alloc H2 zero46
 refine st_op (he9 _ _ _ _ _ _ _) rfl rfl rfl ?_
 have hx12 : Ext H2 H8 := Ext.new (by omega) H8n_ f10
 have H8n : H2.next ≤ H8.next := hx12.1
 try show aw _ _ _ _ _ _
 refine aw_seq ?_
 refine aw_reg ?_
 refine st_op (ev_fieldAddr rfl fa46_8 (o' := 8) rfl) rfl rfl rfl ?_
 have h13 := Ext.blk hx12 (by omega) hB5
 refine st_op (ev_load rfl (lvar_one one42 h13 rfl)) rfl rfl rfl ?_
 refine st_call rfl rfl rfl ent50 rfl rfl rfl ?_
 have hx15 : Ext H H8 := (Ext.trans hx6 hx12)
 have h14 := Row.ext hes hx15
 obtain ⟨_, H17, hs16, A19, c20, hs16v, hm21, hq22, hx18⟩ := law21_Entries_spec H8 esA es esc h14 ces (by omega) 10 (by decide)
 rw [hs16v] at hs16; clear hs16v
 refine ⟨_, H17, hs16, ?_⟩
 have H17n : H8.next ≤ H17.next := hx18.1
 refine st_op (ev_fieldAddr rfl fa46_8 (o' := 8) rfl) rfl rfl rfl ?_
 have h23 := Ext.blk hx18 (by omega) h13
 obtain ⟨H24, he25, H24n_, hB26, f27⟩ := mem_store (v := .slice A19 (((es.take (10 : Int).toNat).map Entry.cut).length) c20) (o := 8) (cs' := [.int .i64 kind, .int .i64 from_, .int .i64 to_, .int .i64 term, .int .i64 index, .int .i64 logterm, .int .i64 commit, .bool yes, .slice A19 (((es.take (10 : Int).toNat).map Entry.cut).length) c20, .int .i64 s_index, .int .i64 s_term, .string s_conf, .string s_data]) 1 rfl rfl size42 h23 rfl rfl rfl
 refine st_op0 (he25 _ _ _ _ _ _ _ _ _ rfl rfl) rfl rfl ?_
 have hf28 : Fr (fun q => q = b1) H17 H24 := Fr.write H24n_ f27
 have H24n : H17.next ≤ H24.next := hf28.1
 try show aw _ _ _ _ _ _
 refine aw_seq ?_
 refine aw_reg ?_
 refine st_op (ev_fieldAddr rfl fa46_9 (o' := 9) rfl) rfl rfl rfl ?_
 refine st_op (ev_load rfl (lvar_part (l := [.int .i64 s_index, .int .i64 s_term, .string s_conf, .string s_data]) many44 hB26 rfl rfl (by decide))) rfl rfl rfl ?_
 refine st_call rfl rfl rfl ent51 rfl rfl rfl ?_
 obtain ⟨_, H30, hs29, hs29v, hq32, hq33, hx31⟩ := law21_Snap_spec H24 s_index s_term s_conf s_data
 rw [hs29v] at hs29; clear hs29v
 refine ⟨_, H30, hs29, ?_⟩
 have H30n : H24.next ≤ H30.next := hx31.1
 refine st_op (ev_fieldAddr rfl fa46_9 (o' := 9) rfl) rfl rfl rfl ?_
 have h34 := Ext.blk hx31 (by omega) hB26
 obtain ⟨H35, he36, H35n_, hB37, f38⟩ := mem_store (v := .agg #[.int .i64 s_index, .int .i64 s_term, .string ((cutB s_conf 60, cutB s_data 100).1), .string ((cutB s_conf 60, cutB s_data 100).2)]) (o := 9) (cs' := [.int .i64 kind, .int .i64 from_, .int .i64 to_, .int .i64 term, .int .i64 index, .int .i64 logterm, .int .i64 commit, .bool yes, .slice A19 (((es.take (10 : Int).toNat).map Entry.cut).length) c20, .int .i64 s_index, .int .i64 s_term, .string ((cutB s_conf 60, cutB s_data 100).1), .string ((cutB s_conf 60, cutB s_data 100).2)]) 4 rfl rfl size44 h34 rfl rfl rfl
 refine st_op0 (he36 _ _ _ _ _ _ _ _ _ rfl rfl) rfl rfl ?_
 have hf39 : Fr (fun q => q = b1) H30 H35 := Fr.write H35n_ f38
 have H35n : H30.next ≤ H35.next := hf39.1
 try show aw _ _ _ _ _ _
 refine aw_seq ?_
 refine aw_reg ?_
 refine st_op (ev_load rfl (lvar_part (l := [.int .i64 kind, .int .i64 from_, .int .i64 to_, .int .i64 term, .int .i64 index, .int .i64 logterm, .int .i64 commit, .bool yes, .slice A19 (((es.take (10 : Int).toNat).map Entry.cut).length) c20, .int .i64 s_index, .int .i64 s_term, .string ((cutB s_conf 60, cutB s_data 100).1), .string ((cutB s_conf 60, cutB s_data 100).2)]) many46 hB37 rfl rfl (by decide))) rfl rfl rfl ?_
 have h40 := Ext.blk hx18 (by omega) hB11
 have h41 := Fr.blk hf28 (by omega) (fun e => (by omega)) h40
 have h42 := Ext.blk hx31 (by omega) h41
 have h43 := Fr.blk hf39 (by omega) (fun e => (by omega)) h42
 obtain ⟨H44, he45, H44n_, hB46, f47⟩ := mem_store (v := .agg #[.int .i64 kind, .int .i64 from_, .int .i64 to_, .int .i64 term, .int .i64 index, .int .i64 logterm, .int .i64 commit, .bool yes, .slice A19 (((es.take (10 : Int).toNat).map Entry.cut).length) c20, .int .i64 s_index, .int .i64 s_term, .string ((cutB s_conf 60, cutB s_data 100).1), .string ((cutB s_conf 60, cutB s_data 100).2)]) (o := 0) (cs' := [.int .i64 kind, .int .i64 from_, .int .i64 to_, .int .i64 term, .int .i64 index, .int .i64 logterm, .int .i64 commit, .bool yes, .slice A19 (((es.take (10 : Int).toNat).map Entry.cut).length) c20, .int .i64 s_index, .int .i64 s_term, .string ((cutB s_conf 60, cutB s_data 100).1), .string ((cutB s_conf 60, cutB s_data 100).2)]) 13 rfl rfl size46 h43 rfl rfl rfl
 refine st_op0 (he45 _ _ _ _ _ _ _ _ _ rfl rfl) rfl rfl ?_
 have hf48 : Fr (fun q => q = b7) H35 H44 := Fr.write H44n_ f47
 have H44n : H35.next ≤ H44.next := hf48.1
 try show aw _ _ _ _ _ _
 refine aw_ret ?_
 have h49 := My.frS hm21 hf28 (fun q hq e => ⟨_, e ▸ h23, show (0 : Nat) ≠ 4 by decide⟩)
 have h50 := My.ext h49 hx31
 have h51 := My.frS h50 hf39 (fun q hq e => ⟨_, e ▸ h34, show (0 : Nat) ≠ 4 by decide⟩)
 have h52 := My.frS h51 hf48 (fun q hq e => ⟨_, e ▸ h43, show (0 : Nat) ≠ 4 by decide⟩)
 have hx53 : Ext H H44 := (Ext.then (Ext.then (Ext.trans (Ext.then (Ext.trans hx15 hx18) hf28 (fun q hq e => by omega)) hx31) hf39 (fun q hq e => by omega)) hf48 (fun q hq e => by omega))
 have hres : (((es.take 10).map Entry.cut), cutB s_conf 60, cutB s_data 100) = (((es.take (10 : Int).toNat).map Entry.cut), ((cutB s_conf 60, cutB s_data 100).1), ((cutB s_conf 60, cutB s_data 100).2)) := by rfl
 exact ⟨.agg #[.int .i64 kind, .int .i64 from_, .int .i64 to_, .int .i64 term, .int .i64 index, .int .i64 logterm, .int .i64 commit, .bool yes, .slice A19 (((es.take (10 : Int).toNat).map Entry.cut).length) c20, .int .i64 s_index, .int .i64 s_term, .string ((cutB s_conf 60, cutB s_data 100).1), .string ((cutB s_conf 60, cutB s_data 100).2)], (resA_of (resL_cell rfl (lvar_part (l := [.int .i64 kind, .int .i64 from_, .int .i64 to_, .int .i64 term, .int .i64 index, .int .i64 logterm, .int .i64 commit, .bool yes, .slice A19 (((es.take (10 : Int).toNat).map Entry.cut).length) c20, .int .i64 s_index, .int .i64 s_term, .string ((cutB s_conf 60, cutB s_data 100).1), .string ((cutB s_conf 60, cutB s_data 100).2)]) many46 hB46 rfl rfl (by decide)) resL_nil) rfl), A19, c20, by first | (rw [hres]; first | done | rfl | simp; done) | rfl, (by rw [hres]; exact (My.older h52 (by omega))), (by rw [List.length_map, List.length_take]; omega), (by exact cutB_size (by decide)), (by exact cutB_size (by decide)), hx53⟩
theorem ref21_id_spec (H : Heap) (n : Int) : ∃ v H', Spec Try.prog 52 [.int .i64 n] H v H' ∧ ((v = .bool (decide (1 ≤ n ∧ n ≤ 7))) ∧ (Ext H H')) := by
 refine spec_go1 E0_ok 9 (f := 52) Try.func52 rfl rfl rfl ?_
 refine aw_seq ?_
 refine aw_reg ?_
 refine st_op (ev_assign rfl) rfl rfl rfl ?_
 try show aw _ _ _ _ _ _
 refine aw_seq ?_
 refine aw_reg ?_
 refine st_op (ev_move rfl) rfl rfl rfl ?_
 refine st_op (ev_int rfl rfl rfl) rfl rfl rfl ?_
 refine st_op (ev_move rfl) rfl rfl rfl ?_
 refine st_bool 5 rfl (fun hb1 => ?_) (fun hb1 => ?_)
 ·
  have hb1 := of_decide_eq_true hb1
  refine st_op (ev_move rfl) rfl rfl rfl ?_
  refine st_op (ev_int rfl rfl rfl) rfl rfl rfl ?_
  refine st_op (ev_pickT rfl rfl) rfl rfl rfl ?_
  refine st_op (ev_assign rfl) rfl rfl rfl ?_
  try show aw _ _ _ _ _ _
  refine aw_ret ?_
  have hres : (decide (1 ≤ n ∧ n ≤ 7)) = (decide (n ≤ 7)) := by rw [Bool.eq_iff_iff]; simp only [decide_eq_true_eq, Bool.false_eq_true, iff_false]; omega
  exact ⟨.bool (decide (n ≤ 7)), rfl, by first | (rw [hres]; done) | rw [← hres], (Ext.refl H)⟩
 ·
  have hb1 := of_decide_eq_false hb1
  iterate 2 refine st_skip rfl rfl rfl ?_
  refine st_op (ev_pickF rfl rfl) rfl rfl rfl ?_
  refine st_op (ev_assign rfl) rfl rfl rfl ?_
  try show aw _ _ _ _ _ _
  refine aw_ret ?_
  have hres : (decide (1 ≤ n ∧ n ≤ 7)) = false := by rw [Bool.eq_iff_iff]; simp only [decide_eq_true_eq, Bool.false_eq_true, iff_false]; omega
  exact ⟨.bool false, rfl, by first | (rw [hres]; done) | rw [← hres], (Ext.refl H)⟩
theorem ref21_num_spec (H : Heap) (n : Int) : ∃ v H', Spec Try.prog 53 [.int .i64 n] H v H' ∧ ((v = .bool (decide (0 ≤ n ∧ n ≤ 1099511627776))) ∧ (Ext H H')) := by
 refine spec_go1 E0_ok 9 (f := 53) Try.func53 rfl rfl rfl ?_
 refine aw_seq ?_
 refine aw_reg ?_
 refine st_op (ev_assign rfl) rfl rfl rfl ?_
 try show aw _ _ _ _ _ _
 refine aw_seq ?_
 refine aw_reg ?_
 refine st_op (ev_move rfl) rfl rfl rfl ?_
 refine st_op (ev_int rfl rfl rfl) rfl rfl rfl ?_
 refine st_op (ev_move rfl) rfl rfl rfl ?_
 refine st_bool 5 rfl (fun hb1 => ?_) (fun hb1 => ?_)
 ·
  have hb1 := of_decide_eq_true hb1
  refine st_op (ev_move rfl) rfl rfl rfl ?_
  refine st_op (ev_int rfl rfl rfl) rfl rfl rfl ?_
  refine st_op (ev_pickT rfl rfl) rfl rfl rfl ?_
  refine st_op (ev_assign rfl) rfl rfl rfl ?_
  try show aw _ _ _ _ _ _
  refine aw_ret ?_
  have hres : (decide (0 ≤ n ∧ n ≤ 1099511627776)) = (decide (n ≤ 1099511627776)) := by rw [Bool.eq_iff_iff]; simp only [decide_eq_true_eq, Bool.false_eq_true, iff_false]; omega
  exact ⟨.bool (decide (n ≤ 1099511627776)), rfl, by first | (rw [hres]; done) | rw [← hres], (Ext.refl H)⟩
 ·
  have hb1 := of_decide_eq_false hb1
  iterate 2 refine st_skip rfl rfl rfl ?_
  refine st_op (ev_pickF rfl rfl) rfl rfl rfl ?_
  refine st_op (ev_assign rfl) rfl rfl rfl ?_
  try show aw _ _ _ _ _ _
  refine aw_ret ?_
  have hres : (decide (0 ≤ n ∧ n ≤ 1099511627776)) = false := by rw [Bool.eq_iff_iff]; simp only [decide_eq_true_eq, Bool.false_eq_true, iff_false]; omega
  exact ⟨.bool false, rfl, by first | (rw [hres]; done) | rw [← hres], (Ext.refl H)⟩
theorem ref17_MayEntry_spec (H : Heap) (e_index : Int) (e_term : Int) (e_kind : Int) (e_data : ByteArray) : ∃ v H', Spec Try.prog 54 [.agg #[.int .i64 e_index, .int .i64 e_term, .int .i64 e_kind, .string e_data]] H v H' ∧ ((v = .bool (Spec.mayF false 0 0 e_index e_term e_kind e_data)) ∧ (Ext H H')) := by
 refine spec_go1 E0_ok 37 (f := 54) Try.func54 rfl rfl rfl ?_
 refine aw_seq ?_
 refine aw_reg ?_
 obtain ⟨b1, H2, he3, b1e, H2n_, hB5, f4⟩ := mem_box (P := Try.prog) H (v := .agg #[.int .i64 e_index, .int .i64 e_term, .int .i64 e_kind, .string e_data]) (cs := [.int .i64 e_index, .int .i64 e_term, .int .i64 e_kind, .string e_data]) rfl rfl
 refine st_op (he3 _ _ _ _ _ _ _ _ _ rfl) rfl rfl rfl ?_
 have hx6 : Ext H H2 := Ext.new (by omega) H2n_ f4
 have H2n : H.next ≤ H2.next := hx6.1
 refine st_op (ev_assign rfl) rfl rfl rfl ?_
 try show aw _ _ _ _ _ _
 refine aw_seq ?_
 refine aw_reg ?_
 refine st_op (ev_fieldAddr rfl fa84_0 (o' := 0) rfl) rfl rfl rfl ?_
 refine st_op (ev_load rfl (lvar_one one2 hB5 rfl)) rfl rfl rfl ?_
 refine st_op (ev_int rfl rfl rfl) rfl rfl rfl ?_
 refine st_op (ev_move rfl) rfl rfl rfl ?_
 refine st_bool 6 rfl (fun hb7 => ?_) (fun hb7 => ?_)
 ·
  have hb7 := of_decide_eq_true hb7
  refine st_op (ev_fieldAddr rfl fa84_0 (o' := 0) rfl) rfl rfl rfl ?_
  refine st_op (ev_load rfl (lvar_one one2 hB5 rfl)) rfl rfl rfl ?_
  refine st_op (ev_int rfl rfl rfl) rfl rfl rfl ?_
  refine st_op (ev_pickT rfl rfl) rfl rfl rfl ?_
  refine st_op (ev_move rfl) rfl rfl rfl ?_
  refine st_bool 11 rfl (fun hb8 => ?_) (fun hb8 => ?_)
  ·
   have hb8 := of_decide_eq_true hb8
   refine st_op (ev_fieldAddr rfl fa84_1 (o' := 1) rfl) rfl rfl rfl ?_
   refine st_op (ev_load rfl (lvar_one one2 hB5 rfl)) rfl rfl rfl ?_
   refine st_op (ev_int rfl rfl rfl) rfl rfl rfl ?_
   refine st_op (ev_pickT rfl rfl) rfl rfl rfl ?_
   refine st_op (ev_move rfl) rfl rfl rfl ?_
   refine st_bool 16 rfl (fun hb9 => ?_) (fun hb9 => ?_)
   ·
    have hb9 := of_decide_eq_true hb9
    refine st_op (ev_fieldAddr rfl fa84_1 (o' := 1) rfl) rfl rfl rfl ?_
    refine st_op (ev_load rfl (lvar_one one2 hB5 rfl)) rfl rfl rfl ?_
    refine st_op (ev_int rfl rfl rfl) rfl rfl rfl ?_
    refine st_op (ev_pickT rfl rfl) rfl rfl rfl ?_
    refine st_op (ev_move rfl) rfl rfl rfl ?_
    refine st_bool 21 rfl (fun hb10 => ?_) (fun hb10 => ?_)
    ·
     have hb10 := of_decide_eq_true hb10
     refine st_op (ev_fieldAddr rfl fa84_2 (o' := 2) rfl) rfl rfl rfl ?_
     refine st_op (ev_load rfl (lvar_one one3 hB5 rfl)) rfl rfl rfl ?_
     refine st_op (ev_int rfl rfl rfl) rfl rfl rfl ?_
     refine st_op (ev_pickT rfl rfl) rfl rfl rfl ?_
     refine st_op (ev_move rfl) rfl rfl rfl ?_
     refine st_bool 26 rfl (fun hb11 => ?_) (fun hb11 => ?_)
     ·
      have hb11 := of_decide_eq_true hb11
      refine st_op (ev_fieldAddr rfl fa84_2 (o' := 2) rfl) rfl rfl rfl ?_
      refine st_op (ev_load rfl (lvar_one one3 hB5 rfl)) rfl rfl rfl ?_
      refine st_op (ev_int rfl rfl rfl) rfl rfl rfl ?_
      refine st_op (ev_pickT rfl rfl) rfl rfl rfl ?_
      refine st_op (ev_move rfl) rfl rfl rfl ?_
      refine st_bool 31 rfl (fun hb12 => ?_) (fun hb12 => ?_)
      ·
       have hb12 := of_decide_eq_true hb12
       refine st_op (ev_fieldAddr rfl fa84_3 (o' := 3) rfl) rfl rfl rfl ?_
       refine st_op (ev_load rfl (lvar_one one9 hB5 rfl)) rfl rfl rfl ?_
       refine st_op (ev_lenStr rfl Try.underlying9) rfl rfl rfl ?_
       refine st_op (ev_int rfl rfl rfl) rfl rfl rfl ?_
       refine st_op (ev_pickT rfl rfl) rfl rfl rfl ?_
       refine st_op (ev_assign rfl) rfl rfl rfl ?_
       try show aw _ _ _ _ _ _
       refine aw_ret ?_
       have hres : (Spec.mayF false 0 0 e_index e_term e_kind e_data) = (decide (((e_data).size : Int) ≤ 2500)) := by rw [Spec.mayE_eq, Bool.eq_iff_iff]; simp only [decide_eq_true_eq, Bool.false_eq_true, iff_false]; omega
       exact ⟨.bool (decide (((e_data).size : Int) ≤ 2500)), rfl, by first | (rw [hres]; done) | rw [← hres], hx6⟩
      ·
       have hb12 := of_decide_eq_false hb12
       iterate 4 refine st_skip rfl rfl rfl ?_
       refine st_op (ev_pickF rfl rfl) rfl rfl rfl ?_
       refine st_op (ev_assign rfl) rfl rfl rfl ?_
       try show aw _ _ _ _ _ _
       refine aw_ret ?_
       have hres : (Spec.mayF false 0 0 e_index e_term e_kind e_data) = false := by rw [Spec.mayE_eq, Bool.eq_iff_iff]; simp only [decide_eq_true_eq, Bool.false_eq_true, iff_false]; omega
       exact ⟨.bool false, rfl, by first | (rw [hres]; done) | rw [← hres], hx6⟩
     ·
      have hb11 := of_decide_eq_false hb11
      iterate 3 refine st_skip rfl rfl rfl ?_
      refine st_op (ev_pickF rfl rfl) rfl rfl rfl ?_
      refine st_op (ev_move rfl) rfl rfl rfl ?_
      iterate 4 refine st_skip rfl rfl rfl ?_
      refine st_op (ev_pickF rfl rfl) rfl rfl rfl ?_
      refine st_op (ev_assign rfl) rfl rfl rfl ?_
      try show aw _ _ _ _ _ _
      refine aw_ret ?_
      have hres : (Spec.mayF false 0 0 e_index e_term e_kind e_data) = false := by rw [Spec.mayE_eq, Bool.eq_iff_iff]; simp only [decide_eq_true_eq, Bool.false_eq_true, iff_false]; omega
      exact ⟨.bool false, rfl, by first | (rw [hres]; done) | rw [← hres], hx6⟩
    ·
     have hb10 := of_decide_eq_false hb10
     iterate 3 refine st_skip rfl rfl rfl ?_
     refine st_op (ev_pickF rfl rfl) rfl rfl rfl ?_
     refine st_op (ev_move rfl) rfl rfl rfl ?_
     iterate 3 refine st_skip rfl rfl rfl ?_
     refine st_op (ev_pickF rfl rfl) rfl rfl rfl ?_
     refine st_op (ev_move rfl) rfl rfl rfl ?_
     iterate 4 refine st_skip rfl rfl rfl ?_
     refine st_op (ev_pickF rfl rfl) rfl rfl rfl ?_
     refine st_op (ev_assign rfl) rfl rfl rfl ?_
     try show aw _ _ _ _ _ _
     refine aw_ret ?_
     have hres : (Spec.mayF false 0 0 e_index e_term e_kind e_data) = false := by rw [Spec.mayE_eq, Bool.eq_iff_iff]; simp only [decide_eq_true_eq, Bool.false_eq_true, iff_false]; omega
     exact ⟨.bool false, rfl, by first | (rw [hres]; done) | rw [← hres], hx6⟩
   ·
    have hb9 := of_decide_eq_false hb9
    iterate 3 refine st_skip rfl rfl rfl ?_
    refine st_op (ev_pickF rfl rfl) rfl rfl rfl ?_
    refine st_op (ev_move rfl) rfl rfl rfl ?_
    iterate 3 refine st_skip rfl rfl rfl ?_
    refine st_op (ev_pickF rfl rfl) rfl rfl rfl ?_
    refine st_op (ev_move rfl) rfl rfl rfl ?_
    iterate 3 refine st_skip rfl rfl rfl ?_
    refine st_op (ev_pickF rfl rfl) rfl rfl rfl ?_
    refine st_op (ev_move rfl) rfl rfl rfl ?_
    iterate 4 refine st_skip rfl rfl rfl ?_
    refine st_op (ev_pickF rfl rfl) rfl rfl rfl ?_
    refine st_op (ev_assign rfl) rfl rfl rfl ?_
    try show aw _ _ _ _ _ _
    refine aw_ret ?_
    have hres : (Spec.mayF false 0 0 e_index e_term e_kind e_data) = false := by rw [Spec.mayE_eq, Bool.eq_iff_iff]; simp only [decide_eq_true_eq, Bool.false_eq_true, iff_false]; omega
    exact ⟨.bool false, rfl, by first | (rw [hres]; done) | rw [← hres], hx6⟩
  ·
   have hb8 := of_decide_eq_false hb8
   iterate 3 refine st_skip rfl rfl rfl ?_
   refine st_op (ev_pickF rfl rfl) rfl rfl rfl ?_
   refine st_op (ev_move rfl) rfl rfl rfl ?_
   iterate 3 refine st_skip rfl rfl rfl ?_
   refine st_op (ev_pickF rfl rfl) rfl rfl rfl ?_
   refine st_op (ev_move rfl) rfl rfl rfl ?_
   iterate 3 refine st_skip rfl rfl rfl ?_
   refine st_op (ev_pickF rfl rfl) rfl rfl rfl ?_
   refine st_op (ev_move rfl) rfl rfl rfl ?_
   iterate 3 refine st_skip rfl rfl rfl ?_
   refine st_op (ev_pickF rfl rfl) rfl rfl rfl ?_
   refine st_op (ev_move rfl) rfl rfl rfl ?_
   iterate 4 refine st_skip rfl rfl rfl ?_
   refine st_op (ev_pickF rfl rfl) rfl rfl rfl ?_
   refine st_op (ev_assign rfl) rfl rfl rfl ?_
   try show aw _ _ _ _ _ _
   refine aw_ret ?_
   have hres : (Spec.mayF false 0 0 e_index e_term e_kind e_data) = false := by rw [Spec.mayE_eq, Bool.eq_iff_iff]; simp only [decide_eq_true_eq, Bool.false_eq_true, iff_false]; omega
   exact ⟨.bool false, rfl, by first | (rw [hres]; done) | rw [← hres], hx6⟩
 ·
  have hb7 := of_decide_eq_false hb7
  iterate 3 refine st_skip rfl rfl rfl ?_
  refine st_op (ev_pickF rfl rfl) rfl rfl rfl ?_
  refine st_op (ev_move rfl) rfl rfl rfl ?_
  iterate 3 refine st_skip rfl rfl rfl ?_
  refine st_op (ev_pickF rfl rfl) rfl rfl rfl ?_
  refine st_op (ev_move rfl) rfl rfl rfl ?_
  iterate 3 refine st_skip rfl rfl rfl ?_
  refine st_op (ev_pickF rfl rfl) rfl rfl rfl ?_
  refine st_op (ev_move rfl) rfl rfl rfl ?_
  iterate 3 refine st_skip rfl rfl rfl ?_
  refine st_op (ev_pickF rfl rfl) rfl rfl rfl ?_
  refine st_op (ev_move rfl) rfl rfl rfl ?_
  iterate 3 refine st_skip rfl rfl rfl ?_
  refine st_op (ev_pickF rfl rfl) rfl rfl rfl ?_
  refine st_op (ev_move rfl) rfl rfl rfl ?_
  iterate 4 refine st_skip rfl rfl rfl ?_
  refine st_op (ev_pickF rfl rfl) rfl rfl rfl ?_
  refine st_op (ev_assign rfl) rfl rfl rfl ?_
  try show aw _ _ _ _ _ _
  refine aw_ret ?_
  have hres : (Spec.mayF false 0 0 e_index e_term e_kind e_data) = false := by rw [Spec.mayE_eq, Bool.eq_iff_iff]; simp only [decide_eq_true_eq, Bool.false_eq_true, iff_false]; omega
  exact ⟨.bool false, rfl, by first | (rw [hres]; done) | rw [← hres], hx6⟩
theorem ref17_EqSnap_spec (H : Heap) (a_index : Int) (a_term : Int) (a_conf : ByteArray) (a_data : ByteArray) (b_index : Int) (b_term : Int) (b_conf : ByteArray) (b_data : ByteArray) : ∃ v H', Spec Try.prog 55 [.agg #[.int .i64 a_index, .int .i64 a_term, .string a_conf, .string a_data], .agg #[.int .i64 b_index, .int .i64 b_term, .string b_conf, .string b_data]] H v H' ∧ ((v = .bool (Spec.eqSn a_index a_term a_conf a_data b_index b_term b_conf b_data)) ∧ (Ext H H')) := by
 refine spec_go2 E0_ok 31 (f := 55) Try.func55 rfl rfl rfl ?_
 refine aw_seq ?_
 refine aw_reg ?_
 obtain ⟨b1, H2, he3, b1e, H2n_, hB5, f4⟩ := mem_box (P := Try.prog) H (v := .agg #[.int .i64 a_index, .int .i64 a_term, .string a_conf, .string a_data]) (cs := [.int .i64 a_index, .int .i64 a_term, .string a_conf, .string a_data]) rfl rfl
 refine st_op (he3 _ _ _ _ _ _ _ _ _ rfl) rfl rfl rfl ?_
 have hx6 : Ext H H2 := Ext.new (by omega) H2n_ f4
 have H2n : H.next ≤ H2.next := hx6.1
 obtain ⟨b7, H8, he9, b7e, H8n_, hB11, f10⟩ := mem_box (P := Try.prog) H2 (v := .agg #[.int .i64 b_index, .int .i64 b_term, .string b_conf, .string b_data]) (cs := [.int .i64 b_index, .int .i64 b_term, .string b_conf, .string b_data]) rfl rfl
 refine st_op (he9 _ _ _ _ _ _ _ _ _ rfl) rfl rfl rfl ?_
 have hx12 : Ext H2 H8 := Ext.new (by omega) H8n_ f10
 have H8n : H2.next ≤ H8.next := hx12.1
 refine st_op (ev_assign rfl) rfl rfl rfl ?_
 try show aw _ _ _ _ _ _
 refine aw_seq ?_
 refine aw_reg ?_
 refine st_op (ev_fieldAddr rfl fa44_0 (o' := 0) rfl) rfl rfl rfl ?_
 have h13 := Ext.blk hx12 (by omega) hB5
 refine st_op (ev_load rfl (lvar_one one2 h13 rfl)) rfl rfl rfl ?_
 refine st_op (ev_fieldAddr rfl fa44_0 (o' := 0) rfl) rfl rfl rfl ?_
 refine st_op (ev_load rfl (lvar_one one2 hB11 rfl)) rfl rfl rfl ?_
 refine st_op (ev_int rfl rfl rfl) rfl rfl rfl ?_
 refine st_op (ev_move rfl) rfl rfl rfl ?_
 refine st_bool 10 rfl (fun hb14 => ?_) (fun hb14 => ?_)
 ·
  have hb14 := eq_of_beq hb14
  refine st_op (ev_fieldAddr rfl fa44_1 (o' := 1) rfl) rfl rfl rfl ?_
  refine st_op (ev_load rfl (lvar_one one2 h13 rfl)) rfl rfl rfl ?_
  refine st_op (ev_fieldAddr rfl fa44_1 (o' := 1) rfl) rfl rfl rfl ?_
  refine st_op (ev_load rfl (lvar_one one2 hB11 rfl)) rfl rfl rfl ?_
  refine st_op (ev_int rfl rfl rfl) rfl rfl rfl ?_
  refine st_op (ev_pickT rfl rfl) rfl rfl rfl ?_
  refine st_op (ev_move rfl) rfl rfl rfl ?_
  refine st_bool 17 rfl (fun hb15 => ?_) (fun hb15 => ?_)
  ·
   have hb15 := eq_of_beq hb15
   refine st_op (ev_fieldAddr rfl fa44_2 (o' := 2) rfl) rfl rfl rfl ?_
   refine st_op (ev_load rfl (lvar_one one9 h13 rfl)) rfl rfl rfl ?_
   refine st_op (ev_fieldAddr rfl fa44_2 (o' := 2) rfl) rfl rfl rfl ?_
   refine st_op (ev_load rfl (lvar_one one9 hB11 rfl)) rfl rfl rfl ?_
   refine st_op (ev_str rfl rfl rfl) rfl rfl rfl ?_
   refine st_op (ev_pickT rfl rfl) rfl rfl rfl ?_
   refine st_op (ev_move rfl) rfl rfl rfl ?_
   refine st_bool 24 rfl (fun hb16 => ?_) (fun hb16 => ?_)
   ·
    have hb16 := eq_of_beq hb16
    refine st_op (ev_fieldAddr rfl fa44_3 (o' := 3) rfl) rfl rfl rfl ?_
    refine st_op (ev_load rfl (lvar_one one9 h13 rfl)) rfl rfl rfl ?_
    refine st_op (ev_fieldAddr rfl fa44_3 (o' := 3) rfl) rfl rfl rfl ?_
    refine st_op (ev_load rfl (lvar_one one9 hB11 rfl)) rfl rfl rfl ?_
    refine st_op (ev_str rfl rfl rfl) rfl rfl rfl ?_
    refine st_op (ev_pickT rfl rfl) rfl rfl rfl ?_
    refine st_op (ev_assign rfl) rfl rfl rfl ?_
    try show aw _ _ _ _ _ _
    refine aw_ret ?_
    have hx17 : Ext H H8 := (Ext.trans hx6 hx12)
    have hres : (Spec.eqSn a_index a_term a_conf a_data b_index b_term b_conf b_data) = ((a_data).toList == (b_data).toList) := by simp only [Spec.eqSn]; simp_all
    exact ⟨.bool ((a_data).toList == (b_data).toList), rfl, by first | (rw [hres]; done) | rw [← hres], hx17⟩
   ·
    have hb16 := ne_of_beq_false hb16
    iterate 5 refine st_skip rfl rfl rfl ?_
    refine st_op (ev_pickF rfl rfl) rfl rfl rfl ?_
    refine st_op (ev_assign rfl) rfl rfl rfl ?_
    try show aw _ _ _ _ _ _
    refine aw_ret ?_
    have hx18 : Ext H H8 := (Ext.trans hx6 hx12)
    have hres : (Spec.eqSn a_index a_term a_conf a_data b_index b_term b_conf b_data) = false := by simp only [Spec.eqSn]; simp_all
    exact ⟨.bool false, rfl, by first | (rw [hres]; done) | rw [← hres], hx18⟩
  ·
   have hb15 := ne_of_beq_false hb15
   iterate 5 refine st_skip rfl rfl rfl ?_
   refine st_op (ev_pickF rfl rfl) rfl rfl rfl ?_
   refine st_op (ev_move rfl) rfl rfl rfl ?_
   iterate 5 refine st_skip rfl rfl rfl ?_
   refine st_op (ev_pickF rfl rfl) rfl rfl rfl ?_
   refine st_op (ev_assign rfl) rfl rfl rfl ?_
   try show aw _ _ _ _ _ _
   refine aw_ret ?_
   have hx19 : Ext H H8 := (Ext.trans hx6 hx12)
   have hres : (Spec.eqSn a_index a_term a_conf a_data b_index b_term b_conf b_data) = false := by simp only [Spec.eqSn]; simp_all
   exact ⟨.bool false, rfl, by first | (rw [hres]; done) | rw [← hres], hx19⟩
 ·
  have hb14 := ne_of_beq_false hb14
  iterate 5 refine st_skip rfl rfl rfl ?_
  refine st_op (ev_pickF rfl rfl) rfl rfl rfl ?_
  refine st_op (ev_move rfl) rfl rfl rfl ?_
  iterate 5 refine st_skip rfl rfl rfl ?_
  refine st_op (ev_pickF rfl rfl) rfl rfl rfl ?_
  refine st_op (ev_move rfl) rfl rfl rfl ?_
  iterate 5 refine st_skip rfl rfl rfl ?_
  refine st_op (ev_pickF rfl rfl) rfl rfl rfl ?_
  refine st_op (ev_assign rfl) rfl rfl rfl ?_
  try show aw _ _ _ _ _ _
  refine aw_ret ?_
  have hx20 : Ext H H8 := (Ext.trans hx6 hx12)
  have hres : (Spec.eqSn a_index a_term a_conf a_data b_index b_term b_conf b_data) = false := by simp only [Spec.eqSn]; simp_all
  exact ⟨.bool false, rfl, by first | (rw [hres]; done) | rw [← hres], hx20⟩
theorem ref21_MayConf_spec (H : Heap) (lA : Option Addr) (l : List Int) (lc : Nat) (hl : Row H lA lc 1 (l.map i64c)) (cl : l.length ≤ lc) (ll : l.length ≤ 274877906944) : ∃ v H', Spec Try.prog 79 [.slice lA l.length lc] H v H' ∧ ((v = .bool (Spec.mayC l)) ∧ (Ext H H')) := by
 refine spec_go1 E0_ok 41 (f := 79) Try.func79 rfl rfl rfl ?_
 refine aw_seq ?_
 refine aw_reg ?_
 refine st_op (ev_assign rfl) rfl rfl rfl ?_
 try show aw _ _ _ _ _ _
 iterate 2 refine aw_seq ?_
 refine aw_reg ?_
 refine st_op (ev_assign rfl) rfl rfl rfl ?_
 try show aw _ _ _ _ _ _
 refine aw_block ?_
 refine aw_keep [0, 3] (l' := (.cons 0 (.slice lA l.length lc) (.cons 3 (.int .i64 0) .nil))) (by repeat (first | exact Up.done | refine Up.then ?_ | refine Up.inBlock ?_)) rfl ?_
 refine aw_iter (α := Nat × Int × Heap) (fun a => l.length - a.1) (fun a => (.cons 0 (.slice lA l.length lc) (.cons 3 (.int .i64 (a.1 : Int)) .nil))) (fun a => a.2.2) (fun a => (a.1 ≤ l.length) ∧ (Spec.upF 0 l = Spec.upF a.2.1 (l.drop a.1)) ∧ ((a.1 = 0 → a.2.1 = 0) ∧ (0 < a.1 → l[a.1 - 1]? = some a.2.1)) ∧ (Ext H a.2.2)) (0, (0 : Int), H) ⟨(show 0 ≤ l.length from Nat.zero_le _), (show Spec.upF 0 l = Spec.upF (0 : Int) (l.drop 0) from rfl), (show (0 = 0 → (0 : Int) = 0) ∧ (0 < 0 → l[0 - 1]? = some (0 : Int)) from ⟨fun _ => rfl, fun h => absurd h (by decide)⟩), (show Ext H H from (Ext.refl H))⟩ ?_
 rintro ⟨i, pv, Hl1⟩ ⟨hi, hv, hpv, hxl2⟩ ih3
 replace hi : i ≤ l.length := hi
 replace hv : Spec.upF 0 l = Spec.upF pv (l.drop i) := hv
 replace hpv : (i = 0 → pv = 0) ∧ (0 < i → l[i - 1]? = some pv) := hpv
 replace hxl2 : Ext H Hl1 := hxl2
 show aw _ _ _ (RL _ (.cons 0 (.slice lA l.length lc) (.cons 3 (.int .i64 (i : Int)) .nil))) Hl1 _
 have Hl1n : H.next ≤ Hl1.next := hxl2.1
 iterate 2 refine aw_seq ?_
 refine aw_reg ?_
 iterate 2 refine st_op (ev_move rfl) rfl rfl rfl ?_
 refine st_op (ev_lenSl rfl Try.underlying28) rfl rfl rfl ?_
 refine st_op (ev_int rfl rfl rfl) rfl rfl rfl ?_
 try show aw _ _ _ _ _ _
 by_cases hc4 : (decide ((i : Int) < (l.length : Int))) = true
 ·
  refine aw_condT hc4 rfl ?_
  try show aw _ _ _ _ _ _
  have hc4 := of_decide_eq_true hc4
  refine aw_skip ?_
  try show aw _ _ _ _ _ _
  refine aw_seq ?_
  refine aw_block ?_
  refine aw_seq ?_
  refine aw_marks (fun b => b < Hl1.next) [(false, false), (false, false), (false, false), (false, false), (false, false), (false, false), (false, false), (false, false), (false, false), (false, false), (false, false), (false, false), (false, false), (false, false), (false, false), (false, false), (false, false), (false, false), (false, false), (false, false), (false, false), (false, false), (false, false), (false, false), (false, false), (false, false), (false, false), (false, false)] mixed (by kernel_rfl) (by kernel_rfl) ?_
  iterate 2 refine sm_op (ev_move rfl) rfl rfl rfl ?_
  have h5 := Row.ext hl hxl2
  have hi6 : 0 ≤ ((i : Int) : Int) := by omega
  have hi7 : ((i : Int) : Int) < ((l.length : Nat) : Int) := by omega
  obtain ⟨x8, hx9⟩ : ∃ e, l[i]? = some e := ⟨_, List.getElem?_eq_getElem (by omega)⟩
  refine sm_op (ev_at rfl rfl h5 (getMap i64c hx9) (by first | rfl | omega | simp) hi6 hi7 el28) rfl rfl rfl ?_
  refine sm_op (ev_atL rfl h5 (getMap i64c hx9) one3 rfl) rfl rfl rfl ?_
  refine sm_op (ev_int rfl rfl rfl) rfl rfl rfl ?_
  refine sm_op (ev_move rfl) rfl rfl rfl ?_
  refine sm_bool 15 rfl (fun hb10 => ?_) (fun hb10 => ?_)
  ·
   have hb10 := of_decide_eq_true hb10
   iterate 5 refine sm_skip rfl rfl rfl ?_
   refine sm_op (ev_pickT rfl rfl) rfl rfl rfl ?_
   refine sm_op (ev_move rfl) rfl rfl rfl ?_
   iterate 14 refine sm_skip rfl rfl rfl ?_
   refine sm_op (ev_pickT rfl rfl) rfl rfl rfl ?_
   try show aw _ _ _ _ _ _
   refine aw_cond (t := true) rfl ?_
   try show aw _ _ _ _ _ _
   refine aw_seq ?_
   refine aw_reg ?_
   refine st_op (ev_assign rfl) rfl rfl rfl ?_
   try show aw _ _ _ _ _ _
   refine aw_ret ?_
   have hres : (Spec.mayC l) = false := by unfold Spec.mayC; rw [hv, drop_at hx9, Spec.upF, if_pos (by omega)]; rfl
   exact ⟨.bool false, rfl, by first | (rw [hres]; done) | rw [← hres], hxl2⟩
  ·
   have hb10 := of_decide_eq_false hb10
   iterate 2 refine sm_op (ev_move rfl) rfl rfl rfl ?_
   have hi11 : 0 ≤ ((i : Int) : Int) := by omega
   have hi12 : ((i : Int) : Int) < ((l.length : Nat) : Int) := by omega
   refine sm_op (ev_at rfl rfl h5 (getMap i64c hx9) (by first | rfl | omega | simp) hi11 hi12 el28) rfl rfl rfl ?_
   refine sm_op (ev_atL rfl h5 (getMap i64c hx9) one3 rfl) rfl rfl rfl ?_
   refine sm_op (ev_int rfl rfl rfl) rfl rfl rfl ?_
   refine sm_op (ev_pickF rfl rfl) rfl rfl rfl ?_
   refine sm_op (ev_move rfl) rfl rfl rfl ?_
   refine sm_bool 22 rfl (fun hb13 => ?_) (fun hb13 => ?_)
   ·
    have hb13 := of_decide_eq_true hb13
    iterate 14 refine sm_skip rfl rfl rfl ?_
    refine sm_op (ev_pickT rfl rfl) rfl rfl rfl ?_
    try show aw _ _ _ _ _ _
    refine aw_cond (t := true) rfl ?_
    try show aw _ _ _ _ _ _
    refine aw_seq ?_
    refine aw_reg ?_
    refine st_op (ev_assign rfl) rfl rfl rfl ?_
    try show aw _ _ _ _ _ _
    refine aw_ret ?_
    have hres : (Spec.mayC l) = false := by unfold Spec.mayC; rw [hv, drop_at hx9, Spec.upF, if_pos (by omega)]; rfl
    exact ⟨.bool false, rfl, by first | (rw [hres]; done) | rw [← hres], hxl2⟩
   ·
    have hb13 := of_decide_eq_false hb13
    refine sm_op (ev_move rfl) rfl rfl rfl ?_
    refine sm_op (ev_int rfl rfl rfl) rfl rfl rfl ?_
    refine sm_op (ev_move rfl) rfl rfl rfl ?_
    refine sm_bool 25 rfl (fun hb14 => ?_) (fun hb14 => ?_)
    ·
     have hb14 := of_decide_eq_true hb14
     iterate 2 refine sm_op (ev_move rfl) rfl rfl rfl ?_
     have hi15 : 0 ≤ ((i : Int) : Int) := by omega
     have hi16 : ((i : Int) : Int) < ((l.length : Nat) : Int) := by omega
     refine sm_op (ev_at rfl rfl h5 (getMap i64c hx9) (by first | rfl | omega | simp) hi15 hi16 el28) rfl rfl rfl ?_
     refine sm_op (ev_atL rfl h5 (getMap i64c hx9) one3 rfl) rfl rfl rfl ?_
     iterate 2 refine sm_op (ev_move rfl) rfl rfl rfl ?_
     refine sm_op (ev_int64 (c := (i : Int) - 1) rfl rfl rfl (by omega) (by omega)) rfl rfl rfl ?_
     have hi17 : 0 ≤ ((i : Int) - 1 : Int) := by omega
     have hi18 : ((i : Int) - 1 : Int) < ((l.length : Nat) : Int) := by omega
     obtain ⟨x19, hx20⟩ : ∃ e, l[(((i : Int) - 1)).toNat]? = some e := ⟨_, List.getElem?_eq_getElem (by omega)⟩
     have x19p : x19 = pv := by have q := hpv.2 (by omega); rw [show (((((i : Int) - 1)).toNat) : Nat) = i - 1 by omega] at hx20; rw [hx20] at q; cases q; rfl
     refine sm_op (ev_at rfl rfl h5 (getMap i64c hx20) (by first | rfl | omega | simp) hi17 hi18 el28) rfl rfl rfl ?_
     refine sm_op (ev_atL rfl h5 (getMap i64c hx20) one3 rfl) rfl rfl rfl ?_
     refine sm_op (ev_int rfl rfl rfl) rfl rfl rfl ?_
     refine sm_op (ev_pickT rfl rfl) rfl rfl rfl ?_
     refine sm_op (ev_pickF rfl rfl) rfl rfl rfl ?_
     try show aw _ _ _ _ _ _
     by_cases hc21 : (decide (x8 ≤ x19)) = true
     ·
      refine aw_condT hc21 rfl ?_
      try show aw _ _ _ _ _ _
      have hc21 := of_decide_eq_true hc21
      refine aw_seq ?_
      refine aw_reg ?_
      refine st_op (ev_assign rfl) rfl rfl rfl ?_
      try show aw _ _ _ _ _ _
      refine aw_ret ?_
      have hres : (Spec.mayC l) = false := by unfold Spec.mayC; rw [hv, drop_at hx9, Spec.upF, if_pos (by omega)]; rfl
      exact ⟨.bool false, rfl, by first | (rw [hres]; done) | rw [← hres], hxl2⟩
     ·
      rw [Bool.not_eq_true] at hc21; refine aw_condF hc21 rfl ?_
      try show aw _ _ _ _ _ _
      have hc21 := of_decide_eq_false hc21
      refine aw_skip ?_
      try show aw _ _ _ _ _ _
      refine aw_reg ?_
      refine st_op (ev_move rfl) rfl rfl rfl ?_
      refine st_op (ev_int64 (c := (i : Int) + 1) rfl rfl rfl (by omega) (by omega)) rfl rfl rfl ?_
      refine st_op (ev_assign rfl) rfl rfl rfl ?_
      try show aw _ _ _ _ _ _
      refine aw_keep [0, 3] (l' := (.cons 0 (.slice lA l.length lc) (.cons 3 (.int .i64 ((i : Int) + 1)) .nil))) (by repeat (first | exact Up.done | refine Up.then ?_ | refine Up.inBlock ?_)) rfl ?_
      exact ih3 (i + 1, x8, Hl1) ⟨(show (i + 1) ≤ l.length from (by omega)), (show Spec.upF 0 l = Spec.upF x8 (l.drop (i + 1)) from (by rw [hv, drop_at hx9, Spec.upF, if_neg (by omega)])), (show ((i + 1) = 0 → x8 = 0) ∧ (0 < (i + 1) → l[(i + 1) - 1]? = some x8) from ⟨fun h => absurd h (by omega), fun _ => by rw [Nat.add_sub_cancel]; exact hx9⟩), (show Ext H Hl1 from hxl2)⟩ (by simp only; omega)
    ·
     have hb14 := of_decide_eq_false hb14
     iterate 10 refine sm_skip rfl rfl rfl ?_
     iterate 2 refine sm_op (ev_pickF rfl rfl) rfl rfl rfl ?_
     try show aw _ _ _ _ _ _
     refine aw_cond (t := false) rfl ?_
     try show aw _ _ _ _ _ _
     refine aw_skip ?_
     try show aw _ _ _ _ _ _
     refine aw_reg ?_
     refine st_op (ev_move rfl) rfl rfl rfl ?_
     refine st_op (ev_int64 (c := (i : Int) + 1) rfl rfl rfl (by omega) (by omega)) rfl rfl rfl ?_
     refine st_op (ev_assign rfl) rfl rfl rfl ?_
     try show aw _ _ _ _ _ _
     refine aw_keep [0, 3] (l' := (.cons 0 (.slice lA l.length lc) (.cons 3 (.int .i64 ((i : Int) + 1)) .nil))) (by repeat (first | exact Up.done | refine Up.then ?_ | refine Up.inBlock ?_)) rfl ?_
     exact ih3 (i + 1, x8, Hl1) ⟨(show (i + 1) ≤ l.length from (by omega)), (show Spec.upF 0 l = Spec.upF x8 (l.drop (i + 1)) from (by rw [hv, drop_at hx9, Spec.upF, if_neg (by have := hpv.1 (by omega); omega)])), (show ((i + 1) = 0 → x8 = 0) ∧ (0 < (i + 1) → l[(i + 1) - 1]? = some x8) from ⟨fun h => absurd h (by omega), fun _ => by rw [Nat.add_sub_cancel]; exact hx9⟩), (show Ext H Hl1 from hxl2)⟩ (by simp only; omega)
 ·
  rw [Bool.not_eq_true] at hc4; refine aw_condF hc4 rfl ?_
  try show aw _ _ _ _ _ _
  have hc4 := of_decide_eq_false hc4
  refine aw_exit ?_
  try show aw _ _ _ _ _ _
  refine aw_seq ?_
  refine aw_reg ?_
  refine st_op (ev_move rfl) rfl rfl rfl ?_
  refine st_op (ev_lenSl rfl Try.underlying28) rfl rfl rfl ?_
  refine st_op (ev_int rfl rfl rfl) rfl rfl rfl ?_
  refine st_op (ev_assign rfl) rfl rfl rfl ?_
  try show aw _ _ _ _ _ _
  refine aw_ret ?_
  have hres : (Spec.mayC l) = (decide ((l.length : Int) > 0)) := by unfold Spec.mayC; rw [hv, List.drop_eq_nil_of_le (by omega)]; simp [Spec.upF]
  exact ⟨.bool (decide ((l.length : Int) > 0)), rfl, by first | (rw [hres]; done) | rw [← hres], hxl2⟩
theorem ref21_DecodeConf_spec (H : Heap) (s : ByteArray) (hs : s.size ≤ 1073741824) : ∃ v H', Spec Try.prog 56 [.string s] H v H' ∧ (∃ rA0 rc0, (v = .tuple #[.slice rA0 (((Spec.decC s).1).length) rc0, .bool ((Spec.decC s).2)]) ∧ (My H H' rA0 rc0 1 (((Spec.decC s).1).map i64c)) ∧ (Ext H H')) := by
 refine spec_go1 E0_ok 24 (f := 56) Try.func56 rfl rfl rfl ?_
 refine aw_seq ?_
 refine aw_reg ?_
 iterate 2 refine st_op (ev_assign rfl) rfl rfl rfl ?_
 try show aw _ _ _ _ _ _
 refine aw_seq ?_
 refine aw_reg ?_
 refine st_op (ev_assign rfl) rfl rfl rfl ?_
 try show aw _ _ _ _ _ _
 iterate 2 refine aw_seq ?_
 refine aw_reg ?_
 refine st_op (ev_assign rfl) rfl rfl rfl ?_
 try show aw _ _ _ _ _ _
 refine aw_block ?_
 have hm2 : My H H none 0 1 (([] : List Int).map i64c) := .nil
 refine aw_keep [0, 4, 5] (l' := (.cons 0 (.string s) (.cons 4 (.slice none 0 0) (.cons 5 (.int .i64 0) .nil)))) (by repeat (first | exact Up.done | refine Up.then ?_ | refine Up.inBlock ?_)) rfl ?_
 refine aw_iter (α := Nat × Option Addr × Nat × List Int × Heap) (fun a => s.size - a.1) (fun a => (.cons 0 (.string s) (.cons 4 (.slice a.2.1 a.2.2.2.1.length a.2.2.1) (.cons 5 (.int .i64 (a.1 : Int)) .nil)))) (fun a => a.2.2.2.2) (fun a => (a.1 ≤ s.size) ∧ (a.2.2.2.1 = (Spec.digits s).take a.1) ∧ (My H a.2.2.2.2 a.2.1 a.2.2.1 1 (a.2.2.2.1.map i64c)) ∧ (Ext H a.2.2.2.2)) (0, none, 0, ([] : List Int), H) ⟨(show 0 ≤ s.size from Nat.zero_le _), (show ([] : List Int) = (Spec.digits s).take 0 from rfl), (show My H H none 0 1 (([] : List Int).map i64c) from hm2), (show Ext H H from (Ext.refl H))⟩ ?_
 rintro ⟨i, A, cp, l, Hl1⟩ ⟨hi, hl, hm3, hxl4⟩ ih5
 replace hi : i ≤ s.size := hi
 replace hl : l = (Spec.digits s).take i := hl
 replace hm3 : My H Hl1 A cp 1 (l.map i64c) := hm3
 replace hxl4 : Ext H Hl1 := hxl4
 show aw _ _ _ (RL _ (.cons 0 (.string s) (.cons 4 (.slice A l.length cp) (.cons 5 (.int .i64 (i : Int)) .nil)))) Hl1 _
 have Hl1n : H.next ≤ Hl1.next := hxl4.1
 have hll : l.length = i := by rw [hl, List.length_take, Spec.digits_len]; omega
 iterate 2 refine aw_seq ?_
 refine aw_reg ?_
 iterate 2 refine st_op (ev_move rfl) rfl rfl rfl ?_
 refine st_op (ev_lenStr rfl Try.underlying9) rfl rfl rfl ?_
 refine st_op (ev_int rfl rfl rfl) rfl rfl rfl ?_
 try show aw _ _ _ _ _ _
 by_cases hc6 : (decide ((i : Int) < ((s).size : Int))) = true
 ·
  refine aw_condT hc6 rfl ?_
  try show aw _ _ _ _ _ _
  have hc6 := of_decide_eq_true hc6
  refine aw_skip ?_
  try show aw _ _ _ _ _ _
  refine aw_seq ?_
  refine aw_block ?_
  refine aw_reg ?_
  iterate 3 refine st_op (ev_move rfl) rfl rfl rfl ?_
  obtain ⟨y7, hy8⟩ : ∃ y, (s).data.toList[i]? = some y := ⟨_, List.getElem?_eq_getElem (by simp; omega)⟩
  have y7t := y7.toNat_lt
  refine st_op (ev_ixStr Try.underlying9 rfl rfl (ba_get hy8)) rfl rfl rfl ?_
  refine st_op (ev_convI Try.underlying5 Try.underlying3 rfl (wrI64 (by omega) (by omega))) rfl rfl rfl ?_
  refine st_op (ev_int64 (c := (y7.toNat : Int) - 48) rfl rfl rfl (by omega) (by omega)) rfl rfl rfl ?_
  obtain ⟨b9, H10, he11, b9e, H10n_, hm13, f12⟩ := mem_lit Hl1 (xs := ([.int .i64 ((y7.toNat : Int) - 48)] : List Value)) (m := 1) (rows := [[.int .i64 ((y7.toNat : Int) - 48)]]) rfl eok28 (by decide) (by decide) zf3 rfl (allLen rfl) rfl
  replace hm13 : My Hl1 H10 (some ⟨b9, 0, none⟩) 1 1 ([(y7.toNat : Int) - 48].map i64c) := hm13
  refine st_op (he11 _ _ _ _ _ _ _ _ rfl) rfl rfl rfl ?_
  have hx14 : Ext Hl1 H10 := Ext.new (by omega) H10n_ f12
  have H10n : Hl1.next ≤ H10.next := hx14.1
  have h15 := My.ext hm3 hx14
  obtain ⟨A16, c17, H18, W19, he20, hm21, hf22⟩ := mem_append (f := i64c) (old := l) (new := [(y7.toNat : Int) - 48]) (m := l.length) (mx := 1) (c := cp) (by first | rfl | simp) (by first | rfl | simp) eok28 (by decide) hm3 h15 (by omega) (((My.row hm13)).srcF (by decide) (by first | rfl | simp)) rfl i64c_len i64c_one (by first | omega | (simp only [List.length_append, List.length_cons, List.length_nil, List.length_map, List.length_set, List.length_replicate, Spec.bytesOf_length]; omega) | (simp; omega)) (by first | omega | (simp only [List.length_append, List.length_cons, List.length_nil, List.length_map, List.length_set, List.length_replicate, Spec.bytesOf_length]; omega) | (simp; omega))
  refine st_op (he20 _ _ _ _ _ _ _ _ _ _ rfl rfl isrow28) rfl rfl rfl ?_
  have H18n : H10.next ≤ H18.next := hf22.1
  refine st_op (ev_assign rfl) rfl rfl rfl ?_
  try show aw _ _ _ _ _ _
  refine aw_reg ?_
  refine st_op (ev_move rfl) rfl rfl rfl ?_
  refine st_op (ev_int64 (c := (i : Int) + 1) rfl rfl rfl (by omega) (by omega)) rfl rfl rfl ?_
  refine st_op (ev_assign rfl) rfl rfl rfl ?_
  try show aw _ _ _ _ _ _
  have hx23 : Ext H H18 := (Ext.then (Ext.trans hxl4 hx14) hf22 (fun q hq e => by omega))
  refine aw_keep [0, 4, 5] (l' := (.cons 0 (.string s) (.cons 4 (.slice A16 ((l ++ [(y7.toNat : Int) - 48]).length) c17) (.cons 5 (.int .i64 ((i : Int) + 1)) .nil)))) (by repeat (first | exact Up.done | refine Up.then ?_ | refine Up.inBlock ?_)) rfl ?_
  exact ih5 (i + 1, A16, c17, (l ++ [(y7.toNat : Int) - 48]), H18) ⟨(show (i + 1) ≤ s.size from (by omega)), (show (l ++ [(y7.toNat : Int) - 48]) = (Spec.digits s).take (i + 1) from (by rw [List.take_add_one, ← hl, Spec.digits_at hy8]; rfl)), (show My H H18 A16 c17 1 ((l ++ [(y7.toNat : Int) - 48]).map i64c) from hm21), (show Ext H H18 from hx23)⟩ (by simp only; omega)
 ·
  rw [Bool.not_eq_true] at hc6; refine aw_condF hc6 rfl ?_
  try show aw _ _ _ _ _ _
  have hc6 := of_decide_eq_false hc6
  refine aw_exit ?_
  try show aw _ _ _ _ _ _
  iterate 2 refine aw_seq ?_
  refine aw_reg ?_
  refine st_op (ev_move rfl) rfl rfl rfl ?_
  refine st_call rfl rfl rfl ent79 rfl rfl rfl ?_
  obtain ⟨_, H25, hs24, hs24v, hx26⟩ := ref21_MayConf_spec Hl1 A l cp (My.row hm3) (My.capF hm3 (by omega)) (by omega)
  rw [hs24v] at hs24; clear hs24v
  refine ⟨_, H25, hs24, ?_⟩
  have H25n : Hl1.next ≤ H25.next := hx26.1
  refine st_op (ev_not rfl) rfl rfl rfl ?_
  try show aw _ _ _ _ _ _
  by_cases hc27 : (!(Spec.mayC l)) = true
  ·
   refine aw_condT hc27 rfl ?_
   try show aw _ _ _ _ _ _
   replace hc27 : (Spec.mayC l) = false := by rw [Bool.not_eq_true'] at hc27; exact hc27
   refine aw_seq ?_
   refine aw_reg ?_
   iterate 2 refine st_op (ev_assign rfl) rfl rfl rfl ?_
   try show aw _ _ _ _ _ _
   refine aw_ret ?_
   have hm28 : My H25 H25 none 0 1 (([] : List Int).map i64c) := .nil
   have hx29 : Ext H H25 := (Ext.trans hxl4 hx26)
   have hres : (Spec.decC s) = (([] : List Int), false) := by (have hd : l = Spec.digits s := by rw [hl, List.take_of_length_le (by rw [Spec.digits_len]; omega)]); unfold Spec.decC; rw [← hd]; first | (rw [if_pos (by assumption)]; done) | (rw [if_neg (fun h => Bool.noConfusion (h.symm.trans (show _ = false by assumption)))]; done)
   exact ⟨.tuple #[.slice none 0 0, .bool false], rfl, none, 0, by first | (rw [hres]; first | done | rfl | simp; done) | rfl, (by rw [hres]; exact (My.older hm28 (by omega))), hx29⟩
  ·
   rw [Bool.not_eq_true] at hc27; refine aw_condF hc27 rfl ?_
   try show aw _ _ _ _ _ _
   replace hc27 : (Spec.mayC l) = true := by rw [Bool.not_eq_false'] at hc27; exact hc27
   refine aw_skip ?_
   try show aw _ _ _ _ _ _
   refine aw_seq ?_
   refine aw_reg ?_
   refine st_op (ev_move rfl) rfl rfl rfl ?_
   iterate 2 refine st_op (ev_assign rfl) rfl rfl rfl ?_
   try show aw _ _ _ _ _ _
   refine aw_ret ?_
   have h30 := My.ext hm3 hx26
   have hx31 : Ext H H25 := (Ext.trans hxl4 hx26)
   have hres : (Spec.decC s) = (l, true) := by (have hd : l = Spec.digits s := by rw [hl, List.take_of_length_le (by rw [Spec.digits_len]; omega)]); unfold Spec.decC; rw [← hd]; first | (rw [if_pos (by assumption)]; done) | (rw [if_neg (fun h => Bool.noConfusion (h.symm.trans (show _ = false by assumption)))]; done)
   exact ⟨.tuple #[.slice A l.length cp, .bool true], rfl, A, cp, by first | (rw [hres]; first | done | rfl | simp; done) | rfl, (by rw [hres]; exact h30), hx31⟩
theorem ref17_MaySnap_spec (H : Heap) (s_index : Int) (s_term : Int) (s_conf : ByteArray) (s_data : ByteArray) : ∃ v H', Spec Try.prog 57 [.agg #[.int .i64 s_index, .int .i64 s_term, .string s_conf, .string s_data]] H v H' ∧ ((v = .bool (Spec.mayS s_index s_term s_conf s_data)) ∧ (Ext H H')) := by
 refine spec_go1 E0_ok 33 (f := 57) Try.func57 rfl rfl rfl ?_
 refine aw_seq ?_
 refine aw_reg ?_
 obtain ⟨b1, H2, he3, b1e, H2n_, hB5, f4⟩ := mem_box (P := Try.prog) H (v := .agg #[.int .i64 s_index, .int .i64 s_term, .string s_conf, .string s_data]) (cs := [.int .i64 s_index, .int .i64 s_term, .string s_conf, .string s_data]) rfl rfl
 refine st_op (he3 _ _ _ _ _ _ _ _ _ rfl) rfl rfl rfl ?_
 have hx6 : Ext H H2 := Ext.new (by omega) H2n_ f4
 have H2n : H.next ≤ H2.next := hx6.1
 refine st_op (ev_assign rfl) rfl rfl rfl ?_
 try show aw _ _ _ _ _ _
 refine aw_seq ?_
 refine aw_reg ?_
 refine st_op (ev_fieldAddr rfl fa44_0 (o' := 0) rfl) rfl rfl rfl ?_
 refine st_op (ev_load rfl (lvar_one one2 hB5 rfl)) rfl rfl rfl ?_
 refine st_op (ev_int rfl rfl rfl) rfl rfl rfl ?_
 refine st_op (ev_move rfl) rfl rfl rfl ?_
 refine st_bool 6 rfl (fun hb7 => ?_) (fun hb7 => ?_)
 ·
  have hb7 := of_decide_eq_true hb7
  refine st_op (ev_fieldAddr rfl fa44_0 (o' := 0) rfl) rfl rfl rfl ?_
  refine st_op (ev_load rfl (lvar_one one2 hB5 rfl)) rfl rfl rfl ?_
  refine st_op (ev_int rfl rfl rfl) rfl rfl rfl ?_
  refine st_op (ev_pickT rfl rfl) rfl rfl rfl ?_
  refine st_op (ev_move rfl) rfl rfl rfl ?_
  refine st_bool 11 rfl (fun hb8 => ?_) (fun hb8 => ?_)
  ·
   have hb8 := of_decide_eq_true hb8
   refine st_op (ev_fieldAddr rfl fa44_1 (o' := 1) rfl) rfl rfl rfl ?_
   refine st_op (ev_load rfl (lvar_one one2 hB5 rfl)) rfl rfl rfl ?_
   refine st_op (ev_int rfl rfl rfl) rfl rfl rfl ?_
   refine st_op (ev_pickT rfl rfl) rfl rfl rfl ?_
   refine st_op (ev_move rfl) rfl rfl rfl ?_
   refine st_bool 16 rfl (fun hb9 => ?_) (fun hb9 => ?_)
   ·
    have hb9 := of_decide_eq_true hb9
    refine st_op (ev_fieldAddr rfl fa44_1 (o' := 1) rfl) rfl rfl rfl ?_
    refine st_op (ev_load rfl (lvar_one one2 hB5 rfl)) rfl rfl rfl ?_
    refine st_op (ev_int rfl rfl rfl) rfl rfl rfl ?_
    refine st_op (ev_pickT rfl rfl) rfl rfl rfl ?_
    refine st_op (ev_move rfl) rfl rfl rfl ?_
    refine st_bool 21 rfl (fun hb10 => ?_) (fun hb10 => ?_)
    ·
     have hb10 := of_decide_eq_true hb10
     refine st_op (ev_fieldAddr rfl fa44_2 (o' := 2) rfl) rfl rfl rfl ?_
     refine st_op (ev_load rfl (lvar_one one9 hB5 rfl)) rfl rfl rfl ?_
     refine st_op (ev_lenStr rfl Try.underlying9) rfl rfl rfl ?_
     refine st_op (ev_int rfl rfl rfl) rfl rfl rfl ?_
     refine st_op (ev_pickT rfl rfl) rfl rfl rfl ?_
     refine st_op (ev_move rfl) rfl rfl rfl ?_
     refine st_bool 27 rfl (fun hb11 => ?_) (fun hb11 => ?_)
     ·
      have hb11 := of_decide_eq_true hb11
      refine st_op (ev_fieldAddr rfl fa44_3 (o' := 3) rfl) rfl rfl rfl ?_
      refine st_op (ev_load rfl (lvar_one one9 hB5 rfl)) rfl rfl rfl ?_
      refine st_op (ev_lenStr rfl Try.underlying9) rfl rfl rfl ?_
      refine st_op (ev_int rfl rfl rfl) rfl rfl rfl ?_
      refine st_op (ev_pickT rfl rfl) rfl rfl rfl ?_
      refine st_op (ev_assign rfl) rfl rfl rfl ?_
      try show aw _ _ _ _ _ _
      refine aw_ret ?_
      have hres : (Spec.mayS s_index s_term s_conf s_data) = (decide (((s_data).size : Int) ≤ 200000)) := by rw [Spec.mayS_eq, Bool.eq_iff_iff]; simp only [decide_eq_true_eq, Bool.false_eq_true, iff_false]; omega
      exact ⟨.bool (decide (((s_data).size : Int) ≤ 200000)), rfl, by first | (rw [hres]; done) | rw [← hres], hx6⟩
     ·
      have hb11 := of_decide_eq_false hb11
      iterate 4 refine st_skip rfl rfl rfl ?_
      refine st_op (ev_pickF rfl rfl) rfl rfl rfl ?_
      refine st_op (ev_assign rfl) rfl rfl rfl ?_
      try show aw _ _ _ _ _ _
      refine aw_ret ?_
      have hres : (Spec.mayS s_index s_term s_conf s_data) = false := by rw [Spec.mayS_eq, Bool.eq_iff_iff]; simp only [decide_eq_true_eq, Bool.false_eq_true, iff_false]; omega
      exact ⟨.bool false, rfl, by first | (rw [hres]; done) | rw [← hres], hx6⟩
    ·
     have hb10 := of_decide_eq_false hb10
     iterate 4 refine st_skip rfl rfl rfl ?_
     refine st_op (ev_pickF rfl rfl) rfl rfl rfl ?_
     refine st_op (ev_move rfl) rfl rfl rfl ?_
     iterate 4 refine st_skip rfl rfl rfl ?_
     refine st_op (ev_pickF rfl rfl) rfl rfl rfl ?_
     refine st_op (ev_assign rfl) rfl rfl rfl ?_
     try show aw _ _ _ _ _ _
     refine aw_ret ?_
     have hres : (Spec.mayS s_index s_term s_conf s_data) = false := by rw [Spec.mayS_eq, Bool.eq_iff_iff]; simp only [decide_eq_true_eq, Bool.false_eq_true, iff_false]; omega
     exact ⟨.bool false, rfl, by first | (rw [hres]; done) | rw [← hres], hx6⟩
   ·
    have hb9 := of_decide_eq_false hb9
    iterate 3 refine st_skip rfl rfl rfl ?_
    refine st_op (ev_pickF rfl rfl) rfl rfl rfl ?_
    refine st_op (ev_move rfl) rfl rfl rfl ?_
    iterate 4 refine st_skip rfl rfl rfl ?_
    refine st_op (ev_pickF rfl rfl) rfl rfl rfl ?_
    refine st_op (ev_move rfl) rfl rfl rfl ?_
    iterate 4 refine st_skip rfl rfl rfl ?_
    refine st_op (ev_pickF rfl rfl) rfl rfl rfl ?_
    refine st_op (ev_assign rfl) rfl rfl rfl ?_
    try show aw _ _ _ _ _ _
    refine aw_ret ?_
    have hres : (Spec.mayS s_index s_term s_conf s_data) = false := by rw [Spec.mayS_eq, Bool.eq_iff_iff]; simp only [decide_eq_true_eq, Bool.false_eq_true, iff_false]; omega
    exact ⟨.bool false, rfl, by first | (rw [hres]; done) | rw [← hres], hx6⟩
  ·
   have hb8 := of_decide_eq_false hb8
   iterate 3 refine st_skip rfl rfl rfl ?_
   refine st_op (ev_pickF rfl rfl) rfl rfl rfl ?_
   refine st_op (ev_move rfl) rfl rfl rfl ?_
   iterate 3 refine st_skip rfl rfl rfl ?_
   refine st_op (ev_pickF rfl rfl) rfl rfl rfl ?_
   refine st_op (ev_move rfl) rfl rfl rfl ?_
   iterate 4 refine st_skip rfl rfl rfl ?_
   refine st_op (ev_pickF rfl rfl) rfl rfl rfl ?_
   refine st_op (ev_move rfl) rfl rfl rfl ?_
   iterate 4 refine st_skip rfl rfl rfl ?_
   refine st_op (ev_pickF rfl rfl) rfl rfl rfl ?_
   refine st_op (ev_assign rfl) rfl rfl rfl ?_
   try show aw _ _ _ _ _ _
   refine aw_ret ?_
   have hres : (Spec.mayS s_index s_term s_conf s_data) = false := by rw [Spec.mayS_eq, Bool.eq_iff_iff]; simp only [decide_eq_true_eq, Bool.false_eq_true, iff_false]; omega
   exact ⟨.bool false, rfl, by first | (rw [hres]; done) | rw [← hres], hx6⟩
 ·
  have hb7 := of_decide_eq_false hb7
  iterate 3 refine st_skip rfl rfl rfl ?_
  refine st_op (ev_pickF rfl rfl) rfl rfl rfl ?_
  refine st_op (ev_move rfl) rfl rfl rfl ?_
  iterate 3 refine st_skip rfl rfl rfl ?_
  refine st_op (ev_pickF rfl rfl) rfl rfl rfl ?_
  refine st_op (ev_move rfl) rfl rfl rfl ?_
  iterate 3 refine st_skip rfl rfl rfl ?_
  refine st_op (ev_pickF rfl rfl) rfl rfl rfl ?_
  refine st_op (ev_move rfl) rfl rfl rfl ?_
  iterate 4 refine st_skip rfl rfl rfl ?_
  refine st_op (ev_pickF rfl rfl) rfl rfl rfl ?_
  refine st_op (ev_move rfl) rfl rfl rfl ?_
  iterate 4 refine st_skip rfl rfl rfl ?_
  refine st_op (ev_pickF rfl rfl) rfl rfl rfl ?_
  refine st_op (ev_assign rfl) rfl rfl rfl ?_
  try show aw _ _ _ _ _ _
  refine aw_ret ?_
  have hres : (Spec.mayS s_index s_term s_conf s_data) = false := by rw [Spec.mayS_eq, Bool.eq_iff_iff]; simp only [decide_eq_true_eq, Bool.false_eq_true, iff_false]; omega
  exact ⟨.bool false, rfl, by first | (rw [hres]; done) | rw [← hres], hx6⟩
theorem ref21_May_spec (H : Heap) (kind : Int) (from_ : Int) (to_ : Int) (term : Int) (index : Int) (logterm : Int) (commit : Int) (yes : Bool) (esA : Option Addr) (es : List Entry) (esc : Nat) (hes : Row H esA esc 4 (es.map Entry.cells)) (ces : es.length ≤ esc) (les : es.length ≤ 1048576) (s_index : Int) (s_term : Int) (s_conf : ByteArray) (hs_conf : s_conf.size ≤ 1073741824) (s_data : ByteArray) (hs_data : s_data.size ≤ 1073741824) : ∃ v H', Spec Try.prog 31 [.agg #[.int .i64 kind, .int .i64 from_, .int .i64 to_, .int .i64 term, .int .i64 index, .int .i64 logterm, .int .i64 commit, .bool yes, .slice esA es.length esc, .int .i64 s_index, .int .i64 s_term, .string s_conf, .string s_data]] H v H' ∧ ((v = .bool (Spec.mayMsg kind from_ to_ term index logterm commit yes es s_index s_term s_conf s_data)) ∧ (Ext H H')) := by
 refine spec_go1 E0_ok 147 (f := 31) Try.func31 rfl rfl rfl ?_
 refine aw_seq ?_
 refine aw_reg ?_
 obtain ⟨b1, H2, he3, b1e, H2n_, hB5, f4⟩ := mem_box (P := Try.prog) H (v := .agg #[.int .i64 kind, .int .i64 from_, .int .i64 to_, .int .i64 term, .int .i64 index, .int .i64 logterm, .int .i64 commit, .bool yes, .slice esA es.length esc, .int .i64 s_index, .int .i64 s_term, .string s_conf, .string s_data]) (cs := [.int .i64 kind, .int .i64 from_, .int .i64 to_, .int .i64 term, .int .i64 index, .int .i64 logterm, .int .i64 commit, .bool yes, .slice esA es.length esc, .int .i64 s_index, .int .i64 s_term, .string s_conf, .string s_data]) rfl rfl
 refine st_op (he3 _ _ _ _ _ _ _ _ _ rfl) rfl rfl rfl ?_
 have hx6 : Ext H H2 := Ext.new (by omega) H2n_ f4
 have H2n : H.next ≤ H2.next := hx6.1
 refine st_op (ev_assign rfl) rfl rfl rfl ?_
 try show aw _ _ _ _ _ _
 iterate 2 refine aw_seq ?_
 refine aw_reg ?_
 refine st_op (ev_fieldAddr rfl fa46_0 (o' := 0) rfl) rfl rfl rfl ?_
 refine st_op (ev_load rfl (lvar_one one3 hB5 rfl)) rfl rfl rfl ?_
 refine st_op (ev_int rfl rfl rfl) rfl rfl rfl ?_
 refine st_op (ev_move rfl) rfl rfl rfl ?_
 refine st_bool 11 rfl (fun hb7 => ?_) (fun hb7 => ?_)
 ·
  have hb7 := of_decide_eq_true hb7
  iterate 3 refine st_skip rfl rfl rfl ?_
  refine st_op (ev_pickT rfl rfl) rfl rfl rfl ?_
  refine st_op (ev_move rfl) rfl rfl rfl ?_
  iterate 4 refine st_skip rfl rfl rfl ?_
  refine st_op (ev_pickT rfl rfl) rfl rfl rfl ?_
  refine st_op (ev_move rfl) rfl rfl rfl ?_
  iterate 4 refine st_skip rfl rfl rfl ?_
  refine st_op (ev_pickT rfl rfl) rfl rfl rfl ?_
  refine st_op (ev_move rfl) rfl rfl rfl ?_
  iterate 3 refine st_skip rfl rfl rfl ?_
  refine st_op (ev_pickT rfl rfl) rfl rfl rfl ?_
  refine st_op (ev_move rfl) rfl rfl rfl ?_
  iterate 3 refine st_skip rfl rfl rfl ?_
  refine st_op (ev_pickT rfl rfl) rfl rfl rfl ?_
  refine st_op (ev_move rfl) rfl rfl rfl ?_
  iterate 4 refine st_skip rfl rfl rfl ?_
  refine st_op (ev_pickT rfl rfl) rfl rfl rfl ?_
  refine st_op (ev_move rfl) rfl rfl rfl ?_
  iterate 4 refine st_skip rfl rfl rfl ?_
  refine st_op (ev_pickT rfl rfl) rfl rfl rfl ?_
  refine st_op (ev_move rfl) rfl rfl rfl ?_
  iterate 4 refine st_skip rfl rfl rfl ?_
  refine st_op (ev_pickT rfl rfl) rfl rfl rfl ?_
  refine st_op (ev_move rfl) rfl rfl rfl ?_
  iterate 4 refine st_skip rfl rfl rfl ?_
  refine st_op (ev_pickT rfl rfl) rfl rfl rfl ?_
  try show aw _ _ _ _ _ _
  refine aw_cond (t := true) rfl ?_
  try show aw _ _ _ _ _ _
  refine aw_seq ?_
  refine aw_reg ?_
  refine st_op (ev_assign rfl) rfl rfl rfl ?_
  try show aw _ _ _ _ _ _
  refine aw_ret ?_
  have hres : (Spec.mayMsg kind from_ to_ term index logterm commit yes es s_index s_term s_conf s_data) = false := by first | exact Spec.mayMsg_f1 (by omega) | exact Spec.mayMsg_f5 (by omega) | exact Spec.mayMsg_f4 (by omega) (by omega) | exact Spec.mayMsg_f3 (by assumption) (by omega) (by omega)
  exact ⟨.bool false, rfl, by first | (rw [hres]; done) | rw [← hres], hx6⟩
 ·
  have hb7 := of_decide_eq_false hb7
  refine st_op (ev_fieldAddr rfl fa46_0 (o' := 0) rfl) rfl rfl rfl ?_
  refine st_op (ev_load rfl (lvar_one one3 hB5 rfl)) rfl rfl rfl ?_
  refine st_op (ev_int rfl rfl rfl) rfl rfl rfl ?_
  refine st_op (ev_pickF rfl rfl) rfl rfl rfl ?_
  refine st_op (ev_move rfl) rfl rfl rfl ?_
  refine st_bool 16 rfl (fun hb8 => ?_) (fun hb8 => ?_)
  ·
   have hb8 := of_decide_eq_true hb8
   iterate 4 refine st_skip rfl rfl rfl ?_
   refine st_op (ev_pickT rfl rfl) rfl rfl rfl ?_
   refine st_op (ev_move rfl) rfl rfl rfl ?_
   iterate 4 refine st_skip rfl rfl rfl ?_
   refine st_op (ev_pickT rfl rfl) rfl rfl rfl ?_
   refine st_op (ev_move rfl) rfl rfl rfl ?_
   iterate 3 refine st_skip rfl rfl rfl ?_
   refine st_op (ev_pickT rfl rfl) rfl rfl rfl ?_
   refine st_op (ev_move rfl) rfl rfl rfl ?_
   iterate 3 refine st_skip rfl rfl rfl ?_
   refine st_op (ev_pickT rfl rfl) rfl rfl rfl ?_
   refine st_op (ev_move rfl) rfl rfl rfl ?_
   iterate 4 refine st_skip rfl rfl rfl ?_
   refine st_op (ev_pickT rfl rfl) rfl rfl rfl ?_
   refine st_op (ev_move rfl) rfl rfl rfl ?_
   iterate 4 refine st_skip rfl rfl rfl ?_
   refine st_op (ev_pickT rfl rfl) rfl rfl rfl ?_
   refine st_op (ev_move rfl) rfl rfl rfl ?_
   iterate 4 refine st_skip rfl rfl rfl ?_
   refine st_op (ev_pickT rfl rfl) rfl rfl rfl ?_
   refine st_op (ev_move rfl) rfl rfl rfl ?_
   iterate 4 refine st_skip rfl rfl rfl ?_
   refine st_op (ev_pickT rfl rfl) rfl rfl rfl ?_
   try show aw _ _ _ _ _ _
   refine aw_cond (t := true) rfl ?_
   try show aw _ _ _ _ _ _
   refine aw_seq ?_
   refine aw_reg ?_
   refine st_op (ev_assign rfl) rfl rfl rfl ?_
   try show aw _ _ _ _ _ _
   refine aw_ret ?_
   have hres : (Spec.mayMsg kind from_ to_ term index logterm commit yes es s_index s_term s_conf s_data) = false := by first | exact Spec.mayMsg_f1 (by omega) | exact Spec.mayMsg_f5 (by omega) | exact Spec.mayMsg_f4 (by omega) (by omega) | exact Spec.mayMsg_f3 (by assumption) (by omega) (by omega)
   exact ⟨.bool false, rfl, by first | (rw [hres]; done) | rw [← hres], hx6⟩
  ·
   have hb8 := of_decide_eq_false hb8
   refine st_op (ev_fieldAddr rfl fa46_1 (o' := 1) rfl) rfl rfl rfl ?_
   refine st_op (ev_load rfl (lvar_one one3 hB5 rfl)) rfl rfl rfl ?_
   refine st_call rfl rfl rfl ent52 rfl rfl rfl ?_
   obtain ⟨_, H10, hs9, hs9v, hx11⟩ := ref21_id_spec H2 from_
   rw [hs9v] at hs9; clear hs9v
   refine ⟨_, H10, hs9, ?_⟩
   have H10n : H2.next ≤ H10.next := hx11.1
   refine st_op (ev_not rfl) rfl rfl rfl ?_
   refine st_op (ev_pickF rfl rfl) rfl rfl rfl ?_
   refine st_op (ev_move rfl) rfl rfl rfl ?_
   refine st_bool 22 rfl (fun hb12 => ?_) (fun hb12 => ?_)
   ·
    replace hb12 : (decide (1 ≤ from_ ∧ from_ ≤ 7)) = false := by rw [Bool.not_eq_true'] at hb12; exact hb12
    have hb12 := of_decide_eq_false hb12
    iterate 4 refine st_skip rfl rfl rfl ?_
    refine st_op (ev_pickT rfl rfl) rfl rfl rfl ?_
    refine st_op (ev_move rfl) rfl rfl rfl ?_
    iterate 3 refine st_skip rfl rfl rfl ?_
    refine st_op (ev_pickT rfl rfl) rfl rfl rfl ?_
    refine st_op (ev_move rfl) rfl rfl rfl ?_
    iterate 3 refine st_skip rfl rfl rfl ?_
    refine st_op (ev_pickT rfl rfl) rfl rfl rfl ?_
    refine st_op (ev_move rfl) rfl rfl rfl ?_
    iterate 4 refine st_skip rfl rfl rfl ?_
    refine st_op (ev_pickT rfl rfl) rfl rfl rfl ?_
    refine st_op (ev_move rfl) rfl rfl rfl ?_
    iterate 4 refine st_skip rfl rfl rfl ?_
    refine st_op (ev_pickT rfl rfl) rfl rfl rfl ?_
    refine st_op (ev_move rfl) rfl rfl rfl ?_
    iterate 4 refine st_skip rfl rfl rfl ?_
    refine st_op (ev_pickT rfl rfl) rfl rfl rfl ?_
    refine st_op (ev_move rfl) rfl rfl rfl ?_
    iterate 4 refine st_skip rfl rfl rfl ?_
    refine st_op (ev_pickT rfl rfl) rfl rfl rfl ?_
    try show aw _ _ _ _ _ _
    refine aw_cond (t := true) rfl ?_
    try show aw _ _ _ _ _ _
    refine aw_seq ?_
    refine aw_reg ?_
    refine st_op (ev_assign rfl) rfl rfl rfl ?_
    try show aw _ _ _ _ _ _
    refine aw_ret ?_
    have hx13 : Ext H H10 := (Ext.trans hx6 hx11)
    have hres : (Spec.mayMsg kind from_ to_ term index logterm commit yes es s_index s_term s_conf s_data) = false := by first | exact Spec.mayMsg_f1 (by omega) | exact Spec.mayMsg_f5 (by omega) | exact Spec.mayMsg_f4 (by omega) (by omega) | exact Spec.mayMsg_f3 (by assumption) (by omega) (by omega)
    exact ⟨.bool false, rfl, by first | (rw [hres]; done) | rw [← hres], hx13⟩
   ·
    replace hb12 : (decide (1 ≤ from_ ∧ from_ ≤ 7)) = true := by rw [Bool.not_eq_false'] at hb12; exact hb12
    have hb12 := of_decide_eq_true hb12
    refine st_op (ev_fieldAddr rfl fa46_2 (o' := 2) rfl) rfl rfl rfl ?_
    have h14 := Ext.blk hx11 (by omega) hB5
    refine st_op (ev_load rfl (lvar_one one3 h14 rfl)) rfl rfl rfl ?_
    refine st_call rfl rfl rfl ent52 rfl rfl rfl ?_
    obtain ⟨_, H16, hs15, hs15v, hx17⟩ := ref21_id_spec H10 to_
    rw [hs15v] at hs15; clear hs15v
    refine ⟨_, H16, hs15, ?_⟩
    have H16n : H10.next ≤ H16.next := hx17.1
    refine st_op (ev_not rfl) rfl rfl rfl ?_
    refine st_op (ev_pickF rfl rfl) rfl rfl rfl ?_
    refine st_op (ev_move rfl) rfl rfl rfl ?_
    refine st_bool 28 rfl (fun hb18 => ?_) (fun hb18 => ?_)
    ·
     replace hb18 : (decide (1 ≤ to_ ∧ to_ ≤ 7)) = false := by rw [Bool.not_eq_true'] at hb18; exact hb18
     have hb18 := of_decide_eq_false hb18
     iterate 3 refine st_skip rfl rfl rfl ?_
     refine st_op (ev_pickT rfl rfl) rfl rfl rfl ?_
     refine st_op (ev_move rfl) rfl rfl rfl ?_
     iterate 3 refine st_skip rfl rfl rfl ?_
     refine st_op (ev_pickT rfl rfl) rfl rfl rfl ?_
     refine st_op (ev_move rfl) rfl rfl rfl ?_
     iterate 4 refine st_skip rfl rfl rfl ?_
     refine st_op (ev_pickT rfl rfl) rfl rfl rfl ?_
     refine st_op (ev_move rfl) rfl rfl rfl ?_
     iterate 4 refine st_skip rfl rfl rfl ?_
     refine st_op (ev_pickT rfl rfl) rfl rfl rfl ?_
     refine st_op (ev_move rfl) rfl rfl rfl ?_
     iterate 4 refine st_skip rfl rfl rfl ?_
     refine st_op (ev_pickT rfl rfl) rfl rfl rfl ?_
     refine st_op (ev_move rfl) rfl rfl rfl ?_
     iterate 4 refine st_skip rfl rfl rfl ?_
     refine st_op (ev_pickT rfl rfl) rfl rfl rfl ?_
     try show aw _ _ _ _ _ _
     refine aw_cond (t := true) rfl ?_
     try show aw _ _ _ _ _ _
     refine aw_seq ?_
     refine aw_reg ?_
     refine st_op (ev_assign rfl) rfl rfl rfl ?_
     try show aw _ _ _ _ _ _
     refine aw_ret ?_
     have hx19 : Ext H H16 := (Ext.trans (Ext.trans hx6 hx11) hx17)
     have hres : (Spec.mayMsg kind from_ to_ term index logterm commit yes es s_index s_term s_conf s_data) = false := by first | exact Spec.mayMsg_f1 (by omega) | exact Spec.mayMsg_f5 (by omega) | exact Spec.mayMsg_f4 (by omega) (by omega) | exact Spec.mayMsg_f3 (by assumption) (by omega) (by omega)
     exact ⟨.bool false, rfl, by first | (rw [hres]; done) | rw [← hres], hx19⟩
    ·
     replace hb18 : (decide (1 ≤ to_ ∧ to_ ≤ 7)) = true := by rw [Bool.not_eq_false'] at hb18; exact hb18
     have hb18 := of_decide_eq_true hb18
     refine st_op (ev_fieldAddr rfl fa46_3 (o' := 3) rfl) rfl rfl rfl ?_
     have h20 := Ext.blk hx17 (by omega) h14
     refine st_op (ev_load rfl (lvar_one one2 h20 rfl)) rfl rfl rfl ?_
     refine st_op (ev_int rfl rfl rfl) rfl rfl rfl ?_
     refine st_op (ev_pickF rfl rfl) rfl rfl rfl ?_
     refine st_op (ev_move rfl) rfl rfl rfl ?_
     refine st_bool 33 rfl (fun hb21 => ?_) (fun hb21 => ?_)
     ·
      have hb21 := of_decide_eq_true hb21
      iterate 3 refine st_skip rfl rfl rfl ?_
      refine st_op (ev_pickT rfl rfl) rfl rfl rfl ?_
      refine st_op (ev_move rfl) rfl rfl rfl ?_
      iterate 4 refine st_skip rfl rfl rfl ?_
      refine st_op (ev_pickT rfl rfl) rfl rfl rfl ?_
      refine st_op (ev_move rfl) rfl rfl rfl ?_
      iterate 4 refine st_skip rfl rfl rfl ?_
      refine st_op (ev_pickT rfl rfl) rfl rfl rfl ?_
      refine st_op (ev_move rfl) rfl rfl rfl ?_
      iterate 4 refine st_skip rfl rfl rfl ?_
      refine st_op (ev_pickT rfl rfl) rfl rfl rfl ?_
      refine st_op (ev_move rfl) rfl rfl rfl ?_
      iterate 4 refine st_skip rfl rfl rfl ?_
      refine st_op (ev_pickT rfl rfl) rfl rfl rfl ?_
      try show aw _ _ _ _ _ _
      refine aw_cond (t := true) rfl ?_
      try show aw _ _ _ _ _ _
      refine aw_seq ?_
      refine aw_reg ?_
      refine st_op (ev_assign rfl) rfl rfl rfl ?_
      try show aw _ _ _ _ _ _
      refine aw_ret ?_
      have hx22 : Ext H H16 := (Ext.trans (Ext.trans hx6 hx11) hx17)
      have hres : (Spec.mayMsg kind from_ to_ term index logterm commit yes es s_index s_term s_conf s_data) = false := by first | exact Spec.mayMsg_f1 (by omega) | exact Spec.mayMsg_f5 (by omega) | exact Spec.mayMsg_f4 (by omega) (by omega) | exact Spec.mayMsg_f3 (by assumption) (by omega) (by omega)
      exact ⟨.bool false, rfl, by first | (rw [hres]; done) | rw [← hres], hx22⟩
     ·
      have hb21 := of_decide_eq_false hb21
      refine st_op (ev_fieldAddr rfl fa46_3 (o' := 3) rfl) rfl rfl rfl ?_
      refine st_op (ev_load rfl (lvar_one one2 h20 rfl)) rfl rfl rfl ?_
      refine st_op (ev_int rfl rfl rfl) rfl rfl rfl ?_
      refine st_op (ev_pickF rfl rfl) rfl rfl rfl ?_
      refine st_op (ev_move rfl) rfl rfl rfl ?_
      refine st_bool 38 rfl (fun hb23 => ?_) (fun hb23 => ?_)
      ·
       have hb23 := of_decide_eq_true hb23
       iterate 4 refine st_skip rfl rfl rfl ?_
       refine st_op (ev_pickT rfl rfl) rfl rfl rfl ?_
       refine st_op (ev_move rfl) rfl rfl rfl ?_
       iterate 4 refine st_skip rfl rfl rfl ?_
       refine st_op (ev_pickT rfl rfl) rfl rfl rfl ?_
       refine st_op (ev_move rfl) rfl rfl rfl ?_
       iterate 4 refine st_skip rfl rfl rfl ?_
       refine st_op (ev_pickT rfl rfl) rfl rfl rfl ?_
       refine st_op (ev_move rfl) rfl rfl rfl ?_
       iterate 4 refine st_skip rfl rfl rfl ?_
       refine st_op (ev_pickT rfl rfl) rfl rfl rfl ?_
       try show aw _ _ _ _ _ _
       refine aw_cond (t := true) rfl ?_
       try show aw _ _ _ _ _ _
       refine aw_seq ?_
       refine aw_reg ?_
       refine st_op (ev_assign rfl) rfl rfl rfl ?_
       try show aw _ _ _ _ _ _
       refine aw_ret ?_
       have hx24 : Ext H H16 := (Ext.trans (Ext.trans hx6 hx11) hx17)
       have hres : (Spec.mayMsg kind from_ to_ term index logterm commit yes es s_index s_term s_conf s_data) = false := by first | exact Spec.mayMsg_f1 (by omega) | exact Spec.mayMsg_f5 (by omega) | exact Spec.mayMsg_f4 (by omega) (by omega) | exact Spec.mayMsg_f3 (by assumption) (by omega) (by omega)
       exact ⟨.bool false, rfl, by first | (rw [hres]; done) | rw [← hres], hx24⟩
      ·
       have hb23 := of_decide_eq_false hb23
       refine st_op (ev_fieldAddr rfl fa46_4 (o' := 4) rfl) rfl rfl rfl ?_
       refine st_op (ev_load rfl (lvar_one one2 h20 rfl)) rfl rfl rfl ?_
       refine st_call rfl rfl rfl ent53 rfl rfl rfl ?_
       obtain ⟨_, H26, hs25, hs25v, hx27⟩ := ref21_num_spec H16 index
       rw [hs25v] at hs25; clear hs25v
       refine ⟨_, H26, hs25, ?_⟩
       have H26n : H16.next ≤ H26.next := hx27.1
       refine st_op (ev_not rfl) rfl rfl rfl ?_
       refine st_op (ev_pickF rfl rfl) rfl rfl rfl ?_
       refine st_op (ev_move rfl) rfl rfl rfl ?_
       refine st_bool 44 rfl (fun hb28 => ?_) (fun hb28 => ?_)
       ·
        replace hb28 : (decide (0 ≤ index ∧ index ≤ 1099511627776)) = false := by rw [Bool.not_eq_true'] at hb28; exact hb28
        have hb28 := of_decide_eq_false hb28
        iterate 4 refine st_skip rfl rfl rfl ?_
        refine st_op (ev_pickT rfl rfl) rfl rfl rfl ?_
        refine st_op (ev_move rfl) rfl rfl rfl ?_
        iterate 4 refine st_skip rfl rfl rfl ?_
        refine st_op (ev_pickT rfl rfl) rfl rfl rfl ?_
        refine st_op (ev_move rfl) rfl rfl rfl ?_
        iterate 4 refine st_skip rfl rfl rfl ?_
        refine st_op (ev_pickT rfl rfl) rfl rfl rfl ?_
        try show aw _ _ _ _ _ _
        refine aw_cond (t := true) rfl ?_
        try show aw _ _ _ _ _ _
        refine aw_seq ?_
        refine aw_reg ?_
        refine st_op (ev_assign rfl) rfl rfl rfl ?_
        try show aw _ _ _ _ _ _
        refine aw_ret ?_
        have hx29 : Ext H H26 := (Ext.trans (Ext.trans (Ext.trans hx6 hx11) hx17) hx27)
        have hres : (Spec.mayMsg kind from_ to_ term index logterm commit yes es s_index s_term s_conf s_data) = false := by first | exact Spec.mayMsg_f1 (by omega) | exact Spec.mayMsg_f5 (by omega) | exact Spec.mayMsg_f4 (by omega) (by omega) | exact Spec.mayMsg_f3 (by assumption) (by omega) (by omega)
        exact ⟨.bool false, rfl, by first | (rw [hres]; done) | rw [← hres], hx29⟩
       ·
        replace hb28 : (decide (0 ≤ index ∧ index ≤ 1099511627776)) = true := by rw [Bool.not_eq_false'] at hb28; exact hb28
        have hb28 := of_decide_eq_true hb28
        refine st_op (ev_fieldAddr rfl fa46_5 (o' := 5) rfl) rfl rfl rfl ?_
        have h30 := Ext.blk hx27 (by omega) h20
        refine st_op (ev_load rfl (lvar_one one2 h30 rfl)) rfl rfl rfl ?_
        refine st_call rfl rfl rfl ent53 rfl rfl rfl ?_
        obtain ⟨_, H32, hs31, hs31v, hx33⟩ := ref21_num_spec H26 logterm
        rw [hs31v] at hs31; clear hs31v
        refine ⟨_, H32, hs31, ?_⟩
        have H32n : H26.next ≤ H32.next := hx33.1
        refine st_op (ev_not rfl) rfl rfl rfl ?_
        refine st_op (ev_pickF rfl rfl) rfl rfl rfl ?_
        refine st_op (ev_move rfl) rfl rfl rfl ?_
        refine st_bool 50 rfl (fun hb34 => ?_) (fun hb34 => ?_)
        ·
         replace hb34 : (decide (0 ≤ logterm ∧ logterm ≤ 1099511627776)) = false := by rw [Bool.not_eq_true'] at hb34; exact hb34
         have hb34 := of_decide_eq_false hb34
         iterate 4 refine st_skip rfl rfl rfl ?_
         refine st_op (ev_pickT rfl rfl) rfl rfl rfl ?_
         refine st_op (ev_move rfl) rfl rfl rfl ?_
         iterate 4 refine st_skip rfl rfl rfl ?_
         refine st_op (ev_pickT rfl rfl) rfl rfl rfl ?_
         try show aw _ _ _ _ _ _
         refine aw_cond (t := true) rfl ?_
         try show aw _ _ _ _ _ _
         refine aw_seq ?_
         refine aw_reg ?_
         refine st_op (ev_assign rfl) rfl rfl rfl ?_
         try show aw _ _ _ _ _ _
         refine aw_ret ?_
         have hx35 : Ext H H32 := (Ext.trans (Ext.trans (Ext.trans (Ext.trans hx6 hx11) hx17) hx27) hx33)
         have hres : (Spec.mayMsg kind from_ to_ term index logterm commit yes es s_index s_term s_conf s_data) = false := by first | exact Spec.mayMsg_f1 (by omega) | exact Spec.mayMsg_f5 (by omega) | exact Spec.mayMsg_f4 (by omega) (by omega) | exact Spec.mayMsg_f3 (by assumption) (by omega) (by omega)
         exact ⟨.bool false, rfl, by first | (rw [hres]; done) | rw [← hres], hx35⟩
        ·
         replace hb34 : (decide (0 ≤ logterm ∧ logterm ≤ 1099511627776)) = true := by rw [Bool.not_eq_false'] at hb34; exact hb34
         have hb34 := of_decide_eq_true hb34
         refine st_op (ev_fieldAddr rfl fa46_6 (o' := 6) rfl) rfl rfl rfl ?_
         have h36 := Ext.blk hx33 (by omega) h30
         refine st_op (ev_load rfl (lvar_one one2 h36 rfl)) rfl rfl rfl ?_
         refine st_call rfl rfl rfl ent53 rfl rfl rfl ?_
         obtain ⟨_, H38, hs37, hs37v, hx39⟩ := ref21_num_spec H32 commit
         rw [hs37v] at hs37; clear hs37v
         refine ⟨_, H38, hs37, ?_⟩
         have H38n : H32.next ≤ H38.next := hx39.1
         refine st_op (ev_not rfl) rfl rfl rfl ?_
         refine st_op (ev_pickF rfl rfl) rfl rfl rfl ?_
         refine st_op (ev_move rfl) rfl rfl rfl ?_
         refine st_bool 56 rfl (fun hb40 => ?_) (fun hb40 => ?_)
         ·
          replace hb40 : (decide (0 ≤ commit ∧ commit ≤ 1099511627776)) = false := by rw [Bool.not_eq_true'] at hb40; exact hb40
          have hb40 := of_decide_eq_false hb40
          iterate 4 refine st_skip rfl rfl rfl ?_
          refine st_op (ev_pickT rfl rfl) rfl rfl rfl ?_
          try show aw _ _ _ _ _ _
          refine aw_cond (t := true) rfl ?_
          try show aw _ _ _ _ _ _
          refine aw_seq ?_
          refine aw_reg ?_
          refine st_op (ev_assign rfl) rfl rfl rfl ?_
          try show aw _ _ _ _ _ _
          refine aw_ret ?_
          have hx41 : Ext H H38 := (Ext.trans (Ext.trans (Ext.trans (Ext.trans (Ext.trans hx6 hx11) hx17) hx27) hx33) hx39)
          have hres : (Spec.mayMsg kind from_ to_ term index logterm commit yes es s_index s_term s_conf s_data) = false := by first | exact Spec.mayMsg_f1 (by omega) | exact Spec.mayMsg_f5 (by omega) | exact Spec.mayMsg_f4 (by omega) (by omega) | exact Spec.mayMsg_f3 (by assumption) (by omega) (by omega)
          exact ⟨.bool false, rfl, by first | (rw [hres]; done) | rw [← hres], hx41⟩
         ·
          replace hb40 : (decide (0 ≤ commit ∧ commit ≤ 1099511627776)) = true := by rw [Bool.not_eq_false'] at hb40; exact hb40
          have hb40 := of_decide_eq_true hb40
          refine st_op (ev_fieldAddr rfl fa46_8 (o' := 8) rfl) rfl rfl rfl ?_
          have h42 := Ext.blk hx39 (by omega) h36
          refine st_op (ev_load rfl (lvar_one one42 h42 rfl)) rfl rfl rfl ?_
          refine st_op (ev_lenSl rfl Try.underlying42) rfl rfl rfl ?_
          refine st_op (ev_int rfl rfl rfl) rfl rfl rfl ?_
          refine st_op (ev_pickF rfl rfl) rfl rfl rfl ?_
          try show aw _ _ _ _ _ _
          by_cases hc43 : (decide ((es.length : Int) > 8)) = true
          ·
           refine aw_condT hc43 rfl ?_
           try show aw _ _ _ _ _ _
           have hc43 := of_decide_eq_true hc43
           refine aw_seq ?_
           refine aw_reg ?_
           refine st_op (ev_assign rfl) rfl rfl rfl ?_
           try show aw _ _ _ _ _ _
           refine aw_ret ?_
           have hx44 : Ext H H38 := (Ext.trans (Ext.trans (Ext.trans (Ext.trans (Ext.trans hx6 hx11) hx17) hx27) hx33) hx39)
           have hres : (Spec.mayMsg kind from_ to_ term index logterm commit yes es s_index s_term s_conf s_data) = false := by first | exact Spec.mayMsg_f1 (by omega) | exact Spec.mayMsg_f5 (by omega) | exact Spec.mayMsg_f4 (by omega) (by omega) | exact Spec.mayMsg_f3 (by assumption) (by omega) (by omega)
           exact ⟨.bool false, rfl, by first | (rw [hres]; done) | rw [← hres], hx44⟩
          ·
           rw [Bool.not_eq_true] at hc43; refine aw_condF hc43 rfl ?_
           try show aw _ _ _ _ _ _
           have hc43 := of_decide_eq_false hc43
           refine aw_skip ?_
           try show aw _ _ _ _ _ _
           iterate 2 refine aw_seq ?_
           refine aw_reg ?_
           refine st_op (ev_fieldAddr rfl fa46_8 (o' := 8) rfl) rfl rfl rfl ?_
           refine st_op (ev_load rfl (lvar_one one42 h42 rfl)) rfl rfl rfl ?_
           refine st_op (ev_lenSl rfl Try.underlying42) rfl rfl rfl ?_
           refine st_op (ev_int rfl rfl rfl) rfl rfl rfl ?_
           refine st_op (ev_move rfl) rfl rfl rfl ?_
           refine st_bool 66 rfl (fun hb45 => ?_) (fun hb45 => ?_)
           ·
            have hb45 := of_decide_eq_true hb45
            refine st_op (ev_fieldAddr rfl fa46_0 (o' := 0) rfl) rfl rfl rfl ?_
            refine st_op (ev_load rfl (lvar_one one3 h42 rfl)) rfl rfl rfl ?_
            refine st_op (ev_int rfl rfl rfl) rfl rfl rfl ?_
            refine st_op (ev_pickT rfl rfl) rfl rfl rfl ?_
            refine st_op (ev_move rfl) rfl rfl rfl ?_
            refine st_bool 71 rfl (fun hb46 => ?_) (fun hb46 => ?_)
            ·
             have hb46 : ¬ (kind = 3) := by simpa using hb46
             iterate 12 refine st_skip rfl rfl rfl ?_
             refine st_op (ev_pickT rfl rfl) rfl rfl rfl ?_
             try show aw _ _ _ _ _ _
             refine aw_cond (t := true) rfl ?_
             try show aw _ _ _ _ _ _
             refine aw_seq ?_
             refine aw_reg ?_
             refine st_op (ev_assign rfl) rfl rfl rfl ?_
             try show aw _ _ _ _ _ _
             refine aw_ret ?_
             have hx47 : Ext H H38 := (Ext.trans (Ext.trans (Ext.trans (Ext.trans (Ext.trans hx6 hx11) hx17) hx27) hx33) hx39)
             have hres : (Spec.mayMsg kind from_ to_ term index logterm commit yes es s_index s_term s_conf s_data) = false := by first | exact Spec.mayMsg_f1 (by omega) | exact Spec.mayMsg_f5 (by omega) | exact Spec.mayMsg_f4 (by omega) (by omega) | exact Spec.mayMsg_f3 (by assumption) (by omega) (by omega)
             exact ⟨.bool false, rfl, by first | (rw [hres]; done) | rw [← hres], hx47⟩
            ·
             have hb46 : (kind = 3) := by simpa using hb46
             refine st_op (ev_fieldAddr rfl fa46_7 (o' := 7) rfl) rfl rfl rfl ?_
             refine st_op (ev_load rfl (lvar_one one4 h42 rfl)) rfl rfl rfl ?_
             refine st_op (ev_move rfl) rfl rfl rfl ?_
             refine st_bool 74 rfl (fun hb48 => ?_) (fun hb48 => ?_)
             ·
              refine st_op (ev_fieldAddr rfl fa46_0 (o' := 0) rfl) rfl rfl rfl ?_
              refine st_op (ev_load rfl (lvar_one one3 h42 rfl)) rfl rfl rfl ?_
              refine st_op (ev_int rfl rfl rfl) rfl rfl rfl ?_
              refine st_op (ev_pickT rfl rfl) rfl rfl rfl ?_
              refine st_op (ev_move rfl) rfl rfl rfl ?_
              refine st_bool 79 rfl (fun hb49 => ?_) (fun hb49 => ?_)
              ·
               have hb49 : ¬ (kind = 2) := by simpa using hb49
               refine st_op (ev_fieldAddr rfl fa46_0 (o' := 0) rfl) rfl rfl rfl ?_
               refine st_op (ev_load rfl (lvar_one one3 h42 rfl)) rfl rfl rfl ?_
               refine st_op (ev_int rfl rfl rfl) rfl rfl rfl ?_
               refine st_op (ev_pickT rfl rfl) rfl rfl rfl ?_
               refine st_op (ev_pickF rfl rfl) rfl rfl rfl ?_
               try show aw _ _ _ _ _ _
               by_cases hc50 : (kind != 4) = true
               ·
                refine aw_condT hc50 rfl ?_
                try show aw _ _ _ _ _ _
                have hc50 : ¬ (kind = 4) := by simpa using hc50
                refine aw_seq ?_
                refine aw_reg ?_
                refine st_op (ev_assign rfl) rfl rfl rfl ?_
                try show aw _ _ _ _ _ _
                refine aw_ret ?_
                have hx51 : Ext H H38 := (Ext.trans (Ext.trans (Ext.trans (Ext.trans (Ext.trans hx6 hx11) hx17) hx27) hx33) hx39)
                have hres : (Spec.mayMsg kind from_ to_ term index logterm commit yes es s_index s_term s_conf s_data) = false := by first | exact Spec.mayMsg_f1 (by omega) | exact Spec.mayMsg_f5 (by omega) | exact Spec.mayMsg_f4 (by omega) (by omega) | exact Spec.mayMsg_f3 (by assumption) (by omega) (by omega)
                exact ⟨.bool false, rfl, by first | (rw [hres]; done) | rw [← hres], hx51⟩
               ·
                rw [Bool.not_eq_true] at hc50; refine aw_condF hc50 rfl ?_
                try show aw _ _ _ _ _ _
                have hc50 : (kind = 4) := by simpa using hc50
                exfalso; omega
              ·
               have hb49 : (kind = 2) := by simpa using hb49
               exfalso; omega
             ·
              iterate 3 refine st_skip rfl rfl rfl ?_
              refine st_op (ev_pickF rfl rfl) rfl rfl rfl ?_
              refine st_op (ev_move rfl) rfl rfl rfl ?_
              iterate 3 refine st_skip rfl rfl rfl ?_
              iterate 2 refine st_op (ev_pickF rfl rfl) rfl rfl rfl ?_
              try show aw _ _ _ _ _ _
              refine aw_cond (t := false) rfl ?_
              try show aw _ _ _ _ _ _
              refine aw_skip ?_
              try show aw _ _ _ _ _ _
              refine aw_seq ?_
              refine aw_reg ?_
              refine st_op (ev_fieldAddr rfl fa46_5 (o' := 5) rfl) rfl rfl rfl ?_
              refine st_op (ev_load rfl (lvar_one one2 h42 rfl)) rfl rfl rfl ?_
              refine st_op (ev_assign rfl) rfl rfl rfl ?_
              try show aw _ _ _ _ _ _
              iterate 2 refine aw_seq ?_
              refine aw_reg ?_
              refine st_op (ev_assign rfl) rfl rfl rfl ?_
              try show aw _ _ _ _ _ _
              refine aw_block ?_
              refine aw_keep [1, 3, 4] (l' := (.cons 1 (.pointer (some ⟨b1, 0, none⟩)) (.cons 3 (.int .i64 logterm) (.cons 4 (.int .i64 0) .nil)))) (by repeat (first | exact Up.done | refine Up.then ?_ | refine Up.inBlock ?_)) rfl ?_
              refine aw_iter (α := Nat × Int × Heap) (fun a => es.length - a.1) (fun a => (.cons 1 (.pointer (some ⟨b1, 0, none⟩)) (.cons 3 (.int .i64 a.2.1) (.cons 4 (.int .i64 (a.1 : Int)) .nil)))) (fun a => a.2.2) (fun a => (a.1 ≤ es.length) ∧ (Spec.entR term index logterm es = Spec.entR term (index + (a.1 : Int)) a.2.1 (es.drop a.1)) ∧ (Ext H38 a.2.2)) (0, logterm, H38) ⟨(show 0 ≤ es.length from Nat.zero_le _), (show Spec.entR term index logterm es = Spec.entR term (index + (0 : Int)) logterm (es.drop 0) from (by simp)), (show Ext H38 H38 from (Ext.refl H38))⟩ ?_
              rintro ⟨i, tm, Hl52⟩ ⟨hi, hv, hxl53⟩ ih54
              replace hi : i ≤ es.length := hi
              replace hv : Spec.entR term index logterm es = Spec.entR term (index + (i : Int)) tm (es.drop i) := hv
              replace hxl53 : Ext H38 Hl52 := hxl53
              show aw _ _ _ (RL _ (.cons 1 (.pointer (some ⟨b1, 0, none⟩)) (.cons 3 (.int .i64 tm) (.cons 4 (.int .i64 (i : Int)) .nil)))) Hl52 _
              have Hl52n : H38.next ≤ Hl52.next := hxl53.1
              iterate 2 refine aw_seq ?_
              refine aw_reg ?_
              refine st_op (ev_move rfl) rfl rfl rfl ?_
              refine st_op (ev_fieldAddr rfl fa46_8 (o' := 8) rfl) rfl rfl rfl ?_
              have h55 := Ext.blk hxl53 (by omega) h42
              refine st_op (ev_load rfl (lvar_one one42 h55 rfl)) rfl rfl rfl ?_
              refine st_op (ev_lenSl rfl Try.underlying42) rfl rfl rfl ?_
              refine st_op (ev_int rfl rfl rfl) rfl rfl rfl ?_
              try show aw _ _ _ _ _ _
              by_cases hc56 : (decide ((i : Int) < (es.length : Int))) = true
              ·
               refine aw_condT hc56 rfl ?_
               try show aw _ _ _ _ _ _
               have hc56 := of_decide_eq_true hc56
               refine aw_skip ?_
               try show aw _ _ _ _ _ _
               refine aw_seq ?_
               refine aw_block ?_
               refine aw_seq ?_
               refine aw_reg ?_
               refine st_op (ev_fieldAddr rfl fa46_8 (o' := 8) rfl) rfl rfl rfl ?_
               refine st_op (ev_load rfl (lvar_one one42 h55 rfl)) rfl rfl rfl ?_
               refine st_op (ev_move rfl) rfl rfl rfl ?_
               have hx58 : Ext H Hl52 := (Ext.trans (Ext.trans (Ext.trans (Ext.trans (Ext.trans (Ext.trans hx6 hx11) hx17) hx27) hx33) hx39) hxl53)
               have h57 := Row.ext hes hx58
               have hi59 : 0 ≤ ((i : Int) : Int) := by omega
               have hi60 : ((i : Int) : Int) < ((es.length : Nat) : Int) := by omega
               obtain ⟨x61, hx62⟩ : ∃ e, es[i]? = some e := ⟨_, List.getElem?_eq_getElem (by omega)⟩
               refine st_op (ev_at rfl rfl h57 (getMap Entry.cells hx62) (by first | rfl | omega | simp) hi59 hi60 el42) rfl rfl rfl ?_
               refine st_op (ev_atN (cs := [.int .i64 x61.index, .int .i64 x61.term, .int .i64 x61.kind, .string x61.data]) rfl h57 (getMap Entry.cells hx62) many84 rfl rfl (by decide)) rfl rfl rfl ?_
               obtain ⟨b63, H64, he65, b63e, H64n_, hB67, f66⟩ := mem_alloc Hl52 zero84
               refine st_op (he65 _ _ _ _ _ _ _) rfl rfl rfl ?_
               have hx68 : Ext Hl52 H64 := Ext.new (by omega) H64n_ f66
               have H64n : Hl52.next ≤ H64.next := hx68.1
               obtain ⟨H69, he70, H69n_, hB71, f72⟩ := mem_store (v := .agg #[.int .i64 x61.index, .int .i64 x61.term, .int .i64 x61.kind, .string x61.data]) (o := 0) (cs' := [.int .i64 x61.index, .int .i64 x61.term, .int .i64 x61.kind, .string x61.data]) 4 rfl rfl size84 hB67 rfl rfl rfl
               refine st_op0 (he70 _ _ _ _ _ _ _ _ _ rfl rfl) rfl rfl ?_
               have hf73 : Fr (fun q => q = b63) H64 H69 := Fr.write H69n_ f72
               have H69n : H64.next ≤ H69.next := hf73.1
               try show aw _ _ _ _ _ _
               iterate 2 refine aw_seq ?_
               refine aw_reg ?_
               refine st_op (ev_fieldAddr rfl fa84_0 (o' := 0) rfl) rfl rfl rfl ?_
               refine st_op (ev_load rfl (lvar_one one2 hB71 rfl)) rfl rfl rfl ?_
               refine st_op (ev_fieldAddr rfl fa46_4 (o' := 4) rfl) rfl rfl rfl ?_
               have hx75 : Ext Hl52 H69 := (Ext.then hx68 hf73 (fun q hq e => by omega))
               have h74 := Ext.blk hx75 (by omega) h55
               refine st_op (ev_load rfl (lvar_one one2 h74 rfl)) rfl rfl rfl ?_
               refine st_op (ev_int64 (c := index + 1) rfl rfl rfl (by omega) (by omega)) rfl rfl rfl ?_
               refine st_op (ev_move rfl) rfl rfl rfl ?_
               refine st_op (ev_int64 (c := (index + 1) + (i : Int)) rfl rfl rfl (by omega) (by omega)) rfl rfl rfl ?_
               refine st_op (ev_int rfl rfl rfl) rfl rfl rfl ?_
               refine st_op (ev_move rfl) rfl rfl rfl ?_
               refine st_bool 107 rfl (fun hb76 => ?_) (fun hb76 => ?_)
               ·
                have hb76 : ¬ (x61.index = (index + 1) + (i : Int)) := by simpa using hb76
                iterate 4 refine st_skip rfl rfl rfl ?_
                refine st_op (ev_pickT rfl rfl) rfl rfl rfl ?_
                refine st_op (ev_move rfl) rfl rfl rfl ?_
                iterate 5 refine st_skip rfl rfl rfl ?_
                refine st_op (ev_pickT rfl rfl) rfl rfl rfl ?_
                refine st_op (ev_move rfl) rfl rfl rfl ?_
                iterate 3 refine st_skip rfl rfl rfl ?_
                refine st_op (ev_pickT rfl rfl) rfl rfl rfl ?_
                try show aw _ _ _ _ _ _
                refine aw_cond (t := true) rfl ?_
                try show aw _ _ _ _ _ _
                refine aw_seq ?_
                refine aw_reg ?_
                refine st_op (ev_assign rfl) rfl rfl rfl ?_
                try show aw _ _ _ _ _ _
                refine aw_ret ?_
                have hx77 : Ext H H69 := (Ext.then (Ext.trans hx58 hx68) hf73 (fun q hq e => by omega))
                have hres : (Spec.mayMsg kind from_ to_ term index logterm commit yes es s_index s_term s_conf s_data) = false := by exact Spec.mayMsg_f6 (by rw [hv, drop_at hx62, Spec.entR, if_pos (by first | exact .inl (by omega) | exact .inr (.inl (by omega)) | exact .inr (.inr (.inl (by omega))) | exact .inr (.inr (.inr (by assumption))))])
                exact ⟨.bool false, rfl, by first | (rw [hres]; done) | rw [← hres], hx77⟩
               ·
                have hb76 : (x61.index = (index + 1) + (i : Int)) := by simpa using hb76
                refine st_op (ev_fieldAddr rfl fa84_1 (o' := 1) rfl) rfl rfl rfl ?_
                refine st_op (ev_load rfl (lvar_one one2 hB71 rfl)) rfl rfl rfl ?_
                refine st_op (ev_move rfl) rfl rfl rfl ?_
                refine st_op (ev_int rfl rfl rfl) rfl rfl rfl ?_
                refine st_op (ev_pickF rfl rfl) rfl rfl rfl ?_
                refine st_op (ev_move rfl) rfl rfl rfl ?_
                refine st_bool 113 rfl (fun hb78 => ?_) (fun hb78 => ?_)
                ·
                 have hb78 := of_decide_eq_true hb78
                 iterate 5 refine st_skip rfl rfl rfl ?_
                 refine st_op (ev_pickT rfl rfl) rfl rfl rfl ?_
                 refine st_op (ev_move rfl) rfl rfl rfl ?_
                 iterate 3 refine st_skip rfl rfl rfl ?_
                 refine st_op (ev_pickT rfl rfl) rfl rfl rfl ?_
                 try show aw _ _ _ _ _ _
                 refine aw_cond (t := true) rfl ?_
                 try show aw _ _ _ _ _ _
                 refine aw_seq ?_
                 refine aw_reg ?_
                 refine st_op (ev_assign rfl) rfl rfl rfl ?_
                 try show aw _ _ _ _ _ _
                 refine aw_ret ?_
                 have hx79 : Ext H H69 := (Ext.then (Ext.trans hx58 hx68) hf73 (fun q hq e => by omega))
                 have hres : (Spec.mayMsg kind from_ to_ term index logterm commit yes es s_index s_term s_conf s_data) = false := by exact Spec.mayMsg_f6 (by rw [hv, drop_at hx62, Spec.entR, if_pos (by first | exact .inl (by omega) | exact .inr (.inl (by omega)) | exact .inr (.inr (.inl (by omega))) | exact .inr (.inr (.inr (by assumption))))])
                 exact ⟨.bool false, rfl, by first | (rw [hres]; done) | rw [← hres], hx79⟩
                ·
                 have hb78 := of_decide_eq_false hb78
                 refine st_op (ev_fieldAddr rfl fa84_1 (o' := 1) rfl) rfl rfl rfl ?_
                 refine st_op (ev_load rfl (lvar_one one2 hB71 rfl)) rfl rfl rfl ?_
                 refine st_op (ev_fieldAddr rfl fa46_3 (o' := 3) rfl) rfl rfl rfl ?_
                 refine st_op (ev_load rfl (lvar_one one2 h74 rfl)) rfl rfl rfl ?_
                 refine st_op (ev_int rfl rfl rfl) rfl rfl rfl ?_
                 refine st_op (ev_pickF rfl rfl) rfl rfl rfl ?_
                 refine st_op (ev_move rfl) rfl rfl rfl ?_
                 refine st_bool 120 rfl (fun hb80 => ?_) (fun hb80 => ?_)
                 ·
                  have hb80 := of_decide_eq_true hb80
                  iterate 3 refine st_skip rfl rfl rfl ?_
                  refine st_op (ev_pickT rfl rfl) rfl rfl rfl ?_
                  try show aw _ _ _ _ _ _
                  refine aw_cond (t := true) rfl ?_
                  try show aw _ _ _ _ _ _
                  refine aw_seq ?_
                  refine aw_reg ?_
                  refine st_op (ev_assign rfl) rfl rfl rfl ?_
                  try show aw _ _ _ _ _ _
                  refine aw_ret ?_
                  have hx81 : Ext H H69 := (Ext.then (Ext.trans hx58 hx68) hf73 (fun q hq e => by omega))
                  have hres : (Spec.mayMsg kind from_ to_ term index logterm commit yes es s_index s_term s_conf s_data) = false := by exact Spec.mayMsg_f6 (by rw [hv, drop_at hx62, Spec.entR, if_pos (by first | exact .inl (by omega) | exact .inr (.inl (by omega)) | exact .inr (.inr (.inl (by omega))) | exact .inr (.inr (.inr (by assumption))))])
                  exact ⟨.bool false, rfl, by first | (rw [hres]; done) | rw [← hres], hx81⟩
                 ·
                  have hb80 := of_decide_eq_false hb80
                  refine st_op (ev_load rfl (lvar_part (l := [.int .i64 x61.index, .int .i64 x61.term, .int .i64 x61.kind, .string x61.data]) many84 hB71 rfl rfl (by decide))) rfl rfl rfl ?_
                  refine st_call rfl rfl rfl ent54 rfl rfl rfl ?_
                  obtain ⟨_, H83, hs82, hs82v, hx84⟩ := ref17_MayEntry_spec H69 x61.index x61.term x61.kind x61.data
                  rw [hs82v] at hs82; clear hs82v
                  refine ⟨_, H83, hs82, ?_⟩
                  have H83n : H69.next ≤ H83.next := hx84.1
                  refine st_op (ev_not rfl) rfl rfl rfl ?_
                  refine st_op (ev_pickF rfl rfl) rfl rfl rfl ?_
                  try show aw _ _ _ _ _ _
                  by_cases hc85 : (!(Spec.mayF false 0 0 x61.index x61.term x61.kind x61.data)) = true
                  ·
                   refine aw_condT hc85 rfl ?_
                   try show aw _ _ _ _ _ _
                   replace hc85 : (Spec.mayF false 0 0 x61.index x61.term x61.kind x61.data) = false := by rw [Bool.not_eq_true'] at hc85; exact hc85
                   refine aw_seq ?_
                   refine aw_reg ?_
                   refine st_op (ev_assign rfl) rfl rfl rfl ?_
                   try show aw _ _ _ _ _ _
                   refine aw_ret ?_
                   have hx86 : Ext H H83 := (Ext.trans (Ext.then (Ext.trans hx58 hx68) hf73 (fun q hq e => by omega)) hx84)
                   have hres : (Spec.mayMsg kind from_ to_ term index logterm commit yes es s_index s_term s_conf s_data) = false := by exact Spec.mayMsg_f6 (by rw [hv, drop_at hx62, Spec.entR, if_pos (by first | exact .inl (by omega) | exact .inr (.inl (by omega)) | exact .inr (.inr (.inl (by omega))) | exact .inr (.inr (.inr (by assumption))))])
                   exact ⟨.bool false, rfl, by first | (rw [hres]; done) | rw [← hres], hx86⟩
                  ·
                   rw [Bool.not_eq_true] at hc85; refine aw_condF hc85 rfl ?_
                   try show aw _ _ _ _ _ _
                   replace hc85 : (Spec.mayF false 0 0 x61.index x61.term x61.kind x61.data) = true := by rw [Bool.not_eq_false'] at hc85; exact hc85
                   have hc85m := Spec.may_says hc85
                   refine aw_skip ?_
                   try show aw _ _ _ _ _ _
                   refine aw_reg ?_
                   refine st_op (ev_fieldAddr rfl fa84_1 (o' := 1) rfl) rfl rfl rfl ?_
                   have h87 := Ext.blk hx84 (by omega) hB71
                   refine st_op (ev_load rfl (lvar_one one2 h87 rfl)) rfl rfl rfl ?_
                   refine st_op (ev_assign rfl) rfl rfl rfl ?_
                   try show aw _ _ _ _ _ _
                   refine aw_reg ?_
                   refine st_op (ev_move rfl) rfl rfl rfl ?_
                   refine st_op (ev_int64 (c := (i : Int) + 1) rfl rfl rfl (by omega) (by omega)) rfl rfl rfl ?_
                   refine st_op (ev_assign rfl) rfl rfl rfl ?_
                   try show aw _ _ _ _ _ _
                   have hx88 : Ext H38 H83 := (Ext.trans (Ext.then (Ext.trans hxl53 hx68) hf73 (fun q hq e => by omega)) hx84)
                   refine aw_keep [1, 3, 4] (l' := (.cons 1 (.pointer (some ⟨b1, 0, none⟩)) (.cons 3 (.int .i64 x61.term) (.cons 4 (.int .i64 ((i : Int) + 1)) .nil)))) (by repeat (first | exact Up.done | refine Up.then ?_ | refine Up.inBlock ?_)) rfl ?_
                   exact ih54 (i + 1, x61.term, H83) ⟨(show (i + 1) ≤ es.length from (by omega)), (show Spec.entR term index logterm es = Spec.entR term (index + ((i + 1) : Int)) x61.term (es.drop (i + 1)) from (by rw [hv]; exact Spec.entR_step hx62 (by omega) (by omega) (by omega) (by assumption))), (show Ext H38 H83 from hx88)⟩ (by simp only; omega)
              ·
               rw [Bool.not_eq_true] at hc56; refine aw_condF hc56 rfl ?_
               try show aw _ _ _ _ _ _
               have hc56 := of_decide_eq_false hc56
               refine aw_exit ?_
               try show aw _ _ _ _ _ _
               iterate 2 refine aw_seq ?_
               refine aw_reg ?_
               refine st_op (ev_fieldAddr rfl fa46_0 (o' := 0) rfl) rfl rfl rfl ?_
               refine st_op (ev_load rfl (lvar_one one3 h55 rfl)) rfl rfl rfl ?_
               refine st_op (ev_int rfl rfl rfl) rfl rfl rfl ?_
               try show aw _ _ _ _ _ _
               by_cases hc89 : (kind != 5) = true
               ·
                refine aw_condT hc89 rfl ?_
                try show aw _ _ _ _ _ _
                have hc89 : ¬ (kind = 5) := by simpa using hc89
                refine aw_seq ?_
                refine aw_reg ?_
                refine st_op (ev_fieldAddr rfl fa46_9 (o' := 9) rfl) rfl rfl rfl ?_
                refine st_op (ev_load rfl (lvar_part (l := [.int .i64 s_index, .int .i64 s_term, .string s_conf, .string s_data]) many44 h55 rfl rfl (by decide))) rfl rfl rfl ?_
                refine st_op (ev_build zero44 pl44 (parts := []) rfl (cs := [.int .i64 0, .int .i64 0, .string (⟨#[]⟩), .string (⟨#[]⟩)]) rfl) rfl rfl rfl ?_
                refine st_call rfl rfl rfl ent55 rfl rfl rfl ?_
                obtain ⟨_, H91, hs90, hs90v, hx92⟩ := ref17_EqSnap_spec Hl52 s_index s_term s_conf s_data (0 : Int) (0 : Int) (⟨#[]⟩ : ByteArray) (⟨#[]⟩ : ByteArray)
                rw [hs90v] at hs90; clear hs90v
                refine ⟨_, H91, hs90, ?_⟩
                have H91n : Hl52.next ≤ H91.next := hx92.1
                refine st_op (ev_assign rfl) rfl rfl rfl ?_
                try show aw _ _ _ _ _ _
                refine aw_ret ?_
                have hx93 : Ext H H91 := (Ext.trans (Ext.trans (Ext.trans (Ext.trans (Ext.trans (Ext.trans (Ext.trans hx6 hx11) hx17) hx27) hx33) hx39) hxl53) hx92)
                have hres : (Spec.mayMsg kind from_ to_ term index logterm commit yes es s_index s_term s_conf s_data) = (Spec.eqSn s_index s_term s_conf s_data (0 : Int) (0 : Int) (⟨#[]⟩ : ByteArray) (⟨#[]⟩ : ByteArray)) := by rw [Spec.mayMsg_last (by omega) (by rw [hv, List.drop_eq_nil_of_le (by omega), Spec.entR, Bool.true_and]; exact decide_eq_true (by omega)) (fun h => by first | omega | exact Bool.noConfusion (h.symm.trans (show yes = false by assumption)))]; rw [if_neg (by omega)]; exact Spec.eqSn_zero
                exact ⟨.bool (Spec.eqSn s_index s_term s_conf s_data (0 : Int) (0 : Int) (⟨#[]⟩ : ByteArray) (⟨#[]⟩ : ByteArray)), rfl, by first | (rw [hres]; done) | rw [← hres], hx93⟩
               ·
                rw [Bool.not_eq_true] at hc89; refine aw_condF hc89 rfl ?_
                try show aw _ _ _ _ _ _
                have hc89 : (kind = 5) := by simpa using hc89
                exfalso; omega
           ·
            have hb45 := of_decide_eq_false hb45
            iterate 3 refine st_skip rfl rfl rfl ?_
            refine st_op (ev_pickF rfl rfl) rfl rfl rfl ?_
            refine st_op (ev_move rfl) rfl rfl rfl ?_
            refine st_op (ev_fieldAddr rfl fa46_7 (o' := 7) rfl) rfl rfl rfl ?_
            refine st_op (ev_load rfl (lvar_one one4 h42 rfl)) rfl rfl rfl ?_
            refine st_op (ev_move rfl) rfl rfl rfl ?_
            refine st_bool 74 rfl (fun hb94 => ?_) (fun hb94 => ?_)
            ·
             refine st_op (ev_fieldAddr rfl fa46_0 (o' := 0) rfl) rfl rfl rfl ?_
             refine st_op (ev_load rfl (lvar_one one3 h42 rfl)) rfl rfl rfl ?_
             refine st_op (ev_int rfl rfl rfl) rfl rfl rfl ?_
             refine st_op (ev_pickT rfl rfl) rfl rfl rfl ?_
             refine st_op (ev_move rfl) rfl rfl rfl ?_
             refine st_bool 79 rfl (fun hb95 => ?_) (fun hb95 => ?_)
             ·
              have hb95 : ¬ (kind = 2) := by simpa using hb95
              refine st_op (ev_fieldAddr rfl fa46_0 (o' := 0) rfl) rfl rfl rfl ?_
              refine st_op (ev_load rfl (lvar_one one3 h42 rfl)) rfl rfl rfl ?_
              refine st_op (ev_int rfl rfl rfl) rfl rfl rfl ?_
              refine st_op (ev_pickT rfl rfl) rfl rfl rfl ?_
              refine st_op (ev_pickF rfl rfl) rfl rfl rfl ?_
              try show aw _ _ _ _ _ _
              by_cases hc96 : (kind != 4) = true
              ·
               refine aw_condT hc96 rfl ?_
               try show aw _ _ _ _ _ _
               have hc96 : ¬ (kind = 4) := by simpa using hc96
               refine aw_seq ?_
               refine aw_reg ?_
               refine st_op (ev_assign rfl) rfl rfl rfl ?_
               try show aw _ _ _ _ _ _
               refine aw_ret ?_
               have hx97 : Ext H H38 := (Ext.trans (Ext.trans (Ext.trans (Ext.trans (Ext.trans hx6 hx11) hx17) hx27) hx33) hx39)
               have hres : (Spec.mayMsg kind from_ to_ term index logterm commit yes es s_index s_term s_conf s_data) = false := by first | exact Spec.mayMsg_f1 (by omega) | exact Spec.mayMsg_f5 (by omega) | exact Spec.mayMsg_f4 (by omega) (by omega) | exact Spec.mayMsg_f3 (by assumption) (by omega) (by omega)
               exact ⟨.bool false, rfl, by first | (rw [hres]; done) | rw [← hres], hx97⟩
              ·
               rw [Bool.not_eq_true] at hc96; refine aw_condF hc96 rfl ?_
               try show aw _ _ _ _ _ _
               have hc96 : (kind = 4) := by simpa using hc96
               refine aw_skip ?_
               try show aw _ _ _ _ _ _
               refine aw_seq ?_
               refine aw_reg ?_
               refine st_op (ev_fieldAddr rfl fa46_5 (o' := 5) rfl) rfl rfl rfl ?_
               refine st_op (ev_load rfl (lvar_one one2 h42 rfl)) rfl rfl rfl ?_
               refine st_op (ev_assign rfl) rfl rfl rfl ?_
               try show aw _ _ _ _ _ _
               iterate 2 refine aw_seq ?_
               refine aw_reg ?_
               refine st_op (ev_assign rfl) rfl rfl rfl ?_
               try show aw _ _ _ _ _ _
               refine aw_block ?_
               refine aw_keep [1, 3, 4] (l' := (.cons 1 (.pointer (some ⟨b1, 0, none⟩)) (.cons 3 (.int .i64 logterm) (.cons 4 (.int .i64 0) .nil)))) (by repeat (first | exact Up.done | refine Up.then ?_ | refine Up.inBlock ?_)) rfl ?_
               refine aw_iter (α := Nat × Int × Heap) (fun a => es.length - a.1) (fun a => (.cons 1 (.pointer (some ⟨b1, 0, none⟩)) (.cons 3 (.int .i64 a.2.1) (.cons 4 (.int .i64 (a.1 : Int)) .nil)))) (fun a => a.2.2) (fun a => (a.1 ≤ es.length) ∧ (Spec.entR term index logterm es = Spec.entR term (index + (a.1 : Int)) a.2.1 (es.drop a.1)) ∧ (Ext H38 a.2.2)) (0, logterm, H38) ⟨(show 0 ≤ es.length from Nat.zero_le _), (show Spec.entR term index logterm es = Spec.entR term (index + (0 : Int)) logterm (es.drop 0) from (by simp)), (show Ext H38 H38 from (Ext.refl H38))⟩ ?_
               rintro ⟨i, tm, Hl98⟩ ⟨hi, hv, hxl99⟩ ih100
               replace hi : i ≤ es.length := hi
               replace hv : Spec.entR term index logterm es = Spec.entR term (index + (i : Int)) tm (es.drop i) := hv
               replace hxl99 : Ext H38 Hl98 := hxl99
               show aw _ _ _ (RL _ (.cons 1 (.pointer (some ⟨b1, 0, none⟩)) (.cons 3 (.int .i64 tm) (.cons 4 (.int .i64 (i : Int)) .nil)))) Hl98 _
               have Hl98n : H38.next ≤ Hl98.next := hxl99.1
               iterate 2 refine aw_seq ?_
               refine aw_reg ?_
               refine st_op (ev_move rfl) rfl rfl rfl ?_
               refine st_op (ev_fieldAddr rfl fa46_8 (o' := 8) rfl) rfl rfl rfl ?_
               have h101 := Ext.blk hxl99 (by omega) h42
               refine st_op (ev_load rfl (lvar_one one42 h101 rfl)) rfl rfl rfl ?_
               refine st_op (ev_lenSl rfl Try.underlying42) rfl rfl rfl ?_
               refine st_op (ev_int rfl rfl rfl) rfl rfl rfl ?_
               try show aw _ _ _ _ _ _
               by_cases hc102 : (decide ((i : Int) < (es.length : Int))) = true
               ·
                refine aw_condT hc102 rfl ?_
                try show aw _ _ _ _ _ _
                have hc102 := of_decide_eq_true hc102
                exfalso; omega
               ·
                rw [Bool.not_eq_true] at hc102; refine aw_condF hc102 rfl ?_
                try show aw _ _ _ _ _ _
                have hc102 := of_decide_eq_false hc102
                refine aw_exit ?_
                try show aw _ _ _ _ _ _
                iterate 2 refine aw_seq ?_
                refine aw_reg ?_
                refine st_op (ev_fieldAddr rfl fa46_0 (o' := 0) rfl) rfl rfl rfl ?_
                refine st_op (ev_load rfl (lvar_one one3 h101 rfl)) rfl rfl rfl ?_
                refine st_op (ev_int rfl rfl rfl) rfl rfl rfl ?_
                try show aw _ _ _ _ _ _
                by_cases hc103 : (kind != 5) = true
                ·
                 refine aw_condT hc103 rfl ?_
                 try show aw _ _ _ _ _ _
                 have hc103 : ¬ (kind = 5) := by simpa using hc103
                 refine aw_seq ?_
                 refine aw_reg ?_
                 refine st_op (ev_fieldAddr rfl fa46_9 (o' := 9) rfl) rfl rfl rfl ?_
                 refine st_op (ev_load rfl (lvar_part (l := [.int .i64 s_index, .int .i64 s_term, .string s_conf, .string s_data]) many44 h101 rfl rfl (by decide))) rfl rfl rfl ?_
                 refine st_op (ev_build zero44 pl44 (parts := []) rfl (cs := [.int .i64 0, .int .i64 0, .string (⟨#[]⟩), .string (⟨#[]⟩)]) rfl) rfl rfl rfl ?_
                 refine st_call rfl rfl rfl ent55 rfl rfl rfl ?_
                 obtain ⟨_, H105, hs104, hs104v, hx106⟩ := ref17_EqSnap_spec Hl98 s_index s_term s_conf s_data (0 : Int) (0 : Int) (⟨#[]⟩ : ByteArray) (⟨#[]⟩ : ByteArray)
                 rw [hs104v] at hs104; clear hs104v
                 refine ⟨_, H105, hs104, ?_⟩
                 have H105n : Hl98.next ≤ H105.next := hx106.1
                 refine st_op (ev_assign rfl) rfl rfl rfl ?_
                 try show aw _ _ _ _ _ _
                 refine aw_ret ?_
                 have hx107 : Ext H H105 := (Ext.trans (Ext.trans (Ext.trans (Ext.trans (Ext.trans (Ext.trans (Ext.trans hx6 hx11) hx17) hx27) hx33) hx39) hxl99) hx106)
                 have hres : (Spec.mayMsg kind from_ to_ term index logterm commit yes es s_index s_term s_conf s_data) = (Spec.eqSn s_index s_term s_conf s_data (0 : Int) (0 : Int) (⟨#[]⟩ : ByteArray) (⟨#[]⟩ : ByteArray)) := by rw [Spec.mayMsg_last (by omega) (by rw [hv, List.drop_eq_nil_of_le (by omega), Spec.entR, Bool.true_and]; exact decide_eq_true (by omega)) (fun h => by first | omega | exact Bool.noConfusion (h.symm.trans (show yes = false by assumption)))]; rw [if_neg (by omega)]; exact Spec.eqSn_zero
                 exact ⟨.bool (Spec.eqSn s_index s_term s_conf s_data (0 : Int) (0 : Int) (⟨#[]⟩ : ByteArray) (⟨#[]⟩ : ByteArray)), rfl, by first | (rw [hres]; done) | rw [← hres], hx107⟩
                ·
                 rw [Bool.not_eq_true] at hc103; refine aw_condF hc103 rfl ?_
                 try show aw _ _ _ _ _ _
                 have hc103 : (kind = 5) := by simpa using hc103
                 exfalso; omega
             ·
              have hb95 : (kind = 2) := by simpa using hb95
              iterate 3 refine st_skip rfl rfl rfl ?_
              iterate 2 refine st_op (ev_pickF rfl rfl) rfl rfl rfl ?_
              try show aw _ _ _ _ _ _
              refine aw_cond (t := false) rfl ?_
              try show aw _ _ _ _ _ _
              refine aw_skip ?_
              try show aw _ _ _ _ _ _
              refine aw_seq ?_
              refine aw_reg ?_
              refine st_op (ev_fieldAddr rfl fa46_5 (o' := 5) rfl) rfl rfl rfl ?_
              refine st_op (ev_load rfl (lvar_one one2 h42 rfl)) rfl rfl rfl ?_
              refine st_op (ev_assign rfl) rfl rfl rfl ?_
              try show aw _ _ _ _ _ _
              iterate 2 refine aw_seq ?_
              refine aw_reg ?_
              refine st_op (ev_assign rfl) rfl rfl rfl ?_
              try show aw _ _ _ _ _ _
              refine aw_block ?_
              refine aw_keep [1, 3, 4] (l' := (.cons 1 (.pointer (some ⟨b1, 0, none⟩)) (.cons 3 (.int .i64 logterm) (.cons 4 (.int .i64 0) .nil)))) (by repeat (first | exact Up.done | refine Up.then ?_ | refine Up.inBlock ?_)) rfl ?_
              refine aw_iter (α := Nat × Int × Heap) (fun a => es.length - a.1) (fun a => (.cons 1 (.pointer (some ⟨b1, 0, none⟩)) (.cons 3 (.int .i64 a.2.1) (.cons 4 (.int .i64 (a.1 : Int)) .nil)))) (fun a => a.2.2) (fun a => (a.1 ≤ es.length) ∧ (Spec.entR term index logterm es = Spec.entR term (index + (a.1 : Int)) a.2.1 (es.drop a.1)) ∧ (Ext H38 a.2.2)) (0, logterm, H38) ⟨(show 0 ≤ es.length from Nat.zero_le _), (show Spec.entR term index logterm es = Spec.entR term (index + (0 : Int)) logterm (es.drop 0) from (by simp)), (show Ext H38 H38 from (Ext.refl H38))⟩ ?_
              rintro ⟨i, tm, Hl108⟩ ⟨hi, hv, hxl109⟩ ih110
              replace hi : i ≤ es.length := hi
              replace hv : Spec.entR term index logterm es = Spec.entR term (index + (i : Int)) tm (es.drop i) := hv
              replace hxl109 : Ext H38 Hl108 := hxl109
              show aw _ _ _ (RL _ (.cons 1 (.pointer (some ⟨b1, 0, none⟩)) (.cons 3 (.int .i64 tm) (.cons 4 (.int .i64 (i : Int)) .nil)))) Hl108 _
              have Hl108n : H38.next ≤ Hl108.next := hxl109.1
              iterate 2 refine aw_seq ?_
              refine aw_reg ?_
              refine st_op (ev_move rfl) rfl rfl rfl ?_
              refine st_op (ev_fieldAddr rfl fa46_8 (o' := 8) rfl) rfl rfl rfl ?_
              have h111 := Ext.blk hxl109 (by omega) h42
              refine st_op (ev_load rfl (lvar_one one42 h111 rfl)) rfl rfl rfl ?_
              refine st_op (ev_lenSl rfl Try.underlying42) rfl rfl rfl ?_
              refine st_op (ev_int rfl rfl rfl) rfl rfl rfl ?_
              try show aw _ _ _ _ _ _
              by_cases hc112 : (decide ((i : Int) < (es.length : Int))) = true
              ·
               refine aw_condT hc112 rfl ?_
               try show aw _ _ _ _ _ _
               have hc112 := of_decide_eq_true hc112
               exfalso; omega
              ·
               rw [Bool.not_eq_true] at hc112; refine aw_condF hc112 rfl ?_
               try show aw _ _ _ _ _ _
               have hc112 := of_decide_eq_false hc112
               refine aw_exit ?_
               try show aw _ _ _ _ _ _
               iterate 2 refine aw_seq ?_
               refine aw_reg ?_
               refine st_op (ev_fieldAddr rfl fa46_0 (o' := 0) rfl) rfl rfl rfl ?_
               refine st_op (ev_load rfl (lvar_one one3 h111 rfl)) rfl rfl rfl ?_
               refine st_op (ev_int rfl rfl rfl) rfl rfl rfl ?_
               try show aw _ _ _ _ _ _
               by_cases hc113 : (kind != 5) = true
               ·
                refine aw_condT hc113 rfl ?_
                try show aw _ _ _ _ _ _
                have hc113 : ¬ (kind = 5) := by simpa using hc113
                refine aw_seq ?_
                refine aw_reg ?_
                refine st_op (ev_fieldAddr rfl fa46_9 (o' := 9) rfl) rfl rfl rfl ?_
                refine st_op (ev_load rfl (lvar_part (l := [.int .i64 s_index, .int .i64 s_term, .string s_conf, .string s_data]) many44 h111 rfl rfl (by decide))) rfl rfl rfl ?_
                refine st_op (ev_build zero44 pl44 (parts := []) rfl (cs := [.int .i64 0, .int .i64 0, .string (⟨#[]⟩), .string (⟨#[]⟩)]) rfl) rfl rfl rfl ?_
                refine st_call rfl rfl rfl ent55 rfl rfl rfl ?_
                obtain ⟨_, H115, hs114, hs114v, hx116⟩ := ref17_EqSnap_spec Hl108 s_index s_term s_conf s_data (0 : Int) (0 : Int) (⟨#[]⟩ : ByteArray) (⟨#[]⟩ : ByteArray)
                rw [hs114v] at hs114; clear hs114v
                refine ⟨_, H115, hs114, ?_⟩
                have H115n : Hl108.next ≤ H115.next := hx116.1
                refine st_op (ev_assign rfl) rfl rfl rfl ?_
                try show aw _ _ _ _ _ _
                refine aw_ret ?_
                have hx117 : Ext H H115 := (Ext.trans (Ext.trans (Ext.trans (Ext.trans (Ext.trans (Ext.trans (Ext.trans hx6 hx11) hx17) hx27) hx33) hx39) hxl109) hx116)
                have hres : (Spec.mayMsg kind from_ to_ term index logterm commit yes es s_index s_term s_conf s_data) = (Spec.eqSn s_index s_term s_conf s_data (0 : Int) (0 : Int) (⟨#[]⟩ : ByteArray) (⟨#[]⟩ : ByteArray)) := by rw [Spec.mayMsg_last (by omega) (by rw [hv, List.drop_eq_nil_of_le (by omega), Spec.entR, Bool.true_and]; exact decide_eq_true (by omega)) (fun h => by first | omega | exact Bool.noConfusion (h.symm.trans (show yes = false by assumption)))]; rw [if_neg (by omega)]; exact Spec.eqSn_zero
                exact ⟨.bool (Spec.eqSn s_index s_term s_conf s_data (0 : Int) (0 : Int) (⟨#[]⟩ : ByteArray) (⟨#[]⟩ : ByteArray)), rfl, by first | (rw [hres]; done) | rw [← hres], hx117⟩
               ·
                rw [Bool.not_eq_true] at hc113; refine aw_condF hc113 rfl ?_
                try show aw _ _ _ _ _ _
                have hc113 : (kind = 5) := by simpa using hc113
                exfalso; omega
            ·
             iterate 3 refine st_skip rfl rfl rfl ?_
             refine st_op (ev_pickF rfl rfl) rfl rfl rfl ?_
             refine st_op (ev_move rfl) rfl rfl rfl ?_
             iterate 3 refine st_skip rfl rfl rfl ?_
             iterate 2 refine st_op (ev_pickF rfl rfl) rfl rfl rfl ?_
             try show aw _ _ _ _ _ _
             refine aw_cond (t := false) rfl ?_
             try show aw _ _ _ _ _ _
             refine aw_skip ?_
             try show aw _ _ _ _ _ _
             refine aw_seq ?_
             refine aw_reg ?_
             refine st_op (ev_fieldAddr rfl fa46_5 (o' := 5) rfl) rfl rfl rfl ?_
             refine st_op (ev_load rfl (lvar_one one2 h42 rfl)) rfl rfl rfl ?_
             refine st_op (ev_assign rfl) rfl rfl rfl ?_
             try show aw _ _ _ _ _ _
             iterate 2 refine aw_seq ?_
             refine aw_reg ?_
             refine st_op (ev_assign rfl) rfl rfl rfl ?_
             try show aw _ _ _ _ _ _
             refine aw_block ?_
             refine aw_keep [1, 3, 4] (l' := (.cons 1 (.pointer (some ⟨b1, 0, none⟩)) (.cons 3 (.int .i64 logterm) (.cons 4 (.int .i64 0) .nil)))) (by repeat (first | exact Up.done | refine Up.then ?_ | refine Up.inBlock ?_)) rfl ?_
             refine aw_iter (α := Nat × Int × Heap) (fun a => es.length - a.1) (fun a => (.cons 1 (.pointer (some ⟨b1, 0, none⟩)) (.cons 3 (.int .i64 a.2.1) (.cons 4 (.int .i64 (a.1 : Int)) .nil)))) (fun a => a.2.2) (fun a => (a.1 ≤ es.length) ∧ (Spec.entR term index logterm es = Spec.entR term (index + (a.1 : Int)) a.2.1 (es.drop a.1)) ∧ (Ext H38 a.2.2)) (0, logterm, H38) ⟨(show 0 ≤ es.length from Nat.zero_le _), (show Spec.entR term index logterm es = Spec.entR term (index + (0 : Int)) logterm (es.drop 0) from (by simp)), (show Ext H38 H38 from (Ext.refl H38))⟩ ?_
             rintro ⟨i, tm, Hl118⟩ ⟨hi, hv, hxl119⟩ ih120
             replace hi : i ≤ es.length := hi
             replace hv : Spec.entR term index logterm es = Spec.entR term (index + (i : Int)) tm (es.drop i) := hv
             replace hxl119 : Ext H38 Hl118 := hxl119
             show aw _ _ _ (RL _ (.cons 1 (.pointer (some ⟨b1, 0, none⟩)) (.cons 3 (.int .i64 tm) (.cons 4 (.int .i64 (i : Int)) .nil)))) Hl118 _
             have Hl118n : H38.next ≤ Hl118.next := hxl119.1
             iterate 2 refine aw_seq ?_
             refine aw_reg ?_
             refine st_op (ev_move rfl) rfl rfl rfl ?_
             refine st_op (ev_fieldAddr rfl fa46_8 (o' := 8) rfl) rfl rfl rfl ?_
             have h121 := Ext.blk hxl119 (by omega) h42
             refine st_op (ev_load rfl (lvar_one one42 h121 rfl)) rfl rfl rfl ?_
             refine st_op (ev_lenSl rfl Try.underlying42) rfl rfl rfl ?_
             refine st_op (ev_int rfl rfl rfl) rfl rfl rfl ?_
             try show aw _ _ _ _ _ _
             by_cases hc122 : (decide ((i : Int) < (es.length : Int))) = true
             ·
              refine aw_condT hc122 rfl ?_
              try show aw _ _ _ _ _ _
              have hc122 := of_decide_eq_true hc122
              exfalso; omega
             ·
              rw [Bool.not_eq_true] at hc122; refine aw_condF hc122 rfl ?_
              try show aw _ _ _ _ _ _
              have hc122 := of_decide_eq_false hc122
              refine aw_exit ?_
              try show aw _ _ _ _ _ _
              iterate 2 refine aw_seq ?_
              refine aw_reg ?_
              refine st_op (ev_fieldAddr rfl fa46_0 (o' := 0) rfl) rfl rfl rfl ?_
              refine st_op (ev_load rfl (lvar_one one3 h121 rfl)) rfl rfl rfl ?_
              refine st_op (ev_int rfl rfl rfl) rfl rfl rfl ?_
              try show aw _ _ _ _ _ _
              by_cases hc123 : (kind != 5) = true
              ·
               refine aw_condT hc123 rfl ?_
               try show aw _ _ _ _ _ _
               have hc123 : ¬ (kind = 5) := by simpa using hc123
               refine aw_seq ?_
               refine aw_reg ?_
               refine st_op (ev_fieldAddr rfl fa46_9 (o' := 9) rfl) rfl rfl rfl ?_
               refine st_op (ev_load rfl (lvar_part (l := [.int .i64 s_index, .int .i64 s_term, .string s_conf, .string s_data]) many44 h121 rfl rfl (by decide))) rfl rfl rfl ?_
               refine st_op (ev_build zero44 pl44 (parts := []) rfl (cs := [.int .i64 0, .int .i64 0, .string (⟨#[]⟩), .string (⟨#[]⟩)]) rfl) rfl rfl rfl ?_
               refine st_call rfl rfl rfl ent55 rfl rfl rfl ?_
               obtain ⟨_, H125, hs124, hs124v, hx126⟩ := ref17_EqSnap_spec Hl118 s_index s_term s_conf s_data (0 : Int) (0 : Int) (⟨#[]⟩ : ByteArray) (⟨#[]⟩ : ByteArray)
               rw [hs124v] at hs124; clear hs124v
               refine ⟨_, H125, hs124, ?_⟩
               have H125n : Hl118.next ≤ H125.next := hx126.1
               refine st_op (ev_assign rfl) rfl rfl rfl ?_
               try show aw _ _ _ _ _ _
               refine aw_ret ?_
               have hx127 : Ext H H125 := (Ext.trans (Ext.trans (Ext.trans (Ext.trans (Ext.trans (Ext.trans (Ext.trans hx6 hx11) hx17) hx27) hx33) hx39) hxl119) hx126)
               have hres : (Spec.mayMsg kind from_ to_ term index logterm commit yes es s_index s_term s_conf s_data) = (Spec.eqSn s_index s_term s_conf s_data (0 : Int) (0 : Int) (⟨#[]⟩ : ByteArray) (⟨#[]⟩ : ByteArray)) := by rw [Spec.mayMsg_last (by omega) (by rw [hv, List.drop_eq_nil_of_le (by omega), Spec.entR, Bool.true_and]; exact decide_eq_true (by omega)) (fun h => by first | omega | exact Bool.noConfusion (h.symm.trans (show yes = false by assumption)))]; rw [if_neg (by omega)]; exact Spec.eqSn_zero
               exact ⟨.bool (Spec.eqSn s_index s_term s_conf s_data (0 : Int) (0 : Int) (⟨#[]⟩ : ByteArray) (⟨#[]⟩ : ByteArray)), rfl, by first | (rw [hres]; done) | rw [← hres], hx127⟩
              ·
               rw [Bool.not_eq_true] at hc123; refine aw_condF hc123 rfl ?_
               try show aw _ _ _ _ _ _
               have hc123 : (kind = 5) := by simpa using hc123
               refine aw_skip ?_
               try show aw _ _ _ _ _ _
               refine aw_seq ?_
               refine aw_reg ?_
               refine st_op (ev_fieldAddr rfl fa46_9 (o' := 9) rfl) rfl rfl rfl ?_
               refine st_op (ev_fieldAddr rfl fa44_2 (o' := 11) rfl) rfl rfl rfl ?_
               refine st_op (ev_load rfl (lvar_one one9 h121 rfl)) rfl rfl rfl ?_
               refine st_call rfl rfl rfl ent56 rfl rfl rfl ?_
               obtain ⟨_, H129, hs128, A131, c132, hs128v, hm133, hx130⟩ := ref21_DecodeConf_spec Hl118 s_conf (by omega)
               rw [hs128v] at hs128; clear hs128v
               refine ⟨_, H129, hs128, ?_⟩
               have H129n : Hl118.next ≤ H129.next := hx130.1
               refine st_op (ev_move rfl) rfl rfl rfl ?_
               iterate 2 refine st_op (ev_extract rfl rfl) rfl rfl rfl ?_
               iterate 2 refine st_op (ev_assign rfl) rfl rfl rfl ?_
               try show aw _ _ _ _ _ _
               refine aw_seq ?_
               refine aw_reg ?_
               iterate 2 refine st_op (ev_move rfl) rfl rfl rfl ?_
               refine st_bool 142 rfl (fun hb134 => ?_) (fun hb134 => ?_)
               ·
                refine st_op (ev_fieldAddr rfl fa46_9 (o' := 9) rfl) rfl rfl rfl ?_
                have h135 := Ext.blk hx130 (by omega) h121
                refine st_op (ev_load rfl (lvar_part (l := [.int .i64 s_index, .int .i64 s_term, .string s_conf, .string s_data]) many44 h135 rfl rfl (by decide))) rfl rfl rfl ?_
                refine st_call rfl rfl rfl ent57 rfl rfl rfl ?_
                obtain ⟨_, H137, hs136, hs136v, hx138⟩ := ref17_MaySnap_spec H129 s_index s_term s_conf s_data
                rw [hs136v] at hs136; clear hs136v
                refine ⟨_, H137, hs136, ?_⟩
                have H137n : H129.next ≤ H137.next := hx138.1
                refine st_op (ev_pickT rfl rfl) rfl rfl rfl ?_
                refine st_op (ev_assign rfl) rfl rfl rfl ?_
                try show aw _ _ _ _ _ _
                refine aw_ret ?_
                have hx139 : Ext H H137 := (Ext.trans (Ext.trans (Ext.trans (Ext.trans (Ext.trans (Ext.trans (Ext.trans (Ext.trans hx6 hx11) hx17) hx27) hx33) hx39) hxl119) hx130) hx138)
                have hres : (Spec.mayMsg kind from_ to_ term index logterm commit yes es s_index s_term s_conf s_data) = (Spec.mayS s_index s_term s_conf s_data) := by rw [Spec.mayMsg_last (by omega) (by rw [hv, List.drop_eq_nil_of_le (by omega), Spec.entR, Bool.true_and]; exact decide_eq_true (by omega)) (fun h => by first | omega | exact Bool.noConfusion (h.symm.trans (show yes = false by assumption)))]; rw [if_pos (by omega), show (Spec.decC s_conf).2 = true by assumption, Bool.true_and]
                exact ⟨.bool (Spec.mayS s_index s_term s_conf s_data), rfl, by first | (rw [hres]; done) | rw [← hres], hx139⟩
               ·
                iterate 3 refine st_skip rfl rfl rfl ?_
                refine st_op (ev_pickF rfl rfl) rfl rfl rfl ?_
                refine st_op (ev_assign rfl) rfl rfl rfl ?_
                try show aw _ _ _ _ _ _
                refine aw_ret ?_
                have hx140 : Ext H H129 := (Ext.trans (Ext.trans (Ext.trans (Ext.trans (Ext.trans (Ext.trans (Ext.trans hx6 hx11) hx17) hx27) hx33) hx39) hxl119) hx130)
                have hres : (Spec.mayMsg kind from_ to_ term index logterm commit yes es s_index s_term s_conf s_data) = false := by rw [Spec.mayMsg_last (by omega) (by rw [hv, List.drop_eq_nil_of_le (by omega), Spec.entR, Bool.true_and]; exact decide_eq_true (by omega)) (fun h => by first | omega | exact Bool.noConfusion (h.symm.trans (show yes = false by assumption)))]; rw [if_pos (by omega), show (Spec.decC s_conf).2 = false by assumption]; rfl
                exact ⟨.bool false, rfl, by first | (rw [hres]; done) | rw [← hres], hx140⟩
theorem ref17_EqEntry_spec (H : Heap) (a_index : Int) (a_term : Int) (a_kind : Int) (a_data : ByteArray) (b_index : Int) (b_term : Int) (b_kind : Int) (b_data : ByteArray) : ∃ v H', Spec Try.prog 80 [.agg #[.int .i64 a_index, .int .i64 a_term, .int .i64 a_kind, .string a_data], .agg #[.int .i64 b_index, .int .i64 b_term, .int .i64 b_kind, .string b_data]] H v H' ∧ ((v = .bool (decide (a_index = b_index ∧ a_term = b_term ∧ a_kind = b_kind ∧ a_data = b_data))) ∧ (Ext H H')) := by
 refine spec_go2 E0_ok 31 (f := 80) Try.func80 rfl rfl rfl ?_
 refine aw_seq ?_
 refine aw_reg ?_
 obtain ⟨b1, H2, he3, b1e, H2n_, hB5, f4⟩ := mem_box (P := Try.prog) H (v := .agg #[.int .i64 a_index, .int .i64 a_term, .int .i64 a_kind, .string a_data]) (cs := [.int .i64 a_index, .int .i64 a_term, .int .i64 a_kind, .string a_data]) rfl rfl
 refine st_op (he3 _ _ _ _ _ _ _ _ _ rfl) rfl rfl rfl ?_
 have hx6 : Ext H H2 := Ext.new (by omega) H2n_ f4
 have H2n : H.next ≤ H2.next := hx6.1
 obtain ⟨b7, H8, he9, b7e, H8n_, hB11, f10⟩ := mem_box (P := Try.prog) H2 (v := .agg #[.int .i64 b_index, .int .i64 b_term, .int .i64 b_kind, .string b_data]) (cs := [.int .i64 b_index, .int .i64 b_term, .int .i64 b_kind, .string b_data]) rfl rfl
 refine st_op (he9 _ _ _ _ _ _ _ _ _ rfl) rfl rfl rfl ?_
 have hx12 : Ext H2 H8 := Ext.new (by omega) H8n_ f10
 have H8n : H2.next ≤ H8.next := hx12.1
 refine st_op (ev_assign rfl) rfl rfl rfl ?_
 try show aw _ _ _ _ _ _
 refine aw_seq ?_
 refine aw_reg ?_
 refine st_op (ev_fieldAddr rfl fa84_0 (o' := 0) rfl) rfl rfl rfl ?_
 have h13 := Ext.blk hx12 (by omega) hB5
 refine st_op (ev_load rfl (lvar_one one2 h13 rfl)) rfl rfl rfl ?_
 refine st_op (ev_fieldAddr rfl fa84_0 (o' := 0) rfl) rfl rfl rfl ?_
 refine st_op (ev_load rfl (lvar_one one2 hB11 rfl)) rfl rfl rfl ?_
 refine st_op (ev_int rfl rfl rfl) rfl rfl rfl ?_
 refine st_op (ev_move rfl) rfl rfl rfl ?_
 refine st_bool 10 rfl (fun hb14 => ?_) (fun hb14 => ?_)
 ·
  have hb14 := eq_of_beq hb14
  refine st_op (ev_fieldAddr rfl fa84_1 (o' := 1) rfl) rfl rfl rfl ?_
  refine st_op (ev_load rfl (lvar_one one2 h13 rfl)) rfl rfl rfl ?_
  refine st_op (ev_fieldAddr rfl fa84_1 (o' := 1) rfl) rfl rfl rfl ?_
  refine st_op (ev_load rfl (lvar_one one2 hB11 rfl)) rfl rfl rfl ?_
  refine st_op (ev_int rfl rfl rfl) rfl rfl rfl ?_
  refine st_op (ev_pickT rfl rfl) rfl rfl rfl ?_
  refine st_op (ev_move rfl) rfl rfl rfl ?_
  refine st_bool 17 rfl (fun hb15 => ?_) (fun hb15 => ?_)
  ·
   have hb15 := eq_of_beq hb15
   refine st_op (ev_fieldAddr rfl fa84_2 (o' := 2) rfl) rfl rfl rfl ?_
   refine st_op (ev_load rfl (lvar_one one3 h13 rfl)) rfl rfl rfl ?_
   refine st_op (ev_fieldAddr rfl fa84_2 (o' := 2) rfl) rfl rfl rfl ?_
   refine st_op (ev_load rfl (lvar_one one3 hB11 rfl)) rfl rfl rfl ?_
   refine st_op (ev_int rfl rfl rfl) rfl rfl rfl ?_
   refine st_op (ev_pickT rfl rfl) rfl rfl rfl ?_
   refine st_op (ev_move rfl) rfl rfl rfl ?_
   refine st_bool 24 rfl (fun hb16 => ?_) (fun hb16 => ?_)
   ·
    have hb16 := eq_of_beq hb16
    refine st_op (ev_fieldAddr rfl fa84_3 (o' := 3) rfl) rfl rfl rfl ?_
    refine st_op (ev_load rfl (lvar_one one9 h13 rfl)) rfl rfl rfl ?_
    refine st_op (ev_fieldAddr rfl fa84_3 (o' := 3) rfl) rfl rfl rfl ?_
    refine st_op (ev_load rfl (lvar_one one9 hB11 rfl)) rfl rfl rfl ?_
    refine st_op (ev_str rfl rfl rfl) rfl rfl rfl ?_
    refine st_op (ev_pickT rfl rfl) rfl rfl rfl ?_
    refine st_op (ev_assign rfl) rfl rfl rfl ?_
    try show aw _ _ _ _ _ _
    refine aw_ret ?_
    have hx17 : Ext H H8 := (Ext.trans hx6 hx12)
    have hres : (decide (a_index = b_index ∧ a_term = b_term ∧ a_kind = b_kind ∧ a_data = b_data)) = ((a_data).toList == (b_data).toList) := by rw [Bool.eq_iff_iff]; simp_all [Spec.ba_iff]
    exact ⟨.bool ((a_data).toList == (b_data).toList), rfl, by first | (rw [hres]; done) | rw [← hres], hx17⟩
   ·
    have hb16 := ne_of_beq_false hb16
    iterate 5 refine st_skip rfl rfl rfl ?_
    refine st_op (ev_pickF rfl rfl) rfl rfl rfl ?_
    refine st_op (ev_assign rfl) rfl rfl rfl ?_
    try show aw _ _ _ _ _ _
    refine aw_ret ?_
    have hx18 : Ext H H8 := (Ext.trans hx6 hx12)
    have hres : (decide (a_index = b_index ∧ a_term = b_term ∧ a_kind = b_kind ∧ a_data = b_data)) = false := by rw [Bool.eq_iff_iff]; simp_all [Spec.ba_iff]
    exact ⟨.bool false, rfl, by first | (rw [hres]; done) | rw [← hres], hx18⟩
  ·
   have hb15 := ne_of_beq_false hb15
   iterate 5 refine st_skip rfl rfl rfl ?_
   refine st_op (ev_pickF rfl rfl) rfl rfl rfl ?_
   refine st_op (ev_move rfl) rfl rfl rfl ?_
   iterate 5 refine st_skip rfl rfl rfl ?_
   refine st_op (ev_pickF rfl rfl) rfl rfl rfl ?_
   refine st_op (ev_assign rfl) rfl rfl rfl ?_
   try show aw _ _ _ _ _ _
   refine aw_ret ?_
   have hx19 : Ext H H8 := (Ext.trans hx6 hx12)
   have hres : (decide (a_index = b_index ∧ a_term = b_term ∧ a_kind = b_kind ∧ a_data = b_data)) = false := by rw [Bool.eq_iff_iff]; simp_all [Spec.ba_iff]
   exact ⟨.bool false, rfl, by first | (rw [hres]; done) | rw [← hres], hx19⟩
 ·
  have hb14 := ne_of_beq_false hb14
  iterate 5 refine st_skip rfl rfl rfl ?_
  refine st_op (ev_pickF rfl rfl) rfl rfl rfl ?_
  refine st_op (ev_move rfl) rfl rfl rfl ?_
  iterate 5 refine st_skip rfl rfl rfl ?_
  refine st_op (ev_pickF rfl rfl) rfl rfl rfl ?_
  refine st_op (ev_move rfl) rfl rfl rfl ?_
  iterate 5 refine st_skip rfl rfl rfl ?_
  refine st_op (ev_pickF rfl rfl) rfl rfl rfl ?_
  refine st_op (ev_assign rfl) rfl rfl rfl ?_
  try show aw _ _ _ _ _ _
  refine aw_ret ?_
  have hx20 : Ext H H8 := (Ext.trans hx6 hx12)
  have hres : (decide (a_index = b_index ∧ a_term = b_term ∧ a_kind = b_kind ∧ a_data = b_data)) = false := by rw [Bool.eq_iff_iff]; simp_all [Spec.ba_iff]
  exact ⟨.bool false, rfl, by first | (rw [hres]; done) | rw [← hres], hx20⟩
theorem ref17_EqEntries_spec (H : Heap) (uaA : Option Addr) (ua : List Entry) (uac : Nat) (hua : Row H uaA uac 4 (ua.map Entry.cells)) (cua : ua.length ≤ uac) (lua : ua.length ≤ 140737488355328) (vaA : Option Addr) (va : List Entry) (vac : Nat) (hva : Row H vaA vac 4 (va.map Entry.cells)) (cva : va.length ≤ vac) (lva : va.length ≤ 140737488355328) : ∃ v H', Spec Try.prog 58 [.slice uaA ua.length uac, .slice vaA va.length vac] H v H' ∧ ((v = .bool (Spec.eqEs ua va)) ∧ (Ext H H')) := by
 refine spec_go2 E0_ok 27 (f := 58) Try.func58 rfl rfl rfl ?_
 refine aw_seq ?_
 refine aw_reg ?_
 refine st_op (ev_assign rfl) rfl rfl rfl ?_
 try show aw _ _ _ _ _ _
 iterate 2 refine aw_seq ?_
 refine aw_reg ?_
 refine st_op (ev_move rfl) rfl rfl rfl ?_
 refine st_op (ev_lenSl rfl Try.underlying42) rfl rfl rfl ?_
 refine st_op (ev_move rfl) rfl rfl rfl ?_
 refine st_op (ev_lenSl rfl Try.underlying42) rfl rfl rfl ?_
 refine st_op (ev_int rfl rfl rfl) rfl rfl rfl ?_
 try show aw _ _ _ _ _ _
 by_cases hc1 : ((ua.length : Int) != (va.length : Int)) = true
 ·
  refine aw_condT hc1 rfl ?_
  try show aw _ _ _ _ _ _
  have hc1 : ¬ ((ua.length : Int) = (va.length : Int)) := by simpa using hc1
  refine aw_seq ?_
  refine aw_reg ?_
  refine st_op (ev_assign rfl) rfl rfl rfl ?_
  try show aw _ _ _ _ _ _
  refine aw_ret ?_
  have hres : (Spec.eqEs ua va) = false := by exact Spec.eqEs_len (by omega)
  exact ⟨.bool false, rfl, by first | (rw [hres]; done) | rw [← hres], (Ext.refl H)⟩
 ·
  rw [Bool.not_eq_true] at hc1; refine aw_condF hc1 rfl ?_
  try show aw _ _ _ _ _ _
  have hc1 : ((ua.length : Int) = (va.length : Int)) := by simpa using hc1
  refine aw_skip ?_
  try show aw _ _ _ _ _ _
  iterate 2 refine aw_seq ?_
  refine aw_reg ?_
  refine st_op (ev_assign rfl) rfl rfl rfl ?_
  try show aw _ _ _ _ _ _
  refine aw_block ?_
  refine aw_keep [0, 1, 5] (l' := (.cons 0 (.slice uaA ua.length uac) (.cons 1 (.slice vaA va.length vac) (.cons 5 (.int .i64 0) .nil)))) (by repeat (first | exact Up.done | refine Up.then ?_ | refine Up.inBlock ?_)) rfl ?_
  refine aw_iter (α := Nat × Heap) (fun a => ua.length - a.1) (fun a => (.cons 0 (.slice uaA ua.length uac) (.cons 1 (.slice vaA va.length vac) (.cons 5 (.int .i64 (a.1 : Int)) .nil)))) (fun a => a.2) (fun a => (a.1 ≤ ua.length) ∧ (Spec.eqEs ua va = Spec.eqEs (ua.drop a.1) (va.drop a.1)) ∧ (Ext H a.2)) (0, H) ⟨(show 0 ≤ ua.length from Nat.zero_le _), (show Spec.eqEs ua va = Spec.eqEs (ua.drop 0) (va.drop 0) from rfl), (show Ext H H from (Ext.refl H))⟩ ?_
  rintro ⟨i, Hl2⟩ ⟨hi, hv, hxl3⟩ ih4
  replace hi : i ≤ ua.length := hi
  replace hv : Spec.eqEs ua va = Spec.eqEs (ua.drop i) (va.drop i) := hv
  replace hxl3 : Ext H Hl2 := hxl3
  show aw _ _ _ (RL _ (.cons 0 (.slice uaA ua.length uac) (.cons 1 (.slice vaA va.length vac) (.cons 5 (.int .i64 (i : Int)) .nil)))) Hl2 _
  have Hl2n : H.next ≤ Hl2.next := hxl3.1
  iterate 2 refine aw_seq ?_
  refine aw_reg ?_
  iterate 2 refine st_op (ev_move rfl) rfl rfl rfl ?_
  refine st_op (ev_lenSl rfl Try.underlying42) rfl rfl rfl ?_
  refine st_op (ev_int rfl rfl rfl) rfl rfl rfl ?_
  try show aw _ _ _ _ _ _
  by_cases hc5 : (decide ((i : Int) < (ua.length : Int))) = true
  ·
   refine aw_condT hc5 rfl ?_
   try show aw _ _ _ _ _ _
   have hc5 := of_decide_eq_true hc5
   refine aw_skip ?_
   try show aw _ _ _ _ _ _
   refine aw_seq ?_
   refine aw_block ?_
   refine aw_seq ?_
   refine aw_marks (fun b => b < Hl2.next) [(false, false), (false, false), (false, false), (false, false), (false, false), (false, false), (false, false), (false, false), (false, false), (false, false)] mixed (by kernel_rfl) (by kernel_rfl) ?_
   iterate 2 refine sm_op (ev_move rfl) rfl rfl rfl ?_
   have h6 := Row.ext hua hxl3
   have hi7 : 0 ≤ ((i : Int) : Int) := by omega
   have hi8 : ((i : Int) : Int) < ((ua.length : Nat) : Int) := by omega
   obtain ⟨x9, hx10⟩ : ∃ e, ua[i]? = some e := ⟨_, List.getElem?_eq_getElem (by omega)⟩
   refine sm_op (ev_at rfl rfl h6 (getMap Entry.cells hx10) (by first | rfl | omega | simp) hi7 hi8 el42) rfl rfl rfl ?_
   refine sm_op (ev_atN (cs := [.int .i64 x9.index, .int .i64 x9.term, .int .i64 x9.kind, .string x9.data]) rfl h6 (getMap Entry.cells hx10) many84 rfl rfl (by decide)) rfl rfl rfl ?_
   iterate 2 refine sm_op (ev_move rfl) rfl rfl rfl ?_
   have h11 := Row.ext hva hxl3
   have hi12 : 0 ≤ ((i : Int) : Int) := by omega
   have hi13 : ((i : Int) : Int) < ((va.length : Nat) : Int) := by omega
   obtain ⟨x14, hx15⟩ : ∃ e, va[i]? = some e := ⟨_, List.getElem?_eq_getElem (by omega)⟩
   refine sm_op (ev_at rfl rfl h11 (getMap Entry.cells hx15) (by first | rfl | omega | simp) hi12 hi13 el42) rfl rfl rfl ?_
   refine sm_op (ev_atN (cs := [.int .i64 x14.index, .int .i64 x14.term, .int .i64 x14.kind, .string x14.data]) rfl h11 (getMap Entry.cells hx15) many84 rfl rfl (by decide)) rfl rfl rfl ?_
   refine sm_call rfl rfl rfl ent80 rfl rfl rfl ?_
   obtain ⟨_, H17, hs16, hs16v, hx18⟩ := ref17_EqEntry_spec Hl2 x9.index x9.term x9.kind x9.data x14.index x14.term x14.kind x14.data
   rw [hs16v] at hs16; clear hs16v
   refine ⟨_, H17, hs16, (fun _ b hb => hx18.2 b (by omega)), ?_⟩
   have H17n : Hl2.next ≤ H17.next := hx18.1
   refine sm_op (ev_not rfl) rfl rfl rfl ?_
   try show aw _ _ _ _ _ _
   by_cases hc19 : (!(decide (x9.index = x14.index ∧ x9.term = x14.term ∧ x9.kind = x14.kind ∧ x9.data = x14.data))) = true
   ·
    refine aw_condT hc19 rfl ?_
    try show aw _ _ _ _ _ _
    replace hc19 : (decide (x9.index = x14.index ∧ x9.term = x14.term ∧ x9.kind = x14.kind ∧ x9.data = x14.data)) = false := by rw [Bool.not_eq_true'] at hc19; exact hc19
    have hc19 := of_decide_eq_false hc19
    refine aw_seq ?_
    refine aw_reg ?_
    refine st_op (ev_assign rfl) rfl rfl rfl ?_
    try show aw _ _ _ _ _ _
    refine aw_ret ?_
    have hx20 : Ext H H17 := (Ext.trans hxl3 hx18)
    have hres : (Spec.eqEs ua va) = false := by rw [hv]; exact Spec.eqEs_fail hx10 hx15 (by assumption)
    exact ⟨.bool false, rfl, by first | (rw [hres]; done) | rw [← hres], hx20⟩
   ·
    rw [Bool.not_eq_true] at hc19; refine aw_condF hc19 rfl ?_
    try show aw _ _ _ _ _ _
    replace hc19 : (decide (x9.index = x14.index ∧ x9.term = x14.term ∧ x9.kind = x14.kind ∧ x9.data = x14.data)) = true := by rw [Bool.not_eq_false'] at hc19; exact hc19
    have hc19 := of_decide_eq_true hc19
    refine aw_skip ?_
    try show aw _ _ _ _ _ _
    refine aw_reg ?_
    refine st_op (ev_move rfl) rfl rfl rfl ?_
    refine st_op (ev_int64 (c := (i : Int) + 1) rfl rfl rfl (by omega) (by omega)) rfl rfl rfl ?_
    refine st_op (ev_assign rfl) rfl rfl rfl ?_
    try show aw _ _ _ _ _ _
    have hx21 : Ext H H17 := (Ext.trans hxl3 hx18)
    refine aw_keep [0, 1, 5] (l' := (.cons 0 (.slice uaA ua.length uac) (.cons 1 (.slice vaA va.length vac) (.cons 5 (.int .i64 ((i : Int) + 1)) .nil)))) (by repeat (first | exact Up.done | refine Up.then ?_ | refine Up.inBlock ?_)) rfl ?_
    exact ih4 (i + 1, H17) ⟨(show (i + 1) ≤ ua.length from (by omega)), (show Spec.eqEs ua va = Spec.eqEs (ua.drop (i + 1)) (va.drop (i + 1)) from (by rw [hv]; exact Spec.eqEs_step hx10 hx15 (by assumption))), (show Ext H H17 from hx21)⟩ (by simp only; omega)
  ·
   rw [Bool.not_eq_true] at hc5; refine aw_condF hc5 rfl ?_
   try show aw _ _ _ _ _ _
   have hc5 := of_decide_eq_false hc5
   refine aw_exit ?_
   try show aw _ _ _ _ _ _
   refine aw_seq ?_
   refine aw_reg ?_
   refine st_op (ev_assign rfl) rfl rfl rfl ?_
   try show aw _ _ _ _ _ _
   refine aw_ret ?_
   have hres : (Spec.eqEs ua va) = true := by rw [hv, List.drop_eq_nil_of_le (by omega), List.drop_eq_nil_of_le (by omega)]; rfl
   exact ⟨.bool true, rfl, by first | (rw [hres]; done) | rw [← hres], hxl3⟩
theorem law24_EqMsg_spec (H : Heap) (a_kind : Int) (a_from_ : Int) (a_to_ : Int) (a_term : Int) (a_index : Int) (a_logterm : Int) (a_commit : Int) (a_yes : Bool) (a_esA : Option Addr) (a_es : List Entry) (a_esc : Nat) (ha_es : Row H a_esA a_esc 4 (a_es.map Entry.cells)) (ca_es : a_es.length ≤ a_esc) (la_es : a_es.length ≤ 140737488355328) (a_s_index : Int) (a_s_term : Int) (a_s_conf : ByteArray) (a_s_data : ByteArray) (b_kind : Int) (b_from_ : Int) (b_to_ : Int) (b_term : Int) (b_index : Int) (b_logterm : Int) (b_commit : Int) (b_yes : Bool) (b_esA : Option Addr) (b_es : List Entry) (b_esc : Nat) (hb_es : Row H b_esA b_esc 4 (b_es.map Entry.cells)) (cb_es : b_es.length ≤ b_esc) (lb_es : b_es.length ≤ 140737488355328) (b_s_index : Int) (b_s_term : Int) (b_s_conf : ByteArray) (b_s_data : ByteArray) : ∃ v H', Spec Try.prog 32 [.agg #[.int .i64 a_kind, .int .i64 a_from_, .int .i64 a_to_, .int .i64 a_term, .int .i64 a_index, .int .i64 a_logterm, .int .i64 a_commit, .bool a_yes, .slice a_esA a_es.length a_esc, .int .i64 a_s_index, .int .i64 a_s_term, .string a_s_conf, .string a_s_data], .agg #[.int .i64 b_kind, .int .i64 b_from_, .int .i64 b_to_, .int .i64 b_term, .int .i64 b_index, .int .i64 b_logterm, .int .i64 b_commit, .bool b_yes, .slice b_esA b_es.length b_esc, .int .i64 b_s_index, .int .i64 b_s_term, .string b_s_conf, .string b_s_data]] H v H' ∧ ((v = .bool (decide (a_kind = b_kind ∧ a_from_ = b_from_ ∧ a_to_ = b_to_ ∧ a_term = b_term ∧ a_index = b_index ∧ a_logterm = b_logterm ∧ a_commit = b_commit ∧ a_yes = b_yes ∧ Spec.eqEs a_es b_es = true ∧ Spec.eqSn a_s_index a_s_term a_s_conf a_s_data b_s_index b_s_term b_s_conf b_s_data = true))) ∧ (Ext H H')) := by
 refine spec_go2 E0_ok 73 (f := 32) Try.func32 rfl rfl rfl ?_
 refine aw_seq ?_
 refine aw_reg ?_
 obtain ⟨b1, H2, he3, b1e, H2n_, hB5, f4⟩ := mem_box (P := Try.prog) H (v := .agg #[.int .i64 a_kind, .int .i64 a_from_, .int .i64 a_to_, .int .i64 a_term, .int .i64 a_index, .int .i64 a_logterm, .int .i64 a_commit, .bool a_yes, .slice a_esA a_es.length a_esc, .int .i64 a_s_index, .int .i64 a_s_term, .string a_s_conf, .string a_s_data]) (cs := [.int .i64 a_kind, .int .i64 a_from_, .int .i64 a_to_, .int .i64 a_term, .int .i64 a_index, .int .i64 a_logterm, .int .i64 a_commit, .bool a_yes, .slice a_esA a_es.length a_esc, .int .i64 a_s_index, .int .i64 a_s_term, .string a_s_conf, .string a_s_data]) rfl rfl
 refine st_op (he3 _ _ _ _ _ _ _ _ _ rfl) rfl rfl rfl ?_
 have hx6 : Ext H H2 := Ext.new (by omega) H2n_ f4
 have H2n : H.next ≤ H2.next := hx6.1
 obtain ⟨b7, H8, he9, b7e, H8n_, hB11, f10⟩ := mem_box (P := Try.prog) H2 (v := .agg #[.int .i64 b_kind, .int .i64 b_from_, .int .i64 b_to_, .int .i64 b_term, .int .i64 b_index, .int .i64 b_logterm, .int .i64 b_commit, .bool b_yes, .slice b_esA b_es.length b_esc, .int .i64 b_s_index, .int .i64 b_s_term, .string b_s_conf, .string b_s_data]) (cs := [.int .i64 b_kind, .int .i64 b_from_, .int .i64 b_to_, .int .i64 b_term, .int .i64 b_index, .int .i64 b_logterm, .int .i64 b_commit, .bool b_yes, .slice b_esA b_es.length b_esc, .int .i64 b_s_index, .int .i64 b_s_term, .string b_s_conf, .string b_s_data]) rfl rfl
 refine st_op (he9 _ _ _ _ _ _ _ _ _ rfl) rfl rfl rfl ?_
 have hx12 : Ext H2 H8 := Ext.new (by omega) H8n_ f10
 have H8n : H2.next ≤ H8.next := hx12.1
 refine st_op (ev_assign rfl) rfl rfl rfl ?_
 try show aw _ _ _ _ _ _
 refine aw_seq ?_
 refine aw_reg ?_
 refine st_op (ev_fieldAddr rfl fa46_0 (o' := 0) rfl) rfl rfl rfl ?_
 have h13 := Ext.blk hx12 (by omega) hB5
 refine st_op (ev_load rfl (lvar_one one3 h13 rfl)) rfl rfl rfl ?_
 refine st_op (ev_fieldAddr rfl fa46_0 (o' := 0) rfl) rfl rfl rfl ?_
 refine st_op (ev_load rfl (lvar_one one3 hB11 rfl)) rfl rfl rfl ?_
 refine st_op (ev_int rfl rfl rfl) rfl rfl rfl ?_
 refine st_op (ev_move rfl) rfl rfl rfl ?_
 refine st_bool 10 rfl (fun hb14 => ?_) (fun hb14 => ?_)
 ·
  have hb14 := eq_of_beq hb14
  refine st_op (ev_fieldAddr rfl fa46_1 (o' := 1) rfl) rfl rfl rfl ?_
  refine st_op (ev_load rfl (lvar_one one3 h13 rfl)) rfl rfl rfl ?_
  refine st_op (ev_fieldAddr rfl fa46_1 (o' := 1) rfl) rfl rfl rfl ?_
  refine st_op (ev_load rfl (lvar_one one3 hB11 rfl)) rfl rfl rfl ?_
  refine st_op (ev_int rfl rfl rfl) rfl rfl rfl ?_
  refine st_op (ev_pickT rfl rfl) rfl rfl rfl ?_
  refine st_op (ev_move rfl) rfl rfl rfl ?_
  refine st_bool 17 rfl (fun hb15 => ?_) (fun hb15 => ?_)
  ·
   have hb15 := eq_of_beq hb15
   refine st_op (ev_fieldAddr rfl fa46_2 (o' := 2) rfl) rfl rfl rfl ?_
   refine st_op (ev_load rfl (lvar_one one3 h13 rfl)) rfl rfl rfl ?_
   refine st_op (ev_fieldAddr rfl fa46_2 (o' := 2) rfl) rfl rfl rfl ?_
   refine st_op (ev_load rfl (lvar_one one3 hB11 rfl)) rfl rfl rfl ?_
   refine st_op (ev_int rfl rfl rfl) rfl rfl rfl ?_
   refine st_op (ev_pickT rfl rfl) rfl rfl rfl ?_
   refine st_op (ev_move rfl) rfl rfl rfl ?_
   refine st_bool 24 rfl (fun hb16 => ?_) (fun hb16 => ?_)
   ·
    have hb16 := eq_of_beq hb16
    refine st_op (ev_fieldAddr rfl fa46_3 (o' := 3) rfl) rfl rfl rfl ?_
    refine st_op (ev_load rfl (lvar_one one2 h13 rfl)) rfl rfl rfl ?_
    refine st_op (ev_fieldAddr rfl fa46_3 (o' := 3) rfl) rfl rfl rfl ?_
    refine st_op (ev_load rfl (lvar_one one2 hB11 rfl)) rfl rfl rfl ?_
    refine st_op (ev_int rfl rfl rfl) rfl rfl rfl ?_
    refine st_op (ev_pickT rfl rfl) rfl rfl rfl ?_
    refine st_op (ev_move rfl) rfl rfl rfl ?_
    refine st_bool 31 rfl (fun hb17 => ?_) (fun hb17 => ?_)
    ·
     have hb17 := eq_of_beq hb17
     refine st_op (ev_fieldAddr rfl fa46_4 (o' := 4) rfl) rfl rfl rfl ?_
     refine st_op (ev_load rfl (lvar_one one2 h13 rfl)) rfl rfl rfl ?_
     refine st_op (ev_fieldAddr rfl fa46_4 (o' := 4) rfl) rfl rfl rfl ?_
     refine st_op (ev_load rfl (lvar_one one2 hB11 rfl)) rfl rfl rfl ?_
     refine st_op (ev_int rfl rfl rfl) rfl rfl rfl ?_
     refine st_op (ev_pickT rfl rfl) rfl rfl rfl ?_
     refine st_op (ev_move rfl) rfl rfl rfl ?_
     refine st_bool 38 rfl (fun hb18 => ?_) (fun hb18 => ?_)
     ·
      have hb18 := eq_of_beq hb18
      refine st_op (ev_fieldAddr rfl fa46_5 (o' := 5) rfl) rfl rfl rfl ?_
      refine st_op (ev_load rfl (lvar_one one2 h13 rfl)) rfl rfl rfl ?_
      refine st_op (ev_fieldAddr rfl fa46_5 (o' := 5) rfl) rfl rfl rfl ?_
      refine st_op (ev_load rfl (lvar_one one2 hB11 rfl)) rfl rfl rfl ?_
      refine st_op (ev_int rfl rfl rfl) rfl rfl rfl ?_
      refine st_op (ev_pickT rfl rfl) rfl rfl rfl ?_
      refine st_op (ev_move rfl) rfl rfl rfl ?_
      refine st_bool 45 rfl (fun hb19 => ?_) (fun hb19 => ?_)
      ·
       have hb19 := eq_of_beq hb19
       refine st_op (ev_fieldAddr rfl fa46_6 (o' := 6) rfl) rfl rfl rfl ?_
       refine st_op (ev_load rfl (lvar_one one2 h13 rfl)) rfl rfl rfl ?_
       refine st_op (ev_fieldAddr rfl fa46_6 (o' := 6) rfl) rfl rfl rfl ?_
       refine st_op (ev_load rfl (lvar_one one2 hB11 rfl)) rfl rfl rfl ?_
       refine st_op (ev_int rfl rfl rfl) rfl rfl rfl ?_
       refine st_op (ev_pickT rfl rfl) rfl rfl rfl ?_
       refine st_op (ev_move rfl) rfl rfl rfl ?_
       refine st_bool 52 rfl (fun hb20 => ?_) (fun hb20 => ?_)
       ·
        have hb20 := eq_of_beq hb20
        refine st_op (ev_fieldAddr rfl fa46_7 (o' := 7) rfl) rfl rfl rfl ?_
        refine st_op (ev_load rfl (lvar_one one4 h13 rfl)) rfl rfl rfl ?_
        refine st_op (ev_fieldAddr rfl fa46_7 (o' := 7) rfl) rfl rfl rfl ?_
        refine st_op (ev_load rfl (lvar_one one4 hB11 rfl)) rfl rfl rfl ?_
        refine st_op (ev_eqBool isbool4 rfl rfl) rfl rfl rfl ?_
        refine st_op (ev_pickT rfl rfl) rfl rfl rfl ?_
        refine st_op (ev_move rfl) rfl rfl rfl ?_
        refine st_bool 59 rfl (fun hb21 => ?_) (fun hb21 => ?_)
        ·
         have hb21 := eq_of_beq hb21
         refine st_op (ev_fieldAddr rfl fa46_8 (o' := 8) rfl) rfl rfl rfl ?_
         refine st_op (ev_load rfl (lvar_one one42 h13 rfl)) rfl rfl rfl ?_
         refine st_op (ev_fieldAddr rfl fa46_8 (o' := 8) rfl) rfl rfl rfl ?_
         refine st_op (ev_load rfl (lvar_one one42 hB11 rfl)) rfl rfl rfl ?_
         refine st_call rfl rfl rfl ent58 rfl rfl rfl ?_
         have hx23 : Ext H H8 := (Ext.trans hx6 hx12)
         have h22 := Row.ext ha_es hx23
         have h24 := Row.ext hb_es hx23
         obtain ⟨_, H26, hs25, hs25v, hx27⟩ := ref17_EqEntries_spec H8 a_esA a_es a_esc h22 ca_es (by omega) b_esA b_es b_esc h24 cb_es (by omega)
         rw [hs25v] at hs25; clear hs25v
         refine ⟨_, H26, hs25, ?_⟩
         have H26n : H8.next ≤ H26.next := hx27.1
         refine st_op (ev_pickT rfl rfl) rfl rfl rfl ?_
         refine st_op (ev_move rfl) rfl rfl rfl ?_
         refine st_bool 66 rfl (fun hb28 => ?_) (fun hb28 => ?_)
         ·
          refine st_op (ev_fieldAddr rfl fa46_9 (o' := 9) rfl) rfl rfl rfl ?_
          have h29 := Ext.blk hx27 (by omega) h13
          refine st_op (ev_load rfl (lvar_part (l := [.int .i64 a_s_index, .int .i64 a_s_term, .string a_s_conf, .string a_s_data]) many44 h29 rfl rfl (by decide))) rfl rfl rfl ?_
          refine st_op (ev_fieldAddr rfl fa46_9 (o' := 9) rfl) rfl rfl rfl ?_
          have h30 := Ext.blk hx27 (by omega) hB11
          refine st_op (ev_load rfl (lvar_part (l := [.int .i64 b_s_index, .int .i64 b_s_term, .string b_s_conf, .string b_s_data]) many44 h30 rfl rfl (by decide))) rfl rfl rfl ?_
          refine st_call rfl rfl rfl ent55 rfl rfl rfl ?_
          obtain ⟨_, H32, hs31, hs31v, hx33⟩ := ref17_EqSnap_spec H26 a_s_index a_s_term a_s_conf a_s_data b_s_index b_s_term b_s_conf b_s_data
          rw [hs31v] at hs31; clear hs31v
          refine ⟨_, H32, hs31, ?_⟩
          have H32n : H26.next ≤ H32.next := hx33.1
          refine st_op (ev_pickT rfl rfl) rfl rfl rfl ?_
          refine st_op (ev_assign rfl) rfl rfl rfl ?_
          try show aw _ _ _ _ _ _
          refine aw_ret ?_
          have hx34 : Ext H H32 := (Ext.trans (Ext.trans hx23 hx27) hx33)
          have hres : (decide (a_kind = b_kind ∧ a_from_ = b_from_ ∧ a_to_ = b_to_ ∧ a_term = b_term ∧ a_index = b_index ∧ a_logterm = b_logterm ∧ a_commit = b_commit ∧ a_yes = b_yes ∧ Spec.eqEs a_es b_es = true ∧ Spec.eqSn a_s_index a_s_term a_s_conf a_s_data b_s_index b_s_term b_s_conf b_s_data = true)) = (Spec.eqSn a_s_index a_s_term a_s_conf a_s_data b_s_index b_s_term b_s_conf b_s_data) := by rw [Bool.eq_iff_iff]; simp_all
          exact ⟨.bool (Spec.eqSn a_s_index a_s_term a_s_conf a_s_data b_s_index b_s_term b_s_conf b_s_data), rfl, by first | (rw [hres]; done) | rw [← hres], hx34⟩
         ·
          iterate 5 refine st_skip rfl rfl rfl ?_
          refine st_op (ev_pickF rfl rfl) rfl rfl rfl ?_
          refine st_op (ev_assign rfl) rfl rfl rfl ?_
          try show aw _ _ _ _ _ _
          refine aw_ret ?_
          have hx35 : Ext H H26 := (Ext.trans hx23 hx27)
          have hres : (decide (a_kind = b_kind ∧ a_from_ = b_from_ ∧ a_to_ = b_to_ ∧ a_term = b_term ∧ a_index = b_index ∧ a_logterm = b_logterm ∧ a_commit = b_commit ∧ a_yes = b_yes ∧ Spec.eqEs a_es b_es = true ∧ Spec.eqSn a_s_index a_s_term a_s_conf a_s_data b_s_index b_s_term b_s_conf b_s_data = true)) = false := by rw [Bool.eq_iff_iff]; simp_all
          exact ⟨.bool false, rfl, by first | (rw [hres]; done) | rw [← hres], hx35⟩
        ·
         have hb21 := ne_of_beq_false hb21
         iterate 5 refine st_skip rfl rfl rfl ?_
         refine st_op (ev_pickF rfl rfl) rfl rfl rfl ?_
         refine st_op (ev_move rfl) rfl rfl rfl ?_
         iterate 5 refine st_skip rfl rfl rfl ?_
         refine st_op (ev_pickF rfl rfl) rfl rfl rfl ?_
         refine st_op (ev_assign rfl) rfl rfl rfl ?_
         try show aw _ _ _ _ _ _
         refine aw_ret ?_
         have hx36 : Ext H H8 := (Ext.trans hx6 hx12)
         have hres : (decide (a_kind = b_kind ∧ a_from_ = b_from_ ∧ a_to_ = b_to_ ∧ a_term = b_term ∧ a_index = b_index ∧ a_logterm = b_logterm ∧ a_commit = b_commit ∧ a_yes = b_yes ∧ Spec.eqEs a_es b_es = true ∧ Spec.eqSn a_s_index a_s_term a_s_conf a_s_data b_s_index b_s_term b_s_conf b_s_data = true)) = false := by rw [Bool.eq_iff_iff]; simp_all
         exact ⟨.bool false, rfl, by first | (rw [hres]; done) | rw [← hres], hx36⟩
       ·
        have hb20 := ne_of_beq_false hb20
        iterate 5 refine st_skip rfl rfl rfl ?_
        refine st_op (ev_pickF rfl rfl) rfl rfl rfl ?_
        refine st_op (ev_move rfl) rfl rfl rfl ?_
        iterate 5 refine st_skip rfl rfl rfl ?_
        refine st_op (ev_pickF rfl rfl) rfl rfl rfl ?_
        refine st_op (ev_move rfl) rfl rfl rfl ?_
        iterate 5 refine st_skip rfl rfl rfl ?_
        refine st_op (ev_pickF rfl rfl) rfl rfl rfl ?_
        refine st_op (ev_assign rfl) rfl rfl rfl ?_
        try show aw _ _ _ _ _ _
        refine aw_ret ?_
        have hx37 : Ext H H8 := (Ext.trans hx6 hx12)
        have hres : (decide (a_kind = b_kind ∧ a_from_ = b_from_ ∧ a_to_ = b_to_ ∧ a_term = b_term ∧ a_index = b_index ∧ a_logterm = b_logterm ∧ a_commit = b_commit ∧ a_yes = b_yes ∧ Spec.eqEs a_es b_es = true ∧ Spec.eqSn a_s_index a_s_term a_s_conf a_s_data b_s_index b_s_term b_s_conf b_s_data = true)) = false := by rw [Bool.eq_iff_iff]; simp_all
        exact ⟨.bool false, rfl, by first | (rw [hres]; done) | rw [← hres], hx37⟩
      ·
       have hb19 := ne_of_beq_false hb19
       iterate 5 refine st_skip rfl rfl rfl ?_
       refine st_op (ev_pickF rfl rfl) rfl rfl rfl ?_
       refine st_op (ev_move rfl) rfl rfl rfl ?_
       iterate 5 refine st_skip rfl rfl rfl ?_
       refine st_op (ev_pickF rfl rfl) rfl rfl rfl ?_
       refine st_op (ev_move rfl) rfl rfl rfl ?_
       iterate 5 refine st_skip rfl rfl rfl ?_
       refine st_op (ev_pickF rfl rfl) rfl rfl rfl ?_
       refine st_op (ev_move rfl) rfl rfl rfl ?_
       iterate 5 refine st_skip rfl rfl rfl ?_
       refine st_op (ev_pickF rfl rfl) rfl rfl rfl ?_
       refine st_op (ev_assign rfl) rfl rfl rfl ?_
       try show aw _ _ _ _ _ _
       refine aw_ret ?_
       have hx38 : Ext H H8 := (Ext.trans hx6 hx12)
       have hres : (decide (a_kind = b_kind ∧ a_from_ = b_from_ ∧ a_to_ = b_to_ ∧ a_term = b_term ∧ a_index = b_index ∧ a_logterm = b_logterm ∧ a_commit = b_commit ∧ a_yes = b_yes ∧ Spec.eqEs a_es b_es = true ∧ Spec.eqSn a_s_index a_s_term a_s_conf a_s_data b_s_index b_s_term b_s_conf b_s_data = true)) = false := by rw [Bool.eq_iff_iff]; simp_all
       exact ⟨.bool false, rfl, by first | (rw [hres]; done) | rw [← hres], hx38⟩
     ·
      have hb18 := ne_of_beq_false hb18
      iterate 5 refine st_skip rfl rfl rfl ?_
      refine st_op (ev_pickF rfl rfl) rfl rfl rfl ?_
      refine st_op (ev_move rfl) rfl rfl rfl ?_
      iterate 5 refine st_skip rfl rfl rfl ?_
      refine st_op (ev_pickF rfl rfl) rfl rfl rfl ?_
      refine st_op (ev_move rfl) rfl rfl rfl ?_
      iterate 5 refine st_skip rfl rfl rfl ?_
      refine st_op (ev_pickF rfl rfl) rfl rfl rfl ?_
      refine st_op (ev_move rfl) rfl rfl rfl ?_
      iterate 5 refine st_skip rfl rfl rfl ?_
      refine st_op (ev_pickF rfl rfl) rfl rfl rfl ?_
      refine st_op (ev_move rfl) rfl rfl rfl ?_
      iterate 5 refine st_skip rfl rfl rfl ?_
      refine st_op (ev_pickF rfl rfl) rfl rfl rfl ?_
      refine st_op (ev_assign rfl) rfl rfl rfl ?_
      try show aw _ _ _ _ _ _
      refine aw_ret ?_
      have hx39 : Ext H H8 := (Ext.trans hx6 hx12)
      have hres : (decide (a_kind = b_kind ∧ a_from_ = b_from_ ∧ a_to_ = b_to_ ∧ a_term = b_term ∧ a_index = b_index ∧ a_logterm = b_logterm ∧ a_commit = b_commit ∧ a_yes = b_yes ∧ Spec.eqEs a_es b_es = true ∧ Spec.eqSn a_s_index a_s_term a_s_conf a_s_data b_s_index b_s_term b_s_conf b_s_data = true)) = false := by rw [Bool.eq_iff_iff]; simp_all
      exact ⟨.bool false, rfl, by first | (rw [hres]; done) | rw [← hres], hx39⟩
    ·
     have hb17 := ne_of_beq_false hb17
     iterate 5 refine st_skip rfl rfl rfl ?_
     refine st_op (ev_pickF rfl rfl) rfl rfl rfl ?_
     refine st_op (ev_move rfl) rfl rfl rfl ?_
     iterate 5 refine st_skip rfl rfl rfl ?_
     refine st_op (ev_pickF rfl rfl) rfl rfl rfl ?_
     refine st_op (ev_move rfl) rfl rfl rfl ?_
     iterate 5 refine st_skip rfl rfl rfl ?_
     refine st_op (ev_pickF rfl rfl) rfl rfl rfl ?_
     refine st_op (ev_move rfl) rfl rfl rfl ?_
     iterate 5 refine st_skip rfl rfl rfl ?_
     refine st_op (ev_pickF rfl rfl) rfl rfl rfl ?_
     refine st_op (ev_move rfl) rfl rfl rfl ?_
     iterate 5 refine st_skip rfl rfl rfl ?_
     refine st_op (ev_pickF rfl rfl) rfl rfl rfl ?_
     refine st_op (ev_move rfl) rfl rfl rfl ?_
     iterate 5 refine st_skip rfl rfl rfl ?_
     refine st_op (ev_pickF rfl rfl) rfl rfl rfl ?_
     refine st_op (ev_assign rfl) rfl rfl rfl ?_
     try show aw _ _ _ _ _ _
     refine aw_ret ?_
     have hx40 : Ext H H8 := (Ext.trans hx6 hx12)
     have hres : (decide (a_kind = b_kind ∧ a_from_ = b_from_ ∧ a_to_ = b_to_ ∧ a_term = b_term ∧ a_index = b_index ∧ a_logterm = b_logterm ∧ a_commit = b_commit ∧ a_yes = b_yes ∧ Spec.eqEs a_es b_es = true ∧ Spec.eqSn a_s_index a_s_term a_s_conf a_s_data b_s_index b_s_term b_s_conf b_s_data = true)) = false := by rw [Bool.eq_iff_iff]; simp_all
     exact ⟨.bool false, rfl, by first | (rw [hres]; done) | rw [← hres], hx40⟩
   ·
    have hb16 := ne_of_beq_false hb16
    iterate 5 refine st_skip rfl rfl rfl ?_
    refine st_op (ev_pickF rfl rfl) rfl rfl rfl ?_
    refine st_op (ev_move rfl) rfl rfl rfl ?_
    iterate 5 refine st_skip rfl rfl rfl ?_
    refine st_op (ev_pickF rfl rfl) rfl rfl rfl ?_
    refine st_op (ev_move rfl) rfl rfl rfl ?_
    iterate 5 refine st_skip rfl rfl rfl ?_
    refine st_op (ev_pickF rfl rfl) rfl rfl rfl ?_
    refine st_op (ev_move rfl) rfl rfl rfl ?_
    iterate 5 refine st_skip rfl rfl rfl ?_
    refine st_op (ev_pickF rfl rfl) rfl rfl rfl ?_
    refine st_op (ev_move rfl) rfl rfl rfl ?_
    iterate 5 refine st_skip rfl rfl rfl ?_
    refine st_op (ev_pickF rfl rfl) rfl rfl rfl ?_
    refine st_op (ev_move rfl) rfl rfl rfl ?_
    iterate 5 refine st_skip rfl rfl rfl ?_
    refine st_op (ev_pickF rfl rfl) rfl rfl rfl ?_
    refine st_op (ev_move rfl) rfl rfl rfl ?_
    iterate 5 refine st_skip rfl rfl rfl ?_
    refine st_op (ev_pickF rfl rfl) rfl rfl rfl ?_
    refine st_op (ev_assign rfl) rfl rfl rfl ?_
    try show aw _ _ _ _ _ _
    refine aw_ret ?_
    have hx41 : Ext H H8 := (Ext.trans hx6 hx12)
    have hres : (decide (a_kind = b_kind ∧ a_from_ = b_from_ ∧ a_to_ = b_to_ ∧ a_term = b_term ∧ a_index = b_index ∧ a_logterm = b_logterm ∧ a_commit = b_commit ∧ a_yes = b_yes ∧ Spec.eqEs a_es b_es = true ∧ Spec.eqSn a_s_index a_s_term a_s_conf a_s_data b_s_index b_s_term b_s_conf b_s_data = true)) = false := by rw [Bool.eq_iff_iff]; simp_all
    exact ⟨.bool false, rfl, by first | (rw [hres]; done) | rw [← hres], hx41⟩
  ·
   have hb15 := ne_of_beq_false hb15
   iterate 5 refine st_skip rfl rfl rfl ?_
   refine st_op (ev_pickF rfl rfl) rfl rfl rfl ?_
   refine st_op (ev_move rfl) rfl rfl rfl ?_
   iterate 5 refine st_skip rfl rfl rfl ?_
   refine st_op (ev_pickF rfl rfl) rfl rfl rfl ?_
   refine st_op (ev_move rfl) rfl rfl rfl ?_
   iterate 5 refine st_skip rfl rfl rfl ?_
   refine st_op (ev_pickF rfl rfl) rfl rfl rfl ?_
   refine st_op (ev_move rfl) rfl rfl rfl ?_
   iterate 5 refine st_skip rfl rfl rfl ?_
   refine st_op (ev_pickF rfl rfl) rfl rfl rfl ?_
   refine st_op (ev_move rfl) rfl rfl rfl ?_
   iterate 5 refine st_skip rfl rfl rfl ?_
   refine st_op (ev_pickF rfl rfl) rfl rfl rfl ?_
   refine st_op (ev_move rfl) rfl rfl rfl ?_
   iterate 5 refine st_skip rfl rfl rfl ?_
   refine st_op (ev_pickF rfl rfl) rfl rfl rfl ?_
   refine st_op (ev_move rfl) rfl rfl rfl ?_
   iterate 5 refine st_skip rfl rfl rfl ?_
   refine st_op (ev_pickF rfl rfl) rfl rfl rfl ?_
   refine st_op (ev_move rfl) rfl rfl rfl ?_
   iterate 5 refine st_skip rfl rfl rfl ?_
   refine st_op (ev_pickF rfl rfl) rfl rfl rfl ?_
   refine st_op (ev_assign rfl) rfl rfl rfl ?_
   try show aw _ _ _ _ _ _
   refine aw_ret ?_
   have hx42 : Ext H H8 := (Ext.trans hx6 hx12)
   have hres : (decide (a_kind = b_kind ∧ a_from_ = b_from_ ∧ a_to_ = b_to_ ∧ a_term = b_term ∧ a_index = b_index ∧ a_logterm = b_logterm ∧ a_commit = b_commit ∧ a_yes = b_yes ∧ Spec.eqEs a_es b_es = true ∧ Spec.eqSn a_s_index a_s_term a_s_conf a_s_data b_s_index b_s_term b_s_conf b_s_data = true)) = false := by rw [Bool.eq_iff_iff]; simp_all
   exact ⟨.bool false, rfl, by first | (rw [hres]; done) | rw [← hres], hx42⟩
 ·
  have hb14 := ne_of_beq_false hb14
  iterate 5 refine st_skip rfl rfl rfl ?_
  refine st_op (ev_pickF rfl rfl) rfl rfl rfl ?_
  refine st_op (ev_move rfl) rfl rfl rfl ?_
  iterate 5 refine st_skip rfl rfl rfl ?_
  refine st_op (ev_pickF rfl rfl) rfl rfl rfl ?_
  refine st_op (ev_move rfl) rfl rfl rfl ?_
  iterate 5 refine st_skip rfl rfl rfl ?_
  refine st_op (ev_pickF rfl rfl) rfl rfl rfl ?_
  refine st_op (ev_move rfl) rfl rfl rfl ?_
  iterate 5 refine st_skip rfl rfl rfl ?_
  refine st_op (ev_pickF rfl rfl) rfl rfl rfl ?_
  refine st_op (ev_move rfl) rfl rfl rfl ?_
  iterate 5 refine st_skip rfl rfl rfl ?_
  refine st_op (ev_pickF rfl rfl) rfl rfl rfl ?_
  refine st_op (ev_move rfl) rfl rfl rfl ?_
  iterate 5 refine st_skip rfl rfl rfl ?_
  refine st_op (ev_pickF rfl rfl) rfl rfl rfl ?_
  refine st_op (ev_move rfl) rfl rfl rfl ?_
  iterate 5 refine st_skip rfl rfl rfl ?_
  refine st_op (ev_pickF rfl rfl) rfl rfl rfl ?_
  refine st_op (ev_move rfl) rfl rfl rfl ?_
  iterate 5 refine st_skip rfl rfl rfl ?_
  refine st_op (ev_pickF rfl rfl) rfl rfl rfl ?_
  refine st_op (ev_move rfl) rfl rfl rfl ?_
  iterate 5 refine st_skip rfl rfl rfl ?_
  refine st_op (ev_pickF rfl rfl) rfl rfl rfl ?_
  refine st_op (ev_assign rfl) rfl rfl rfl ?_
  try show aw _ _ _ _ _ _
  refine aw_ret ?_
  have hx43 : Ext H H8 := (Ext.trans hx6 hx12)
  have hres : (decide (a_kind = b_kind ∧ a_from_ = b_from_ ∧ a_to_ = b_to_ ∧ a_term = b_term ∧ a_index = b_index ∧ a_logterm = b_logterm ∧ a_commit = b_commit ∧ a_yes = b_yes ∧ Spec.eqEs a_es b_es = true ∧ Spec.eqSn a_s_index a_s_term a_s_conf a_s_data b_s_index b_s_term b_s_conf b_s_data = true)) = false := by rw [Bool.eq_iff_iff]; simp_all
  exact ⟨.bool false, rfl, by first | (rw [hres]; done) | rw [← hres], hx43⟩

end Go.AM
