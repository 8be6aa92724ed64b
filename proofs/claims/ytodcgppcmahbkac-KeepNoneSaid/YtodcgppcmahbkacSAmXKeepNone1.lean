/- Part of a machine of its own for this claim: the program's code over memory without draws. -/
import Derived.Test.YtodcgppcmahbkacSAmXKeepB4
set_option linter.unusedVariables false
set_option linter.unusedSimpArgs false
set_option linter.unnecessarySimpa false
set_option linter.unusedVariables false
set_option linter.unusedSimpArgs false
set_option linter.unnecessarySimpa false
namespace Go.AM
open Go Go.Proofs
theorem ent5 : enters Try.prog 5 = true := by kernel_rfl
theorem fd35_2 : fieldFlat Try.prog 35 2 6 = true := by kernel_rfl
theorem pl35 : placesOf Try.prog 35 = some [(0, 2), (2, 4), (6, 1)] := by kernel_rfl
theorem keepnil_Hard_spec (H : Heap)  (h_term : Int) (h_vote : Int) : ∃ v H', Spec Try.prog 6 [.pointer none, .agg #[.int .i64 h_term, .int .i64 h_vote]] H v H' ∧ ((v = .int .i64 13) ∧ (Ext H H')) := by
 refine spec_go2 E0_ok 23 (f := 6) Try.func6 rfl rfl rfl ?_
 refine aw_seq ?_
 refine aw_reg ?_
 obtain ⟨b1, H2, he3, b1e, H2n_, hB5, f4⟩ := mem_box (P := Try.prog) H (v := .agg #[.int .i64 h_term, .int .i64 h_vote]) (cs := [.int .i64 h_term, .int .i64 h_vote]) rfl rfl
 refine st_op (he3 _ _ _ _ _ _ _ _ _ rfl) rfl rfl rfl ?_
 have hx6 : Ext H H2 := Ext.new (by omega) H2n_ f4
 have H2n : H.next ≤ H2.next := hx6.1
 refine st_op (ev_assign rfl) rfl rfl rfl ?_
 try show aw _ _ _ _ _ _
 iterate 2 refine aw_seq ?_
 refine aw_reg ?_
 refine st_op (ev_move rfl) rfl rfl rfl ?_
 refine st_op (ev_nilEq rfl rfl Try.underlying22) rfl rfl rfl ?_
 try show aw _ _ _ _ _ _
 refine aw_cond (t := true) rfl ?_
 try show aw _ _ _ _ _ _
 refine aw_seq ?_
 refine aw_reg ?_
 refine st_op (ev_assign rfl) rfl rfl rfl ?_
 try show aw _ _ _ _ _ _
 refine aw_ret ?_
 exact ⟨.int .i64 13, rfl, rfl, hx6⟩
theorem keepnil_Write_spec (H : Heap)  (wA : Option Addr) (w wc : Nat) : ∃ v H', Spec Try.prog 7 [.pointer none, .slice wA w wc] H v H' ∧ ((v = .int .i64 13) ∧ (Ext H H')) := by
 refine spec_go2 E0_ok 79 (f := 7) Try.func7 rfl rfl rfl ?_
 refine aw_seq ?_
 refine aw_reg ?_
 refine st_op (ev_assign rfl) rfl rfl rfl ?_
 try show aw _ _ _ _ _ _
 iterate 2 refine aw_seq ?_
 refine aw_reg ?_
 refine st_op (ev_move rfl) rfl rfl rfl ?_
 refine st_op (ev_nilEq rfl rfl Try.underlying22) rfl rfl rfl ?_
 try show aw _ _ _ _ _ _
 refine aw_cond (t := true) rfl ?_
 try show aw _ _ _ _ _ _
 refine aw_seq ?_
 refine aw_reg ?_
 refine st_op (ev_assign rfl) rfl rfl rfl ?_
 try show aw _ _ _ _ _ _
 refine aw_ret ?_
 exact ⟨.int .i64 13, rfl, rfl, (Ext.refl H)⟩
theorem keepnil_Sync_spec (H : Heap)  : ∃ v H', Spec Try.prog 8 [.pointer none] H v H' ∧ ((v = .int .i64 13) ∧ (Ext H H')) := by
 refine spec_go1 E0_ok 17 (f := 8) Try.func8 rfl rfl rfl ?_
 refine aw_seq ?_
 refine aw_reg ?_
 refine st_op (ev_assign rfl) rfl rfl rfl ?_
 try show aw _ _ _ _ _ _
 refine aw_seq ?_
 refine aw_block ?_
 refine aw_seq ?_
 refine aw_reg ?_
 refine st_op (ev_move rfl) rfl rfl rfl ?_
 refine st_op (ev_nilEq rfl rfl Try.underlying22) rfl rfl rfl ?_
 refine st_op (ev_assign rfl) rfl rfl rfl ?_
 try show aw _ _ _ _ _ _
 refine aw_cond (t := true) rfl ?_
 try show aw _ _ _ _ _ _
 refine aw_seq ?_
 refine aw_reg ?_
 refine st_op (ev_assign rfl) rfl rfl rfl ?_
 try show aw _ _ _ _ _ _
 refine aw_ret ?_
 exact ⟨.int .i64 13, rfl, rfl, (Ext.refl H)⟩

theorem keepnil_Snap_spec (H : Heap)  (s_index : Int) (s_term : Int) (s_conf : ByteArray) (s_data : ByteArray) : ∃ v H', Spec Try.prog 9 [.pointer none, .agg #[.int .i64 s_index, .int .i64 s_term, .string s_conf, .string s_data]] H v H' ∧ ((v = .int .i64 13) ∧ (Ext H H')) := by
 refine spec_go2 E0_ok 84 (f := 9) Try.func9 rfl rfl rfl ?_
 refine aw_seq ?_
 refine aw_reg ?_
 obtain ⟨b1, H2, he3, b1e, H2n_, hB5, f4⟩ := mem_box (P := Try.prog) H (v := .agg #[.int .i64 s_index, .int .i64 s_term, .string s_conf, .string s_data]) (cs := [.int .i64 s_index, .int .i64 s_term, .string s_conf, .string s_data]) rfl rfl
 refine st_op (he3 _ _ _ _ _ _ _ _ _ rfl) rfl rfl rfl ?_
 have hx6 : Ext H H2 := Ext.new (by omega) H2n_ f4
 have H2n : H.next ≤ H2.next := hx6.1
 refine st_op (ev_assign rfl) rfl rfl rfl ?_
 try show aw _ _ _ _ _ _
 iterate 2 refine aw_seq ?_
 refine aw_reg ?_
 refine st_op (ev_move rfl) rfl rfl rfl ?_
 refine st_op (ev_nilEq rfl rfl Try.underlying22) rfl rfl rfl ?_
 try show aw _ _ _ _ _ _
 refine aw_cond (t := true) rfl ?_
 try show aw _ _ _ _ _ _
 refine aw_seq ?_
 refine aw_reg ?_
 refine st_op (ev_assign rfl) rfl rfl rfl ?_
 try show aw _ _ _ _ _ _
 refine aw_ret ?_
 exact ⟨.int .i64 13, rfl, rfl, hx6⟩
theorem keepnil_State_spec (H : Heap)  : ∃ v H', Spec Try.prog 10 [.pointer none] H v H' ∧ ((v = .agg #[.int .i64 0, .int .i64 0, .int .i64 0, .int .i64 0, .string (⟨#[]⟩), .string (⟨#[]⟩), .slice none 0 0]) ∧ (Ext H H')) := by
 refine spec_go1 E0_ok 16 (f := 10) Try.func10 rfl rfl rfl ?_
 refine aw_seq ?_
 refine aw_reg ?_
 obtain ⟨b1, H2, he3, b1e, H2n_, hB5, f4⟩ := mem_alloc H zero35
 refine st_op (he3 _ _ _ _ _ _ _) rfl rfl rfl ?_
 have hx6 : Ext H H2 := Ext.new (by omega) H2n_ f4
 have H2n : H.next ≤ H2.next := hx6.1
 try show aw _ _ _ _ _ _
 iterate 2 refine aw_seq ?_
 refine aw_reg ?_
 refine st_op (ev_move rfl) rfl rfl rfl ?_
 refine st_op (ev_nilEq rfl rfl Try.underlying22) rfl rfl rfl ?_
 try show aw _ _ _ _ _ _
 refine aw_cond (t := true) rfl ?_
 try show aw _ _ _ _ _ _
 refine aw_seq ?_
 refine aw_reg ?_
 refine st_op (ev_build zero35 pl35 (parts := []) rfl (cs := [.int .i64 0, .int .i64 0, .int .i64 0, .int .i64 0, .string (⟨#[]⟩), .string (⟨#[]⟩), .slice none 0 0]) rfl) rfl rfl rfl ?_
 obtain ⟨H7, he8, H7n_, hB9, f10⟩ := mem_store (v := .agg #[.int .i64 0, .int .i64 0, .int .i64 0, .int .i64 0, .string (⟨#[]⟩), .string (⟨#[]⟩), .slice none 0 0]) (o := 0) (cs' := [.int .i64 0, .int .i64 0, .int .i64 0, .int .i64 0, .string (⟨#[]⟩), .string (⟨#[]⟩), .slice none 0 0]) 7 rfl rfl size35 hB5 rfl rfl rfl
 refine st_op0 (he8 _ _ _ _ _ _ _ _ _ rfl rfl) rfl rfl ?_
 have hf11 : Fr (fun q => q = b1) H2 H7 := Fr.write H7n_ f10
 have H7n : H2.next ≤ H7.next := hf11.1
 try show aw _ _ _ _ _ _
 refine aw_ret ?_
 have hx12 : Ext H H7 := (Ext.then hx6 hf11 (fun q hq e => by omega))
 exact ⟨.agg #[.int .i64 0, .int .i64 0, .int .i64 0, .int .i64 0, .string (⟨#[]⟩), .string (⟨#[]⟩), .slice none 0 0], (resA_of (resL_cell rfl (lvar_part (l := [.int .i64 0, .int .i64 0, .int .i64 0, .int .i64 0, .string (⟨#[]⟩), .string (⟨#[]⟩), .slice none 0 0]) many35 hB9 rfl rfl (by decide)) resL_nil) rfl), rfl, hx12⟩
theorem law_KeepNone_spec (H : Heap)  : ∃ v H', Spec Try.prog 3 [] H v H' ∧ ((v = .bool true) ∧ (Ext H H')) := by
 refine spec_go0 E0_ok 32 (f := 3) Try.func3 rfl rfl ?_
 refine aw_seq ?_
 refine aw_reg ?_
 refine st_op (ev_assign rfl) rfl rfl rfl ?_
 try show aw _ _ _ _ _ _
 refine aw_seq ?_
 refine aw_reg ?_
 refine st_op (ev_assign rfl) rfl rfl rfl ?_
 try show aw _ _ _ _ _ _
 refine aw_seq ?_
 refine aw_reg ?_
 refine st_call rfl rfl rfl ent5 rfl rfl rfl ?_
 obtain ⟨_, H2, hs1, hs1v, hx3⟩ := law19_begun_spec H 
 rw [hs1v] at hs1; clear hs1v
 refine ⟨_, H2, hs1, ?_⟩
 have H2n : H.next ≤ H2.next := hx3.1
 iterate 2 refine st_op (ev_move rfl) rfl rfl rfl ?_
 refine st_op (ev_build zero27 pl27 (parts := []) rfl (cs := [.int .i64 0, .int .i64 0]) rfl) rfl rfl rfl ?_
 refine st_call rfl rfl rfl ent6 rfl rfl rfl ?_
 obtain ⟨_, H5, hs4, hs4v, hx6⟩ := keepnil_Hard_spec H2  (0 : Int) (0 : Int)
 rw [hs4v] at hs4; clear hs4v
 refine ⟨_, H5, hs4, ?_⟩
 have H5n : H2.next ≤ H5.next := hx6.1
 refine st_op (ev_int rfl rfl rfl) rfl rfl rfl ?_
 refine st_op (ev_pickT rfl rfl) rfl rfl rfl ?_
 iterate 2 refine st_op (ev_move rfl) rfl rfl rfl ?_
 refine st_call rfl rfl rfl ent7 rfl rfl rfl ?_
 obtain ⟨_, H8, hs7, hs7v, hx9⟩ := keepnil_Write_spec H5  none 0 0
 rw [hs7v] at hs7; clear hs7v
 refine ⟨_, H8, hs7, ?_⟩
 have H8n : H5.next ≤ H8.next := hx9.1
 refine st_op (ev_int rfl rfl rfl) rfl rfl rfl ?_
 refine st_op (ev_pickT rfl rfl) rfl rfl rfl ?_
 iterate 2 refine st_op (ev_move rfl) rfl rfl rfl ?_
 refine st_call rfl rfl rfl ent8 rfl rfl rfl ?_
 obtain ⟨_, H11, hs10, hs10v, hx12⟩ := keepnil_Sync_spec H8 
 rw [hs10v] at hs10; clear hs10v
 refine ⟨_, H11, hs10, ?_⟩
 have H11n : H8.next ≤ H11.next := hx12.1
 refine st_op (ev_int rfl rfl rfl) rfl rfl rfl ?_
 refine st_op (ev_pickT rfl rfl) rfl rfl rfl ?_
 iterate 2 refine st_op (ev_move rfl) rfl rfl rfl ?_
 refine st_op (ev_build zero32 pl32 (parts := []) rfl (cs := [.int .i64 0, .int .i64 0, .string (⟨#[]⟩), .string (⟨#[]⟩)]) rfl) rfl rfl rfl ?_
 refine st_call rfl rfl rfl ent9 rfl rfl rfl ?_
 obtain ⟨_, H14, hs13, hs13v, hx15⟩ := keepnil_Snap_spec H11  (0 : Int) (0 : Int) (⟨#[]⟩ : ByteArray) (⟨#[]⟩ : ByteArray)
 rw [hs13v] at hs13; clear hs13v
 refine ⟨_, H14, hs13, ?_⟩
 have H14n : H11.next ≤ H14.next := hx15.1
 refine st_op (ev_int rfl rfl rfl) rfl rfl rfl ?_
 refine st_op (ev_pickT rfl rfl) rfl rfl rfl ?_
 iterate 2 refine st_op (ev_move rfl) rfl rfl rfl ?_
 refine st_call rfl rfl rfl ent10 rfl rfl rfl ?_
 obtain ⟨_, H17, hs16, hs16v, hx18⟩ := keepnil_State_spec H14 
 rw [hs16v] at hs16; clear hs16v
 refine ⟨_, H17, hs16, ?_⟩
 have H17n : H14.next ≤ H17.next := hx18.1
 refine st_op (ev_fieldF fd35_2 rfl rfl) rfl rfl rfl ?_
 refine st_op (ev_lenSl rfl Try.underlying33) rfl rfl rfl ?_
 refine st_op (ev_int rfl rfl rfl) rfl rfl rfl ?_
 refine st_op (ev_pickT rfl rfl) rfl rfl rfl ?_
 refine st_op (ev_assign rfl) rfl rfl rfl ?_
 try show aw _ _ _ _ _ _
 refine aw_ret ?_
 have hx19 : Ext H H17 := (Ext.trans (Ext.trans (Ext.trans (Ext.trans (Ext.trans hx3 hx6) hx9) hx12) hx15) hx18)
 exact ⟨.bool true, rfl, rfl, hx19⟩

end Go.AM
