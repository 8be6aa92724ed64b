/- Part of a machine of its own for this claim: the program's code over memory without draws. -/
import Derived.Test.YtoolcbdceijjlaaGreatSAmXRaftB2
set_option linter.unusedVariables false
set_option linter.unusedSimpArgs false
set_option linter.unnecessarySimpa false
set_option linter.unusedVariables false
set_option linter.unusedSimpArgs false
set_option linter.unnecessarySimpa false
namespace Go.AM
open Go Go.Proofs
theorem ElemInfo.mk26 : ∃ i, Tryz.prog.info? 26 = some i ∧ i.size = 13 ∧ i.bytes = 136 ∧ (i.zero.map fun z => z.cells.size) = some 13 := elemInfo (by kernel_rfl)
theorem zf26 : ∃ i z, Tryz.prog.info? 26 = some i ∧ i.zero = some z ∧ z.cells.toList.all flat = true := zeroFlat (by kernel_rfl)
theorem el38 : elemIs Tryz.prog 38 13 = true := by kernel_rfl
theorem ent10 : enters Tryz.prog 10 = true := by kernel_rfl
theorem ent11 : enters Tryz.prog 11 = true := by kernel_rfl
theorem ent12 : enters Tryz.prog 12 = true := by kernel_rfl
theorem ent13 : enters Tryz.prog 13 = true := by kernel_rfl
theorem ent14 : enters Tryz.prog 14 = true := by kernel_rfl
theorem ent15 : enters Tryz.prog 15 = true := by kernel_rfl
theorem ent16 : enters Tryz.prog 16 = true := by kernel_rfl
theorem ent17 : enters Tryz.prog 17 = true := by kernel_rfl
theorem ent18 : enters Tryz.prog 18 = true := by kernel_rfl
theorem ent26 : enters Tryz.prog 26 = true := by kernel_rfl
theorem ent45 : enters Tryz.prog 45 = true := by kernel_rfl
theorem ent46 : enters Tryz.prog 46 = true := by kernel_rfl
theorem ent9 : enters Tryz.prog 9 = true := by kernel_rfl
theorem eok38 : ElemOk Tryz.prog 38 26 13 136 := ⟨Tryz.underlying38, ElemInfo.mk26⟩
theorem fa40_0 : fieldIs Tryz.prog 40 0 0 = true := by kernel_rfl
theorem fa40_1 : fieldIs Tryz.prog 40 1 1 = true := by kernel_rfl
theorem fa40_2 : fieldIs Tryz.prog 40 2 2 = true := by kernel_rfl
theorem fa40_3 : fieldIs Tryz.prog 40 3 3 = true := by kernel_rfl
theorem fa80_0 : fieldIs Tryz.prog 80 0 0 = true := by kernel_rfl
theorem fa80_1 : fieldIs Tryz.prog 80 1 1 = true := by kernel_rfl
theorem fa80_2 : fieldIs Tryz.prog 80 2 3 = true := by kernel_rfl
theorem fa80_9 : fieldIs Tryz.prog 80 9 10 = true := by kernel_rfl
theorem fd24_0 : fieldFlat Tryz.prog 24 0 0 = true := by kernel_rfl
theorem fd35_0 : fieldFlat Tryz.prog 35 0 0 = true := by kernel_rfl
theorem fd35_1 : fieldFlat Tryz.prog 35 1 1 = true := by kernel_rfl
theorem isrow38 : isRow Tryz.prog (some 38) = true := by kernel_rfl
theorem many40 : manyB Tryz.prog 40 4 = true := by kernel_rfl
theorem one36 : oneB Tryz.prog 36 = true := by kernel_rfl
theorem one38 : oneB Tryz.prog 38 = true := by kernel_rfl
theorem pl26 : placesOf Tryz.prog 26 = some [(0, 1), (1, 1), (2, 1), (3, 1), (4, 1), (5, 1), (6, 1), (7, 1), (8, 1), (9, 4)] := by kernel_rfl
theorem pl40 : placesOf Tryz.prog 40 = some [(0, 1), (1, 1), (2, 1), (3, 1)] := by kernel_rfl
theorem pl80 : placesOf Tryz.prog 80 = some [(0, 1), (1, 2), (3, 1), (4, 1), (5, 1), (6, 1), (7, 1), (8, 1), (9, 1), (10, 4)] := by kernel_rfl
theorem size2 : sizeIs Tryz.prog 2 1 = true := by kernel_rfl
theorem size3 : sizeIs Tryz.prog 3 1 = true := by kernel_rfl
theorem size35 : sizeIs Tryz.prog 35 2 = true := by kernel_rfl
theorem size38 : sizeIs Tryz.prog 38 1 = true := by kernel_rfl
theorem size40 : sizeIs Tryz.prog 40 4 = true := by kernel_rfl
theorem zero40 : ZeroIs Tryz.prog 40 [.slice none 0 0, .bool false, .int .i64 0, .bool false] := ⟨.agg #[.slice none 0 0, .bool false, .int .i64 0, .bool false], by kernel_rfl, rfl, rfl, rfl⟩
theorem zero80 : ZeroIs Tryz.prog 80 [.int .i64 0, .int .i64 0, .int .i64 0, .pointer none, .int .i64 0, .int .i64 0, .int .i64 0, .bool false, .pointer none, .pointer none, .slice none 0 0, .bool false, .int .i64 0, .bool false] := ⟨.agg #[.int .i64 0, .int .i64 0, .int .i64 0, .pointer none, .int .i64 0, .int .i64 0, .int .i64 0, .bool false, .pointer none, .pointer none, .slice none 0 0, .bool false, .int .i64 0, .bool false], by kernel_rfl, rfl, rfl, rfl⟩
theorem raft_New_spec (H : Heap) (rid : Int) (hrid : 1 ≤ rid ∧ rid ≤ 7) (h_term : Int) (h_vote : Int) (uh : Spec.mayF true h_term h_vote 0 0 0 (⟨#[]⟩ : ByteArray) = true) (x : Int) (hx : 0 ≤ x ∧ x ≤ 2199023255552) (tm : Int) (cf : ByteArray) (hcf : cf.size ≤ 1073741824) (dt : ByteArray) (lA : Option Addr) (l : List Entry) (lc : Nat) (hl : Row H lA lc 4 (l.map Entry.cells)) (cl : l.length ≤ lc) (ll : l.length ≤ 200) (g : Nat) (hg : g < H.next) (Bg : H.blk g = some ⟨[.int .i64 x, .int .i64 tm, .string cf, .string dt, .slice lA l.length lc], 0, false, false⟩) (uk : Spec.LogOk x tm l) (cmt : Int) (hcmt : 0 ≤ cmt ∧ cmt ≤ 2199023255752) (ucmt : x ≤ cmt ∧ cmt ≤ x + (l.length : Int)) : ∃ v H', Spec Tryz.prog 13 [.int .i64 rid, .agg #[.int .i64 h_term, .int .i64 h_vote], .pointer (some ⟨g, 0, none⟩), .int .i64 cmt] H v H' ∧ (∃ rb0, (v = .pointer (some ⟨rb0, 0, none⟩)) ∧ (H.next ≤ rb0) ∧ (rb0 < H'.next) ∧ (H'.blk rb0 = some ⟨[.int .i64 rid, .int .i64 h_term, .int .i64 h_vote, .pointer (some ⟨g, 0, none⟩), .int .i64 cmt, .int .i64 0, .int .i64 0, .bool false, .pointer none, .pointer none, .slice none 0 0, .bool false, .int .i64 0, .bool false], 0, false, false⟩) ∧ (Ext H H')) := by
 refine spec_go4 E0_ok 44 (f := 13) Tryz.func13 rfl rfl rfl ?_
 refine aw_seq ?_
 refine aw_reg ?_
 obtain ⟨b1, H2, he3, b1e, H2n_, hB5, f4⟩ := mem_box (P := Tryz.prog) H (v := .agg #[.int .i64 h_term, .int .i64 h_vote]) (cs := [.int .i64 h_term, .int .i64 h_vote]) rfl rfl
 refine st_op (he3 _ _ _ _ _ _ _ _ _ rfl) rfl rfl rfl ?_
 have hx6 : Ext H H2 := Ext.new (by omega) H2n_ f4
 have H2n : H.next ≤ H2.next := hx6.1
 refine st_op (ev_assign rfl) rfl rfl rfl ?_
 try show aw _ _ _ _ _ _
 iterate 2 refine aw_seq ?_
 refine aw_reg ?_
 refine st_op (ev_move rfl) rfl rfl rfl ?_
 refine st_op (ev_int rfl rfl rfl) rfl rfl rfl ?_
 refine st_op (ev_move rfl) rfl rfl rfl ?_
 refine st_bool 11 rfl (fun hb7 => ?_) (fun hb7 => ?_)
 ·
  have hb7 := of_decide_eq_true hb7
  exfalso; omega
 ·
  have hb7 := of_decide_eq_false hb7
  refine st_op (ev_move rfl) rfl rfl rfl ?_
  refine st_op (ev_int rfl rfl rfl) rfl rfl rfl ?_
  refine st_op (ev_pickF rfl rfl) rfl rfl rfl ?_
  refine st_op (ev_move rfl) rfl rfl rfl ?_
  refine st_bool 15 rfl (fun hb8 => ?_) (fun hb8 => ?_)
  ·
   have hb8 := of_decide_eq_true hb8
   exfalso; omega
  ·
   have hb8 := of_decide_eq_false hb8
   refine st_op (ev_move rfl) rfl rfl rfl ?_
   refine st_op (ev_nilEq rfl rfl Tryz.underlying36) rfl rfl rfl ?_
   refine st_op (ev_pickF rfl rfl) rfl rfl rfl ?_
   refine st_op (ev_move rfl) rfl rfl rfl ?_
   refine st_op (ev_load rfl (lvar_part (l := [.int .i64 h_term, .int .i64 h_vote]) many35 hB5 rfl rfl (by decide))) rfl rfl rfl ?_
   refine st_op (ev_build zero76 pl76 (parts := [(0, .bool true), (1, .agg #[.int .i64 h_term, .int .i64 h_vote])]) rfl (cs := [.bool true, .int .i64 h_term, .int .i64 h_vote, .int .i64 0, .int .i64 0, .int .i64 0, .string (⟨#[]⟩)]) rfl) rfl rfl rfl ?_
   refine st_call rfl rfl rfl ent40 rfl rfl rfl ?_
   obtain ⟨_, H10, hs9, hs9v, hx11⟩ := wal_May_spec H2 true h_term h_vote (0 : Int) (0 : Int) (0 : Int) (⟨#[]⟩ : ByteArray)
   rw [hs9v] at hs9; clear hs9v
   refine ⟨_, H10, hs9, ?_⟩
   have H10n : H2.next ≤ H10.next := hx11.1
   refine st_op (ev_not rfl) rfl rfl rfl ?_
   refine st_op (ev_pickF rfl rfl) rfl rfl rfl ?_
   refine st_op (ev_move rfl) rfl rfl rfl ?_
   refine st_bool 25 rfl (fun hb12 => ?_) (fun hb12 => ?_)
   ·
    replace hb12 : (Spec.mayF true h_term h_vote (0 : Int) (0 : Int) (0 : Int) (⟨#[]⟩ : ByteArray)) = false := by rw [Bool.not_eq_true'] at hb12; exact hb12
    iterate 5 refine st_skip rfl rfl rfl ?_
    refine st_op (ev_pickT rfl rfl) rfl rfl rfl ?_
    refine st_op (ev_move rfl) rfl rfl rfl ?_
    iterate 4 refine st_skip rfl rfl rfl ?_
    refine st_op (ev_pickT rfl rfl) rfl rfl rfl ?_
    try show aw _ _ _ _ _ _
    refine aw_cond (t := true) rfl ?_
    try show aw _ _ _ _ _ _
    refine aw_seq ?_
    refine aw_reg ?_
    refine st_op (ev_assign rfl) rfl rfl rfl ?_
    try show aw _ _ _ _ _ _
    refine aw_ret ?_
    exfalso; first | omega | (simp_all; done) | (simp_all; omega)
   ·
    replace hb12 : (Spec.mayF true h_term h_vote (0 : Int) (0 : Int) (0 : Int) (⟨#[]⟩ : ByteArray)) = true := by rw [Bool.not_eq_false'] at hb12; exact hb12
    have hb12m := Spec.may_says hb12
    iterate 2 refine st_op (ev_move rfl) rfl rfl rfl ?_
    refine st_call rfl rfl rfl ent26 rfl rfl rfl ?_
    have hx14 : Ext H H10 := (Ext.trans hx6 hx11)
    have h13 := Row.ext hl hx14
    have h15 := Ext.blk hx14 (by omega) Bg
    obtain ⟨_, H17, hs16, hs16v, hx18⟩ := rlog_Snap_spec H10 x ⟨by omega, by omega⟩ tm cf (by omega) dt lA l lc h13 cl (by omega) g (by omega) h15 (by assumption)
    rw [hs16v] at hs16; clear hs16v
    refine ⟨_, H17, hs16, ?_⟩
    have H17n : H10.next ≤ H17.next := hx18.1
    refine st_op (ev_fieldF fd24_0 rfl rfl) rfl rfl rfl ?_
    refine st_op (ev_int rfl rfl rfl) rfl rfl rfl ?_
    refine st_op (ev_pickF rfl rfl) rfl rfl rfl ?_
    refine st_op (ev_move rfl) rfl rfl rfl ?_
    refine st_bool 32 rfl (fun hb19 => ?_) (fun hb19 => ?_)
    ·
     have hb19 := of_decide_eq_true hb19
     iterate 4 refine st_skip rfl rfl rfl ?_
     refine st_op (ev_pickT rfl rfl) rfl rfl rfl ?_
     try show aw _ _ _ _ _ _
     refine aw_cond (t := true) rfl ?_
     try show aw _ _ _ _ _ _
     refine aw_seq ?_
     refine aw_reg ?_
     refine st_op (ev_assign rfl) rfl rfl rfl ?_
     try show aw _ _ _ _ _ _
     refine aw_ret ?_
     exfalso; first | omega | (simp_all; done) | (simp_all; omega)
    ·
     have hb19 := of_decide_eq_false hb19
     iterate 2 refine st_op (ev_move rfl) rfl rfl rfl ?_
     refine st_call rfl rfl rfl ent18 rfl rfl rfl ?_
     have h20 := Row.ext h13 hx18
     have h21 := Ext.blk hx18 (by omega) h15
     obtain ⟨_, H23, hs22, hs22v, hx24⟩ := rlog_Last_spec H17 x ⟨by omega, by omega⟩ tm cf (by omega) dt lA l lc h20 cl (by omega) g (by omega) h21 (by assumption)
     rw [hs22v] at hs22; clear hs22v
     refine ⟨_, H23, hs22, ?_⟩
     have H23n : H17.next ≤ H23.next := hx24.1
     refine st_op (ev_int rfl rfl rfl) rfl rfl rfl ?_
     refine st_op (ev_pickF rfl rfl) rfl rfl rfl ?_
     try show aw _ _ _ _ _ _
     by_cases hc25 : (decide (cmt > (x + (l.length : Int)))) = true
     ·
      refine aw_condT hc25 rfl ?_
      try show aw _ _ _ _ _ _
      have hc25 := of_decide_eq_true hc25
      refine aw_seq ?_
      refine aw_reg ?_
      refine st_op (ev_assign rfl) rfl rfl rfl ?_
      try show aw _ _ _ _ _ _
      refine aw_ret ?_
      exfalso; first | omega | (simp_all; done) | (simp_all; omega)
     ·
      rw [Bool.not_eq_true] at hc25; refine aw_condF hc25 rfl ?_
      try show aw _ _ _ _ _ _
      have hc25 := of_decide_eq_false hc25
      refine aw_skip ?_
      try show aw _ _ _ _ _ _
      refine aw_seq ?_
      refine aw_reg ?_
      refine st_op (ev_move rfl) rfl rfl rfl ?_
      have hx27 : Ext H2 H23 := (Ext.trans (Ext.trans hx11 hx18) hx24)
      have h26 := Ext.blk hx27 (by omega) hB5
      refine st_op (ev_load rfl (lvar_part (l := [.int .i64 h_term, .int .i64 h_vote]) many35 h26 rfl rfl (by decide))) rfl rfl rfl ?_
      iterate 2 refine st_op (ev_move rfl) rfl rfl rfl ?_
      refine st_op (ev_build zero80 pl80 (parts := [(0, .int .i64 rid), (1, .agg #[.int .i64 h_term, .int .i64 h_vote]), (2, .pointer (some ⟨g, 0, none⟩)), (3, .int .i64 cmt)]) rfl (cs := [.int .i64 rid, .int .i64 h_term, .int .i64 h_vote, .pointer (some ⟨g, 0, none⟩), .int .i64 cmt, .int .i64 0, .int .i64 0, .bool false, .pointer none, .pointer none, .slice none 0 0, .bool false, .int .i64 0, .bool false]) rfl) rfl rfl rfl ?_
      obtain ⟨b28, H29, he30, b28e, H29n_, hB32, f31⟩ := mem_box (P := Tryz.prog) H23 (v := .agg #[.int .i64 rid, .int .i64 h_term, .int .i64 h_vote, .pointer (some ⟨g, 0, none⟩), .int .i64 cmt, .int .i64 0, .int .i64 0, .bool false, .pointer none, .pointer none, .slice none 0 0, .bool false, .int .i64 0, .bool false]) (cs := [.int .i64 rid, .int .i64 h_term, .int .i64 h_vote, .pointer (some ⟨g, 0, none⟩), .int .i64 cmt, .int .i64 0, .int .i64 0, .bool false, .pointer none, .pointer none, .slice none 0 0, .bool false, .int .i64 0, .bool false]) rfl rfl
      refine st_op (he30 _ _ _ _ _ _ _ _ _ rfl) rfl rfl rfl ?_
      have hx33 : Ext H23 H29 := Ext.new (by omega) H29n_ f31
      have H29n : H23.next ≤ H29.next := hx33.1
      refine st_op (ev_assign rfl) rfl rfl rfl ?_
      try show aw _ _ _ _ _ _
      refine aw_ret ?_
      have hx34 : Ext H H29 := (Ext.trans (Ext.trans (Ext.trans hx14 hx18) hx24) hx33)
      exact ⟨.pointer (some ⟨b28, 0, none⟩), rfl, b28, rfl, (by omega), (by omega), hB32, hx34⟩
theorem raft_say0_spec (H : Heap) (rid : Int) (hrid : 1 ≤ rid ∧ rid ≤ 7) (rt : Int) (rv : Int) (x : Int) (hx : 0 ≤ x ∧ x ≤ 2199023255552) (tm : Int) (cf : ByteArray) (hcf : cf.size ≤ 1073741824) (dt : ByteArray) (lA : Option Addr) (l : List Entry) (lc : Nat) (hl : Row H lA lc 4 (l.map Entry.cells)) (cl : l.length ≤ lc) (ll : l.length ≤ 200) (g : Nat) (hg : g < H.next) (Bg : H.blk g = some ⟨[.int .i64 x, .int .i64 tm, .string cf, .string dt, .slice lA l.length lc], 0, false, false⟩) (uk : Spec.LogOk x tm l) (cmt : Int) (role : Int) (ldr : Int) (hrd : Bool)   (msH : Heap) (msA : Option Addr) (ms : List MsgC) (msc : Nat) (hms : My msH H msA msc 13 (ms.map MsgC.cells)) (nms : msH.next ≤ H.next) (lms : ms.length ≤ 100) (msE : Heap) (ems : Each MsgC.sub msE H ms) (nems : msE.next ≤ H.next) (oh : Bool) (of_ : Int) (os_ : Bool) (r : Nat) (hr : r < H.next) (Br : H.blk r = some ⟨[.int .i64 rid, .int .i64 rt, .int .i64 rv, .pointer (some ⟨g, 0, none⟩), .int .i64 cmt, .int .i64 role, .int .i64 ldr, .bool hrd, .pointer none, .pointer none, .slice msA ms.length msc, .bool oh, .int .i64 of_, .bool os_], 0, false, false⟩) (ugr : g < r) (kind : Int) (from_ : Int) (to_ : Int) (term : Int) (index : Int) (logterm : Int) (commit : Int) (yes : Bool)  (s_index : Int) (s_term : Int) (s_conf : ByteArray) (s_data : ByteArray) : ∃ v H', Spec Tryz.prog 45 [.pointer (some ⟨r, 0, none⟩), .agg #[.int .i64 kind, .int .i64 from_, .int .i64 to_, .int .i64 term, .int .i64 index, .int .i64 logterm, .int .i64 commit, .bool yes, .slice none 0 0, .int .i64 s_index, .int .i64 s_term, .string s_conf, .string s_data]] H v H' ∧ (∃ rA0 rc0, (v = .tuple #[]) ∧ (My msH H' rA0 rc0 13 ((ms ++ [(⟨kind, rid, to_, rt, index, logterm, commit, yes, [], none, 0, ⟨s_index, s_term, s_conf, s_data⟩⟩ : MsgC)]).map MsgC.cells)) ∧ (Each MsgC.sub msE H' (ms ++ [(⟨kind, rid, to_, rt, index, logterm, commit, yes, [], none, 0, ⟨s_index, s_term, s_conf, s_data⟩⟩ : MsgC)])) ∧ (H'.blk r = some ⟨[.int .i64 rid, .int .i64 rt, .int .i64 rv, .pointer (some ⟨g, 0, none⟩), .int .i64 cmt, .int .i64 role, .int .i64 ldr, .bool hrd, .pointer none, .pointer none, .slice rA0 ((ms ++ [(⟨kind, rid, to_, rt, index, logterm, commit, yes, [], none, 0, ⟨s_index, s_term, s_conf, s_data⟩⟩ : MsgC)]).length) rc0, .bool oh, .int .i64 of_, .bool os_], 0, false, false⟩) ∧ (Fr (fun q => q = r ∨ (msH.next ≤ q ∧ q < H.next ∧ ZB H q 13)) H H')) := by
 refine spec_go2 E0_ok 27 (f := 45) Tryz.func45 rfl rfl rfl ?_
 refine aw_seq ?_
 refine aw_reg ?_
 obtain ⟨b1, H2, he3, b1e, H2n_, hB5, f4⟩ := mem_box (P := Tryz.prog) H (v := .agg #[.int .i64 kind, .int .i64 from_, .int .i64 to_, .int .i64 term, .int .i64 index, .int .i64 logterm, .int .i64 commit, .bool yes, .slice none 0 0, .int .i64 s_index, .int .i64 s_term, .string s_conf, .string s_data]) (cs := [.int .i64 kind, .int .i64 from_, .int .i64 to_, .int .i64 term, .int .i64 index, .int .i64 logterm, .int .i64 commit, .bool yes, .slice none 0 0, .int .i64 s_index, .int .i64 s_term, .string s_conf, .string s_data]) rfl rfl
 refine st_op (he3 _ _ _ _ _ _ _ _ _ rfl) rfl rfl rfl ?_
 have hx6 : Ext H H2 := Ext.new (by omega) H2n_ f4
 have H2n : H.next ≤ H2.next := hx6.1
 try show aw _ _ _ _ _ _
 refine aw_seq ?_
 refine aw_marks (fun b => b < H2.next ∧ b ≠ b1) [(false, false), (false, false), (false, false), (false, false), (false, false), (false, false), (false, false), (false, false), (true, false), (false, false), (false, true), (false, false), (false, false)] mixed (by kernel_rfl) (by kernel_rfl) ?_
 refine sm_op (ev_move rfl) rfl rfl rfl ?_
 refine sm_op (ev_nilCheck rfl) rfl rfl rfl ?_
 refine sm_op (ev_fieldAddr rfl fa80_0 (o' := 0) rfl) rfl rfl rfl ?_
 have h7 := Ext.blk hx6 (by omega) Br
 refine sm_op (ev_load rfl (lvar_one one3 h7 rfl)) rfl rfl rfl ?_
 refine sm_op (ev_move rfl) rfl rfl rfl ?_
 refine sm_op (ev_nilCheck rfl) rfl rfl rfl ?_
 refine sm_op (ev_fieldAddr rfl fa80_1 (o' := 1) rfl) rfl rfl rfl ?_
 refine sm_op (ev_fieldAddr rfl fa35_0 (o' := 1) rfl) rfl rfl rfl ?_
 refine sm_read (ev_load rfl (lvar_one one2 h7 rfl)) rfl rfl rfl (fun b hb => by cases hb; dsimp only <;> omega) ?_
 refine sm_op (ev_fieldAddr rfl fa26_1 (o' := 1) rfl) rfl rfl rfl ?_
 obtain ⟨H8, he9, H8n_, hB10, f11⟩ := mem_store (v := .int .i64 rid) (o := 1) (cs' := [.int .i64 kind, .int .i64 rid, .int .i64 to_, .int .i64 term, .int .i64 index, .int .i64 logterm, .int .i64 commit, .bool yes, .slice none 0 0, .int .i64 s_index, .int .i64 s_term, .string s_conf, .string s_data]) 1 rfl rfl size3 hB5 rfl rfl rfl
 refine sm_act0 (he9 _ _ _ _ _ _ _ _ _ rfl rfl) rfl rfl (fun q hq => f11 q (by omega)) ?_
 have hf12 : Fr (fun q => q = b1) H2 H8 := Fr.write H8n_ f11
 have H8n : H2.next ≤ H8.next := hf12.1
 refine sm_op (ev_fieldAddr rfl fa26_3 (o' := 3) rfl) rfl rfl rfl ?_
 obtain ⟨H13, he14, H13n_, hB15, f16⟩ := mem_store (v := .int .i64 rt) (o := 3) (cs' := [.int .i64 kind, .int .i64 rid, .int .i64 to_, .int .i64 rt, .int .i64 index, .int .i64 logterm, .int .i64 commit, .bool yes, .slice none 0 0, .int .i64 s_index, .int .i64 s_term, .string s_conf, .string s_data]) 1 rfl rfl size2 hB10 rfl rfl rfl
 refine sm_op0 (he14 _ _ _ _ _ _ _ _ _ rfl rfl) rfl rfl ?_
 have hf17 : Fr (fun q => q = b1) H8 H13 := Fr.write H13n_ f16
 have H13n : H8.next ≤ H13.next := hf17.1
 try show aw _ _ _ _ _ _
 refine aw_marks (fun b => b < H13.next) [(false, false), (false, false), (false, false), (false, false), (false, false), (true, false), (false, false), (false, true), (false, false), (false, false), (false, false), (false, false), (false, false)] mixed (by kernel_rfl) (by kernel_rfl) ?_
 iterate 2 refine sm_op (ev_move rfl) rfl rfl rfl ?_
 refine sm_op (ev_nilCheck rfl) rfl rfl rfl ?_
 refine sm_op (ev_fieldAddr rfl fa80_9 (o' := 10) rfl) rfl rfl rfl ?_
 refine sm_op (ev_fieldAddr rfl fa40_0 (o' := 10) rfl) rfl rfl rfl ?_
 have hx19 : Ext H H13 := (Ext.then (Ext.then hx6 hf12 (fun q hq e => by omega)) hf17 (fun q hq e => by omega))
 have h18 := Ext.blk hx19 (by omega) Br
 refine sm_read (ev_load rfl (lvar_one one38 h18 rfl)) rfl rfl rfl (fun b hb => by cases hb; dsimp only <;> omega) ?_
 refine sm_op (ev_load rfl (lvar_part (l := [.int .i64 kind, .int .i64 rid, .int .i64 to_, .int .i64 rt, .int .i64 index, .int .i64 logterm, .int .i64 commit, .bool yes, .slice none 0 0, .int .i64 s_index, .int .i64 s_term, .string s_conf, .string s_data]) many26 hB15 rfl rfl (by decide))) rfl rfl rfl ?_
 obtain ⟨b20, H21, he22, b20e, H21n_, hm24, f23⟩ := mem_lit H13 (xs := ([.agg #[.int .i64 kind, .int .i64 rid, .int .i64 to_, .int .i64 rt, .int .i64 index, .int .i64 logterm, .int .i64 commit, .bool yes, .slice none 0 0, .int .i64 s_index, .int .i64 s_term, .string s_conf, .string s_data]] : List Value)) (m := 1) (rows := [[.int .i64 kind, .int .i64 rid, .int .i64 to_, .int .i64 rt, .int .i64 index, .int .i64 logterm, .int .i64 commit, .bool yes, .slice none 0 0, .int .i64 s_index, .int .i64 s_term, .string s_conf, .string s_data]]) rfl eok38 (by decide) (by decide) zf26 rfl (allLen rfl) rfl
 replace hm24 : My H13 H21 (some ⟨b20, 0, none⟩) 1 13 ([(⟨kind, rid, to_, rt, index, logterm, commit, yes, ([] : List Entry), none, 0, (⟨s_index, s_term, s_conf, s_data⟩ : Snap)⟩ : MsgC)].map MsgC.cells) := hm24
 refine sm_act (he22 _ _ _ _ _ _ _ _ rfl) rfl rfl rfl (fun q hq => f23 q (by omega)) ?_
 have hx25 : Ext H13 H21 := Ext.new (by omega) H21n_ f23
 have H21n : H13.next ≤ H21.next := hx25.1
 have hE26 : Each MsgC.sub H21 H21 ([(⟨kind, rid, to_, rt, index, logterm, commit, yes, ([] : List Entry), none, 0, (⟨s_index, s_term, s_conf, s_data⟩ : Snap)⟩ : MsgC)]) := Each.one (My.nil)
 have hx28 : Ext H H21 := (Ext.trans hx19 hx25)
 have h27 := My.ext hms hx28
 obtain ⟨A29, c30, H31, W32, he33, hm34, hf35⟩ := mem_append (f := MsgC.cells) (old := ms) (new := [(⟨kind, rid, to_, rt, index, logterm, commit, yes, ([] : List Entry), none, 0, (⟨s_index, s_term, s_conf, s_data⟩ : Snap)⟩ : MsgC)]) (m := ms.length) (mx := 1) (c := msc) (by first | rfl | simp) (by first | rfl | simp) eok38 (by decide) hms h27 (by omega) (((My.row hm24)).srcF (by decide) (by first | rfl | simp)) rfl MsgC.cells_len MsgC.cells_one (by first | omega | (simp only [List.length_append, List.length_cons, List.length_nil, List.length_map, List.length_set, List.length_replicate, Spec.bytesOf_length]; omega) | (simp; omega)) (by first | omega | (simp only [List.length_append, List.length_cons, List.length_nil, List.length_map, List.length_set, List.length_replicate, Spec.bytesOf_length]; omega) | (simp; omega))
 refine sm_op (he33 _ _ _ _ _ _ _ _ _ _ rfl rfl isrow38) rfl rfl rfl ?_
 have H31n : H21.next ≤ H31.next := hf35.1
 have h37 := Each.ext ems hx28
 have h38 := Each.frS h37 hf35 (fun q hq e => (ZB.ne e.2.2 (show (13 : Nat) ≠ 4 by decide)))
 have h39 := Each.frS hE26 hf35 (fun q hq e => (ZB.ne e.2.2 (show (13 : Nat) ≠ 4 by decide)))
 have hE36 : Each MsgC.sub msE H31 (ms ++ [(⟨kind, rid, to_, rt, index, logterm, commit, yes, ([] : List Entry), none, 0, (⟨s_index, s_term, s_conf, s_data⟩ : Snap)⟩ : MsgC)]) := Each.append h38 (Each.older h39 (by omega))
 refine sm_op (ev_nilCheck rfl) rfl rfl rfl ?_
 refine sm_op (ev_fieldAddr rfl fa80_9 (o' := 10) rfl) rfl rfl rfl ?_
 refine sm_op (ev_fieldAddr rfl fa40_0 (o' := 10) rfl) rfl rfl rfl ?_
 have h40 := Ext.blk hx25 (by omega) h18
 have h41 := Fr.blk hf35 (by omega) (fun e => (zb_ne h40 e.2.2 (show (0 : Nat) ≠ 13 by decide))) h40
 obtain ⟨H42, he43, H42n_, hB44, f45⟩ := mem_store (v := .slice A29 ((ms ++ [(⟨kind, rid, to_, rt, index, logterm, commit, yes, ([] : List Entry), none, 0, (⟨s_index, s_term, s_conf, s_data⟩ : Snap)⟩ : MsgC)]).length) c30) (o := 10) (cs' := [.int .i64 rid, .int .i64 rt, .int .i64 rv, .pointer (some ⟨g, 0, none⟩), .int .i64 cmt, .int .i64 role, .int .i64 ldr, .bool hrd, .pointer none, .pointer none, .slice A29 ((ms ++ [(⟨kind, rid, to_, rt, index, logterm, commit, yes, ([] : List Entry), none, 0, (⟨s_index, s_term, s_conf, s_data⟩ : Snap)⟩ : MsgC)]).length) c30, .bool oh, .int .i64 of_, .bool os_]) 1 rfl rfl size38 h41 rfl rfl rfl
 refine sm_op0 (he43 _ _ _ _ _ _ _ _ _ rfl rfl) rfl rfl ?_
 have hf46 : Fr (fun q => q = r) H31 H42 := Fr.write H42n_ f45
 have H42n : H31.next ≤ H42.next := hf46.1
 try show aw _ _ _ _ _ _
 have h47 := My.frS hm34 hf46 (fun q hq e => ⟨_, e ▸ h41, show (0 : Nat) ≠ 13 by decide⟩)
 have h48 := Each.frS hE36 hf46 (fun q hq e => ⟨_, e ▸ h41, show (0 : Nat) ≠ 4 by decide⟩)
 have hres : (ms ++ [(⟨kind, rid, to_, rt, index, logterm, commit, yes, [], none, 0, ⟨s_index, s_term, s_conf, s_data⟩⟩ : MsgC)]) = (ms ++ [(⟨kind, rid, to_, rt, index, logterm, commit, yes, ([] : List Entry), none, 0, (⟨s_index, s_term, s_conf, s_data⟩ : Snap)⟩ : MsgC)]) := by first | rfl | simp
 exact ⟨.tuple #[], rfl, A29, c30, rfl, (by rw [hres]; exact h47), (by rw [hres]; exact h48), (by rw [hres]; exact hB44), (Fr.transG (Fr.transG (Fr.trans (Fr.transG (Fr.transG (Fr.trans (Fr.refl (fun q => q = r ∨ (msH.next ≤ q ∧ q < H.next ∧ ZB H q 13)) H) (hx6.fr fun _ => False) (fun q hq (e : False) => e.elim)) hf12 (fun q hq hE e => absurd hq (by omega))) hf17 (fun q hq hE e => absurd hq (by omega))) (hx25.fr fun _ => False) (fun q hq (e : False) => e.elim)) hf35 (fun q hq hE e => Or.inr ((⟨by omega, by omega, ZB.back hE e.2.2⟩)))) hf46 (fun q hq hE e => Or.inl (e)))⟩
theorem raft_did_spec (H : Heap) (rid : Int) (hrid : 1 ≤ rid ∧ rid ≤ 7) (rt : Int) (rv : Int) (x : Int) (hx : 0 ≤ x ∧ x ≤ 2199023255552) (tm : Int) (cf : ByteArray) (hcf : cf.size ≤ 1073741824) (dt : ByteArray) (lA : Option Addr) (l : List Entry) (lc : Nat) (hl : Row H lA lc 4 (l.map Entry.cells)) (cl : l.length ≤ lc) (ll : l.length ≤ 200) (g : Nat) (hg : g < H.next) (Bg : H.blk g = some ⟨[.int .i64 x, .int .i64 tm, .string cf, .string dt, .slice lA l.length lc], 0, false, false⟩) (uk : Spec.LogOk x tm l) (cmt : Int) (role : Int) (ldr : Int) (hrd : Bool)   (msH : Heap) (msA : Option Addr) (ms : List MsgC) (msc : Nat) (hms : My msH H msA msc 13 (ms.map MsgC.cells)) (nms : msH.next ≤ H.next) (lms : ms.length ≤ 100) (msE : Heap) (ems : Each MsgC.sub msE H ms) (nems : msE.next ≤ H.next) (oh : Bool) (of_ : Int) (os_ : Bool) (r : Nat) (hr : r < H.next) (Br : H.blk r = some ⟨[.int .i64 rid, .int .i64 rt, .int .i64 rv, .pointer (some ⟨g, 0, none⟩), .int .i64 cmt, .int .i64 role, .int .i64 ldr, .bool hrd, .pointer none, .pointer none, .slice msA ms.length msc, .bool oh, .int .i64 of_, .bool os_], 0, false, false⟩) (ugr : g < r) : ∃ v H', Spec Tryz.prog 46 [.pointer (some ⟨r, 0, none⟩)] H v H' ∧ (∃ rA0 rc0, (v = .agg #[.slice rA0 ms.length rc0, .bool oh, .int .i64 of_, .bool os_]) ∧ (My msH H' rA0 rc0 13 (ms.map MsgC.cells)) ∧ (Each MsgC.sub msE H' ms) ∧ (H'.blk r = some ⟨[.int .i64 rid, .int .i64 rt, .int .i64 rv, .pointer (some ⟨g, 0, none⟩), .int .i64 cmt, .int .i64 role, .int .i64 ldr, .bool hrd, .pointer none, .pointer none, .slice none 0 0, .bool false, .int .i64 0, .bool false], 0, false, false⟩) ∧ (Fr (fun q => q = r ∨ (msH.next ≤ q ∧ q < H.next ∧ ZB H q 13)) H H')) := by
 refine spec_go1 E0_ok 13 (f := 46) Tryz.func46 rfl rfl rfl ?_
 refine aw_seq ?_
 refine aw_reg ?_
 obtain ⟨b1, H2, he3, b1e, H2n_, hB5, f4⟩ := mem_alloc H zero40
 refine st_op (he3 _ _ _ _ _ _ _) rfl rfl rfl ?_
 have hx6 : Ext H H2 := Ext.new (by omega) H2n_ f4
 have H2n : H.next ≤ H2.next := hx6.1
 try show aw _ _ _ _ _ _
 refine aw_seq ?_
 refine aw_reg ?_
 refine st_op (ev_move rfl) rfl rfl rfl ?_
 refine st_op (ev_nilCheck rfl) rfl rfl rfl ?_
 refine st_op (ev_fieldAddr rfl fa80_9 (o' := 10) rfl) rfl rfl rfl ?_
 have h7 := Ext.blk hx6 (by omega) Br
 refine st_op (ev_load rfl (lvar_part (l := [.slice msA ms.length msc, .bool oh, .int .i64 of_, .bool os_]) many40 h7 rfl rfl (by decide))) rfl rfl rfl ?_
 obtain ⟨b8, H9, he10, b8e, H9n_, hB12, f11⟩ := mem_alloc H2 zero40
 refine st_op (he10 _ _ _ _ _ _ _) rfl rfl rfl ?_
 have hx13 : Ext H2 H9 := Ext.new (by omega) H9n_ f11
 have H9n : H2.next ≤ H9.next := hx13.1
 obtain ⟨H14, he15, H14n_, hB16, f17⟩ := mem_store (v := .agg #[.slice msA ms.length msc, .bool oh, .int .i64 of_, .bool os_]) (o := 0) (cs' := [.slice msA ms.length msc, .bool oh, .int .i64 of_, .bool os_]) 4 rfl rfl size40 hB12 rfl rfl rfl
 refine st_op0 (he15 _ _ _ _ _ _ _ _ _ rfl rfl) rfl rfl ?_
 have hf18 : Fr (fun q => q = b8) H9 H14 := Fr.write H14n_ f17
 have H14n : H9.next ≤ H14.next := hf18.1
 try show aw _ _ _ _ _ _
 refine aw_seq ?_
 refine aw_reg ?_
 refine st_op (ev_move rfl) rfl rfl rfl ?_
 refine st_op (ev_build zero40 pl40 (parts := []) rfl (cs := [.slice none 0 0, .bool false, .int .i64 0, .bool false]) rfl) rfl rfl rfl ?_
 refine st_op (ev_nilCheck rfl) rfl rfl rfl ?_
 refine st_op (ev_fieldAddr rfl fa80_9 (o' := 10) rfl) rfl rfl rfl ?_
 have hx20 : Ext H2 H14 := (Ext.then hx13 hf18 (fun q hq e => by omega))
 have h19 := Ext.blk hx20 (by omega) h7
 obtain ⟨H21, he22, H21n_, hB23, f24⟩ := mem_store (v := .agg #[.slice none 0 0, .bool false, .int .i64 0, .bool false]) (o := 10) (cs' := [.int .i64 rid, .int .i64 rt, .int .i64 rv, .pointer (some ⟨g, 0, none⟩), .int .i64 cmt, .int .i64 role, .int .i64 ldr, .bool hrd, .pointer none, .pointer none, .slice none 0 0, .bool false, .int .i64 0, .bool false]) 4 rfl rfl size40 h19 rfl rfl rfl
 refine st_op0 (he22 _ _ _ _ _ _ _ _ _ rfl rfl) rfl rfl ?_
 have hf25 : Fr (fun q => q = r) H14 H21 := Fr.write H21n_ f24
 have H21n : H14.next ≤ H21.next := hf25.1
 try show aw _ _ _ _ _ _
 refine aw_seq ?_
 refine aw_reg ?_
 have h26 := Fr.blk hf25 (by omega) (fun e => (by omega)) hB16
 refine st_op (ev_load rfl (lvar_part (l := [.slice msA ms.length msc, .bool oh, .int .i64 of_, .bool os_]) many40 h26 rfl rfl (by decide))) rfl rfl rfl ?_
 have h27 := Ext.blk hx20 (by omega) hB5
 have h28 := Fr.blk hf25 (by omega) (fun e => (by omega)) h27
 obtain ⟨H29, he30, H29n_, hB31, f32⟩ := mem_store (v := .agg #[.slice msA ms.length msc, .bool oh, .int .i64 of_, .bool os_]) (o := 0) (cs' := [.slice msA ms.length msc, .bool oh, .int .i64 of_, .bool os_]) 4 rfl rfl size40 h28 rfl rfl rfl
 refine st_op0 (he30 _ _ _ _ _ _ _ _ _ rfl rfl) rfl rfl ?_
 have hf33 : Fr (fun q => q = b1) H21 H29 := Fr.write H29n_ f32
 have H29n : H21.next ≤ H29.next := hf33.1
 try show aw _ _ _ _ _ _
 refine aw_ret ?_
 have hx35 : Ext H H14 := (Ext.then (Ext.trans hx6 hx13) hf18 (fun q hq e => by omega))
 have h34 := My.ext hms hx35
 have h36 := My.frS h34 hf25 (fun q hq e => ⟨_, e ▸ h19, show (0 : Nat) ≠ 13 by decide⟩)
 have h37 := My.frS h36 hf33 (fun q hq e => ⟨_, e ▸ h28, show (0 : Nat) ≠ 13 by decide⟩)
 have hx39 : Ext H H14 := (Ext.then (Ext.trans hx6 hx13) hf18 (fun q hq e => by omega))
 have h38 := Each.ext ems hx39
 have h40 := Each.frS h38 hf25 (fun q hq e => ⟨_, e ▸ h19, show (0 : Nat) ≠ 4 by decide⟩)
 have h41 := Each.frS h40 hf33 (fun q hq e => ⟨_, e ▸ h28, show (0 : Nat) ≠ 4 by decide⟩)
 have h42 := Fr.blk hf33 (by omega) (fun e => (by omega)) hB23
 have hres : ms = ms := by rfl
 exact ⟨.agg #[.slice msA ms.length msc, .bool oh, .int .i64 of_, .bool os_], (resA_of (resL_cell rfl (lvar_part (l := [.slice msA ms.length msc, .bool oh, .int .i64 of_, .bool os_]) many40 hB31 rfl rfl (by decide)) resL_nil) rfl), msA, msc, by first | (rw [hres]; first | done | rfl | simp; done) | rfl, (by first | exact h37 | (rw [hres]; exact h37)), (by first | exact h41 | (rw [hres]; exact h41)), (by first | exact h42 | (rw [hres]; exact h42)), (Fr.transG (Fr.transG (Fr.transG (Fr.trans (Fr.trans (Fr.refl (fun q => q = r ∨ (msH.next ≤ q ∧ q < H.next ∧ ZB H q 13)) H) (hx6.fr fun _ => False) (fun q hq (e : False) => e.elim)) (hx13.fr fun _ => False) (fun q hq (e : False) => e.elim)) hf18 (fun q hq hE e => absurd hq (by omega))) hf25 (fun q hq hE e => Or.inl (e))) hf33 (fun q hq hE e => absurd hq (by omega)))⟩
theorem raft_StepOld_spec (H : Heap) (rid : Int) (hrid : 1 ≤ rid ∧ rid ≤ 7) (rt : Int) (rv : Int) (x : Int) (hx : 0 ≤ x ∧ x ≤ 2199023255552) (tm : Int) (cf : ByteArray) (hcf : cf.size ≤ 1073741824) (dt : ByteArray) (lA : Option Addr) (l : List Entry) (lc : Nat) (hl : Row H lA lc 4 (l.map Entry.cells)) (cl : l.length ≤ lc) (ll : l.length ≤ 200) (g : Nat) (hg : g < H.next) (Bg : H.blk g = some ⟨[.int .i64 x, .int .i64 tm, .string cf, .string dt, .slice lA l.length lc], 0, false, false⟩) (uk : Spec.LogOk x tm l) (cmt : Int) (role : Int) (ldr : Int) (hrd : Bool)    (oh : Bool) (of_ : Int) (os_ : Bool) (r : Nat) (hr : r < H.next) (Br : H.blk r = some ⟨[.int .i64 rid, .int .i64 rt, .int .i64 rv, .pointer (some ⟨g, 0, none⟩), .int .i64 cmt, .int .i64 role, .int .i64 ldr, .bool hrd, .pointer none, .pointer none, .slice none 0 0, .bool oh, .int .i64 of_, .bool os_], 0, false, false⟩) (ugr : g < r) (kind : Int) (from_ : Int) (to_ : Int) (term : Int) (index : Int) (logterm : Int) (commit : Int) (yes : Bool) (esA : Option Addr) (es : List Entry) (esc : Nat) (hes : Row H esA esc 4 (es.map Entry.cells)) (ces : es.length ≤ esc) (les : es.length ≤ 1048576) (s_index : Int) (s_term : Int) (s_conf : ByteArray) (hs_conf : s_conf.size ≤ 1073741824) (s_data : ByteArray) (hs_data : s_data.size ≤ 1073741824) (um0 : Spec.mayMsg kind from_ to_ term index logterm commit yes es s_index s_term s_conf s_data = true) (um1 : to_ = rid ∧ from_ ≠ rid ∧ term < rt) : ∃ v H', Spec Tryz.prog 15 [.pointer (some ⟨r, 0, none⟩), .agg #[.int .i64 kind, .int .i64 from_, .int .i64 to_, .int .i64 term, .int .i64 index, .int .i64 logterm, .int .i64 commit, .bool yes, .slice esA es.length esc, .int .i64 s_index, .int .i64 s_term, .string s_conf, .string s_data]] H v H' ∧ (∃ rA0 rc0, (v = .agg #[.slice rA0 ((Spec.oldF kind rid rt from_).length) rc0, .bool oh, .int .i64 of_, .bool os_]) ∧ (My H H' rA0 rc0 13 ((Spec.oldF kind rid rt from_).map MsgC.cells)) ∧ (Each MsgC.sub H H' (Spec.oldF kind rid rt from_)) ∧ (H'.blk r = some ⟨[.int .i64 rid, .int .i64 rt, .int .i64 rv, .pointer (some ⟨g, 0, none⟩), .int .i64 cmt, .int .i64 role, .int .i64 ldr, .bool hrd, .pointer none, .pointer none, .slice none 0 0, .bool false, .int .i64 0, .bool false], 0, false, false⟩) ∧ (kind = 1 ∨ kind = 3 ∨ kind = 5 → ((Spec.oldF kind rid rt from_)).length = 1) ∧ (¬ (kind = 1 ∨ kind = 3 ∨ kind = 5) → ((Spec.oldF kind rid rt from_)).length = 0) ∧ (∀ e ∈ (Spec.oldF kind rid rt from_), e.term = rt ∧ e.yes = false ∧ e.to_ = from_) ∧ (Fr (fun q => q = r) H H')) := by
 refine spec_go2 E0_ok 101 (f := 15) Tryz.func15 rfl rfl rfl ?_
 refine aw_seq ?_
 refine aw_reg ?_
 obtain ⟨b1, H2, he3, b1e, H2n_, hB5, f4⟩ := mem_box (P := Tryz.prog) H (v := .agg #[.int .i64 kind, .int .i64 from_, .int .i64 to_, .int .i64 term, .int .i64 index, .int .i64 logterm, .int .i64 commit, .bool yes, .slice esA es.length esc, .int .i64 s_index, .int .i64 s_term, .string s_conf, .string s_data]) (cs := [.int .i64 kind, .int .i64 from_, .int .i64 to_, .int .i64 term, .int .i64 index, .int .i64 logterm, .int .i64 commit, .bool yes, .slice esA es.length esc, .int .i64 s_index, .int .i64 s_term, .string s_conf, .string s_data]) rfl rfl
 refine st_op (he3 _ _ _ _ _ _ _ _ _ rfl) rfl rfl rfl ?_
 have hx6 : Ext H H2 := Ext.new (by omega) H2n_ f4
 have H2n : H.next ≤ H2.next := hx6.1
 obtain ⟨b7, H8, he9, b7e, H8n_, hB11, f10⟩ := mem_alloc H2 zero40
 refine st_op (he9 _ _ _ _ _ _ _) rfl rfl rfl ?_
 have hx12 : Ext H2 H8 := Ext.new (by omega) H8n_ f10
 have H8n : H2.next ≤ H8.next := hx12.1
 try show aw _ _ _ _ _ _
 iterate 2 refine aw_seq ?_
 refine aw_marks (fun b => b < H8.next) [(false, false), (false, false), (false, false), (false, false), (false, false), (false, false), (false, false), (false, false), (false, false), (false, false), (false, false), (false, false), (false, false), (false, false), (false, false), (false, false), (false, false), (false, false), (false, false), (false, false), (false, false), (false, false), (false, false), (false, false), (false, false)] mixed (by kernel_rfl) (by kernel_rfl) ?_
 refine sm_op (ev_move rfl) rfl rfl rfl ?_
 refine sm_op (ev_nilEq rfl rfl Tryz.underlying32) rfl rfl rfl ?_
 refine sm_op (ev_move rfl) rfl rfl rfl ?_
 have h13 := Ext.blk hx12 (by omega) hB5
 refine sm_op (ev_load rfl (lvar_part (l := [.int .i64 kind, .int .i64 from_, .int .i64 to_, .int .i64 term, .int .i64 index, .int .i64 logterm, .int .i64 commit, .bool yes, .slice esA es.length esc, .int .i64 s_index, .int .i64 s_term, .string s_conf, .string s_data]) many26 h13 rfl rfl (by decide))) rfl rfl rfl ?_
 refine sm_call rfl rfl rfl ent11 rfl rfl rfl ?_
 have hx15 : Ext H H8 := (Ext.trans hx6 hx12)
 have h14 := Row.ext hes hx15
 obtain ⟨_, H17, hs16, hs16v, hx18⟩ := raft_May_spec H8 kind from_ to_ term index logterm commit yes esA es esc h14 ces (by omega) s_index s_term s_conf (by omega) s_data (by omega)
 rw [hs16v] at hs16; clear hs16v
 refine ⟨_, H17, hs16, (fun _ b hb => hx18.2 b (by omega)), ?_⟩
 have H17n : H8.next ≤ H17.next := hx18.1
 refine sm_op (ev_not rfl) rfl rfl rfl ?_
 refine sm_op (ev_pickF rfl rfl) rfl rfl rfl ?_
 refine sm_op (ev_move rfl) rfl rfl rfl ?_
 refine sm_bool 12 rfl (fun hb19 => ?_) (fun hb19 => ?_)
 ·
  replace hb19 : (Spec.mayMsg kind from_ to_ term index logterm commit yes es s_index s_term s_conf s_data) = false := by rw [Bool.not_eq_true'] at hb19; exact hb19
  iterate 7 refine sm_skip rfl rfl rfl ?_
  refine sm_op (ev_pickT rfl rfl) rfl rfl rfl ?_
  refine sm_op (ev_move rfl) rfl rfl rfl ?_
  iterate 7 refine sm_skip rfl rfl rfl ?_
  refine sm_op (ev_pickT rfl rfl) rfl rfl rfl ?_
  try show aw _ _ _ _ _ _
  refine aw_cond (t := true) rfl ?_
  try show aw _ _ _ _ _ _
  refine aw_seq ?_
  refine aw_reg ?_
  refine st_op (ev_build zero40 pl40 (parts := []) rfl (cs := [.slice none 0 0, .bool false, .int .i64 0, .bool false]) rfl) rfl rfl rfl ?_
  have h20 := Ext.blk hx18 (by omega) hB11
  obtain ⟨H21, he22, H21n_, hB23, f24⟩ := mem_store (v := .agg #[.slice none 0 0, .bool false, .int .i64 0, .bool false]) (o := 0) (cs' := [.slice none 0 0, .bool false, .int .i64 0, .bool false]) 4 rfl rfl size40 h20 rfl rfl rfl
  refine st_op0 (he22 _ _ _ _ _ _ _ _ _ rfl rfl) rfl rfl ?_
  have hf25 : Fr (fun q => q = b7) H17 H21 := Fr.write H21n_ f24
  have H21n : H17.next ≤ H21.next := hf25.1
  try show aw _ _ _ _ _ _
  refine aw_ret ?_
  exfalso; first | omega | simp_all
 ·
  replace hb19 : (Spec.mayMsg kind from_ to_ term index logterm commit yes es s_index s_term s_conf s_data) = true := by rw [Bool.not_eq_false'] at hb19; exact hb19
  refine sm_op (ev_fieldAddr rfl fa26_2 (o' := 2) rfl) rfl rfl rfl ?_
  have h26 := Ext.blk hx18 (by omega) h13
  refine sm_op (ev_load rfl (lvar_one one3 h26 rfl)) rfl rfl rfl ?_
  refine sm_op (ev_move rfl) rfl rfl rfl ?_
  refine sm_op (ev_nilCheck rfl) rfl rfl rfl ?_
  refine sm_op (ev_fieldAddr rfl fa80_0 (o' := 0) rfl) rfl rfl rfl ?_
  have hx28 : Ext H H17 := (Ext.trans hx15 hx18)
  have h27 := Ext.blk hx28 (by omega) Br
  refine sm_op (ev_load rfl (lvar_one one3 h27 rfl)) rfl rfl rfl ?_
  refine sm_op (ev_int rfl rfl rfl) rfl rfl rfl ?_
  refine sm_op (ev_pickF rfl rfl) rfl rfl rfl ?_
  refine sm_op (ev_move rfl) rfl rfl rfl ?_
  refine sm_bool 21 rfl (fun hb29 => ?_) (fun hb29 => ?_)
  ·
   have hb29 : ¬ (to_ = rid) := by simpa using hb29
   iterate 7 refine sm_skip rfl rfl rfl ?_
   refine sm_op (ev_pickT rfl rfl) rfl rfl rfl ?_
   try show aw _ _ _ _ _ _
   refine aw_cond (t := true) rfl ?_
   try show aw _ _ _ _ _ _
   refine aw_seq ?_
   refine aw_reg ?_
   refine st_op (ev_build zero40 pl40 (parts := []) rfl (cs := [.slice none 0 0, .bool false, .int .i64 0, .bool false]) rfl) rfl rfl rfl ?_
   have h30 := Ext.blk hx18 (by omega) hB11
   obtain ⟨H31, he32, H31n_, hB33, f34⟩ := mem_store (v := .agg #[.slice none 0 0, .bool false, .int .i64 0, .bool false]) (o := 0) (cs' := [.slice none 0 0, .bool false, .int .i64 0, .bool false]) 4 rfl rfl size40 h30 rfl rfl rfl
   refine st_op0 (he32 _ _ _ _ _ _ _ _ _ rfl rfl) rfl rfl ?_
   have hf35 : Fr (fun q => q = b7) H17 H31 := Fr.write H31n_ f34
   have H31n : H17.next ≤ H31.next := hf35.1
   try show aw _ _ _ _ _ _
   refine aw_ret ?_
   exfalso; first | omega | simp_all
  ·
   have hb29 : (to_ = rid) := by simpa using hb29
   refine sm_op (ev_fieldAddr rfl fa26_1 (o' := 1) rfl) rfl rfl rfl ?_
   refine sm_op (ev_load rfl (lvar_one one3 h26 rfl)) rfl rfl rfl ?_
   refine sm_op (ev_move rfl) rfl rfl rfl ?_
   refine sm_op (ev_nilCheck rfl) rfl rfl rfl ?_
   refine sm_op (ev_fieldAddr rfl fa80_0 (o' := 0) rfl) rfl rfl rfl ?_
   refine sm_op (ev_load rfl (lvar_one one3 h27 rfl)) rfl rfl rfl ?_
   refine sm_op (ev_int rfl rfl rfl) rfl rfl rfl ?_
   refine sm_op (ev_pickF rfl rfl) rfl rfl rfl ?_
   try show aw _ _ _ _ _ _
   by_cases hc36 : (from_ == rid) = true
   ·
    refine aw_condT hc36 rfl ?_
    try show aw _ _ _ _ _ _
    have hc36 := eq_of_beq hc36
    refine aw_seq ?_
    refine aw_reg ?_
    refine st_op (ev_build zero40 pl40 (parts := []) rfl (cs := [.slice none 0 0, .bool false, .int .i64 0, .bool false]) rfl) rfl rfl rfl ?_
    have h37 := Ext.blk hx18 (by omega) hB11
    obtain ⟨H38, he39, H38n_, hB40, f41⟩ := mem_store (v := .agg #[.slice none 0 0, .bool false, .int .i64 0, .bool false]) (o := 0) (cs' := [.slice none 0 0, .bool false, .int .i64 0, .bool false]) 4 rfl rfl size40 h37 rfl rfl rfl
    refine st_op0 (he39 _ _ _ _ _ _ _ _ _ rfl rfl) rfl rfl ?_
    have hf42 : Fr (fun q => q = b7) H17 H38 := Fr.write H38n_ f41
    have H38n : H17.next ≤ H38.next := hf42.1
    try show aw _ _ _ _ _ _
    refine aw_ret ?_
    exfalso; first | omega | simp_all
   ·
    rw [Bool.not_eq_true] at hc36; refine aw_condF hc36 rfl ?_
    try show aw _ _ _ _ _ _
    have hc36 := ne_of_beq_false hc36
    refine aw_skip ?_
    try show aw _ _ _ _ _ _
    refine aw_seq ?_
    refine aw_block ?_
    refine aw_seq ?_
    refine aw_marks (fun b => b < H17.next) [(false, false), (false, false), (false, false), (false, false), (false, false), (false, false), (false, false), (false, false), (false, false)] mixed (by kernel_rfl) (by kernel_rfl) ?_
    refine sm_op (ev_fieldAddr rfl fa26_3 (o' := 3) rfl) rfl rfl rfl ?_
    refine sm_op (ev_load rfl (lvar_one one2 h26 rfl)) rfl rfl rfl ?_
    refine sm_op (ev_move rfl) rfl rfl rfl ?_
    refine sm_op (ev_nilCheck rfl) rfl rfl rfl ?_
    refine sm_op (ev_fieldAddr rfl fa80_1 (o' := 1) rfl) rfl rfl rfl ?_
    refine sm_op (ev_fieldAddr rfl fa35_0 (o' := 1) rfl) rfl rfl rfl ?_
    refine sm_op (ev_load rfl (lvar_one one2 h27 rfl)) rfl rfl rfl ?_
    refine sm_op (ev_int rfl rfl rfl) rfl rfl rfl ?_
    refine sm_op (ev_assign rfl) rfl rfl rfl ?_
    try show aw _ _ _ _ _ _
    by_cases hc43 : (decide (term > rt)) = true
    ·
     refine aw_condT hc43 rfl ?_
     try show aw _ _ _ _ _ _
     have hc43 := of_decide_eq_true hc43
     exfalso; omega
    ·
     rw [Bool.not_eq_true] at hc43; refine aw_condF hc43 rfl ?_
     try show aw _ _ _ _ _ _
     have hc43 := of_decide_eq_false hc43
     refine aw_seq ?_
     refine aw_marks (fun b => b < H17.next) [(false, false), (false, false), (false, false), (false, false), (false, false), (false, false), (false, false), (false, false), (false, false)] mixed (by kernel_rfl) (by kernel_rfl) ?_
     refine sm_op (ev_fieldAddr rfl fa26_3 (o' := 3) rfl) rfl rfl rfl ?_
     refine sm_op (ev_load rfl (lvar_one one2 h26 rfl)) rfl rfl rfl ?_
     refine sm_op (ev_move rfl) rfl rfl rfl ?_
     refine sm_op (ev_nilCheck rfl) rfl rfl rfl ?_
     refine sm_op (ev_fieldAddr rfl fa80_1 (o' := 1) rfl) rfl rfl rfl ?_
     refine sm_op (ev_fieldAddr rfl fa35_0 (o' := 1) rfl) rfl rfl rfl ?_
     refine sm_op (ev_load rfl (lvar_one one2 h27 rfl)) rfl rfl rfl ?_
     refine sm_op (ev_int rfl rfl rfl) rfl rfl rfl ?_
     refine sm_op (ev_assign rfl) rfl rfl rfl ?_
     try show aw _ _ _ _ _ _
     by_cases hc44 : (decide (term < rt)) = true
     ·
      refine aw_condT hc44 rfl ?_
      try show aw _ _ _ _ _ _
      have hc44 := of_decide_eq_true hc44
      iterate 2 refine aw_seq ?_
      refine aw_reg ?_
      refine st_op (ev_fieldAddr rfl fa26_0 (o' := 0) rfl) rfl rfl rfl ?_
      refine st_op (ev_load rfl (lvar_one one3 h26 rfl)) rfl rfl rfl ?_
      try show aw _ _ _ _ _ _
      refine aw_block ?_
      refine aw_seq ?_
      refine aw_reg ?_
      refine st_op (ev_int rfl rfl rfl) rfl rfl rfl ?_
      refine st_op (ev_assign rfl) rfl rfl rfl ?_
      try show aw _ _ _ _ _ _
      by_cases hc45 : (kind == 1) = true
      ·
       refine aw_condT hc45 rfl ?_
       try show aw _ _ _ _ _ _
       have hc45 := eq_of_beq hc45
       refine aw_reg ?_
       refine st_op (ev_move rfl) rfl rfl rfl ?_
       refine st_op (ev_fieldAddr rfl fa26_1 (o' := 1) rfl) rfl rfl rfl ?_
       refine st_op (ev_load rfl (lvar_one one3 h26 rfl)) rfl rfl rfl ?_
       refine st_op (ev_build zero26 pl26 (parts := [(0, .int .i64 2), (2, .int .i64 from_)]) rfl (cs := [.int .i64 2, .int .i64 0, .int .i64 from_, .int .i64 0, .int .i64 0, .int .i64 0, .int .i64 0, .bool false, .slice none 0 0, .int .i64 0, .int .i64 0, .string (⟨#[]⟩), .string (⟨#[]⟩)]) rfl) rfl rfl rfl ?_
       refine st_call rfl rfl rfl ent45 rfl rfl rfl ?_
       have h46 := Row.ext hl hx28
       have h47 := Ext.blk hx28 (by omega) Bg
       have hm48 : My H17 H17 none 0 13 (([] : List MsgC).map MsgC.cells) := .nil
       obtain ⟨_, H50, hs49, A52, c53, hs49v, hm54, hE55, hB56, hx51⟩ := raft_say0_spec H17 rid ⟨by omega, by omega⟩ rt rv x ⟨by omega, by omega⟩ tm cf (by omega) dt lA l lc h46 cl (by omega) g (by omega) h47 (by assumption) cmt role ldr hrd   H17 none ([] : List MsgC) 0 hm48 (by omega) (by first | omega | (simp only [List.length_append, List.length_cons, List.length_nil, List.length_map, List.length_set, List.length_replicate, Spec.bytesOf_length]; omega) | (simp; omega)) H17 (Each.nil (S := MsgC.sub) (H0 := H17) (H := H17)) (by omega) oh of_ os_ r (by omega) h27 (by omega) (2 : Int) (0 : Int) from_ (0 : Int) (0 : Int) (0 : Int) (0 : Int) false  (0 : Int) (0 : Int) (⟨#[]⟩ : ByteArray) (⟨#[]⟩ : ByteArray)
       rw [hs49v] at hs49; clear hs49v
       refine ⟨_, H50, hs49, ?_⟩
       have H50n : H17.next ≤ H50.next := hx51.1
       try show aw _ _ _ _ _ _
       refine aw_seq ?_
       refine aw_reg ?_
       refine st_op (ev_move rfl) rfl rfl rfl ?_
       refine st_call rfl rfl rfl ent46 rfl rfl rfl ?_
       have h57 := Row.fr h46 hx51 (fun q hq e => Or.elim e (fun e => ⟨_, e ▸ h27, show (0 : Nat) ≠ 4 by decide⟩) (fun e => (ZB.ne e.2.2 (show (13 : Nat) ≠ 4 by decide))))
       have h58 := Fr.blk hx51 (by omega) (fun e => Or.elim e (fun e => (by omega)) (fun e => (zb_ne h47 e.2.2 (show (0 : Nat) ≠ 13 by decide)))) h47
       obtain ⟨_, H60, hs59, A62, c63, hs59v, hm64, hE65, hB66, hx61⟩ := raft_did_spec H50 rid ⟨by omega, by omega⟩ rt rv x ⟨by omega, by omega⟩ tm cf (by omega) dt lA l lc h57 cl (by first | omega | (simp only [List.length_append, List.length_cons, List.length_nil, List.length_map, List.length_set, List.length_replicate, Spec.bytesOf_length]; omega) | (simp; omega)) g (by omega) h58 (by assumption) cmt role ldr hrd   H17 A52 (([] : List MsgC) ++ [(⟨(2 : Int), rid, from_, rt, (0 : Int), (0 : Int), (0 : Int), false, [], none, 0, ⟨(0 : Int), (0 : Int), (⟨#[]⟩ : ByteArray), (⟨#[]⟩ : ByteArray)⟩⟩ : MsgC)]) c53 hm54 (by omega) (by first | omega | (simp only [List.length_append, List.length_cons, List.length_nil, List.length_map, List.length_set, List.length_replicate, Spec.bytesOf_length]; omega) | (simp; omega)) H17 hE55 (by omega) oh of_ os_ r (by omega) hB56 (by omega)
       rw [hs59v] at hs59; clear hs59v
       refine ⟨_, H60, hs59, ?_⟩
       have H60n : H50.next ≤ H60.next := hx61.1
       have h67 := Ext.blk hx18 (by omega) hB11
       have h68 := Fr.blk hx51 (by omega) (fun e => Or.elim e (fun e => (by omega)) (fun e => (zb_ne h67 e.2.2 (show (0 : Nat) ≠ 13 by decide)))) h67
       have h69 := Fr.blk hx61 (by omega) (fun e => Or.elim e (fun e => (by omega)) (fun e => (zb_ne h68 e.2.2 (show (0 : Nat) ≠ 13 by decide)))) h68
       obtain ⟨H70, he71, H70n_, hB72, f73⟩ := mem_store (v := .agg #[.slice A62 ((([] : List MsgC) ++ [(⟨(2 : Int), rid, from_, rt, (0 : Int), (0 : Int), (0 : Int), false, [], none, 0, ⟨(0 : Int), (0 : Int), (⟨#[]⟩ : ByteArray), (⟨#[]⟩ : ByteArray)⟩⟩ : MsgC)]).length) c63, .bool oh, .int .i64 of_, .bool os_]) (o := 0) (cs' := [.slice A62 ((([] : List MsgC) ++ [(⟨(2 : Int), rid, from_, rt, (0 : Int), (0 : Int), (0 : Int), false, [], none, 0, ⟨(0 : Int), (0 : Int), (⟨#[]⟩ : ByteArray), (⟨#[]⟩ : ByteArray)⟩⟩ : MsgC)]).length) c63, .bool oh, .int .i64 of_, .bool os_]) 4 rfl rfl size40 h69 rfl rfl rfl
       refine st_op0 (he71 _ _ _ _ _ _ _ _ _ rfl rfl) rfl rfl ?_
       have hf74 : Fr (fun q => q = b7) H60 H70 := Fr.write H70n_ f73
       have H70n : H60.next ≤ H70.next := hf74.1
       try show aw _ _ _ _ _ _
       refine aw_ret ?_
       have h75 := My.frS hm64 hf74 (fun q hq e => ⟨_, e ▸ h69, show (0 : Nat) ≠ 13 by decide⟩)
       have h76 := Each.frS hE65 hf74 (fun q hq e => ⟨_, e ▸ h69, show (0 : Nat) ≠ 4 by decide⟩)
       have h77 := Fr.blk hf74 (by omega) (fun e => (by omega)) hB66
       have hres : (Spec.oldF kind rid rt from_) = (([] : List MsgC) ++ [(⟨(2 : Int), rid, from_, rt, (0 : Int), (0 : Int), (0 : Int), false, [], none, 0, ⟨(0 : Int), (0 : Int), (⟨#[]⟩ : ByteArray), (⟨#[]⟩ : ByteArray)⟩⟩ : MsgC)]) := by first | exact Spec.old_vote (by omega) | exact Spec.old_ack (by omega) (by omega) | exact Spec.old_nil (by omega) (by omega) (by omega)
       exact ⟨.agg #[.slice A62 ((([] : List MsgC) ++ [(⟨(2 : Int), rid, from_, rt, (0 : Int), (0 : Int), (0 : Int), false, [], none, 0, ⟨(0 : Int), (0 : Int), (⟨#[]⟩ : ByteArray), (⟨#[]⟩ : ByteArray)⟩⟩ : MsgC)]).length) c63, .bool oh, .int .i64 of_, .bool os_], (resA_of (resL_cell rfl (lvar_part (l := [.slice A62 ((([] : List MsgC) ++ [(⟨(2 : Int), rid, from_, rt, (0 : Int), (0 : Int), (0 : Int), false, [], none, 0, ⟨(0 : Int), (0 : Int), (⟨#[]⟩ : ByteArray), (⟨#[]⟩ : ByteArray)⟩⟩ : MsgC)]).length) c63, .bool oh, .int .i64 of_, .bool os_]) many40 hB72 rfl rfl (by decide)) resL_nil) rfl), A62, c63, by first | (rw [hres]; first | done | rfl | simp; done) | rfl, (by first | exact (My.older h75 (by omega)) | (rw [hres]; exact (My.older h75 (by omega)))), (by first | exact (Each.older h76 (by omega)) | (rw [hres]; exact (Each.older h76 (by omega)))), (by first | exact h77 | (rw [hres]; exact h77)), (by exact Spec.old_len), (by exact Spec.old_none), (by exact Spec.old_all), (Fr.transG (Fr.transG (Fr.transG (Fr.trans (Fr.trans (Fr.trans (Fr.refl (fun q => q = r) H) (hx6.fr fun _ => False) (fun q hq (e : False) => e.elim)) (hx12.fr fun _ => False) (fun q hq (e : False) => e.elim)) (hx18.fr fun _ => False) (fun q hq (e : False) => e.elim)) hx51 (fun q hq hE e => Or.elim e (fun e => (e)) (fun e => absurd hq (by omega)))) hx61 (fun q hq hE e => Or.elim e (fun e => (e)) (fun e => absurd hq (by omega)))) hf74 (fun q hq hE e => absurd hq (by omega)))⟩
      ·
       rw [Bool.not_eq_true] at hc45; refine aw_condF hc45 rfl ?_
       try show aw _ _ _ _ _ _
       have hc45 := ne_of_beq_false hc45
       iterate 2 refine aw_seq ?_
       refine aw_reg ?_
       refine st_op (ev_int rfl rfl rfl) rfl rfl rfl ?_
       refine st_op (ev_assign rfl) rfl rfl rfl ?_
       try show aw _ _ _ _ _ _
       by_cases hc78 : (kind == 3) = true
       ·
        refine aw_condT hc78 rfl ?_
        try show aw _ _ _ _ _ _
        have hc78 := eq_of_beq hc78
        refine aw_skip ?_
        try show aw _ _ _ _ _ _
        by_cases hc79 : (kind == 3) = true
        ·
         refine aw_condT hc79 rfl ?_
         try show aw _ _ _ _ _ _
         have hc79 := eq_of_beq hc79
         refine aw_reg ?_
         refine st_op (ev_move rfl) rfl rfl rfl ?_
         refine st_op (ev_fieldAddr rfl fa26_1 (o' := 1) rfl) rfl rfl rfl ?_
         refine st_op (ev_load rfl (lvar_one one3 h26 rfl)) rfl rfl rfl ?_
         refine st_op (ev_build zero26 pl26 (parts := [(0, .int .i64 4), (2, .int .i64 from_)]) rfl (cs := [.int .i64 4, .int .i64 0, .int .i64 from_, .int .i64 0, .int .i64 0, .int .i64 0, .int .i64 0, .bool false, .slice none 0 0, .int .i64 0, .int .i64 0, .string (⟨#[]⟩), .string (⟨#[]⟩)]) rfl) rfl rfl rfl ?_
         refine st_call rfl rfl rfl ent45 rfl rfl rfl ?_
         have h80 := Row.ext hl hx28
         have h81 := Ext.blk hx28 (by omega) Bg
         have hm82 : My H17 H17 none 0 13 (([] : List MsgC).map MsgC.cells) := .nil
         obtain ⟨_, H84, hs83, A86, c87, hs83v, hm88, hE89, hB90, hx85⟩ := raft_say0_spec H17 rid ⟨by omega, by omega⟩ rt rv x ⟨by omega, by omega⟩ tm cf (by omega) dt lA l lc h80 cl (by omega) g (by omega) h81 (by assumption) cmt role ldr hrd   H17 none ([] : List MsgC) 0 hm82 (by omega) (by first | omega | (simp only [List.length_append, List.length_cons, List.length_nil, List.length_map, List.length_set, List.length_replicate, Spec.bytesOf_length]; omega) | (simp; omega)) H17 (Each.nil (S := MsgC.sub) (H0 := H17) (H := H17)) (by omega) oh of_ os_ r (by omega) h27 (by omega) (4 : Int) (0 : Int) from_ (0 : Int) (0 : Int) (0 : Int) (0 : Int) false  (0 : Int) (0 : Int) (⟨#[]⟩ : ByteArray) (⟨#[]⟩ : ByteArray)
         rw [hs83v] at hs83; clear hs83v
         refine ⟨_, H84, hs83, ?_⟩
         have H84n : H17.next ≤ H84.next := hx85.1
         try show aw _ _ _ _ _ _
         refine aw_seq ?_
         refine aw_reg ?_
         refine st_op (ev_move rfl) rfl rfl rfl ?_
         refine st_call rfl rfl rfl ent46 rfl rfl rfl ?_
         have h91 := Row.fr h80 hx85 (fun q hq e => Or.elim e (fun e => ⟨_, e ▸ h27, show (0 : Nat) ≠ 4 by decide⟩) (fun e => (ZB.ne e.2.2 (show (13 : Nat) ≠ 4 by decide))))
         have h92 := Fr.blk hx85 (by omega) (fun e => Or.elim e (fun e => (by omega)) (fun e => (zb_ne h81 e.2.2 (show (0 : Nat) ≠ 13 by decide)))) h81
         obtain ⟨_, H94, hs93, A96, c97, hs93v, hm98, hE99, hB100, hx95⟩ := raft_did_spec H84 rid ⟨by omega, by omega⟩ rt rv x ⟨by omega, by omega⟩ tm cf (by omega) dt lA l lc h91 cl (by first | omega | (simp only [List.length_append, List.length_cons, List.length_nil, List.length_map, List.length_set, List.length_replicate, Spec.bytesOf_length]; omega) | (simp; omega)) g (by omega) h92 (by assumption) cmt role ldr hrd   H17 A86 (([] : List MsgC) ++ [(⟨(4 : Int), rid, from_, rt, (0 : Int), (0 : Int), (0 : Int), false, [], none, 0, ⟨(0 : Int), (0 : Int), (⟨#[]⟩ : ByteArray), (⟨#[]⟩ : ByteArray)⟩⟩ : MsgC)]) c87 hm88 (by omega) (by first | omega | (simp only [List.length_append, List.length_cons, List.length_nil, List.length_map, List.length_set, List.length_replicate, Spec.bytesOf_length]; omega) | (simp; omega)) H17 hE89 (by omega) oh of_ os_ r (by omega) hB90 (by omega)
         rw [hs93v] at hs93; clear hs93v
         refine ⟨_, H94, hs93, ?_⟩
         have H94n : H84.next ≤ H94.next := hx95.1
         have h101 := Ext.blk hx18 (by omega) hB11
         have h102 := Fr.blk hx85 (by omega) (fun e => Or.elim e (fun e => (by omega)) (fun e => (zb_ne h101 e.2.2 (show (0 : Nat) ≠ 13 by decide)))) h101
         have h103 := Fr.blk hx95 (by omega) (fun e => Or.elim e (fun e => (by omega)) (fun e => (zb_ne h102 e.2.2 (show (0 : Nat) ≠ 13 by decide)))) h102
         obtain ⟨H104, he105, H104n_, hB106, f107⟩ := mem_store (v := .agg #[.slice A96 ((([] : List MsgC) ++ [(⟨(4 : Int), rid, from_, rt, (0 : Int), (0 : Int), (0 : Int), false, [], none, 0, ⟨(0 : Int), (0 : Int), (⟨#[]⟩ : ByteArray), (⟨#[]⟩ : ByteArray)⟩⟩ : MsgC)]).length) c97, .bool oh, .int .i64 of_, .bool os_]) (o := 0) (cs' := [.slice A96 ((([] : List MsgC) ++ [(⟨(4 : Int), rid, from_, rt, (0 : Int), (0 : Int), (0 : Int), false, [], none, 0, ⟨(0 : Int), (0 : Int), (⟨#[]⟩ : ByteArray), (⟨#[]⟩ : ByteArray)⟩⟩ : MsgC)]).length) c97, .bool oh, .int .i64 of_, .bool os_]) 4 rfl rfl size40 h103 rfl rfl rfl
         refine st_op0 (he105 _ _ _ _ _ _ _ _ _ rfl rfl) rfl rfl ?_
         have hf108 : Fr (fun q => q = b7) H94 H104 := Fr.write H104n_ f107
         have H104n : H94.next ≤ H104.next := hf108.1
         try show aw _ _ _ _ _ _
         refine aw_ret ?_
         have h109 := My.frS hm98 hf108 (fun q hq e => ⟨_, e ▸ h103, show (0 : Nat) ≠ 13 by decide⟩)
         have h110 := Each.frS hE99 hf108 (fun q hq e => ⟨_, e ▸ h103, show (0 : Nat) ≠ 4 by decide⟩)
         have h111 := Fr.blk hf108 (by omega) (fun e => (by omega)) hB100
         have hres : (Spec.oldF kind rid rt from_) = (([] : List MsgC) ++ [(⟨(4 : Int), rid, from_, rt, (0 : Int), (0 : Int), (0 : Int), false, [], none, 0, ⟨(0 : Int), (0 : Int), (⟨#[]⟩ : ByteArray), (⟨#[]⟩ : ByteArray)⟩⟩ : MsgC)]) := by first | exact Spec.old_vote (by omega) | exact Spec.old_ack (by omega) (by omega) | exact Spec.old_nil (by omega) (by omega) (by omega)
         exact ⟨.agg #[.slice A96 ((([] : List MsgC) ++ [(⟨(4 : Int), rid, from_, rt, (0 : Int), (0 : Int), (0 : Int), false, [], none, 0, ⟨(0 : Int), (0 : Int), (⟨#[]⟩ : ByteArray), (⟨#[]⟩ : ByteArray)⟩⟩ : MsgC)]).length) c97, .bool oh, .int .i64 of_, .bool os_], (resA_of (resL_cell rfl (lvar_part (l := [.slice A96 ((([] : List MsgC) ++ [(⟨(4 : Int), rid, from_, rt, (0 : Int), (0 : Int), (0 : Int), false, [], none, 0, ⟨(0 : Int), (0 : Int), (⟨#[]⟩ : ByteArray), (⟨#[]⟩ : ByteArray)⟩⟩ : MsgC)]).length) c97, .bool oh, .int .i64 of_, .bool os_]) many40 hB106 rfl rfl (by decide)) resL_nil) rfl), A96, c97, by first | (rw [hres]; first | done | rfl | simp; done) | rfl, (by first | exact (My.older h109 (by omega)) | (rw [hres]; exact (My.older h109 (by omega)))), (by first | exact (Each.older h110 (by omega)) | (rw [hres]; exact (Each.older h110 (by omega)))), (by first | exact h111 | (rw [hres]; exact h111)), (by exact Spec.old_len), (by exact Spec.old_none), (by exact Spec.old_all), (Fr.transG (Fr.transG (Fr.transG (Fr.trans (Fr.trans (Fr.trans (Fr.refl (fun q => q = r) H) (hx6.fr fun _ => False) (fun q hq (e : False) => e.elim)) (hx12.fr fun _ => False) (fun q hq (e : False) => e.elim)) (hx18.fr fun _ => False) (fun q hq (e : False) => e.elim)) hx85 (fun q hq hE e => Or.elim e (fun e => (e)) (fun e => absurd hq (by omega)))) hx95 (fun q hq hE e => Or.elim e (fun e => (e)) (fun e => absurd hq (by omega)))) hf108 (fun q hq hE e => absurd hq (by omega)))⟩
        ·
         rw [Bool.not_eq_true] at hc79; refine aw_condF hc79 rfl ?_
         try show aw _ _ _ _ _ _
         have hc79 := ne_of_beq_false hc79
         exfalso; omega
       ·
        rw [Bool.not_eq_true] at hc78; refine aw_condF hc78 rfl ?_
        try show aw _ _ _ _ _ _
        have hc78 := ne_of_beq_false hc78
        refine aw_reg ?_
        refine st_op (ev_int rfl rfl rfl) rfl rfl rfl ?_
        refine st_op (ev_assign rfl) rfl rfl rfl ?_
        try show aw _ _ _ _ _ _
        by_cases hc112 : (kind == 5) = true
        ·
         refine aw_condT hc112 rfl ?_
         try show aw _ _ _ _ _ _
         have hc112 := eq_of_beq hc112
         refine aw_reg ?_
         refine st_op (ev_move rfl) rfl rfl rfl ?_
         refine st_op (ev_fieldAddr rfl fa26_1 (o' := 1) rfl) rfl rfl rfl ?_
         refine st_op (ev_load rfl (lvar_one one3 h26 rfl)) rfl rfl rfl ?_
         refine st_op (ev_build zero26 pl26 (parts := [(0, .int .i64 4), (2, .int .i64 from_)]) rfl (cs := [.int .i64 4, .int .i64 0, .int .i64 from_, .int .i64 0, .int .i64 0, .int .i64 0, .int .i64 0, .bool false, .slice none 0 0, .int .i64 0, .int .i64 0, .string (⟨#[]⟩), .string (⟨#[]⟩)]) rfl) rfl rfl rfl ?_
         refine st_call rfl rfl rfl ent45 rfl rfl rfl ?_
         have h113 := Row.ext hl hx28
         have h114 := Ext.blk hx28 (by omega) Bg
         have hm115 : My H17 H17 none 0 13 (([] : List MsgC).map MsgC.cells) := .nil
         obtain ⟨_, H117, hs116, A119, c120, hs116v, hm121, hE122, hB123, hx118⟩ := raft_say0_spec H17 rid ⟨by omega, by omega⟩ rt rv x ⟨by omega, by omega⟩ tm cf (by omega) dt lA l lc h113 cl (by omega) g (by omega) h114 (by assumption) cmt role ldr hrd   H17 none ([] : List MsgC) 0 hm115 (by omega) (by first | omega | (simp only [List.length_append, List.length_cons, List.length_nil, List.length_map, List.length_set, List.length_replicate, Spec.bytesOf_length]; omega) | (simp; omega)) H17 (Each.nil (S := MsgC.sub) (H0 := H17) (H := H17)) (by omega) oh of_ os_ r (by omega) h27 (by omega) (4 : Int) (0 : Int) from_ (0 : Int) (0 : Int) (0 : Int) (0 : Int) false  (0 : Int) (0 : Int) (⟨#[]⟩ : ByteArray) (⟨#[]⟩ : ByteArray)
         rw [hs116v] at hs116; clear hs116v
         refine ⟨_, H117, hs116, ?_⟩
         have H117n : H17.next ≤ H117.next := hx118.1
         try show aw _ _ _ _ _ _
         refine aw_seq ?_
         refine aw_reg ?_
         refine st_op (ev_move rfl) rfl rfl rfl ?_
         refine st_call rfl rfl rfl ent46 rfl rfl rfl ?_
         have h124 := Row.fr h113 hx118 (fun q hq e => Or.elim e (fun e => ⟨_, e ▸ h27, show (0 : Nat) ≠ 4 by decide⟩) (fun e => (ZB.ne e.2.2 (show (13 : Nat) ≠ 4 by decide))))
         have h125 := Fr.blk hx118 (by omega) (fun e => Or.elim e (fun e => (by omega)) (fun e => (zb_ne h114 e.2.2 (show (0 : Nat) ≠ 13 by decide)))) h114
         obtain ⟨_, H127, hs126, A129, c130, hs126v, hm131, hE132, hB133, hx128⟩ := raft_did_spec H117 rid ⟨by omega, by omega⟩ rt rv x ⟨by omega, by omega⟩ tm cf (by omega) dt lA l lc h124 cl (by first | omega | (simp only [List.length_append, List.length_cons, List.length_nil, List.length_map, List.length_set, List.length_replicate, Spec.bytesOf_length]; omega) | (simp; omega)) g (by omega) h125 (by assumption) cmt role ldr hrd   H17 A119 (([] : List MsgC) ++ [(⟨(4 : Int), rid, from_, rt, (0 : Int), (0 : Int), (0 : Int), false, [], none, 0, ⟨(0 : Int), (0 : Int), (⟨#[]⟩ : ByteArray), (⟨#[]⟩ : ByteArray)⟩⟩ : MsgC)]) c120 hm121 (by omega) (by first | omega | (simp only [List.length_append, List.length_cons, List.length_nil, List.length_map, List.length_set, List.length_replicate, Spec.bytesOf_length]; omega) | (simp; omega)) H17 hE122 (by omega) oh of_ os_ r (by omega) hB123 (by omega)
         rw [hs126v] at hs126; clear hs126v
         refine ⟨_, H127, hs126, ?_⟩
         have H127n : H117.next ≤ H127.next := hx128.1
         have h134 := Ext.blk hx18 (by omega) hB11
         have h135 := Fr.blk hx118 (by omega) (fun e => Or.elim e (fun e => (by omega)) (fun e => (zb_ne h134 e.2.2 (show (0 : Nat) ≠ 13 by decide)))) h134
         have h136 := Fr.blk hx128 (by omega) (fun e => Or.elim e (fun e => (by omega)) (fun e => (zb_ne h135 e.2.2 (show (0 : Nat) ≠ 13 by decide)))) h135
         obtain ⟨H137, he138, H137n_, hB139, f140⟩ := mem_store (v := .agg #[.slice A129 ((([] : List MsgC) ++ [(⟨(4 : Int), rid, from_, rt, (0 : Int), (0 : Int), (0 : Int), false, [], none, 0, ⟨(0 : Int), (0 : Int), (⟨#[]⟩ : ByteArray), (⟨#[]⟩ : ByteArray)⟩⟩ : MsgC)]).length) c130, .bool oh, .int .i64 of_, .bool os_]) (o := 0) (cs' := [.slice A129 ((([] : List MsgC) ++ [(⟨(4 : Int), rid, from_, rt, (0 : Int), (0 : Int), (0 : Int), false, [], none, 0, ⟨(0 : Int), (0 : Int), (⟨#[]⟩ : ByteArray), (⟨#[]⟩ : ByteArray)⟩⟩ : MsgC)]).length) c130, .bool oh, .int .i64 of_, .bool os_]) 4 rfl rfl size40 h136 rfl rfl rfl
         refine st_op0 (he138 _ _ _ _ _ _ _ _ _ rfl rfl) rfl rfl ?_
         have hf141 : Fr (fun q => q = b7) H127 H137 := Fr.write H137n_ f140
         have H137n : H127.next ≤ H137.next := hf141.1
         try show aw _ _ _ _ _ _
         refine aw_ret ?_
         have h142 := My.frS hm131 hf141 (fun q hq e => ⟨_, e ▸ h136, show (0 : Nat) ≠ 13 by decide⟩)
         have h143 := Each.frS hE132 hf141 (fun q hq e => ⟨_, e ▸ h136, show (0 : Nat) ≠ 4 by decide⟩)
         have h144 := Fr.blk hf141 (by omega) (fun e => (by omega)) hB133
         have hres : (Spec.oldF kind rid rt from_) = (([] : List MsgC) ++ [(⟨(4 : Int), rid, from_, rt, (0 : Int), (0 : Int), (0 : Int), false, [], none, 0, ⟨(0 : Int), (0 : Int), (⟨#[]⟩ : ByteArray), (⟨#[]⟩ : ByteArray)⟩⟩ : MsgC)]) := by first | exact Spec.old_vote (by omega) | exact Spec.old_ack (by omega) (by omega) | exact Spec.old_nil (by omega) (by omega) (by omega)
         exact ⟨.agg #[.slice A129 ((([] : List MsgC) ++ [(⟨(4 : Int), rid, from_, rt, (0 : Int), (0 : Int), (0 : Int), false, [], none, 0, ⟨(0 : Int), (0 : Int), (⟨#[]⟩ : ByteArray), (⟨#[]⟩ : ByteArray)⟩⟩ : MsgC)]).length) c130, .bool oh, .int .i64 of_, .bool os_], (resA_of (resL_cell rfl (lvar_part (l := [.slice A129 ((([] : List MsgC) ++ [(⟨(4 : Int), rid, from_, rt, (0 : Int), (0 : Int), (0 : Int), false, [], none, 0, ⟨(0 : Int), (0 : Int), (⟨#[]⟩ : ByteArray), (⟨#[]⟩ : ByteArray)⟩⟩ : MsgC)]).length) c130, .bool oh, .int .i64 of_, .bool os_]) many40 hB139 rfl rfl (by decide)) resL_nil) rfl), A129, c130, by first | (rw [hres]; first | done | rfl | simp; done) | rfl, (by first | exact (My.older h142 (by omega)) | (rw [hres]; exact (My.older h142 (by omega)))), (by first | exact (Each.older h143 (by omega)) | (rw [hres]; exact (Each.older h143 (by omega)))), (by first | exact h144 | (rw [hres]; exact h144)), (by exact Spec.old_len), (by exact Spec.old_none), (by exact Spec.old_all), (Fr.transG (Fr.transG (Fr.transG (Fr.trans (Fr.trans (Fr.trans (Fr.refl (fun q => q = r) H) (hx6.fr fun _ => False) (fun q hq (e : False) => e.elim)) (hx12.fr fun _ => False) (fun q hq (e : False) => e.elim)) (hx18.fr fun _ => False) (fun q hq (e : False) => e.elim)) hx118 (fun q hq hE e => Or.elim e (fun e => (e)) (fun e => absurd hq (by omega)))) hx128 (fun q hq hE e => Or.elim e (fun e => (e)) (fun e => absurd hq (by omega)))) hf141 (fun q hq hE e => absurd hq (by omega)))⟩
        ·
         rw [Bool.not_eq_true] at hc112; refine aw_condF hc112 rfl ?_
         try show aw _ _ _ _ _ _
         have hc112 := ne_of_beq_false hc112
         refine aw_skip ?_
         try show aw _ _ _ _ _ _
         refine aw_seq ?_
         refine aw_reg ?_
         refine st_op (ev_move rfl) rfl rfl rfl ?_
         refine st_call rfl rfl rfl ent46 rfl rfl rfl ?_
         have h145 := Row.ext hl hx28
         have h146 := Ext.blk hx28 (by omega) Bg
         have hm147 : My H17 H17 none 0 13 (([] : List MsgC).map MsgC.cells) := .nil
         obtain ⟨_, H149, hs148, A151, c152, hs148v, hm153, hE154, hB155, hx150⟩ := raft_did_spec H17 rid ⟨by omega, by omega⟩ rt rv x ⟨by omega, by omega⟩ tm cf (by omega) dt lA l lc h145 cl (by omega) g (by omega) h146 (by assumption) cmt role ldr hrd   H17 none ([] : List MsgC) 0 hm147 (by omega) (by first | omega | (simp only [List.length_append, List.length_cons, List.length_nil, List.length_map, List.length_set, List.length_replicate, Spec.bytesOf_length]; omega) | (simp; omega)) H17 (Each.nil (S := MsgC.sub) (H0 := H17) (H := H17)) (by omega) oh of_ os_ r (by omega) h27 (by omega)
         rw [hs148v] at hs148; clear hs148v
         refine ⟨_, H149, hs148, ?_⟩
         have H149n : H17.next ≤ H149.next := hx150.1
         have h156 := Ext.blk hx18 (by omega) hB11
         have h157 := Fr.blk hx150 (by omega) (fun e => Or.elim e (fun e => (by omega)) (fun e => (zb_ne h156 e.2.2 (show (0 : Nat) ≠ 13 by decide)))) h156
         obtain ⟨H158, he159, H158n_, hB160, f161⟩ := mem_store (v := .agg #[.slice A151 (([] : List MsgC).length) c152, .bool oh, .int .i64 of_, .bool os_]) (o := 0) (cs' := [.slice A151 (([] : List MsgC).length) c152, .bool oh, .int .i64 of_, .bool os_]) 4 rfl rfl size40 h157 rfl rfl rfl
         refine st_op0 (he159 _ _ _ _ _ _ _ _ _ rfl rfl) rfl rfl ?_
         have hf162 : Fr (fun q => q = b7) H149 H158 := Fr.write H158n_ f161
         have H158n : H149.next ≤ H158.next := hf162.1
         try show aw _ _ _ _ _ _
         refine aw_ret ?_
         have h163 := My.frS hm153 hf162 (fun q hq e => ⟨_, e ▸ h157, show (0 : Nat) ≠ 13 by decide⟩)
         have h164 := Fr.blk hf162 (by omega) (fun e => (by omega)) hB155
         have hres : (Spec.oldF kind rid rt from_) = ([] : List MsgC) := by first | exact Spec.old_vote (by omega) | exact Spec.old_ack (by omega) (by omega) | exact Spec.old_nil (by omega) (by omega) (by omega)
         exact ⟨.agg #[.slice A151 (([] : List MsgC).length) c152, .bool oh, .int .i64 of_, .bool os_], (resA_of (resL_cell rfl (lvar_part (l := [.slice A151 (([] : List MsgC).length) c152, .bool oh, .int .i64 of_, .bool os_]) many40 hB160 rfl rfl (by decide)) resL_nil) rfl), A151, c152, by first | (rw [hres]; first | done | rfl | simp; done) | rfl, (by first | exact (My.older h163 (by omega)) | (rw [hres]; exact (My.older h163 (by omega)))), (by first | exact (Each.nil (S := MsgC.sub) (H0 := H) (H := H158)) | (rw [hres]; exact (Each.nil (S := MsgC.sub) (H0 := H) (H := H158)))), (by first | exact h164 | (rw [hres]; exact h164)), (by exact Spec.old_len), (by exact Spec.old_none), (by exact Spec.old_all), (Fr.transG (Fr.transG (Fr.trans (Fr.trans (Fr.trans (Fr.refl (fun q => q = r) H) (hx6.fr fun _ => False) (fun q hq (e : False) => e.elim)) (hx12.fr fun _ => False) (fun q hq (e : False) => e.elim)) (hx18.fr fun _ => False) (fun q hq (e : False) => e.elim)) hx150 (fun q hq hE e => Or.elim e (fun e => (e)) (fun e => absurd hq (by omega)))) hf162 (fun q hq hE e => absurd hq (by omega)))⟩
     ·
      rw [Bool.not_eq_true] at hc44; refine aw_condF hc44 rfl ?_
      try show aw _ _ _ _ _ _
      have hc44 := of_decide_eq_false hc44
      exfalso; omega
theorem raft_Hard_spec (H : Heap) (rid : Int) (hrid : 1 ≤ rid ∧ rid ≤ 7) (rt : Int) (rv : Int) (x : Int) (hx : 0 ≤ x ∧ x ≤ 2199023255552) (tm : Int) (cf : ByteArray) (hcf : cf.size ≤ 1073741824) (dt : ByteArray) (lA : Option Addr) (l : List Entry) (lc : Nat) (hl : Row H lA lc 4 (l.map Entry.cells)) (cl : l.length ≤ lc) (ll : l.length ≤ 200) (g : Nat) (hg : g < H.next) (Bg : H.blk g = some ⟨[.int .i64 x, .int .i64 tm, .string cf, .string dt, .slice lA l.length lc], 0, false, false⟩) (uk : Spec.LogOk x tm l) (cmt : Int) (role : Int) (ldr : Int) (hrd : Bool)   (msH : Heap) (msA : Option Addr) (ms : List MsgC) (msc : Nat) (hms : My msH H msA msc 13 (ms.map MsgC.cells)) (nms : msH.next ≤ H.next) (lms : ms.length ≤ 100) (msE : Heap) (ems : Each MsgC.sub msE H ms) (nems : msE.next ≤ H.next) (oh : Bool) (of_ : Int) (os_ : Bool) (r : Nat) (hr : r < H.next) (Br : H.blk r = some ⟨[.int .i64 rid, .int .i64 rt, .int .i64 rv, .pointer (some ⟨g, 0, none⟩), .int .i64 cmt, .int .i64 role, .int .i64 ldr, .bool hrd, .pointer none, .pointer none, .slice msA ms.length msc, .bool oh, .int .i64 of_, .bool os_], 0, false, false⟩) (ugr : g < r) : ∃ v H', Spec Tryz.prog 16 [.pointer (some ⟨r, 0, none⟩)] H v H' ∧ ((v = .agg #[.int .i64 rt, .int .i64 rv]) ∧ (Ext H H')) := by
 refine spec_go1 E0_ok 10 (f := 16) Tryz.func16 rfl rfl rfl ?_
 refine aw_seq ?_
 refine aw_reg ?_
 obtain ⟨b1, H2, he3, b1e, H2n_, hB5, f4⟩ := mem_alloc H zero35
 refine st_op (he3 _ _ _ _ _ _ _) rfl rfl rfl ?_
 have hx6 : Ext H H2 := Ext.new (by omega) H2n_ f4
 have H2n : H.next ≤ H2.next := hx6.1
 try show aw _ _ _ _ _ _
 iterate 2 refine aw_seq ?_
 refine aw_reg ?_
 refine st_op (ev_move rfl) rfl rfl rfl ?_
 refine st_op (ev_nilEq rfl rfl Tryz.underlying32) rfl rfl rfl ?_
 try show aw _ _ _ _ _ _
 refine aw_cond (t := false) rfl ?_
 try show aw _ _ _ _ _ _
 refine aw_skip ?_
 try show aw _ _ _ _ _ _
 refine aw_seq ?_
 refine aw_reg ?_
 refine st_op (ev_move rfl) rfl rfl rfl ?_
 refine st_op (ev_nilCheck rfl) rfl rfl rfl ?_
 refine st_op (ev_fieldAddr rfl fa80_1 (o' := 1) rfl) rfl rfl rfl ?_
 have h7 := Ext.blk hx6 (by omega) Br
 refine st_op (ev_load rfl (lvar_part (l := [.int .i64 rt, .int .i64 rv]) many35 h7 rfl rfl (by decide))) rfl rfl rfl ?_
 obtain ⟨H8, he9, H8n_, hB10, f11⟩ := mem_store (v := .agg #[.int .i64 rt, .int .i64 rv]) (o := 0) (cs' := [.int .i64 rt, .int .i64 rv]) 2 rfl rfl size35 hB5 rfl rfl rfl
 refine st_op0 (he9 _ _ _ _ _ _ _ _ _ rfl rfl) rfl rfl ?_
 have hf12 : Fr (fun q => q = b1) H2 H8 := Fr.write H8n_ f11
 have H8n : H2.next ≤ H8.next := hf12.1
 try show aw _ _ _ _ _ _
 refine aw_ret ?_
 have hx13 : Ext H H8 := (Ext.then hx6 hf12 (fun q hq e => by omega))
 exact ⟨.agg #[.int .i64 rt, .int .i64 rv], (resA_of (resL_cell rfl (lvar_part (l := [.int .i64 rt, .int .i64 rv]) many35 hB10 rfl rfl (by decide)) resL_nil) rfl), rfl, hx13⟩
theorem raft_Log_spec (H : Heap) (rid : Int) (hrid : 1 ≤ rid ∧ rid ≤ 7) (rt : Int) (rv : Int) (x : Int) (hx : 0 ≤ x ∧ x ≤ 2199023255552) (tm : Int) (cf : ByteArray) (hcf : cf.size ≤ 1073741824) (dt : ByteArray) (lA : Option Addr) (l : List Entry) (lc : Nat) (hl : Row H lA lc 4 (l.map Entry.cells)) (cl : l.length ≤ lc) (ll : l.length ≤ 200) (g : Nat) (hg : g < H.next) (Bg : H.blk g = some ⟨[.int .i64 x, .int .i64 tm, .string cf, .string dt, .slice lA l.length lc], 0, false, false⟩) (uk : Spec.LogOk x tm l) (cmt : Int) (role : Int) (ldr : Int) (hrd : Bool)   (msH : Heap) (msA : Option Addr) (ms : List MsgC) (msc : Nat) (hms : My msH H msA msc 13 (ms.map MsgC.cells)) (nms : msH.next ≤ H.next) (lms : ms.length ≤ 100) (msE : Heap) (ems : Each MsgC.sub msE H ms) (nems : msE.next ≤ H.next) (oh : Bool) (of_ : Int) (os_ : Bool) (r : Nat) (hr : r < H.next) (Br : H.blk r = some ⟨[.int .i64 rid, .int .i64 rt, .int .i64 rv, .pointer (some ⟨g, 0, none⟩), .int .i64 cmt, .int .i64 role, .int .i64 ldr, .bool hrd, .pointer none, .pointer none, .slice msA ms.length msc, .bool oh, .int .i64 of_, .bool os_], 0, false, false⟩) (ugr : g < r) : ∃ v H', Spec Tryz.prog 17 [.pointer (some ⟨r, 0, none⟩)] H v H' ∧ ((v = .pointer (some ⟨g, 0, none⟩)) ∧ (Ext H H')) := by
 refine spec_go1 E0_ok 9 (f := 17) Tryz.func17 rfl rfl rfl ?_
 refine aw_seq ?_
 refine aw_reg ?_
 refine st_op (ev_assign rfl) rfl rfl rfl ?_
 try show aw _ _ _ _ _ _
 iterate 2 refine aw_seq ?_
 refine aw_reg ?_
 refine st_op (ev_move rfl) rfl rfl rfl ?_
 refine st_op (ev_nilEq rfl rfl Tryz.underlying32) rfl rfl rfl ?_
 try show aw _ _ _ _ _ _
 refine aw_cond (t := false) rfl ?_
 try show aw _ _ _ _ _ _
 refine aw_skip ?_
 try show aw _ _ _ _ _ _
 refine aw_seq ?_
 refine aw_reg ?_
 refine st_op (ev_move rfl) rfl rfl rfl ?_
 refine st_op (ev_nilCheck rfl) rfl rfl rfl ?_
 refine st_op (ev_fieldAddr rfl fa80_2 (o' := 3) rfl) rfl rfl rfl ?_
 refine st_op (ev_load rfl (lvar_one one36 Br rfl)) rfl rfl rfl ?_
 refine st_op (ev_assign rfl) rfl rfl rfl ?_
 try show aw _ _ _ _ _ _
 refine aw_ret ?_
 exact ⟨.pointer (some ⟨g, 0, none⟩), rfl, rfl, (Ext.refl H)⟩
set_option maxHeartbeats 1600000 in
theorem law_RaftOld_spec (H : Heap) (kind : Int) (from_ : Int) (to_ : Int) (term : Int) (index : Int) (logterm : Int) (commit : Int) (yes : Bool) (esA : Option Addr) (es : List Entry) (esc : Nat) (hes : Row H esA esc 4 (es.map Entry.cells)) (ces : es.length ≤ esc) (les : es.length ≤ 140737488355328) (s_index : Int) (s_term : Int) (s_conf : ByteArray) (s_data : ByteArray) : ∃ v H', Spec Tryz.prog 5 [.agg #[.int .i64 kind, .int .i64 from_, .int .i64 to_, .int .i64 term, .int .i64 index, .int .i64 logterm, .int .i64 commit, .bool yes, .slice esA es.length esc, .int .i64 s_index, .int .i64 s_term, .string s_conf, .string s_data]] H v H' ∧ ((v = .bool true) ∧ (Ext H H')) := by
 refine spec_go1 E0_ok 122 (f := 5) Tryz.func5 rfl rfl rfl ?_
 refine aw_seq ?_
 refine aw_reg ?_
 obtain ⟨b1, H2, he3, b1e, H2n_, hB5, f4⟩ := mem_box (P := Tryz.prog) H (v := .agg #[.int .i64 kind, .int .i64 from_, .int .i64 to_, .int .i64 term, .int .i64 index, .int .i64 logterm, .int .i64 commit, .bool yes, .slice esA es.length esc, .int .i64 s_index, .int .i64 s_term, .string s_conf, .string s_data]) (cs := [.int .i64 kind, .int .i64 from_, .int .i64 to_, .int .i64 term, .int .i64 index, .int .i64 logterm, .int .i64 commit, .bool yes, .slice esA es.length esc, .int .i64 s_index, .int .i64 s_term, .string s_conf, .string s_data]) rfl rfl
 refine st_op (he3 _ _ _ _ _ _ _ _ _ rfl) rfl rfl rfl ?_
 have hx6 : Ext H H2 := Ext.new (by omega) H2n_ f4
 have H2n : H.next ≤ H2.next := hx6.1
 refine st_op (ev_assign rfl) rfl rfl rfl ?_
 try show aw _ _ _ _ _ _
 refine aw_seq ?_
 refine aw_reg ?_
 refine st_call rfl rfl rfl ent9 rfl rfl rfl ?_
 obtain ⟨_, H8, hs7, hs7v, hx9⟩ := law24_begun_spec H2 
 rw [hs7v] at hs7; clear hs7v
 rw [hx9] at hs7; clear hx9
 refine ⟨_, H2, hs7, ?_⟩
 refine st_op (ev_assign rfl) rfl rfl rfl ?_
 try show aw _ _ _ _ _ _
 iterate 2 refine aw_seq ?_
 refine aw_reg ?_
 refine st_op (ev_move rfl) rfl rfl rfl ?_
 refine st_op (ev_not rfl) rfl rfl rfl ?_
 try show aw _ _ _ _ _ _
 refine aw_cond (t := false) rfl ?_
 try show aw _ _ _ _ _ _
 refine aw_skip ?_
 try show aw _ _ _ _ _ _
 refine aw_seq ?_
 refine aw_reg ?_
 refine st_op (ev_load rfl (lvar_part (l := [.int .i64 kind, .int .i64 from_, .int .i64 to_, .int .i64 term, .int .i64 index, .int .i64 logterm, .int .i64 commit, .bool yes, .slice esA es.length esc, .int .i64 s_index, .int .i64 s_term, .string s_conf, .string s_data]) many26 hB5 rfl rfl (by decide))) rfl rfl rfl ?_
 refine st_call rfl rfl rfl ent10 rfl rfl rfl ?_
 have h10 := Row.ext hes hx6
 obtain ⟨_, H12, hs11, A14, c15, hs11v, hm16, hq17, hq18, hq19, hx13⟩ := law24_Cut_spec H2 kind from_ to_ term index logterm commit yes esA es esc h10 ces (by omega) s_index s_term s_conf s_data
 rw [hs11v] at hs11; clear hs11v
 generalize hR21 : (((es.take 10).map Entry.cut), cutB s_conf 60, cutB s_data 100) = r20 at hs11 hm16 hq17 hq18 hq19
 obtain ⟨z22, z23, z24⟩ := r20
 dsimp only at hs11 hm16 hq17 hq18 hq19
 refine ⟨_, H12, hs11, ?_⟩
 have H12n : H2.next ≤ H12.next := hx13.1
 have h25 := Ext.blk hx13 (by omega) hB5
 obtain ⟨H26, he27, H26n_, hB28, f29⟩ := mem_store (v := .agg #[.int .i64 kind, .int .i64 from_, .int .i64 to_, .int .i64 term, .int .i64 index, .int .i64 logterm, .int .i64 commit, .bool yes, .slice A14 z22.length c15, .int .i64 s_index, .int .i64 s_term, .string z23, .string z24]) (o := 0) (cs' := [.int .i64 kind, .int .i64 from_, .int .i64 to_, .int .i64 term, .int .i64 index, .int .i64 logterm, .int .i64 commit, .bool yes, .slice A14 z22.length c15, .int .i64 s_index, .int .i64 s_term, .string z23, .string z24]) 13 rfl rfl size26 h25 rfl rfl rfl
 refine st_op0 (he27 _ _ _ _ _ _ _ _ _ rfl rfl) rfl rfl ?_
 have hf30 : Fr (fun q => q = b1) H12 H26 := Fr.write H26n_ f29
 have H26n : H12.next ≤ H26.next := hf30.1
 try show aw _ _ _ _ _ _
 refine aw_seq ?_
 refine aw_reg ?_
 refine st_op (ev_fieldAddr rfl fa26_2 (o' := 2) rfl) rfl rfl rfl ?_
 obtain ⟨H31, he32, H31n_, hB33, f34⟩ := mem_store (v := .int .i64 1) (o := 2) (cs' := [.int .i64 kind, .int .i64 from_, .int .i64 1, .int .i64 term, .int .i64 index, .int .i64 logterm, .int .i64 commit, .bool yes, .slice A14 z22.length c15, .int .i64 s_index, .int .i64 s_term, .string z23, .string z24]) 1 rfl rfl size3 hB28 rfl rfl rfl
 refine st_op0 (he32 _ _ _ _ _ _ _ _ _ rfl rfl) rfl rfl ?_
 have hf35 : Fr (fun q => q = b1) H26 H31 := Fr.write H31n_ f34
 have H31n : H26.next ≤ H31.next := hf35.1
 refine st_op (ev_fieldAddr rfl fa26_1 (o' := 1) rfl) rfl rfl rfl ?_
 obtain ⟨H36, he37, H36n_, hB38, f39⟩ := mem_store (v := .int .i64 2) (o := 1) (cs' := [.int .i64 kind, .int .i64 2, .int .i64 1, .int .i64 term, .int .i64 index, .int .i64 logterm, .int .i64 commit, .bool yes, .slice A14 z22.length c15, .int .i64 s_index, .int .i64 s_term, .string z23, .string z24]) 1 rfl rfl size3 hB33 rfl rfl rfl
 refine st_op0 (he37 _ _ _ _ _ _ _ _ _ rfl rfl) rfl rfl ?_
 have hf40 : Fr (fun q => q = b1) H31 H36 := Fr.write H36n_ f39
 have H36n : H31.next ≤ H36.next := hf40.1
 refine st_op (ev_fieldAddr rfl fa26_3 (o' := 3) rfl) rfl rfl rfl ?_
 obtain ⟨H41, he42, H41n_, hB43, f44⟩ := mem_store (v := .int .i64 3) (o := 3) (cs' := [.int .i64 kind, .int .i64 2, .int .i64 1, .int .i64 3, .int .i64 index, .int .i64 logterm, .int .i64 commit, .bool yes, .slice A14 z22.length c15, .int .i64 s_index, .int .i64 s_term, .string z23, .string z24]) 1 rfl rfl size2 hB38 rfl rfl rfl
 refine st_op0 (he42 _ _ _ _ _ _ _ _ _ rfl rfl) rfl rfl ?_
 have hf45 : Fr (fun q => q = b1) H36 H41 := Fr.write H41n_ f44
 have H41n : H36.next ≤ H41.next := hf45.1
 try show aw _ _ _ _ _ _
 iterate 2 refine aw_seq ?_
 refine aw_reg ?_
 refine st_op (ev_assign rfl) rfl rfl rfl ?_
 try show aw _ _ _ _ _ _
 refine aw_block ?_
 have hL0 : z22.length ≤ 10 := by omega
 have h47 := My.frS hm16 hf30 (fun q hq e => ⟨_, e ▸ h25, show (0 : Nat) ≠ 4 by decide⟩)
 have h48 := My.frS h47 hf35 (fun q hq e => ⟨_, e ▸ hB28, show (0 : Nat) ≠ 4 by decide⟩)
 have h49 := My.frS h48 hf40 (fun q hq e => ⟨_, e ▸ hB33, show (0 : Nat) ≠ 4 by decide⟩)
 have h50 := My.frS h49 hf45 (fun q hq e => ⟨_, e ▸ hB38, show (0 : Nat) ≠ 4 by decide⟩)
 refine aw_keep [1, 4] (l' := (.cons 1 (.pointer (some ⟨b1, 0, none⟩)) (.cons 4 (.int .i64 0) .nil))) (by repeat (first | exact Up.done | refine Up.then ?_ | refine Up.inBlock ?_)) rfl ?_
 refine aw_iter (α := Nat × List Entry × Heap) (fun a => z22.length - a.1) (fun a => (.cons 1 (.pointer (some ⟨b1, 0, none⟩)) (.cons 4 (.int .i64 (a.1 : Int)) .nil))) (fun a => a.2.2) (fun a => (a.1 ≤ z22.length) ∧ (a.2.1.length = z22.length) ∧ (My H2 a.2.2 A14 c15 4 (a.2.1.map Entry.cells)) ∧ (Fr (fun q => (H2.next ≤ q ∧ q < H41.next ∧ ZB H41 q 4)) H41 a.2.2)) (0, z22, H41) ⟨(show 0 ≤ z22.length from Nat.zero_le _), (show z22.length = z22.length from rfl), (show My H2 H41 A14 c15 4 (z22.map Entry.cells) from h50), (show Fr (fun q => (H2.next ≤ q ∧ q < H41.next ∧ ZB H41 q 4)) H41 H41 from (Fr.refl _ H41))⟩ ?_
 rintro ⟨i, es1, Hl46⟩ ⟨hi, hl1, hm51, hxl52⟩ ih53
 replace hi : i ≤ z22.length := hi
 replace hl1 : es1.length = z22.length := hl1
 replace hm51 : My H2 Hl46 A14 c15 4 (es1.map Entry.cells) := hm51
 replace hxl52 : Fr (fun q => (H2.next ≤ q ∧ q < H41.next ∧ ZB H41 q 4)) H41 Hl46 := hxl52
 show aw _ _ _ (RL _ (.cons 1 (.pointer (some ⟨b1, 0, none⟩)) (.cons 4 (.int .i64 (i : Int)) .nil))) Hl46 _
 have Hl46n : H41.next ≤ Hl46.next := hxl52.1
 iterate 2 refine aw_seq ?_
 refine aw_reg ?_
 refine st_op (ev_move rfl) rfl rfl rfl ?_
 refine st_op (ev_fieldAddr rfl fa26_8 (o' := 8) rfl) rfl rfl rfl ?_
 have h54 := Fr.blk hxl52 (by omega) (fun e => (zb_ne hB43 e.2.2 (show (0 : Nat) ≠ 4 by decide))) hB43
 refine st_op (ev_load rfl (lvar_one one22 h54 rfl)) rfl rfl rfl ?_
 refine st_op (ev_lenSl rfl Tryz.underlying22) rfl rfl rfl ?_
 refine st_op (ev_int rfl rfl rfl) rfl rfl rfl ?_
 try show aw _ _ _ _ _ _
 by_cases hc55 : (decide ((i : Int) < (z22.length : Int))) = true
 ·
  refine aw_condT hc55 rfl ?_
  try show aw _ _ _ _ _ _
  have hc55 := of_decide_eq_true hc55
  refine aw_skip ?_
  try show aw _ _ _ _ _ _
  refine aw_seq ?_
  refine aw_block ?_
  refine aw_marks (fun b => b < Hl46.next) [(false, false), (false, false), (false, false), (false, false), (false, false), (false, false), (false, false), (false, false), (false, false), (false, false), (false, false), (false, false), (false, false)] mixed (by kernel_rfl) (by kernel_rfl) ?_
  refine sm_op (ev_fieldAddr rfl fa26_8 (o' := 8) rfl) rfl rfl rfl ?_
  refine sm_op (ev_load rfl (lvar_one one22 h54 rfl)) rfl rfl rfl ?_
  refine sm_op (ev_move rfl) rfl rfl rfl ?_
  refine sm_op (ev_fieldAddr rfl fa26_8 (o' := 8) rfl) rfl rfl rfl ?_
  refine sm_op (ev_load rfl (lvar_one one22 h54 rfl)) rfl rfl rfl ?_
  refine sm_op (ev_move rfl) rfl rfl rfl ?_
  have hi56 : 0 ≤ ((i : Int) : Int) := by omega
  have hi57 : ((i : Int) : Int) < ((z22.length : Nat) : Int) := by omega
  obtain ⟨x58, hx59⟩ : ∃ e, es1[i]? = some e := ⟨_, List.getElem?_eq_getElem (by omega)⟩
  refine sm_op (ev_at rfl rfl (My.row hm51) (getMap Entry.cells hx59) (by first | rfl | omega | simp) hi56 hi57 el22) rfl rfl rfl ?_
  refine sm_op (ev_atF rfl (My.row hm51) (getMap Entry.cells hx59) fa31_1 rfl) rfl rfl rfl ?_
  refine sm_op (ev_atL rfl (My.row hm51) (getMap Entry.cells hx59) one2 rfl) rfl rfl rfl ?_
  obtain ⟨z60, hz61, hz62⟩ : ∃ z, (if 3 < x58.term then 3 else x58.term) = z ∧ (x58.term ≥ z ∧ 3 ≥ z ∧ (z = x58.term ∨ z = 3)) := ⟨_, rfl, by split <;> omega⟩
  refine sm_op (ev_minE hz61 rfl rfl) rfl rfl rfl ?_
  have hi63 : 0 ≤ ((i : Int) : Int) := by omega
  have hi64 : ((i : Int) : Int) < ((z22.length : Nat) : Int) := by omega
  refine sm_op (ev_at rfl rfl (My.row hm51) (getMap Entry.cells hx59) (by first | rfl | omega | simp) hi63 hi64 el22) rfl rfl rfl ?_
  refine sm_op (ev_atF rfl (My.row hm51) (getMap Entry.cells hx59) fa31_1 rfl) rfl rfl rfl ?_
  obtain ⟨H65, W66, he67, hm68, hf69, H65n_⟩ := mem_storeAt (v := .int .i64 z60) size2 rfl rfl hm51 hm51 (getMap Entry.cells hx59) (show 1 < 4 by decide)
  rw [show (Entry.cells x58).set 1 (.int .i64 z60) = Entry.cells (⟨x58.index, z60, x58.kind, x58.data⟩ : Entry) from rfl, ← List.map_set] at hm68
  refine sm_op0 (he67 _ _ _ _ _ _ _ _ _ rfl rfl) rfl rfl ?_
  have H65n : Hl46.next ≤ H65.next := hf69.1
  try show aw _ _ _ _ _ _
  refine aw_reg ?_
  refine st_op (ev_move rfl) rfl rfl rfl ?_
  refine st_op (ev_int64 (c := (i : Int) + 1) rfl rfl rfl (by omega) (by omega)) rfl rfl rfl ?_
  refine st_op (ev_assign rfl) rfl rfl rfl ?_
  try show aw _ _ _ _ _ _
  refine aw_keep [1, 4] (l' := (.cons 1 (.pointer (some ⟨b1, 0, none⟩)) (.cons 4 (.int .i64 ((i : Int) + 1)) .nil))) (by repeat (first | exact Up.done | refine Up.then ?_ | refine Up.inBlock ?_)) rfl ?_
  exact ih53 (i + 1, (es1.set i (⟨x58.index, z60, x58.kind, x58.data⟩ : Entry)), H65) ⟨(show (i + 1) ≤ z22.length from (by omega)), (show (es1.set i (⟨x58.index, z60, x58.kind, x58.data⟩ : Entry)).length = z22.length from (by rw [List.length_set]; exact hl1)), (show My H2 H65 A14 c15 4 ((es1.set i (⟨x58.index, z60, x58.kind, x58.data⟩ : Entry)).map Entry.cells) from hm68), (show Fr (fun q => (H2.next ≤ q ∧ q < H41.next ∧ ZB H41 q 4)) H41 H65 from (Fr.transG (Fr.transG (Fr.refl (fun q => (H2.next ≤ q ∧ q < H41.next ∧ ZB H41 q 4)) H41) hxl52 (fun q hq hE e => (⟨by omega, by omega, ZB.back hE e.2.2⟩))) hf69 (fun q hq hE e => (⟨by omega, by omega, ZB.back hE e.2.2⟩))))⟩ (by simp only; omega)
 ·
  rw [Bool.not_eq_true] at hc55; refine aw_condF hc55 rfl ?_
  try show aw _ _ _ _ _ _
  have hc55 := of_decide_eq_false hc55
  refine aw_exit ?_
  try show aw _ _ _ _ _ _
  iterate 2 refine aw_seq ?_
  refine aw_reg ?_
  refine st_op (ev_load rfl (lvar_part (l := [.int .i64 kind, .int .i64 2, .int .i64 1, .int .i64 3, .int .i64 index, .int .i64 logterm, .int .i64 commit, .bool yes, .slice A14 z22.length c15, .int .i64 s_index, .int .i64 s_term, .string z23, .string z24]) many26 h54 rfl rfl (by decide))) rfl rfl rfl ?_
  refine st_call rfl rfl rfl ent12 rfl rfl rfl ?_
  obtain ⟨_, H71, hs70, hs70v, hx72⟩ := ref21_May_spec Hl46 kind (2 : Int) (1 : Int) (3 : Int) index logterm commit yes A14 es1 c15 (My.row hm51) (My.capF hm51 (by omega)) (by omega) s_index s_term z23 (by omega) z24 (by omega)
  rw [hs70v] at hs70; clear hs70v
  rw [show es1.length = z22.length from by first | rfl | (simp; done) | omega] at hs70
  refine ⟨_, H71, hs70, ?_⟩
  have H71n : Hl46.next ≤ H71.next := hx72.1
  refine st_op (ev_not rfl) rfl rfl rfl ?_
  try show aw _ _ _ _ _ _
  by_cases hc73 : (!(Spec.mayMsg kind (2 : Int) (1 : Int) (3 : Int) index logterm commit yes es1 s_index s_term z23 z24)) = true
  ·
   refine aw_condT hc73 rfl ?_
   try show aw _ _ _ _ _ _
   replace hc73 : (Spec.mayMsg kind (2 : Int) (1 : Int) (3 : Int) index logterm commit yes es1 s_index s_term z23 z24) = false := by rw [Bool.not_eq_true'] at hc73; exact hc73
   refine aw_seq ?_
   refine aw_reg ?_
   refine st_op (ev_assign rfl) rfl rfl rfl ?_
   try show aw _ _ _ _ _ _
   refine aw_ret ?_
   have hx74 : Ext H H71 := (Ext.trans (Ext.then (Ext.then (Ext.then (Ext.then (Ext.then (Ext.trans hx6 hx13) hf30 (fun q hq e => by omega)) hf35 (fun q hq e => by omega)) hf40 (fun q hq e => by omega)) hf45 (fun q hq e => by omega)) hxl52 (fun q hq e => by omega)) hx72)
   have hres : true = true := by rfl
   exact ⟨.bool true, rfl, by first | (rw [hres]; done) | rw [← hres], hx74⟩
  ·
   rw [Bool.not_eq_true] at hc73; refine aw_condF hc73 rfl ?_
   try show aw _ _ _ _ _ _
   replace hc73 : (Spec.mayMsg kind (2 : Int) (1 : Int) (3 : Int) index logterm commit yes es1 s_index s_term z23 z24) = true := by rw [Bool.not_eq_false'] at hc73; exact hc73
   refine aw_skip ?_
   try show aw _ _ _ _ _ _
   refine aw_seq ?_
   refine aw_reg ?_
   refine st_op (ev_build zero35 pl35 (parts := [(0, .int .i64 5), (1, .int .i64 3)]) rfl (cs := [.int .i64 5, .int .i64 3]) rfl) rfl rfl rfl ?_
   refine st_op (ev_build zero24 pl24 (parts := [(2, .string (⟨#[49, 50, 51]⟩))]) rfl (cs := [.int .i64 0, .int .i64 0, .string (⟨#[49, 50, 51]⟩), .string (⟨#[]⟩)]) rfl) rfl rfl rfl ?_
   refine st_call rfl rfl rfl ent14 rfl rfl rfl ?_
   have hc75 : (Spec.newOk (0 : Int) (0 : Int) ([] : List Entry)) = true := by decide
   have hok0 := Spec.newOk_ok hc75 Spec.Ents.nil
   obtain ⟨_, H77, hs76, A79, c80, b82, hs76v, hm81, b82l, b82h, b82B, hx78⟩ := rlog_New_spec H71 (0 : Int) (0 : Int) (⟨#[49, 50, 51]⟩ : ByteArray) (⟨#[]⟩ : ByteArray) none ([] : List Entry) 0 Row.nil (Nat.le_refl 0) (Nat.zero_le _) (by assumption)
   rw [hs76v] at hs76; clear hs76v
   refine ⟨_, H77, hs76, ?_⟩
   have H77n : H71.next ≤ H77.next := hx78.1
   refine st_call rfl rfl rfl ent13 rfl rfl rfl ?_
   obtain ⟨_, H84, hs83, b86, hs83v, b86l, b86h, b86B, hx85⟩ := raft_New_spec H77 1 (by decide) (5 : Int) (3 : Int) (by first | assumption | (rw [Spec.mayH_eq]; decide)) (0 : Int) ⟨by omega, by omega⟩ (0 : Int) (⟨#[49, 50, 51]⟩ : ByteArray) (by decide) (⟨#[]⟩ : ByteArray) A79 ([] : List Entry) c80 (My.row hm81) (My.capF hm81 (by first | omega | (simp only [List.length_append, List.length_cons, List.length_nil, List.length_map, List.length_set, List.length_replicate, Spec.bytesOf_length]; omega) | (simp; omega))) (by first | omega | (simp only [List.length_append, List.length_cons, List.length_nil, List.length_map, List.length_set, List.length_replicate, Spec.bytesOf_length]; omega) | (simp; omega)) b82 (by omega) b82B (by assumption) 0 (by decide) (by first | omega | (simp only [List.length_append, List.length_cons, List.length_nil, List.length_map, List.length_set, List.length_replicate, Spec.bytesOf_length]; omega) | (simp; omega))
   rw [hs83v] at hs83; clear hs83v
   refine ⟨_, H84, hs83, ?_⟩
   have H84n : H77.next ≤ H84.next := hx85.1
   refine st_op (ev_assign rfl) rfl rfl rfl ?_
   try show aw _ _ _ _ _ _
   iterate 2 refine aw_seq ?_
   refine aw_reg ?_
   refine st_op (ev_move rfl) rfl rfl rfl ?_
   refine st_op (ev_nilEq rfl rfl Tryz.underlying32) rfl rfl rfl ?_
   try show aw _ _ _ _ _ _
   refine aw_cond (t := false) rfl ?_
   try show aw _ _ _ _ _ _
   refine aw_skip ?_
   try show aw _ _ _ _ _ _
   refine aw_seq ?_
   refine aw_reg ?_
   refine st_op (ev_move rfl) rfl rfl rfl ?_
   have hx88 : Ext Hl46 H84 := (Ext.trans (Ext.trans hx72 hx78) hx85)
   have h87 := Ext.blk hx88 (by omega) h54
   refine st_op (ev_load rfl (lvar_part (l := [.int .i64 kind, .int .i64 2, .int .i64 1, .int .i64 3, .int .i64 index, .int .i64 logterm, .int .i64 commit, .bool yes, .slice A14 z22.length c15, .int .i64 s_index, .int .i64 s_term, .string z23, .string z24]) many26 h87 rfl rfl (by decide))) rfl rfl rfl ?_
   refine st_call rfl rfl rfl ent15 rfl rfl rfl ?_
   have h89 := My.ext hm81 hx85
   have h90 := Ext.blk hx85 (by omega) b82B
   have h91 := My.ext hm51 hx88
   obtain ⟨_, H93, hs92, A95, c96, hs92v, hm97, hE101, hB102, hq98, hq99, hq100, hx94⟩ := raft_StepOld_spec H84 (1 : Int) ⟨by omega, by omega⟩ (5 : Int) (3 : Int) (0 : Int) ⟨by omega, by omega⟩ (0 : Int) (⟨#[49, 50, 51]⟩ : ByteArray) (by decide) (⟨#[]⟩ : ByteArray) A79 ([] : List Entry) c80 (My.row h89) (My.capF h89 (by first | omega | (simp only [List.length_append, List.length_cons, List.length_nil, List.length_map, List.length_set, List.length_replicate, Spec.bytesOf_length]; omega) | (simp; omega))) (by first | omega | (simp only [List.length_append, List.length_cons, List.length_nil, List.length_map, List.length_set, List.length_replicate, Spec.bytesOf_length]; omega) | (simp; omega)) b82 (by omega) h90 (by assumption) (0 : Int) (0 : Int) (0 : Int) false    false (0 : Int) false b86 (by omega) b86B (by omega) kind (2 : Int) (1 : Int) (3 : Int) index logterm commit yes A14 es1 c15 (My.row h91) (My.capF h91 (by first | omega | (simp only [List.length_append, List.length_cons, List.length_nil, List.length_map, List.length_set, List.length_replicate, Spec.bytesOf_length]; omega) | (simp; omega))) (by first | omega | (simp only [List.length_append, List.length_cons, List.length_nil, List.length_map, List.length_set, List.length_replicate, Spec.bytesOf_length]; omega) | (simp; omega)) s_index s_term z23 (by first | omega | (simp only [List.length_append, List.length_cons, List.length_nil, List.length_map, List.length_set, List.length_replicate, Spec.bytesOf_length]; omega) | (simp; omega)) z24 (by first | omega | (simp only [List.length_append, List.length_cons, List.length_nil, List.length_map, List.length_set, List.length_replicate, Spec.bytesOf_length]; omega) | (simp; omega)) (by assumption) (by omega)
   rw [hs92v] at hs92; clear hs92v
   rw [show es1.length = z22.length from by first | rfl | (simp; done) | omega] at hs92
   generalize hR104 : (Spec.oldF kind (1 : Int) (5 : Int) (2 : Int)) = r103 at hs92 hm97 hE101 hB102 hq98 hq99 hq100
   refine ⟨_, H93, hs92, ?_⟩
   have H93n : H84.next ≤ H93.next := hx94.1
   obtain ⟨b105, H106, he107, b105e, H106n_, hB109, f108⟩ := mem_alloc H93 zero40
   refine st_op (he107 _ _ _ _ _ _ _) rfl rfl rfl ?_
   have hx110 : Ext H93 H106 := Ext.new (by omega) H106n_ f108
   have H106n : H93.next ≤ H106.next := hx110.1
   obtain ⟨H111, he112, H111n_, hB113, f114⟩ := mem_store (v := .agg #[.slice A95 r103.length c96, .bool false, .int .i64 (0 : Int), .bool false]) (o := 0) (cs' := [.slice A95 r103.length c96, .bool false, .int .i64 (0 : Int), .bool false]) 4 rfl rfl size40 hB109 rfl rfl rfl
   refine st_op0 (he112 _ _ _ _ _ _ _ _ _ rfl rfl) rfl rfl ?_
   have hf115 : Fr (fun q => q = b105) H106 H111 := Fr.write H111n_ f114
   have H111n : H106.next ≤ H111.next := hf115.1
   try show aw _ _ _ _ _ _
   refine aw_seq ?_
   refine aw_reg ?_
   refine st_op (ev_assign rfl) rfl rfl rfl ?_
   try show aw _ _ _ _ _ _
   iterate 2 refine aw_seq ?_
   refine aw_reg ?_
   refine st_op (ev_fieldAddr rfl fa26_0 (o' := 0) rfl) rfl rfl rfl ?_
   have hx117 : Ext Hl46 H111 := (Ext.then (Ext.trans (Ext.then hx88 hx94 (fun q hq e => by omega)) hx110) hf115 (fun q hq e => by omega))
   have h116 := Ext.blk hx117 (by omega) h54
   refine st_op (ev_load rfl (lvar_one one3 h116 rfl)) rfl rfl rfl ?_
   refine st_op (ev_int rfl rfl rfl) rfl rfl rfl ?_
   refine st_op (ev_move rfl) rfl rfl rfl ?_
   refine st_bool 50 rfl (fun hb118 => ?_) (fun hb118 => ?_)
   ·
    have hb118 := eq_of_beq hb118
    iterate 3 refine st_skip rfl rfl rfl ?_
    refine st_op (ev_pickT rfl rfl) rfl rfl rfl ?_
    refine st_op (ev_move rfl) rfl rfl rfl ?_
    iterate 3 refine st_skip rfl rfl rfl ?_
    refine st_op (ev_pickT rfl rfl) rfl rfl rfl ?_
    try show aw _ _ _ _ _ _
    refine aw_cond (t := true) rfl ?_
    try show aw _ _ _ _ _ _
    refine aw_reg ?_
    refine st_op (ev_assign rfl) rfl rfl rfl ?_
    try show aw _ _ _ _ _ _
    iterate 2 refine aw_seq ?_
    refine aw_reg ?_
    refine st_op (ev_fieldAddr rfl fa40_0 (o' := 0) rfl) rfl rfl rfl ?_
    refine st_op (ev_load rfl (lvar_one one38 hB113 rfl)) rfl rfl rfl ?_
    refine st_op (ev_lenSl rfl Tryz.underlying38) rfl rfl rfl ?_
    refine st_op (ev_move rfl) rfl rfl rfl ?_
    refine st_op (ev_int rfl rfl rfl) rfl rfl rfl ?_
    refine st_op (ev_move rfl) rfl rfl rfl ?_
    refine st_bool 65 rfl (fun hb119 => ?_) (fun hb119 => ?_)
    ·
     have hb119 : ¬ ((r103.length : Int) = 1) := by simpa using hb119
     exfalso; first | (have q := hq98 (by omega); omega) | (have q := hq99 (by omega); omega) | (simp_all; done)
    ·
     have hb119 : ((r103.length : Int) = 1) := by simpa using hb119
     refine st_op (ev_fieldAddr rfl fa40_1 (o' := 1) rfl) rfl rfl rfl ?_
     refine st_op (ev_load rfl (lvar_one one4 hB113 rfl)) rfl rfl rfl ?_
     refine st_op (ev_pickF rfl rfl) rfl rfl rfl ?_
     refine st_op (ev_move rfl) rfl rfl rfl ?_
     refine st_bool 69 rfl (fun hb120 => ?_) (fun hb120 => ?_)
     ·
      iterate 3 refine st_skip rfl rfl rfl ?_
      refine st_op (ev_pickT rfl rfl) rfl rfl rfl ?_
      refine st_op (ev_move rfl) rfl rfl rfl ?_
      iterate 2 refine st_skip rfl rfl rfl ?_
      refine st_op (ev_pickT rfl rfl) rfl rfl rfl ?_
      refine st_op (ev_move rfl) rfl rfl rfl ?_
      iterate 4 refine st_skip rfl rfl rfl ?_
      refine st_op (ev_pickT rfl rfl) rfl rfl rfl ?_
      refine st_op (ev_move rfl) rfl rfl rfl ?_
      iterate 4 refine st_skip rfl rfl rfl ?_
      refine st_op (ev_pickT rfl rfl) rfl rfl rfl ?_
      refine st_op (ev_move rfl) rfl rfl rfl ?_
      iterate 4 refine st_skip rfl rfl rfl ?_
      refine st_op (ev_pickT rfl rfl) rfl rfl rfl ?_
      try show aw _ _ _ _ _ _
      refine aw_cond (t := true) rfl ?_
      try show aw _ _ _ _ _ _
      refine aw_seq ?_
      refine aw_reg ?_
      refine st_op (ev_assign rfl) rfl rfl rfl ?_
      try show aw _ _ _ _ _ _
      refine aw_ret ?_
      have hx121 : Ext H H111 := (Ext.then (Ext.trans (Ext.then (Ext.trans (Ext.trans (Ext.trans (Ext.then (Ext.then (Ext.then (Ext.then (Ext.then (Ext.trans hx6 hx13) hf30 (fun q hq e => by omega)) hf35 (fun q hq e => by omega)) hf40 (fun q hq e => by omega)) hf45 (fun q hq e => by omega)) hxl52 (fun q hq e => by omega)) hx72) hx78) hx85) hx94 (fun q hq e => by omega)) hx110) hf115 (fun q hq e => by omega))
      have hres : true = false := by simp_all
      exact ⟨.bool false, rfl, by first | (rw [hres]; done) | rw [← hres], hx121⟩
     ·
      refine st_op (ev_fieldAddr rfl fa40_2 (o' := 2) rfl) rfl rfl rfl ?_
      refine st_op (ev_load rfl (lvar_one one2 hB113 rfl)) rfl rfl rfl ?_
      refine st_op (ev_int rfl rfl rfl) rfl rfl rfl ?_
      refine st_op (ev_pickF rfl rfl) rfl rfl rfl ?_
      refine st_op (ev_move rfl) rfl rfl rfl ?_
      refine st_bool 74 rfl (fun hb122 => ?_) (fun hb122 => ?_)
      ·
       have hb122 : ¬ ((0 : Int) = 0) := by simpa using hb122
       iterate 2 refine st_skip rfl rfl rfl ?_
       refine st_op (ev_pickT rfl rfl) rfl rfl rfl ?_
       refine st_op (ev_move rfl) rfl rfl rfl ?_
       iterate 4 refine st_skip rfl rfl rfl ?_
       refine st_op (ev_pickT rfl rfl) rfl rfl rfl ?_
       refine st_op (ev_move rfl) rfl rfl rfl ?_
       iterate 4 refine st_skip rfl rfl rfl ?_
       refine st_op (ev_pickT rfl rfl) rfl rfl rfl ?_
       refine st_op (ev_move rfl) rfl rfl rfl ?_
       iterate 4 refine st_skip rfl rfl rfl ?_
       refine st_op (ev_pickT rfl rfl) rfl rfl rfl ?_
       try show aw _ _ _ _ _ _
       refine aw_cond (t := true) rfl ?_
       try show aw _ _ _ _ _ _
       refine aw_seq ?_
       refine aw_reg ?_
       refine st_op (ev_assign rfl) rfl rfl rfl ?_
       try show aw _ _ _ _ _ _
       refine aw_ret ?_
       have hx123 : Ext H H111 := (Ext.then (Ext.trans (Ext.then (Ext.trans (Ext.trans (Ext.trans (Ext.then (Ext.then (Ext.then (Ext.then (Ext.then (Ext.trans hx6 hx13) hf30 (fun q hq e => by omega)) hf35 (fun q hq e => by omega)) hf40 (fun q hq e => by omega)) hf45 (fun q hq e => by omega)) hxl52 (fun q hq e => by omega)) hx72) hx78) hx85) hx94 (fun q hq e => by omega)) hx110) hf115 (fun q hq e => by omega))
       have hres : true = false := by simp_all
       exact ⟨.bool false, rfl, by first | (rw [hres]; done) | rw [← hres], hx123⟩
      ·
       have hb122 : ((0 : Int) = 0) := by simpa using hb122
       refine st_op (ev_fieldAddr rfl fa40_3 (o' := 3) rfl) rfl rfl rfl ?_
       refine st_op (ev_load rfl (lvar_one one4 hB113 rfl)) rfl rfl rfl ?_
       refine st_op (ev_pickF rfl rfl) rfl rfl rfl ?_
       refine st_op (ev_move rfl) rfl rfl rfl ?_
       refine st_bool 78 rfl (fun hb124 => ?_) (fun hb124 => ?_)
       ·
        iterate 4 refine st_skip rfl rfl rfl ?_
        refine st_op (ev_pickT rfl rfl) rfl rfl rfl ?_
        refine st_op (ev_move rfl) rfl rfl rfl ?_
        iterate 4 refine st_skip rfl rfl rfl ?_
        refine st_op (ev_pickT rfl rfl) rfl rfl rfl ?_
        refine st_op (ev_move rfl) rfl rfl rfl ?_
        iterate 4 refine st_skip rfl rfl rfl ?_
        refine st_op (ev_pickT rfl rfl) rfl rfl rfl ?_
        try show aw _ _ _ _ _ _
        refine aw_cond (t := true) rfl ?_
        try show aw _ _ _ _ _ _
        refine aw_seq ?_
        refine aw_reg ?_
        refine st_op (ev_assign rfl) rfl rfl rfl ?_
        try show aw _ _ _ _ _ _
        refine aw_ret ?_
        have hx125 : Ext H H111 := (Ext.then (Ext.trans (Ext.then (Ext.trans (Ext.trans (Ext.trans (Ext.then (Ext.then (Ext.then (Ext.then (Ext.then (Ext.trans hx6 hx13) hf30 (fun q hq e => by omega)) hf35 (fun q hq e => by omega)) hf40 (fun q hq e => by omega)) hf45 (fun q hq e => by omega)) hxl52 (fun q hq e => by omega)) hx72) hx78) hx85) hx94 (fun q hq e => by omega)) hx110) hf115 (fun q hq e => by omega))
        have hres : true = false := by simp_all
        exact ⟨.bool false, rfl, by first | (rw [hres]; done) | rw [← hres], hx125⟩
       ·
        refine st_op (ev_move rfl) rfl rfl rfl ?_
        refine st_call rfl rfl rfl ent16 rfl rfl rfl ?_
        have hx127 : Ext H77 H111 := (Ext.then (Ext.trans (Ext.then hx85 hx94 (fun q hq e => by omega)) hx110) hf115 (fun q hq e => by omega))
        have h126 := My.ext hm81 hx127
        have h128 := Ext.blk hx127 (by omega) b82B
        have hm129 : My H111 H111 none 0 13 (([] : List MsgC).map MsgC.cells) := .nil
        have hx131 : Ext H93 H111 := (Ext.then hx110 hf115 (fun q hq e => by omega))
        have h130 := Ext.blk hx131 (by omega) hB102
        obtain ⟨_, H133, hs132, hs132v, hx134⟩ := raft_Hard_spec H111 (1 : Int) ⟨by omega, by omega⟩ (5 : Int) (3 : Int) (0 : Int) ⟨by omega, by omega⟩ (0 : Int) (⟨#[49, 50, 51]⟩ : ByteArray) (by decide) (⟨#[]⟩ : ByteArray) A79 ([] : List Entry) c80 (My.row h126) (My.capF h126 (by first | omega | (simp only [List.length_append, List.length_cons, List.length_nil, List.length_map, List.length_set, List.length_replicate, Spec.bytesOf_length]; omega) | (simp; omega))) (by first | omega | (simp only [List.length_append, List.length_cons, List.length_nil, List.length_map, List.length_set, List.length_replicate, Spec.bytesOf_length]; omega) | (simp; omega)) b82 (by omega) h128 (by assumption) (0 : Int) (0 : Int) (0 : Int) false   H111 none ([] : List MsgC) 0 hm129 (by omega) (by first | omega | (simp only [List.length_append, List.length_cons, List.length_nil, List.length_map, List.length_set, List.length_replicate, Spec.bytesOf_length]; omega) | (simp; omega)) H111 (Each.nil (S := MsgC.sub) (H0 := H111) (H := H111)) (by omega) false (0 : Int) false b86 (by omega) h130 (by omega)
        rw [hs132v] at hs132; clear hs132v
        refine ⟨_, H133, hs132, ?_⟩
        have H133n : H111.next ≤ H133.next := hx134.1
        refine st_op (ev_fieldF fd35_0 rfl rfl) rfl rfl rfl ?_
        refine st_op (ev_int rfl rfl rfl) rfl rfl rfl ?_
        refine st_op (ev_pickF rfl rfl) rfl rfl rfl ?_
        refine st_op (ev_move rfl) rfl rfl rfl ?_
        refine st_bool 84 rfl (fun hb135 => ?_) (fun hb135 => ?_)
        ·
         have hb135 : ¬ ((5 : Int) = 5) := by simpa using hb135
         iterate 4 refine st_skip rfl rfl rfl ?_
         refine st_op (ev_pickT rfl rfl) rfl rfl rfl ?_
         refine st_op (ev_move rfl) rfl rfl rfl ?_
         iterate 4 refine st_skip rfl rfl rfl ?_
         refine st_op (ev_pickT rfl rfl) rfl rfl rfl ?_
         try show aw _ _ _ _ _ _
         refine aw_cond (t := true) rfl ?_
         try show aw _ _ _ _ _ _
         refine aw_seq ?_
         refine aw_reg ?_
         refine st_op (ev_assign rfl) rfl rfl rfl ?_
         try show aw _ _ _ _ _ _
         refine aw_ret ?_
         have hx136 : Ext H H133 := (Ext.trans (Ext.then (Ext.trans (Ext.then (Ext.trans (Ext.trans (Ext.trans (Ext.then (Ext.then (Ext.then (Ext.then (Ext.then (Ext.trans hx6 hx13) hf30 (fun q hq e => by omega)) hf35 (fun q hq e => by omega)) hf40 (fun q hq e => by omega)) hf45 (fun q hq e => by omega)) hxl52 (fun q hq e => by omega)) hx72) hx78) hx85) hx94 (fun q hq e => by omega)) hx110) hf115 (fun q hq e => by omega)) hx134)
         have hres : true = false := by simp_all
         exact ⟨.bool false, rfl, by first | (rw [hres]; done) | rw [← hres], hx136⟩
        ·
         have hb135 : ((5 : Int) = 5) := by simpa using hb135
         refine st_op (ev_move rfl) rfl rfl rfl ?_
         refine st_call rfl rfl rfl ent16 rfl rfl rfl ?_
         have h137 := My.ext h126 hx134
         have h138 := Ext.blk hx134 (by omega) h128
         have hm139 : My H133 H133 none 0 13 (([] : List MsgC).map MsgC.cells) := .nil
         have h140 := Ext.blk hx134 (by omega) h130
         obtain ⟨_, H142, hs141, hs141v, hx143⟩ := raft_Hard_spec H133 (1 : Int) ⟨by omega, by omega⟩ (5 : Int) (3 : Int) (0 : Int) ⟨by omega, by omega⟩ (0 : Int) (⟨#[49, 50, 51]⟩ : ByteArray) (by decide) (⟨#[]⟩ : ByteArray) A79 ([] : List Entry) c80 (My.row h137) (My.capF h137 (by first | omega | (simp only [List.length_append, List.length_cons, List.length_nil, List.length_map, List.length_set, List.length_replicate, Spec.bytesOf_length]; omega) | (simp; omega))) (by first | omega | (simp only [List.length_append, List.length_cons, List.length_nil, List.length_map, List.length_set, List.length_replicate, Spec.bytesOf_length]; omega) | (simp; omega)) b82 (by omega) h138 (by assumption) (0 : Int) (0 : Int) (0 : Int) false   H133 none ([] : List MsgC) 0 hm139 (by omega) (by first | omega | (simp only [List.length_append, List.length_cons, List.length_nil, List.length_map, List.length_set, List.length_replicate, Spec.bytesOf_length]; omega) | (simp; omega)) H133 (Each.nil (S := MsgC.sub) (H0 := H133) (H := H133)) (by omega) false (0 : Int) false b86 (by omega) h140 (by omega)
         rw [hs141v] at hs141; clear hs141v
         refine ⟨_, H142, hs141, ?_⟩
         have H142n : H133.next ≤ H142.next := hx143.1
         refine st_op (ev_fieldF fd35_1 rfl rfl) rfl rfl rfl ?_
         refine st_op (ev_int rfl rfl rfl) rfl rfl rfl ?_
         refine st_op (ev_pickF rfl rfl) rfl rfl rfl ?_
         refine st_op (ev_move rfl) rfl rfl rfl ?_
         refine st_bool 90 rfl (fun hb144 => ?_) (fun hb144 => ?_)
         ·
          have hb144 : ¬ ((3 : Int) = 3) := by simpa using hb144
          iterate 4 refine st_skip rfl rfl rfl ?_
          refine st_op (ev_pickT rfl rfl) rfl rfl rfl ?_
          try show aw _ _ _ _ _ _
          refine aw_cond (t := true) rfl ?_
          try show aw _ _ _ _ _ _
          refine aw_seq ?_
          refine aw_reg ?_
          refine st_op (ev_assign rfl) rfl rfl rfl ?_
          try show aw _ _ _ _ _ _
          refine aw_ret ?_
          have hx145 : Ext H H142 := (Ext.trans (Ext.trans (Ext.then (Ext.trans (Ext.then (Ext.trans (Ext.trans (Ext.trans (Ext.then (Ext.then (Ext.then (Ext.then (Ext.then (Ext.trans hx6 hx13) hf30 (fun q hq e => by omega)) hf35 (fun q hq e => by omega)) hf40 (fun q hq e => by omega)) hf45 (fun q hq e => by omega)) hxl52 (fun q hq e => by omega)) hx72) hx78) hx85) hx94 (fun q hq e => by omega)) hx110) hf115 (fun q hq e => by omega)) hx134) hx143)
          have hres : true = false := by simp_all
          exact ⟨.bool false, rfl, by first | (rw [hres]; done) | rw [← hres], hx145⟩
         ·
          have hb144 : ((3 : Int) = 3) := by simpa using hb144
          refine st_op (ev_move rfl) rfl rfl rfl ?_
          refine st_call rfl rfl rfl ent17 rfl rfl rfl ?_
          have h146 := My.ext h137 hx143
          have h147 := Ext.blk hx143 (by omega) h138
          have hm148 : My H142 H142 none 0 13 (([] : List MsgC).map MsgC.cells) := .nil
          have h149 := Ext.blk hx143 (by omega) h140
          obtain ⟨_, H151, hs150, hs150v, hx152⟩ := raft_Log_spec H142 (1 : Int) ⟨by omega, by omega⟩ (5 : Int) (3 : Int) (0 : Int) ⟨by omega, by omega⟩ (0 : Int) (⟨#[49, 50, 51]⟩ : ByteArray) (by decide) (⟨#[]⟩ : ByteArray) A79 ([] : List Entry) c80 (My.row h146) (My.capF h146 (by first | omega | (simp only [List.length_append, List.length_cons, List.length_nil, List.length_map, List.length_set, List.length_replicate, Spec.bytesOf_length]; omega) | (simp; omega))) (by first | omega | (simp only [List.length_append, List.length_cons, List.length_nil, List.length_map, List.length_set, List.length_replicate, Spec.bytesOf_length]; omega) | (simp; omega)) b82 (by omega) h147 (by assumption) (0 : Int) (0 : Int) (0 : Int) false   H142 none ([] : List MsgC) 0 hm148 (by omega) (by first | omega | (simp only [List.length_append, List.length_cons, List.length_nil, List.length_map, List.length_set, List.length_replicate, Spec.bytesOf_length]; omega) | (simp; omega)) H142 (Each.nil (S := MsgC.sub) (H0 := H142) (H := H142)) (by omega) false (0 : Int) false b86 (by omega) h149 (by omega)
          rw [hs150v] at hs150; clear hs150v
          refine ⟨_, H151, hs150, ?_⟩
          have H151n : H142.next ≤ H151.next := hx152.1
          refine st_call rfl rfl rfl ent18 rfl rfl rfl ?_
          have h153 := My.ext h146 hx152
          have h154 := Ext.blk hx152 (by omega) h147
          obtain ⟨_, H156, hs155, hs155v, hx157⟩ := rlog_Last_spec H151 (0 : Int) ⟨by omega, by omega⟩ (0 : Int) (⟨#[49, 50, 51]⟩ : ByteArray) (by decide) (⟨#[]⟩ : ByteArray) A79 ([] : List Entry) c80 (My.row h153) (My.capF h153 (by first | omega | (simp only [List.length_append, List.length_cons, List.length_nil, List.length_map, List.length_set, List.length_replicate, Spec.bytesOf_length]; omega) | (simp; omega))) (by first | omega | (simp only [List.length_append, List.length_cons, List.length_nil, List.length_map, List.length_set, List.length_replicate, Spec.bytesOf_length]; omega) | (simp; omega)) b82 (by omega) h154 (by assumption)
          rw [hs155v] at hs155; clear hs155v
          refine ⟨_, H156, hs155, ?_⟩
          have H156n : H151.next ≤ H156.next := hx157.1
          refine st_op (ev_int rfl rfl rfl) rfl rfl rfl ?_
          refine st_op (ev_pickF rfl rfl) rfl rfl rfl ?_
          try show aw _ _ _ _ _ _
          by_cases hc158 : (((0 : Int) + (([] : List Entry).length : Int)) != 0) = true
          ·
           refine aw_condT hc158 rfl ?_
           try show aw _ _ _ _ _ _
           have hc158 : ¬ (((0 : Int) + (([] : List Entry).length : Int)) = 0) := by simpa using hc158
           refine aw_seq ?_
           refine aw_reg ?_
           refine st_op (ev_assign rfl) rfl rfl rfl ?_
           try show aw _ _ _ _ _ _
           refine aw_ret ?_
           have hx159 : Ext H H156 := (Ext.trans (Ext.trans (Ext.trans (Ext.trans (Ext.then (Ext.trans (Ext.then (Ext.trans (Ext.trans (Ext.trans (Ext.then (Ext.then (Ext.then (Ext.then (Ext.then (Ext.trans hx6 hx13) hf30 (fun q hq e => by omega)) hf35 (fun q hq e => by omega)) hf40 (fun q hq e => by omega)) hf45 (fun q hq e => by omega)) hxl52 (fun q hq e => by omega)) hx72) hx78) hx85) hx94 (fun q hq e => by omega)) hx110) hf115 (fun q hq e => by omega)) hx134) hx143) hx152) hx157)
           have hres : true = false := by simp_all
           exact ⟨.bool false, rfl, by first | (rw [hres]; done) | rw [← hres], hx159⟩
          ·
           rw [Bool.not_eq_true] at hc158; refine aw_condF hc158 rfl ?_
           try show aw _ _ _ _ _ _
           have hc158 : (((0 : Int) + (([] : List Entry).length : Int)) = 0) := by simpa using hc158
           refine aw_skip ?_
           try show aw _ _ _ _ _ _
           refine aw_seq ?_
           refine aw_reg ?_
           refine st_op (ev_move rfl) rfl rfl rfl ?_
           refine st_op (ev_int rfl rfl rfl) rfl rfl rfl ?_
           refine st_op (ev_move rfl) rfl rfl rfl ?_
           refine st_op (ev_fieldAddr rfl fa40_0 (o' := 0) rfl) rfl rfl rfl ?_
           have hx161 : Ext H111 H156 := (Ext.trans (Ext.trans (Ext.trans hx134 hx143) hx152) hx157)
           have h160 := Ext.blk hx161 (by omega) hB113
           refine st_op (ev_load rfl (lvar_one one38 h160 rfl)) rfl rfl rfl ?_
           have hx163 : Ext H93 H156 := (Ext.trans (Ext.trans (Ext.trans (Ext.trans hx131 hx134) hx143) hx152) hx157)
           have h162 := My.ext hm97 hx163
           have hi164 : 0 ≤ (0 : Int) := by omega
           have hi165 : (0 : Int) < ((r103.length : Nat) : Int) := by first | omega | (simp only [List.length_append, List.length_cons, List.length_nil, List.length_map, List.length_set, List.length_replicate, Spec.bytesOf_length]; omega) | (simp; omega)
           obtain ⟨x166, hx167⟩ : ∃ e, r103[0]? = some e := ⟨_, List.getElem?_eq_getElem (by first | omega | (simp only [List.length_append, List.length_cons, List.length_nil, List.length_map, List.length_set, List.length_replicate, Spec.bytesOf_length]; omega) | (simp; omega))⟩
           have h169 := Each.ext hE101 hx163
           have hm168 : My H84 H156 x166.esA x166.esc 4 (x166.es.map Entry.cells) := Each.get h169 hx167
           have x166o := hq100 _ (List.mem_of_getElem? hx167)
           refine st_op (ev_at rfl rfl (My.row h162) (getMap MsgC.cells hx167) (by first | rfl | omega | simp) hi164 hi165 el38) rfl rfl rfl ?_
           refine st_op (ev_atF rfl (My.row h162) (getMap MsgC.cells hx167) fa26_3 rfl) rfl rfl rfl ?_
           refine st_op (ev_atL rfl (My.row h162) (getMap MsgC.cells hx167) one2 rfl) rfl rfl rfl ?_
           refine st_op (ev_int rfl rfl rfl) rfl rfl rfl ?_
           refine st_op (ev_move rfl) rfl rfl rfl ?_
           refine st_bool 105 rfl (fun hb170 => ?_) (fun hb170 => ?_)
           ·
            have hb170 := eq_of_beq hb170
            refine st_op (ev_fieldAddr rfl fa40_0 (o' := 0) rfl) rfl rfl rfl ?_
            refine st_op (ev_load rfl (lvar_one one38 h160 rfl)) rfl rfl rfl ?_
            have hi171 : 0 ≤ (0 : Int) := by omega
            have hi172 : (0 : Int) < ((r103.length : Nat) : Int) := by first | omega | (simp only [List.length_append, List.length_cons, List.length_nil, List.length_map, List.length_set, List.length_replicate, Spec.bytesOf_length]; omega) | (simp; omega)
            refine st_op (ev_at rfl rfl (My.row h162) (getMap MsgC.cells hx167) (by first | rfl | omega | simp) hi171 hi172 el38) rfl rfl rfl ?_
            refine st_op (ev_atF rfl (My.row h162) (getMap MsgC.cells hx167) fa26_7 rfl) rfl rfl rfl ?_
            refine st_op (ev_atL rfl (My.row h162) (getMap MsgC.cells hx167) one4 rfl) rfl rfl rfl ?_
            refine st_op (ev_not rfl) rfl rfl rfl ?_
            refine st_op (ev_pickT rfl rfl) rfl rfl rfl ?_
            refine st_op (ev_move rfl) rfl rfl rfl ?_
            refine st_bool 113 rfl (fun hb173 => ?_) (fun hb173 => ?_)
            ·
             replace hb173 : x166.yes = false := by rw [Bool.not_eq_true'] at hb173; exact hb173
             refine st_op (ev_fieldAddr rfl fa40_0 (o' := 0) rfl) rfl rfl rfl ?_
             refine st_op (ev_load rfl (lvar_one one38 h160 rfl)) rfl rfl rfl ?_
             have hi174 : 0 ≤ (0 : Int) := by omega
             have hi175 : (0 : Int) < ((r103.length : Nat) : Int) := by first | omega | (simp only [List.length_append, List.length_cons, List.length_nil, List.length_map, List.length_set, List.length_replicate, Spec.bytesOf_length]; omega) | (simp; omega)
             refine st_op (ev_at rfl rfl (My.row h162) (getMap MsgC.cells hx167) (by first | rfl | omega | simp) hi174 hi175 el38) rfl rfl rfl ?_
             refine st_op (ev_atF rfl (My.row h162) (getMap MsgC.cells hx167) fa26_2 rfl) rfl rfl rfl ?_
             refine st_op (ev_atL rfl (My.row h162) (getMap MsgC.cells hx167) one3 rfl) rfl rfl rfl ?_
             refine st_op (ev_int rfl rfl rfl) rfl rfl rfl ?_
             refine st_op (ev_pickT rfl rfl) rfl rfl rfl ?_
             refine st_op (ev_pickF rfl rfl) rfl rfl rfl ?_
             refine st_op (ev_assign rfl) rfl rfl rfl ?_
             try show aw _ _ _ _ _ _
             refine aw_ret ?_
             have hx176 : Ext H H156 := (Ext.trans (Ext.trans (Ext.trans (Ext.trans (Ext.then (Ext.trans (Ext.then (Ext.trans (Ext.trans (Ext.trans (Ext.then (Ext.then (Ext.then (Ext.then (Ext.then (Ext.trans hx6 hx13) hf30 (fun q hq e => by omega)) hf35 (fun q hq e => by omega)) hf40 (fun q hq e => by omega)) hf45 (fun q hq e => by omega)) hxl52 (fun q hq e => by omega)) hx72) hx78) hx85) hx94 (fun q hq e => by omega)) hx110) hf115 (fun q hq e => by omega)) hx134) hx143) hx152) hx157)
             have hres : true = (x166.to_ == 2) := by (symm; rw [beq_iff_eq]; omega)
             exact ⟨.bool (x166.to_ == 2), rfl, by first | (rw [hres]; done) | rw [← hres], hx176⟩
            ·
             replace hb173 : x166.yes = true := by rw [Bool.not_eq_false'] at hb173; exact hb173
             exact absurd (x166o.2.1.symm.trans hb173) (by decide)
           ·
            have hb170 := ne_of_beq_false hb170
            exfalso; omega
   ·
    have hb118 := ne_of_beq_false hb118
    refine st_op (ev_fieldAddr rfl fa26_0 (o' := 0) rfl) rfl rfl rfl ?_
    refine st_op (ev_load rfl (lvar_one one3 h116 rfl)) rfl rfl rfl ?_
    refine st_op (ev_int rfl rfl rfl) rfl rfl rfl ?_
    refine st_op (ev_pickF rfl rfl) rfl rfl rfl ?_
    refine st_op (ev_move rfl) rfl rfl rfl ?_
    refine st_bool 55 rfl (fun hb177 => ?_) (fun hb177 => ?_)
    ·
     have hb177 := eq_of_beq hb177
     iterate 3 refine st_skip rfl rfl rfl ?_
     refine st_op (ev_pickT rfl rfl) rfl rfl rfl ?_
     try show aw _ _ _ _ _ _
     refine aw_cond (t := true) rfl ?_
     try show aw _ _ _ _ _ _
     refine aw_reg ?_
     refine st_op (ev_assign rfl) rfl rfl rfl ?_
     try show aw _ _ _ _ _ _
     iterate 2 refine aw_seq ?_
     refine aw_reg ?_
     refine st_op (ev_fieldAddr rfl fa40_0 (o' := 0) rfl) rfl rfl rfl ?_
     refine st_op (ev_load rfl (lvar_one one38 hB113 rfl)) rfl rfl rfl ?_
     refine st_op (ev_lenSl rfl Tryz.underlying38) rfl rfl rfl ?_
     refine st_op (ev_move rfl) rfl rfl rfl ?_
     refine st_op (ev_int rfl rfl rfl) rfl rfl rfl ?_
     refine st_op (ev_move rfl) rfl rfl rfl ?_
     refine st_bool 65 rfl (fun hb178 => ?_) (fun hb178 => ?_)
     ·
      have hb178 : ¬ ((r103.length : Int) = 1) := by simpa using hb178
      exfalso; first | (have q := hq98 (by omega); omega) | (have q := hq99 (by omega); omega) | (simp_all; done)
     ·
      have hb178 : ((r103.length : Int) = 1) := by simpa using hb178
      refine st_op (ev_fieldAddr rfl fa40_1 (o' := 1) rfl) rfl rfl rfl ?_
      refine st_op (ev_load rfl (lvar_one one4 hB113 rfl)) rfl rfl rfl ?_
      refine st_op (ev_pickF rfl rfl) rfl rfl rfl ?_
      refine st_op (ev_move rfl) rfl rfl rfl ?_
      refine st_bool 69 rfl (fun hb179 => ?_) (fun hb179 => ?_)
      ·
       iterate 3 refine st_skip rfl rfl rfl ?_
       refine st_op (ev_pickT rfl rfl) rfl rfl rfl ?_
       refine st_op (ev_move rfl) rfl rfl rfl ?_
       iterate 2 refine st_skip rfl rfl rfl ?_
       refine st_op (ev_pickT rfl rfl) rfl rfl rfl ?_
       refine st_op (ev_move rfl) rfl rfl rfl ?_
       iterate 4 refine st_skip rfl rfl rfl ?_
       refine st_op (ev_pickT rfl rfl) rfl rfl rfl ?_
       refine st_op (ev_move rfl) rfl rfl rfl ?_
       iterate 4 refine st_skip rfl rfl rfl ?_
       refine st_op (ev_pickT rfl rfl) rfl rfl rfl ?_
       refine st_op (ev_move rfl) rfl rfl rfl ?_
       iterate 4 refine st_skip rfl rfl rfl ?_
       refine st_op (ev_pickT rfl rfl) rfl rfl rfl ?_
       try show aw _ _ _ _ _ _
       refine aw_cond (t := true) rfl ?_
       try show aw _ _ _ _ _ _
       refine aw_seq ?_
       refine aw_reg ?_
       refine st_op (ev_assign rfl) rfl rfl rfl ?_
       try show aw _ _ _ _ _ _
       refine aw_ret ?_
       have hx180 : Ext H H111 := (Ext.then (Ext.trans (Ext.then (Ext.trans (Ext.trans (Ext.trans (Ext.then (Ext.then (Ext.then (Ext.then (Ext.then (Ext.trans hx6 hx13) hf30 (fun q hq e => by omega)) hf35 (fun q hq e => by omega)) hf40 (fun q hq e => by omega)) hf45 (fun q hq e => by omega)) hxl52 (fun q hq e => by omega)) hx72) hx78) hx85) hx94 (fun q hq e => by omega)) hx110) hf115 (fun q hq e => by omega))
       have hres : true = false := by simp_all
       exact ⟨.bool false, rfl, by first | (rw [hres]; done) | rw [← hres], hx180⟩
      ·
       refine st_op (ev_fieldAddr rfl fa40_2 (o' := 2) rfl) rfl rfl rfl ?_
       refine st_op (ev_load rfl (lvar_one one2 hB113 rfl)) rfl rfl rfl ?_
       refine st_op (ev_int rfl rfl rfl) rfl rfl rfl ?_
       refine st_op (ev_pickF rfl rfl) rfl rfl rfl ?_
       refine st_op (ev_move rfl) rfl rfl rfl ?_
       refine st_bool 74 rfl (fun hb181 => ?_) (fun hb181 => ?_)
       ·
        have hb181 : ¬ ((0 : Int) = 0) := by simpa using hb181
        iterate 2 refine st_skip rfl rfl rfl ?_
        refine st_op (ev_pickT rfl rfl) rfl rfl rfl ?_
        refine st_op (ev_move rfl) rfl rfl rfl ?_
        iterate 4 refine st_skip rfl rfl rfl ?_
        refine st_op (ev_pickT rfl rfl) rfl rfl rfl ?_
        refine st_op (ev_move rfl) rfl rfl rfl ?_
        iterate 4 refine st_skip rfl rfl rfl ?_
        refine st_op (ev_pickT rfl rfl) rfl rfl rfl ?_
        refine st_op (ev_move rfl) rfl rfl rfl ?_
        iterate 4 refine st_skip rfl rfl rfl ?_
        refine st_op (ev_pickT rfl rfl) rfl rfl rfl ?_
        try show aw _ _ _ _ _ _
        refine aw_cond (t := true) rfl ?_
        try show aw _ _ _ _ _ _
        refine aw_seq ?_
        refine aw_reg ?_
        refine st_op (ev_assign rfl) rfl rfl rfl ?_
        try show aw _ _ _ _ _ _
        refine aw_ret ?_
        have hx182 : Ext H H111 := (Ext.then (Ext.trans (Ext.then (Ext.trans (Ext.trans (Ext.trans (Ext.then (Ext.then (Ext.then (Ext.then (Ext.then (Ext.trans hx6 hx13) hf30 (fun q hq e => by omega)) hf35 (fun q hq e => by omega)) hf40 (fun q hq e => by omega)) hf45 (fun q hq e => by omega)) hxl52 (fun q hq e => by omega)) hx72) hx78) hx85) hx94 (fun q hq e => by omega)) hx110) hf115 (fun q hq e => by omega))
        have hres : true = false := by simp_all
        exact ⟨.bool false, rfl, by first | (rw [hres]; done) | rw [← hres], hx182⟩
       ·
        have hb181 : ((0 : Int) = 0) := by simpa using hb181
        refine st_op (ev_fieldAddr rfl fa40_3 (o' := 3) rfl) rfl rfl rfl ?_
        refine st_op (ev_load rfl (lvar_one one4 hB113 rfl)) rfl rfl rfl ?_
        refine st_op (ev_pickF rfl rfl) rfl rfl rfl ?_
        refine st_op (ev_move rfl) rfl rfl rfl ?_
        refine st_bool 78 rfl (fun hb183 => ?_) (fun hb183 => ?_)
        ·
         iterate 4 refine st_skip rfl rfl rfl ?_
         refine st_op (ev_pickT rfl rfl) rfl rfl rfl ?_
         refine st_op (ev_move rfl) rfl rfl rfl ?_
         iterate 4 refine st_skip rfl rfl rfl ?_
         refine st_op (ev_pickT rfl rfl) rfl rfl rfl ?_
         refine st_op (ev_move rfl) rfl rfl rfl ?_
         iterate 4 refine st_skip rfl rfl rfl ?_
         refine st_op (ev_pickT rfl rfl) rfl rfl rfl ?_
         try show aw _ _ _ _ _ _
         refine aw_cond (t := true) rfl ?_
         try show aw _ _ _ _ _ _
         refine aw_seq ?_
         refine aw_reg ?_
         refine st_op (ev_assign rfl) rfl rfl rfl ?_
         try show aw _ _ _ _ _ _
         refine aw_ret ?_
         have hx184 : Ext H H111 := (Ext.then (Ext.trans (Ext.then (Ext.trans (Ext.trans (Ext.trans (Ext.then (Ext.then (Ext.then (Ext.then (Ext.then (Ext.trans hx6 hx13) hf30 (fun q hq e => by omega)) hf35 (fun q hq e => by omega)) hf40 (fun q hq e => by omega)) hf45 (fun q hq e => by omega)) hxl52 (fun q hq e => by omega)) hx72) hx78) hx85) hx94 (fun q hq e => by omega)) hx110) hf115 (fun q hq e => by omega))
         have hres : true = false := by simp_all
         exact ⟨.bool false, rfl, by first | (rw [hres]; done) | rw [← hres], hx184⟩
        ·
         refine st_op (ev_move rfl) rfl rfl rfl ?_
         refine st_call rfl rfl rfl ent16 rfl rfl rfl ?_
         have hx186 : Ext H77 H111 := (Ext.then (Ext.trans (Ext.then hx85 hx94 (fun q hq e => by omega)) hx110) hf115 (fun q hq e => by omega))
         have h185 := My.ext hm81 hx186
         have h187 := Ext.blk hx186 (by omega) b82B
         have hm188 : My H111 H111 none 0 13 (([] : List MsgC).map MsgC.cells) := .nil
         have hx190 : Ext H93 H111 := (Ext.then hx110 hf115 (fun q hq e => by omega))
         have h189 := Ext.blk hx190 (by omega) hB102
         obtain ⟨_, H192, hs191, hs191v, hx193⟩ := raft_Hard_spec H111 (1 : Int) ⟨by omega, by omega⟩ (5 : Int) (3 : Int) (0 : Int) ⟨by omega, by omega⟩ (0 : Int) (⟨#[49, 50, 51]⟩ : ByteArray) (by decide) (⟨#[]⟩ : ByteArray) A79 ([] : List Entry) c80 (My.row h185) (My.capF h185 (by first | omega | (simp only [List.length_append, List.length_cons, List.length_nil, List.length_map, List.length_set, List.length_replicate, Spec.bytesOf_length]; omega) | (simp; omega))) (by first | omega | (simp only [List.length_append, List.length_cons, List.length_nil, List.length_map, List.length_set, List.length_replicate, Spec.bytesOf_length]; omega) | (simp; omega)) b82 (by omega) h187 (by assumption) (0 : Int) (0 : Int) (0 : Int) false   H111 none ([] : List MsgC) 0 hm188 (by omega) (by first | omega | (simp only [List.length_append, List.length_cons, List.length_nil, List.length_map, List.length_set, List.length_replicate, Spec.bytesOf_length]; omega) | (simp; omega)) H111 (Each.nil (S := MsgC.sub) (H0 := H111) (H := H111)) (by omega) false (0 : Int) false b86 (by omega) h189 (by omega)
         rw [hs191v] at hs191; clear hs191v
         refine ⟨_, H192, hs191, ?_⟩
         have H192n : H111.next ≤ H192.next := hx193.1
         refine st_op (ev_fieldF fd35_0 rfl rfl) rfl rfl rfl ?_
         refine st_op (ev_int rfl rfl rfl) rfl rfl rfl ?_
         refine st_op (ev_pickF rfl rfl) rfl rfl rfl ?_
         refine st_op (ev_move rfl) rfl rfl rfl ?_
         refine st_bool 84 rfl (fun hb194 => ?_) (fun hb194 => ?_)
         ·
          have hb194 : ¬ ((5 : Int) = 5) := by simpa using hb194
          iterate 4 refine st_skip rfl rfl rfl ?_
          refine st_op (ev_pickT rfl rfl) rfl rfl rfl ?_
          refine st_op (ev_move rfl) rfl rfl rfl ?_
          iterate 4 refine st_skip rfl rfl rfl ?_
          refine st_op (ev_pickT rfl rfl) rfl rfl rfl ?_
          try show aw _ _ _ _ _ _
          refine aw_cond (t := true) rfl ?_
          try show aw _ _ _ _ _ _
          refine aw_seq ?_
          refine aw_reg ?_
          refine st_op (ev_assign rfl) rfl rfl rfl ?_
          try show aw _ _ _ _ _ _
          refine aw_ret ?_
          have hx195 : Ext H H192 := (Ext.trans (Ext.then (Ext.trans (Ext.then (Ext.trans (Ext.trans (Ext.trans (Ext.then (Ext.then (Ext.then (Ext.then (Ext.then (Ext.trans hx6 hx13) hf30 (fun q hq e => by omega)) hf35 (fun q hq e => by omega)) hf40 (fun q hq e => by omega)) hf45 (fun q hq e => by omega)) hxl52 (fun q hq e => by omega)) hx72) hx78) hx85) hx94 (fun q hq e => by omega)) hx110) hf115 (fun q hq e => by omega)) hx193)
          have hres : true = false := by simp_all
          exact ⟨.bool false, rfl, by first | (rw [hres]; done) | rw [← hres], hx195⟩
         ·
          have hb194 : ((5 : Int) = 5) := by simpa using hb194
          refine st_op (ev_move rfl) rfl rfl rfl ?_
          refine st_call rfl rfl rfl ent16 rfl rfl rfl ?_
          have h196 := My.ext h185 hx193
          have h197 := Ext.blk hx193 (by omega) h187
          have hm198 : My H192 H192 none 0 13 (([] : List MsgC).map MsgC.cells) := .nil
          have h199 := Ext.blk hx193 (by omega) h189
          obtain ⟨_, H201, hs200, hs200v, hx202⟩ := raft_Hard_spec H192 (1 : Int) ⟨by omega, by omega⟩ (5 : Int) (3 : Int) (0 : Int) ⟨by omega, by omega⟩ (0 : Int) (⟨#[49, 50, 51]⟩ : ByteArray) (by decide) (⟨#[]⟩ : ByteArray) A79 ([] : List Entry) c80 (My.row h196) (My.capF h196 (by first | omega | (simp only [List.length_append, List.length_cons, List.length_nil, List.length_map, List.length_set, List.length_replicate, Spec.bytesOf_length]; omega) | (simp; omega))) (by first | omega | (simp only [List.length_append, List.length_cons, List.length_nil, List.length_map, List.length_set, List.length_replicate, Spec.bytesOf_length]; omega) | (simp; omega)) b82 (by omega) h197 (by assumption) (0 : Int) (0 : Int) (0 : Int) false   H192 none ([] : List MsgC) 0 hm198 (by omega) (by first | omega | (simp only [List.length_append, List.length_cons, List.length_nil, List.length_map, List.length_set, List.length_replicate, Spec.bytesOf_length]; omega) | (simp; omega)) H192 (Each.nil (S := MsgC.sub) (H0 := H192) (H := H192)) (by omega) false (0 : Int) false b86 (by omega) h199 (by omega)
          rw [hs200v] at hs200; clear hs200v
          refine ⟨_, H201, hs200, ?_⟩
          have H201n : H192.next ≤ H201.next := hx202.1
          refine st_op (ev_fieldF fd35_1 rfl rfl) rfl rfl rfl ?_
          refine st_op (ev_int rfl rfl rfl) rfl rfl rfl ?_
          refine st_op (ev_pickF rfl rfl) rfl rfl rfl ?_
          refine st_op (ev_move rfl) rfl rfl rfl ?_
          refine st_bool 90 rfl (fun hb203 => ?_) (fun hb203 => ?_)
          ·
           have hb203 : ¬ ((3 : Int) = 3) := by simpa using hb203
           iterate 4 refine st_skip rfl rfl rfl ?_
           refine st_op (ev_pickT rfl rfl) rfl rfl rfl ?_
           try show aw _ _ _ _ _ _
           refine aw_cond (t := true) rfl ?_
           try show aw _ _ _ _ _ _
           refine aw_seq ?_
           refine aw_reg ?_
           refine st_op (ev_assign rfl) rfl rfl rfl ?_
           try show aw _ _ _ _ _ _
           refine aw_ret ?_
           have hx204 : Ext H H201 := (Ext.trans (Ext.trans (Ext.then (Ext.trans (Ext.then (Ext.trans (Ext.trans (Ext.trans (Ext.then (Ext.then (Ext.then (Ext.then (Ext.then (Ext.trans hx6 hx13) hf30 (fun q hq e => by omega)) hf35 (fun q hq e => by omega)) hf40 (fun q hq e => by omega)) hf45 (fun q hq e => by omega)) hxl52 (fun q hq e => by omega)) hx72) hx78) hx85) hx94 (fun q hq e => by omega)) hx110) hf115 (fun q hq e => by omega)) hx193) hx202)
           have hres : true = false := by simp_all
           exact ⟨.bool false, rfl, by first | (rw [hres]; done) | rw [← hres], hx204⟩
          ·
           have hb203 : ((3 : Int) = 3) := by simpa using hb203
           refine st_op (ev_move rfl) rfl rfl rfl ?_
           refine st_call rfl rfl rfl ent17 rfl rfl rfl ?_
           have h205 := My.ext h196 hx202
           have h206 := Ext.blk hx202 (by omega) h197
           have hm207 : My H201 H201 none 0 13 (([] : List MsgC).map MsgC.cells) := .nil
           have h208 := Ext.blk hx202 (by omega) h199
           obtain ⟨_, H210, hs209, hs209v, hx211⟩ := raft_Log_spec H201 (1 : Int) ⟨by omega, by omega⟩ (5 : Int) (3 : Int) (0 : Int) ⟨by omega, by omega⟩ (0 : Int) (⟨#[49, 50, 51]⟩ : ByteArray) (by decide) (⟨#[]⟩ : ByteArray) A79 ([] : List Entry) c80 (My.row h205) (My.capF h205 (by first | omega | (simp only [List.length_append, List.length_cons, List.length_nil, List.length_map, List.length_set, List.length_replicate, Spec.bytesOf_length]; omega) | (simp; omega))) (by first | omega | (simp only [List.length_append, List.length_cons, List.length_nil, List.length_map, List.length_set, List.length_replicate, Spec.bytesOf_length]; omega) | (simp; omega)) b82 (by omega) h206 (by assumption) (0 : Int) (0 : Int) (0 : Int) false   H201 none ([] : List MsgC) 0 hm207 (by omega) (by first | omega | (simp only [List.length_append, List.length_cons, List.length_nil, List.length_map, List.length_set, List.length_replicate, Spec.bytesOf_length]; omega) | (simp; omega)) H201 (Each.nil (S := MsgC.sub) (H0 := H201) (H := H201)) (by omega) false (0 : Int) false b86 (by omega) h208 (by omega)
           rw [hs209v] at hs209; clear hs209v
           refine ⟨_, H210, hs209, ?_⟩
           have H210n : H201.next ≤ H210.next := hx211.1
           refine st_call rfl rfl rfl ent18 rfl rfl rfl ?_
           have h212 := My.ext h205 hx211
           have h213 := Ext.blk hx211 (by omega) h206
           obtain ⟨_, H215, hs214, hs214v, hx216⟩ := rlog_Last_spec H210 (0 : Int) ⟨by omega, by omega⟩ (0 : Int) (⟨#[49, 50, 51]⟩ : ByteArray) (by decide) (⟨#[]⟩ : ByteArray) A79 ([] : List Entry) c80 (My.row h212) (My.capF h212 (by first | omega | (simp only [List.length_append, List.length_cons, List.length_nil, List.length_map, List.length_set, List.length_replicate, Spec.bytesOf_length]; omega) | (simp; omega))) (by first | omega | (simp only [List.length_append, List.length_cons, List.length_nil, List.length_map, List.length_set, List.length_replicate, Spec.bytesOf_length]; omega) | (simp; omega)) b82 (by omega) h213 (by assumption)
           rw [hs214v] at hs214; clear hs214v
           refine ⟨_, H215, hs214, ?_⟩
           have H215n : H210.next ≤ H215.next := hx216.1
           refine st_op (ev_int rfl rfl rfl) rfl rfl rfl ?_
           refine st_op (ev_pickF rfl rfl) rfl rfl rfl ?_
           try show aw _ _ _ _ _ _
           by_cases hc217 : (((0 : Int) + (([] : List Entry).length : Int)) != 0) = true
           ·
            refine aw_condT hc217 rfl ?_
            try show aw _ _ _ _ _ _
            have hc217 : ¬ (((0 : Int) + (([] : List Entry).length : Int)) = 0) := by simpa using hc217
            refine aw_seq ?_
            refine aw_reg ?_
            refine st_op (ev_assign rfl) rfl rfl rfl ?_
            try show aw _ _ _ _ _ _
            refine aw_ret ?_
            have hx218 : Ext H H215 := (Ext.trans (Ext.trans (Ext.trans (Ext.trans (Ext.then (Ext.trans (Ext.then (Ext.trans (Ext.trans (Ext.trans (Ext.then (Ext.then (Ext.then (Ext.then (Ext.then (Ext.trans hx6 hx13) hf30 (fun q hq e => by omega)) hf35 (fun q hq e => by omega)) hf40 (fun q hq e => by omega)) hf45 (fun q hq e => by omega)) hxl52 (fun q hq e => by omega)) hx72) hx78) hx85) hx94 (fun q hq e => by omega)) hx110) hf115 (fun q hq e => by omega)) hx193) hx202) hx211) hx216)
            have hres : true = false := by simp_all
            exact ⟨.bool false, rfl, by first | (rw [hres]; done) | rw [← hres], hx218⟩
           ·
            rw [Bool.not_eq_true] at hc217; refine aw_condF hc217 rfl ?_
            try show aw _ _ _ _ _ _
            have hc217 : (((0 : Int) + (([] : List Entry).length : Int)) = 0) := by simpa using hc217
            refine aw_skip ?_
            try show aw _ _ _ _ _ _
            refine aw_seq ?_
            refine aw_reg ?_
            refine st_op (ev_move rfl) rfl rfl rfl ?_
            refine st_op (ev_int rfl rfl rfl) rfl rfl rfl ?_
            refine st_op (ev_move rfl) rfl rfl rfl ?_
            refine st_op (ev_fieldAddr rfl fa40_0 (o' := 0) rfl) rfl rfl rfl ?_
            have hx220 : Ext H111 H215 := (Ext.trans (Ext.trans (Ext.trans hx193 hx202) hx211) hx216)
            have h219 := Ext.blk hx220 (by omega) hB113
            refine st_op (ev_load rfl (lvar_one one38 h219 rfl)) rfl rfl rfl ?_
            have hx222 : Ext H93 H215 := (Ext.trans (Ext.trans (Ext.trans (Ext.trans hx190 hx193) hx202) hx211) hx216)
            have h221 := My.ext hm97 hx222
            have hi223 : 0 ≤ (0 : Int) := by omega
            have hi224 : (0 : Int) < ((r103.length : Nat) : Int) := by first | omega | (simp only [List.length_append, List.length_cons, List.length_nil, List.length_map, List.length_set, List.length_replicate, Spec.bytesOf_length]; omega) | (simp; omega)
            obtain ⟨x225, hx226⟩ : ∃ e, r103[0]? = some e := ⟨_, List.getElem?_eq_getElem (by first | omega | (simp only [List.length_append, List.length_cons, List.length_nil, List.length_map, List.length_set, List.length_replicate, Spec.bytesOf_length]; omega) | (simp; omega))⟩
            have h228 := Each.ext hE101 hx222
            have hm227 : My H84 H215 x225.esA x225.esc 4 (x225.es.map Entry.cells) := Each.get h228 hx226
            have x225o := hq100 _ (List.mem_of_getElem? hx226)
            refine st_op (ev_at rfl rfl (My.row h221) (getMap MsgC.cells hx226) (by first | rfl | omega | simp) hi223 hi224 el38) rfl rfl rfl ?_
            refine st_op (ev_atF rfl (My.row h221) (getMap MsgC.cells hx226) fa26_3 rfl) rfl rfl rfl ?_
            refine st_op (ev_atL rfl (My.row h221) (getMap MsgC.cells hx226) one2 rfl) rfl rfl rfl ?_
            refine st_op (ev_int rfl rfl rfl) rfl rfl rfl ?_
            refine st_op (ev_move rfl) rfl rfl rfl ?_
            refine st_bool 105 rfl (fun hb229 => ?_) (fun hb229 => ?_)
            ·
             have hb229 := eq_of_beq hb229
             refine st_op (ev_fieldAddr rfl fa40_0 (o' := 0) rfl) rfl rfl rfl ?_
             refine st_op (ev_load rfl (lvar_one one38 h219 rfl)) rfl rfl rfl ?_
             have hi230 : 0 ≤ (0 : Int) := by omega
             have hi231 : (0 : Int) < ((r103.length : Nat) : Int) := by first | omega | (simp only [List.length_append, List.length_cons, List.length_nil, List.length_map, List.length_set, List.length_replicate, Spec.bytesOf_length]; omega) | (simp; omega)
             refine st_op (ev_at rfl rfl (My.row h221) (getMap MsgC.cells hx226) (by first | rfl | omega | simp) hi230 hi231 el38) rfl rfl rfl ?_
             refine st_op (ev_atF rfl (My.row h221) (getMap MsgC.cells hx226) fa26_7 rfl) rfl rfl rfl ?_
             refine st_op (ev_atL rfl (My.row h221) (getMap MsgC.cells hx226) one4 rfl) rfl rfl rfl ?_
             refine st_op (ev_not rfl) rfl rfl rfl ?_
             refine st_op (ev_pickT rfl rfl) rfl rfl rfl ?_
             refine st_op (ev_move rfl) rfl rfl rfl ?_
             refine st_bool 113 rfl (fun hb232 => ?_) (fun hb232 => ?_)
             ·
              replace hb232 : x225.yes = false := by rw [Bool.not_eq_true'] at hb232; exact hb232
              refine st_op (ev_fieldAddr rfl fa40_0 (o' := 0) rfl) rfl rfl rfl ?_
              refine st_op (ev_load rfl (lvar_one one38 h219 rfl)) rfl rfl rfl ?_
              have hi233 : 0 ≤ (0 : Int) := by omega
              have hi234 : (0 : Int) < ((r103.length : Nat) : Int) := by first | omega | (simp only [List.length_append, List.length_cons, List.length_nil, List.length_map, List.length_set, List.length_replicate, Spec.bytesOf_length]; omega) | (simp; omega)
              refine st_op (ev_at rfl rfl (My.row h221) (getMap MsgC.cells hx226) (by first | rfl | omega | simp) hi233 hi234 el38) rfl rfl rfl ?_
              refine st_op (ev_atF rfl (My.row h221) (getMap MsgC.cells hx226) fa26_2 rfl) rfl rfl rfl ?_
              refine st_op (ev_atL rfl (My.row h221) (getMap MsgC.cells hx226) one3 rfl) rfl rfl rfl ?_
              refine st_op (ev_int rfl rfl rfl) rfl rfl rfl ?_
              refine st_op (ev_pickT rfl rfl) rfl rfl rfl ?_
              refine st_op (ev_pickF rfl rfl) rfl rfl rfl ?_
              refine st_op (ev_assign rfl) rfl rfl rfl ?_
              try show aw _ _ _ _ _ _
              refine aw_ret ?_
              have hx235 : Ext H H215 := (Ext.trans (Ext.trans (Ext.trans (Ext.trans (Ext.then (Ext.trans (Ext.then (Ext.trans (Ext.trans (Ext.trans (Ext.then (Ext.then (Ext.then (Ext.then (Ext.then (Ext.trans hx6 hx13) hf30 (fun q hq e => by omega)) hf35 (fun q hq e => by omega)) hf40 (fun q hq e => by omega)) hf45 (fun q hq e => by omega)) hxl52 (fun q hq e => by omega)) hx72) hx78) hx85) hx94 (fun q hq e => by omega)) hx110) hf115 (fun q hq e => by omega)) hx193) hx202) hx211) hx216)
              have hres : true = (x225.to_ == 2) := by (symm; rw [beq_iff_eq]; omega)
              exact ⟨.bool (x225.to_ == 2), rfl, by first | (rw [hres]; done) | rw [← hres], hx235⟩
             ·
              replace hb232 : x225.yes = true := by rw [Bool.not_eq_false'] at hb232; exact hb232
              exact absurd (x225o.2.1.symm.trans hb232) (by decide)
            ·
             have hb229 := ne_of_beq_false hb229
             exfalso; omega
    ·
     have hb177 := ne_of_beq_false hb177
     refine st_op (ev_fieldAddr rfl fa26_0 (o' := 0) rfl) rfl rfl rfl ?_
     refine st_op (ev_load rfl (lvar_one one3 h116 rfl)) rfl rfl rfl ?_
     refine st_op (ev_int rfl rfl rfl) rfl rfl rfl ?_
     refine st_op (ev_pickF rfl rfl) rfl rfl rfl ?_
     try show aw _ _ _ _ _ _
     by_cases hc236 : (kind == 5) = true
     ·
      refine aw_condT hc236 rfl ?_
      try show aw _ _ _ _ _ _
      have hc236 := eq_of_beq hc236
      refine aw_reg ?_
      refine st_op (ev_assign rfl) rfl rfl rfl ?_
      try show aw _ _ _ _ _ _
      iterate 2 refine aw_seq ?_
      refine aw_reg ?_
      refine st_op (ev_fieldAddr rfl fa40_0 (o' := 0) rfl) rfl rfl rfl ?_
      refine st_op (ev_load rfl (lvar_one one38 hB113 rfl)) rfl rfl rfl ?_
      refine st_op (ev_lenSl rfl Tryz.underlying38) rfl rfl rfl ?_
      refine st_op (ev_move rfl) rfl rfl rfl ?_
      refine st_op (ev_int rfl rfl rfl) rfl rfl rfl ?_
      refine st_op (ev_move rfl) rfl rfl rfl ?_
      refine st_bool 65 rfl (fun hb237 => ?_) (fun hb237 => ?_)
      ·
       have hb237 : ¬ ((r103.length : Int) = 1) := by simpa using hb237
       exfalso; first | (have q := hq98 (by omega); omega) | (have q := hq99 (by omega); omega) | (simp_all; done)
      ·
       have hb237 : ((r103.length : Int) = 1) := by simpa using hb237
       refine st_op (ev_fieldAddr rfl fa40_1 (o' := 1) rfl) rfl rfl rfl ?_
       refine st_op (ev_load rfl (lvar_one one4 hB113 rfl)) rfl rfl rfl ?_
       refine st_op (ev_pickF rfl rfl) rfl rfl rfl ?_
       refine st_op (ev_move rfl) rfl rfl rfl ?_
       refine st_bool 69 rfl (fun hb238 => ?_) (fun hb238 => ?_)
       ·
        iterate 3 refine st_skip rfl rfl rfl ?_
        refine st_op (ev_pickT rfl rfl) rfl rfl rfl ?_
        refine st_op (ev_move rfl) rfl rfl rfl ?_
        iterate 2 refine st_skip rfl rfl rfl ?_
        refine st_op (ev_pickT rfl rfl) rfl rfl rfl ?_
        refine st_op (ev_move rfl) rfl rfl rfl ?_
        iterate 4 refine st_skip rfl rfl rfl ?_
        refine st_op (ev_pickT rfl rfl) rfl rfl rfl ?_
        refine st_op (ev_move rfl) rfl rfl rfl ?_
        iterate 4 refine st_skip rfl rfl rfl ?_
        refine st_op (ev_pickT rfl rfl) rfl rfl rfl ?_
        refine st_op (ev_move rfl) rfl rfl rfl ?_
        iterate 4 refine st_skip rfl rfl rfl ?_
        refine st_op (ev_pickT rfl rfl) rfl rfl rfl ?_
        try show aw _ _ _ _ _ _
        refine aw_cond (t := true) rfl ?_
        try show aw _ _ _ _ _ _
        refine aw_seq ?_
        refine aw_reg ?_
        refine st_op (ev_assign rfl) rfl rfl rfl ?_
        try show aw _ _ _ _ _ _
        refine aw_ret ?_
        have hx239 : Ext H H111 := (Ext.then (Ext.trans (Ext.then (Ext.trans (Ext.trans (Ext.trans (Ext.then (Ext.then (Ext.then (Ext.then (Ext.then (Ext.trans hx6 hx13) hf30 (fun q hq e => by omega)) hf35 (fun q hq e => by omega)) hf40 (fun q hq e => by omega)) hf45 (fun q hq e => by omega)) hxl52 (fun q hq e => by omega)) hx72) hx78) hx85) hx94 (fun q hq e => by omega)) hx110) hf115 (fun q hq e => by omega))
        have hres : true = false := by simp_all
        exact ⟨.bool false, rfl, by first | (rw [hres]; done) | rw [← hres], hx239⟩
       ·
        refine st_op (ev_fieldAddr rfl fa40_2 (o' := 2) rfl) rfl rfl rfl ?_
        refine st_op (ev_load rfl (lvar_one one2 hB113 rfl)) rfl rfl rfl ?_
        refine st_op (ev_int rfl rfl rfl) rfl rfl rfl ?_
        refine st_op (ev_pickF rfl rfl) rfl rfl rfl ?_
        refine st_op (ev_move rfl) rfl rfl rfl ?_
        refine st_bool 74 rfl (fun hb240 => ?_) (fun hb240 => ?_)
        ·
         have hb240 : ¬ ((0 : Int) = 0) := by simpa using hb240
         iterate 2 refine st_skip rfl rfl rfl ?_
         refine st_op (ev_pickT rfl rfl) rfl rfl rfl ?_
         refine st_op (ev_move rfl) rfl rfl rfl ?_
         iterate 4 refine st_skip rfl rfl rfl ?_
         refine st_op (ev_pickT rfl rfl) rfl rfl rfl ?_
         refine st_op (ev_move rfl) rfl rfl rfl ?_
         iterate 4 refine st_skip rfl rfl rfl ?_
         refine st_op (ev_pickT rfl rfl) rfl rfl rfl ?_
         refine st_op (ev_move rfl) rfl rfl rfl ?_
         iterate 4 refine st_skip rfl rfl rfl ?_
         refine st_op (ev_pickT rfl rfl) rfl rfl rfl ?_
         try show aw _ _ _ _ _ _
         refine aw_cond (t := true) rfl ?_
         try show aw _ _ _ _ _ _
         refine aw_seq ?_
         refine aw_reg ?_
         refine st_op (ev_assign rfl) rfl rfl rfl ?_
         try show aw _ _ _ _ _ _
         refine aw_ret ?_
         have hx241 : Ext H H111 := (Ext.then (Ext.trans (Ext.then (Ext.trans (Ext.trans (Ext.trans (Ext.then (Ext.then (Ext.then (Ext.then (Ext.then (Ext.trans hx6 hx13) hf30 (fun q hq e => by omega)) hf35 (fun q hq e => by omega)) hf40 (fun q hq e => by omega)) hf45 (fun q hq e => by omega)) hxl52 (fun q hq e => by omega)) hx72) hx78) hx85) hx94 (fun q hq e => by omega)) hx110) hf115 (fun q hq e => by omega))
         have hres : true = false := by simp_all
         exact ⟨.bool false, rfl, by first | (rw [hres]; done) | rw [← hres], hx241⟩
        ·
         have hb240 : ((0 : Int) = 0) := by simpa using hb240
         refine st_op (ev_fieldAddr rfl fa40_3 (o' := 3) rfl) rfl rfl rfl ?_
         refine st_op (ev_load rfl (lvar_one one4 hB113 rfl)) rfl rfl rfl ?_
         refine st_op (ev_pickF rfl rfl) rfl rfl rfl ?_
         refine st_op (ev_move rfl) rfl rfl rfl ?_
         refine st_bool 78 rfl (fun hb242 => ?_) (fun hb242 => ?_)
         ·
          iterate 4 refine st_skip rfl rfl rfl ?_
          refine st_op (ev_pickT rfl rfl) rfl rfl rfl ?_
          refine st_op (ev_move rfl) rfl rfl rfl ?_
          iterate 4 refine st_skip rfl rfl rfl ?_
          refine st_op (ev_pickT rfl rfl) rfl rfl rfl ?_
          refine st_op (ev_move rfl) rfl rfl rfl ?_
          iterate 4 refine st_skip rfl rfl rfl ?_
          refine st_op (ev_pickT rfl rfl) rfl rfl rfl ?_
          try show aw _ _ _ _ _ _
          refine aw_cond (t := true) rfl ?_
          try show aw _ _ _ _ _ _
          refine aw_seq ?_
          refine aw_reg ?_
          refine st_op (ev_assign rfl) rfl rfl rfl ?_
          try show aw _ _ _ _ _ _
          refine aw_ret ?_
          have hx243 : Ext H H111 := (Ext.then (Ext.trans (Ext.then (Ext.trans (Ext.trans (Ext.trans (Ext.then (Ext.then (Ext.then (Ext.then (Ext.then (Ext.trans hx6 hx13) hf30 (fun q hq e => by omega)) hf35 (fun q hq e => by omega)) hf40 (fun q hq e => by omega)) hf45 (fun q hq e => by omega)) hxl52 (fun q hq e => by omega)) hx72) hx78) hx85) hx94 (fun q hq e => by omega)) hx110) hf115 (fun q hq e => by omega))
          have hres : true = false := by simp_all
          exact ⟨.bool false, rfl, by first | (rw [hres]; done) | rw [← hres], hx243⟩
         ·
          refine st_op (ev_move rfl) rfl rfl rfl ?_
          refine st_call rfl rfl rfl ent16 rfl rfl rfl ?_
          have hx245 : Ext H77 H111 := (Ext.then (Ext.trans (Ext.then hx85 hx94 (fun q hq e => by omega)) hx110) hf115 (fun q hq e => by omega))
          have h244 := My.ext hm81 hx245
          have h246 := Ext.blk hx245 (by omega) b82B
          have hm247 : My H111 H111 none 0 13 (([] : List MsgC).map MsgC.cells) := .nil
          have hx249 : Ext H93 H111 := (Ext.then hx110 hf115 (fun q hq e => by omega))
          have h248 := Ext.blk hx249 (by omega) hB102
          obtain ⟨_, H251, hs250, hs250v, hx252⟩ := raft_Hard_spec H111 (1 : Int) ⟨by omega, by omega⟩ (5 : Int) (3 : Int) (0 : Int) ⟨by omega, by omega⟩ (0 : Int) (⟨#[49, 50, 51]⟩ : ByteArray) (by decide) (⟨#[]⟩ : ByteArray) A79 ([] : List Entry) c80 (My.row h244) (My.capF h244 (by first | omega | (simp only [List.length_append, List.length_cons, List.length_nil, List.length_map, List.length_set, List.length_replicate, Spec.bytesOf_length]; omega) | (simp; omega))) (by first | omega | (simp only [List.length_append, List.length_cons, List.length_nil, List.length_map, List.length_set, List.length_replicate, Spec.bytesOf_length]; omega) | (simp; omega)) b82 (by omega) h246 (by assumption) (0 : Int) (0 : Int) (0 : Int) false   H111 none ([] : List MsgC) 0 hm247 (by omega) (by first | omega | (simp only [List.length_append, List.length_cons, List.length_nil, List.length_map, List.length_set, List.length_replicate, Spec.bytesOf_length]; omega) | (simp; omega)) H111 (Each.nil (S := MsgC.sub) (H0 := H111) (H := H111)) (by omega) false (0 : Int) false b86 (by omega) h248 (by omega)
          rw [hs250v] at hs250; clear hs250v
          refine ⟨_, H251, hs250, ?_⟩
          have H251n : H111.next ≤ H251.next := hx252.1
          refine st_op (ev_fieldF fd35_0 rfl rfl) rfl rfl rfl ?_
          refine st_op (ev_int rfl rfl rfl) rfl rfl rfl ?_
          refine st_op (ev_pickF rfl rfl) rfl rfl rfl ?_
          refine st_op (ev_move rfl) rfl rfl rfl ?_
          refine st_bool 84 rfl (fun hb253 => ?_) (fun hb253 => ?_)
          ·
           have hb253 : ¬ ((5 : Int) = 5) := by simpa using hb253
           iterate 4 refine st_skip rfl rfl rfl ?_
           refine st_op (ev_pickT rfl rfl) rfl rfl rfl ?_
           refine st_op (ev_move rfl) rfl rfl rfl ?_
           iterate 4 refine st_skip rfl rfl rfl ?_
           refine st_op (ev_pickT rfl rfl) rfl rfl rfl ?_
           try show aw _ _ _ _ _ _
           refine aw_cond (t := true) rfl ?_
           try show aw _ _ _ _ _ _
           refine aw_seq ?_
           refine aw_reg ?_
           refine st_op (ev_assign rfl) rfl rfl rfl ?_
           try show aw _ _ _ _ _ _
           refine aw_ret ?_
           have hx254 : Ext H H251 := (Ext.trans (Ext.then (Ext.trans (Ext.then (Ext.trans (Ext.trans (Ext.trans (Ext.then (Ext.then (Ext.then (Ext.then (Ext.then (Ext.trans hx6 hx13) hf30 (fun q hq e => by omega)) hf35 (fun q hq e => by omega)) hf40 (fun q hq e => by omega)) hf45 (fun q hq e => by omega)) hxl52 (fun q hq e => by omega)) hx72) hx78) hx85) hx94 (fun q hq e => by omega)) hx110) hf115 (fun q hq e => by omega)) hx252)
           have hres : true = false := by simp_all
           exact ⟨.bool false, rfl, by first | (rw [hres]; done) | rw [← hres], hx254⟩
          ·
           have hb253 : ((5 : Int) = 5) := by simpa using hb253
           refine st_op (ev_move rfl) rfl rfl rfl ?_
           refine st_call rfl rfl rfl ent16 rfl rfl rfl ?_
           have h255 := My.ext h244 hx252
           have h256 := Ext.blk hx252 (by omega) h246
           have hm257 : My H251 H251 none 0 13 (([] : List MsgC).map MsgC.cells) := .nil
           have h258 := Ext.blk hx252 (by omega) h248
           obtain ⟨_, H260, hs259, hs259v, hx261⟩ := raft_Hard_spec H251 (1 : Int) ⟨by omega, by omega⟩ (5 : Int) (3 : Int) (0 : Int) ⟨by omega, by omega⟩ (0 : Int) (⟨#[49, 50, 51]⟩ : ByteArray) (by decide) (⟨#[]⟩ : ByteArray) A79 ([] : List Entry) c80 (My.row h255) (My.capF h255 (by first | omega | (simp only [List.length_append, List.length_cons, List.length_nil, List.length_map, List.length_set, List.length_replicate, Spec.bytesOf_length]; omega) | (simp; omega))) (by first | omega | (simp only [List.length_append, List.length_cons, List.length_nil, List.length_map, List.length_set, List.length_replicate, Spec.bytesOf_length]; omega) | (simp; omega)) b82 (by omega) h256 (by assumption) (0 : Int) (0 : Int) (0 : Int) false   H251 none ([] : List MsgC) 0 hm257 (by omega) (by first | omega | (simp only [List.length_append, List.length_cons, List.length_nil, List.length_map, List.length_set, List.length_replicate, Spec.bytesOf_length]; omega) | (simp; omega)) H251 (Each.nil (S := MsgC.sub) (H0 := H251) (H := H251)) (by omega) false (0 : Int) false b86 (by omega) h258 (by omega)
           rw [hs259v] at hs259; clear hs259v
           refine ⟨_, H260, hs259, ?_⟩
           have H260n : H251.next ≤ H260.next := hx261.1
           refine st_op (ev_fieldF fd35_1 rfl rfl) rfl rfl rfl ?_
           refine st_op (ev_int rfl rfl rfl) rfl rfl rfl ?_
           refine st_op (ev_pickF rfl rfl) rfl rfl rfl ?_
           refine st_op (ev_move rfl) rfl rfl rfl ?_
           refine st_bool 90 rfl (fun hb262 => ?_) (fun hb262 => ?_)
           ·
            have hb262 : ¬ ((3 : Int) = 3) := by simpa using hb262
            iterate 4 refine st_skip rfl rfl rfl ?_
            refine st_op (ev_pickT rfl rfl) rfl rfl rfl ?_
            try show aw _ _ _ _ _ _
            refine aw_cond (t := true) rfl ?_
            try show aw _ _ _ _ _ _
            refine aw_seq ?_
            refine aw_reg ?_
            refine st_op (ev_assign rfl) rfl rfl rfl ?_
            try show aw _ _ _ _ _ _
            refine aw_ret ?_
            have hx263 : Ext H H260 := (Ext.trans (Ext.trans (Ext.then (Ext.trans (Ext.then (Ext.trans (Ext.trans (Ext.trans (Ext.then (Ext.then (Ext.then (Ext.then (Ext.then (Ext.trans hx6 hx13) hf30 (fun q hq e => by omega)) hf35 (fun q hq e => by omega)) hf40 (fun q hq e => by omega)) hf45 (fun q hq e => by omega)) hxl52 (fun q hq e => by omega)) hx72) hx78) hx85) hx94 (fun q hq e => by omega)) hx110) hf115 (fun q hq e => by omega)) hx252) hx261)
            have hres : true = false := by simp_all
            exact ⟨.bool false, rfl, by first | (rw [hres]; done) | rw [← hres], hx263⟩
           ·
            have hb262 : ((3 : Int) = 3) := by simpa using hb262
            refine st_op (ev_move rfl) rfl rfl rfl ?_
            refine st_call rfl rfl rfl ent17 rfl rfl rfl ?_
            have h264 := My.ext h255 hx261
            have h265 := Ext.blk hx261 (by omega) h256
            have hm266 : My H260 H260 none 0 13 (([] : List MsgC).map MsgC.cells) := .nil
            have h267 := Ext.blk hx261 (by omega) h258
            obtain ⟨_, H269, hs268, hs268v, hx270⟩ := raft_Log_spec H260 (1 : Int) ⟨by omega, by omega⟩ (5 : Int) (3 : Int) (0 : Int) ⟨by omega, by omega⟩ (0 : Int) (⟨#[49, 50, 51]⟩ : ByteArray) (by decide) (⟨#[]⟩ : ByteArray) A79 ([] : List Entry) c80 (My.row h264) (My.capF h264 (by first | omega | (simp only [List.length_append, List.length_cons, List.length_nil, List.length_map, List.length_set, List.length_replicate, Spec.bytesOf_length]; omega) | (simp; omega))) (by first | omega | (simp only [List.length_append, List.length_cons, List.length_nil, List.length_map, List.length_set, List.length_replicate, Spec.bytesOf_length]; omega) | (simp; omega)) b82 (by omega) h265 (by assumption) (0 : Int) (0 : Int) (0 : Int) false   H260 none ([] : List MsgC) 0 hm266 (by omega) (by first | omega | (simp only [List.length_append, List.length_cons, List.length_nil, List.length_map, List.length_set, List.length_replicate, Spec.bytesOf_length]; omega) | (simp; omega)) H260 (Each.nil (S := MsgC.sub) (H0 := H260) (H := H260)) (by omega) false (0 : Int) false b86 (by omega) h267 (by omega)
            rw [hs268v] at hs268; clear hs268v
            refine ⟨_, H269, hs268, ?_⟩
            have H269n : H260.next ≤ H269.next := hx270.1
            refine st_call rfl rfl rfl ent18 rfl rfl rfl ?_
            have h271 := My.ext h264 hx270
            have h272 := Ext.blk hx270 (by omega) h265
            obtain ⟨_, H274, hs273, hs273v, hx275⟩ := rlog_Last_spec H269 (0 : Int) ⟨by omega, by omega⟩ (0 : Int) (⟨#[49, 50, 51]⟩ : ByteArray) (by decide) (⟨#[]⟩ : ByteArray) A79 ([] : List Entry) c80 (My.row h271) (My.capF h271 (by first | omega | (simp only [List.length_append, List.length_cons, List.length_nil, List.length_map, List.length_set, List.length_replicate, Spec.bytesOf_length]; omega) | (simp; omega))) (by first | omega | (simp only [List.length_append, List.length_cons, List.length_nil, List.length_map, List.length_set, List.length_replicate, Spec.bytesOf_length]; omega) | (simp; omega)) b82 (by omega) h272 (by assumption)
            rw [hs273v] at hs273; clear hs273v
            refine ⟨_, H274, hs273, ?_⟩
            have H274n : H269.next ≤ H274.next := hx275.1
            refine st_op (ev_int rfl rfl rfl) rfl rfl rfl ?_
            refine st_op (ev_pickF rfl rfl) rfl rfl rfl ?_
            try show aw _ _ _ _ _ _
            by_cases hc276 : (((0 : Int) + (([] : List Entry).length : Int)) != 0) = true
            ·
             refine aw_condT hc276 rfl ?_
             try show aw _ _ _ _ _ _
             have hc276 : ¬ (((0 : Int) + (([] : List Entry).length : Int)) = 0) := by simpa using hc276
             refine aw_seq ?_
             refine aw_reg ?_
             refine st_op (ev_assign rfl) rfl rfl rfl ?_
             try show aw _ _ _ _ _ _
             refine aw_ret ?_
             have hx277 : Ext H H274 := (Ext.trans (Ext.trans (Ext.trans (Ext.trans (Ext.then (Ext.trans (Ext.then (Ext.trans (Ext.trans (Ext.trans (Ext.then (Ext.then (Ext.then (Ext.then (Ext.then (Ext.trans hx6 hx13) hf30 (fun q hq e => by omega)) hf35 (fun q hq e => by omega)) hf40 (fun q hq e => by omega)) hf45 (fun q hq e => by omega)) hxl52 (fun q hq e => by omega)) hx72) hx78) hx85) hx94 (fun q hq e => by omega)) hx110) hf115 (fun q hq e => by omega)) hx252) hx261) hx270) hx275)
             have hres : true = false := by simp_all
             exact ⟨.bool false, rfl, by first | (rw [hres]; done) | rw [← hres], hx277⟩
            ·
             rw [Bool.not_eq_true] at hc276; refine aw_condF hc276 rfl ?_
             try show aw _ _ _ _ _ _
             have hc276 : (((0 : Int) + (([] : List Entry).length : Int)) = 0) := by simpa using hc276
             refine aw_skip ?_
             try show aw _ _ _ _ _ _
             refine aw_seq ?_
             refine aw_reg ?_
             refine st_op (ev_move rfl) rfl rfl rfl ?_
             refine st_op (ev_int rfl rfl rfl) rfl rfl rfl ?_
             refine st_op (ev_move rfl) rfl rfl rfl ?_
             refine st_op (ev_fieldAddr rfl fa40_0 (o' := 0) rfl) rfl rfl rfl ?_
             have hx279 : Ext H111 H274 := (Ext.trans (Ext.trans (Ext.trans hx252 hx261) hx270) hx275)
             have h278 := Ext.blk hx279 (by omega) hB113
             refine st_op (ev_load rfl (lvar_one one38 h278 rfl)) rfl rfl rfl ?_
             have hx281 : Ext H93 H274 := (Ext.trans (Ext.trans (Ext.trans (Ext.trans hx249 hx252) hx261) hx270) hx275)
             have h280 := My.ext hm97 hx281
             have hi282 : 0 ≤ (0 : Int) := by omega
             have hi283 : (0 : Int) < ((r103.length : Nat) : Int) := by first | omega | (simp only [List.length_append, List.length_cons, List.length_nil, List.length_map, List.length_set, List.length_replicate, Spec.bytesOf_length]; omega) | (simp; omega)
             obtain ⟨x284, hx285⟩ : ∃ e, r103[0]? = some e := ⟨_, List.getElem?_eq_getElem (by first | omega | (simp only [List.length_append, List.length_cons, List.length_nil, List.length_map, List.length_set, List.length_replicate, Spec.bytesOf_length]; omega) | (simp; omega))⟩
             have h287 := Each.ext hE101 hx281
             have hm286 : My H84 H274 x284.esA x284.esc 4 (x284.es.map Entry.cells) := Each.get h287 hx285
             have x284o := hq100 _ (List.mem_of_getElem? hx285)
             refine st_op (ev_at rfl rfl (My.row h280) (getMap MsgC.cells hx285) (by first | rfl | omega | simp) hi282 hi283 el38) rfl rfl rfl ?_
             refine st_op (ev_atF rfl (My.row h280) (getMap MsgC.cells hx285) fa26_3 rfl) rfl rfl rfl ?_
             refine st_op (ev_atL rfl (My.row h280) (getMap MsgC.cells hx285) one2 rfl) rfl rfl rfl ?_
             refine st_op (ev_int rfl rfl rfl) rfl rfl rfl ?_
             refine st_op (ev_move rfl) rfl rfl rfl ?_
             refine st_bool 105 rfl (fun hb288 => ?_) (fun hb288 => ?_)
             ·
              have hb288 := eq_of_beq hb288
              refine st_op (ev_fieldAddr rfl fa40_0 (o' := 0) rfl) rfl rfl rfl ?_
              refine st_op (ev_load rfl (lvar_one one38 h278 rfl)) rfl rfl rfl ?_
              have hi289 : 0 ≤ (0 : Int) := by omega
              have hi290 : (0 : Int) < ((r103.length : Nat) : Int) := by first | omega | (simp only [List.length_append, List.length_cons, List.length_nil, List.length_map, List.length_set, List.length_replicate, Spec.bytesOf_length]; omega) | (simp; omega)
              refine st_op (ev_at rfl rfl (My.row h280) (getMap MsgC.cells hx285) (by first | rfl | omega | simp) hi289 hi290 el38) rfl rfl rfl ?_
              refine st_op (ev_atF rfl (My.row h280) (getMap MsgC.cells hx285) fa26_7 rfl) rfl rfl rfl ?_
              refine st_op (ev_atL rfl (My.row h280) (getMap MsgC.cells hx285) one4 rfl) rfl rfl rfl ?_
              refine st_op (ev_not rfl) rfl rfl rfl ?_
              refine st_op (ev_pickT rfl rfl) rfl rfl rfl ?_
              refine st_op (ev_move rfl) rfl rfl rfl ?_
              refine st_bool 113 rfl (fun hb291 => ?_) (fun hb291 => ?_)
              ·
               replace hb291 : x284.yes = false := by rw [Bool.not_eq_true'] at hb291; exact hb291
               refine st_op (ev_fieldAddr rfl fa40_0 (o' := 0) rfl) rfl rfl rfl ?_
               refine st_op (ev_load rfl (lvar_one one38 h278 rfl)) rfl rfl rfl ?_
               have hi292 : 0 ≤ (0 : Int) := by omega
               have hi293 : (0 : Int) < ((r103.length : Nat) : Int) := by first | omega | (simp only [List.length_append, List.length_cons, List.length_nil, List.length_map, List.length_set, List.length_replicate, Spec.bytesOf_length]; omega) | (simp; omega)
               refine st_op (ev_at rfl rfl (My.row h280) (getMap MsgC.cells hx285) (by first | rfl | omega | simp) hi292 hi293 el38) rfl rfl rfl ?_
               refine st_op (ev_atF rfl (My.row h280) (getMap MsgC.cells hx285) fa26_2 rfl) rfl rfl rfl ?_
               refine st_op (ev_atL rfl (My.row h280) (getMap MsgC.cells hx285) one3 rfl) rfl rfl rfl ?_
               refine st_op (ev_int rfl rfl rfl) rfl rfl rfl ?_
               refine st_op (ev_pickT rfl rfl) rfl rfl rfl ?_
               refine st_op (ev_pickF rfl rfl) rfl rfl rfl ?_
               refine st_op (ev_assign rfl) rfl rfl rfl ?_
               try show aw _ _ _ _ _ _
               refine aw_ret ?_
               have hx294 : Ext H H274 := (Ext.trans (Ext.trans (Ext.trans (Ext.trans (Ext.then (Ext.trans (Ext.then (Ext.trans (Ext.trans (Ext.trans (Ext.then (Ext.then (Ext.then (Ext.then (Ext.then (Ext.trans hx6 hx13) hf30 (fun q hq e => by omega)) hf35 (fun q hq e => by omega)) hf40 (fun q hq e => by omega)) hf45 (fun q hq e => by omega)) hxl52 (fun q hq e => by omega)) hx72) hx78) hx85) hx94 (fun q hq e => by omega)) hx110) hf115 (fun q hq e => by omega)) hx252) hx261) hx270) hx275)
               have hres : true = (x284.to_ == 2) := by (symm; rw [beq_iff_eq]; omega)
               exact ⟨.bool (x284.to_ == 2), rfl, by first | (rw [hres]; done) | rw [← hres], hx294⟩
              ·
               replace hb291 : x284.yes = true := by rw [Bool.not_eq_false'] at hb291; exact hb291
               exact absurd (x284o.2.1.symm.trans hb291) (by decide)
             ·
              have hb288 := ne_of_beq_false hb288
              exfalso; omega
     ·
      rw [Bool.not_eq_true] at hc236; refine aw_condF hc236 rfl ?_
      try show aw _ _ _ _ _ _
      have hc236 := ne_of_beq_false hc236
      refine aw_skip ?_
      try show aw _ _ _ _ _ _
      iterate 2 refine aw_seq ?_
      refine aw_reg ?_
      refine st_op (ev_fieldAddr rfl fa40_0 (o' := 0) rfl) rfl rfl rfl ?_
      refine st_op (ev_load rfl (lvar_one one38 hB113 rfl)) rfl rfl rfl ?_
      refine st_op (ev_lenSl rfl Tryz.underlying38) rfl rfl rfl ?_
      refine st_op (ev_move rfl) rfl rfl rfl ?_
      refine st_op (ev_int rfl rfl rfl) rfl rfl rfl ?_
      refine st_op (ev_move rfl) rfl rfl rfl ?_
      refine st_bool 65 rfl (fun hb295 => ?_) (fun hb295 => ?_)
      ·
       have hb295 : ¬ ((r103.length : Int) = 0) := by simpa using hb295
       exfalso; first | (have q := hq98 (by omega); omega) | (have q := hq99 (by omega); omega) | (simp_all; done)
      ·
       have hb295 : ((r103.length : Int) = 0) := by simpa using hb295
       refine st_op (ev_fieldAddr rfl fa40_1 (o' := 1) rfl) rfl rfl rfl ?_
       refine st_op (ev_load rfl (lvar_one one4 hB113 rfl)) rfl rfl rfl ?_
       refine st_op (ev_pickF rfl rfl) rfl rfl rfl ?_
       refine st_op (ev_move rfl) rfl rfl rfl ?_
       refine st_bool 69 rfl (fun hb296 => ?_) (fun hb296 => ?_)
       ·
        iterate 3 refine st_skip rfl rfl rfl ?_
        refine st_op (ev_pickT rfl rfl) rfl rfl rfl ?_
        refine st_op (ev_move rfl) rfl rfl rfl ?_
        iterate 2 refine st_skip rfl rfl rfl ?_
        refine st_op (ev_pickT rfl rfl) rfl rfl rfl ?_
        refine st_op (ev_move rfl) rfl rfl rfl ?_
        iterate 4 refine st_skip rfl rfl rfl ?_
        refine st_op (ev_pickT rfl rfl) rfl rfl rfl ?_
        refine st_op (ev_move rfl) rfl rfl rfl ?_
        iterate 4 refine st_skip rfl rfl rfl ?_
        refine st_op (ev_pickT rfl rfl) rfl rfl rfl ?_
        refine st_op (ev_move rfl) rfl rfl rfl ?_
        iterate 4 refine st_skip rfl rfl rfl ?_
        refine st_op (ev_pickT rfl rfl) rfl rfl rfl ?_
        try show aw _ _ _ _ _ _
        refine aw_cond (t := true) rfl ?_
        try show aw _ _ _ _ _ _
        refine aw_seq ?_
        refine aw_reg ?_
        refine st_op (ev_assign rfl) rfl rfl rfl ?_
        try show aw _ _ _ _ _ _
        refine aw_ret ?_
        have hx297 : Ext H H111 := (Ext.then (Ext.trans (Ext.then (Ext.trans (Ext.trans (Ext.trans (Ext.then (Ext.then (Ext.then (Ext.then (Ext.then (Ext.trans hx6 hx13) hf30 (fun q hq e => by omega)) hf35 (fun q hq e => by omega)) hf40 (fun q hq e => by omega)) hf45 (fun q hq e => by omega)) hxl52 (fun q hq e => by omega)) hx72) hx78) hx85) hx94 (fun q hq e => by omega)) hx110) hf115 (fun q hq e => by omega))
        have hres : true = false := by simp_all
        exact ⟨.bool false, rfl, by first | (rw [hres]; done) | rw [← hres], hx297⟩
       ·
        refine st_op (ev_fieldAddr rfl fa40_2 (o' := 2) rfl) rfl rfl rfl ?_
        refine st_op (ev_load rfl (lvar_one one2 hB113 rfl)) rfl rfl rfl ?_
        refine st_op (ev_int rfl rfl rfl) rfl rfl rfl ?_
        refine st_op (ev_pickF rfl rfl) rfl rfl rfl ?_
        refine st_op (ev_move rfl) rfl rfl rfl ?_
        refine st_bool 74 rfl (fun hb298 => ?_) (fun hb298 => ?_)
        ·
         have hb298 : ¬ ((0 : Int) = 0) := by simpa using hb298
         iterate 2 refine st_skip rfl rfl rfl ?_
         refine st_op (ev_pickT rfl rfl) rfl rfl rfl ?_
         refine st_op (ev_move rfl) rfl rfl rfl ?_
         iterate 4 refine st_skip rfl rfl rfl ?_
         refine st_op (ev_pickT rfl rfl) rfl rfl rfl ?_
         refine st_op (ev_move rfl) rfl rfl rfl ?_
         iterate 4 refine st_skip rfl rfl rfl ?_
         refine st_op (ev_pickT rfl rfl) rfl rfl rfl ?_
         refine st_op (ev_move rfl) rfl rfl rfl ?_
         iterate 4 refine st_skip rfl rfl rfl ?_
         refine st_op (ev_pickT rfl rfl) rfl rfl rfl ?_
         try show aw _ _ _ _ _ _
         refine aw_cond (t := true) rfl ?_
         try show aw _ _ _ _ _ _
         refine aw_seq ?_
         refine aw_reg ?_
         refine st_op (ev_assign rfl) rfl rfl rfl ?_
         try show aw _ _ _ _ _ _
         refine aw_ret ?_
         have hx299 : Ext H H111 := (Ext.then (Ext.trans (Ext.then (Ext.trans (Ext.trans (Ext.trans (Ext.then (Ext.then (Ext.then (Ext.then (Ext.then (Ext.trans hx6 hx13) hf30 (fun q hq e => by omega)) hf35 (fun q hq e => by omega)) hf40 (fun q hq e => by omega)) hf45 (fun q hq e => by omega)) hxl52 (fun q hq e => by omega)) hx72) hx78) hx85) hx94 (fun q hq e => by omega)) hx110) hf115 (fun q hq e => by omega))
         have hres : true = false := by simp_all
         exact ⟨.bool false, rfl, by first | (rw [hres]; done) | rw [← hres], hx299⟩
        ·
         have hb298 : ((0 : Int) = 0) := by simpa using hb298
         refine st_op (ev_fieldAddr rfl fa40_3 (o' := 3) rfl) rfl rfl rfl ?_
         refine st_op (ev_load rfl (lvar_one one4 hB113 rfl)) rfl rfl rfl ?_
         refine st_op (ev_pickF rfl rfl) rfl rfl rfl ?_
         refine st_op (ev_move rfl) rfl rfl rfl ?_
         refine st_bool 78 rfl (fun hb300 => ?_) (fun hb300 => ?_)
         ·
          iterate 4 refine st_skip rfl rfl rfl ?_
          refine st_op (ev_pickT rfl rfl) rfl rfl rfl ?_
          refine st_op (ev_move rfl) rfl rfl rfl ?_
          iterate 4 refine st_skip rfl rfl rfl ?_
          refine st_op (ev_pickT rfl rfl) rfl rfl rfl ?_
          refine st_op (ev_move rfl) rfl rfl rfl ?_
          iterate 4 refine st_skip rfl rfl rfl ?_
          refine st_op (ev_pickT rfl rfl) rfl rfl rfl ?_
          try show aw _ _ _ _ _ _
          refine aw_cond (t := true) rfl ?_
          try show aw _ _ _ _ _ _
          refine aw_seq ?_
          refine aw_reg ?_
          refine st_op (ev_assign rfl) rfl rfl rfl ?_
          try show aw _ _ _ _ _ _
          refine aw_ret ?_
          have hx301 : Ext H H111 := (Ext.then (Ext.trans (Ext.then (Ext.trans (Ext.trans (Ext.trans (Ext.then (Ext.then (Ext.then (Ext.then (Ext.then (Ext.trans hx6 hx13) hf30 (fun q hq e => by omega)) hf35 (fun q hq e => by omega)) hf40 (fun q hq e => by omega)) hf45 (fun q hq e => by omega)) hxl52 (fun q hq e => by omega)) hx72) hx78) hx85) hx94 (fun q hq e => by omega)) hx110) hf115 (fun q hq e => by omega))
          have hres : true = false := by simp_all
          exact ⟨.bool false, rfl, by first | (rw [hres]; done) | rw [← hres], hx301⟩
         ·
          refine st_op (ev_move rfl) rfl rfl rfl ?_
          refine st_call rfl rfl rfl ent16 rfl rfl rfl ?_
          have hx303 : Ext H77 H111 := (Ext.then (Ext.trans (Ext.then hx85 hx94 (fun q hq e => by omega)) hx110) hf115 (fun q hq e => by omega))
          have h302 := My.ext hm81 hx303
          have h304 := Ext.blk hx303 (by omega) b82B
          have hm305 : My H111 H111 none 0 13 (([] : List MsgC).map MsgC.cells) := .nil
          have hx307 : Ext H93 H111 := (Ext.then hx110 hf115 (fun q hq e => by omega))
          have h306 := Ext.blk hx307 (by omega) hB102
          obtain ⟨_, H309, hs308, hs308v, hx310⟩ := raft_Hard_spec H111 (1 : Int) ⟨by omega, by omega⟩ (5 : Int) (3 : Int) (0 : Int) ⟨by omega, by omega⟩ (0 : Int) (⟨#[49, 50, 51]⟩ : ByteArray) (by decide) (⟨#[]⟩ : ByteArray) A79 ([] : List Entry) c80 (My.row h302) (My.capF h302 (by first | omega | (simp only [List.length_append, List.length_cons, List.length_nil, List.length_map, List.length_set, List.length_replicate, Spec.bytesOf_length]; omega) | (simp; omega))) (by first | omega | (simp only [List.length_append, List.length_cons, List.length_nil, List.length_map, List.length_set, List.length_replicate, Spec.bytesOf_length]; omega) | (simp; omega)) b82 (by omega) h304 (by assumption) (0 : Int) (0 : Int) (0 : Int) false   H111 none ([] : List MsgC) 0 hm305 (by omega) (by first | omega | (simp only [List.length_append, List.length_cons, List.length_nil, List.length_map, List.length_set, List.length_replicate, Spec.bytesOf_length]; omega) | (simp; omega)) H111 (Each.nil (S := MsgC.sub) (H0 := H111) (H := H111)) (by omega) false (0 : Int) false b86 (by omega) h306 (by omega)
          rw [hs308v] at hs308; clear hs308v
          refine ⟨_, H309, hs308, ?_⟩
          have H309n : H111.next ≤ H309.next := hx310.1
          refine st_op (ev_fieldF fd35_0 rfl rfl) rfl rfl rfl ?_
          refine st_op (ev_int rfl rfl rfl) rfl rfl rfl ?_
          refine st_op (ev_pickF rfl rfl) rfl rfl rfl ?_
          refine st_op (ev_move rfl) rfl rfl rfl ?_
          refine st_bool 84 rfl (fun hb311 => ?_) (fun hb311 => ?_)
          ·
           have hb311 : ¬ ((5 : Int) = 5) := by simpa using hb311
           iterate 4 refine st_skip rfl rfl rfl ?_
           refine st_op (ev_pickT rfl rfl) rfl rfl rfl ?_
           refine st_op (ev_move rfl) rfl rfl rfl ?_
           iterate 4 refine st_skip rfl rfl rfl ?_
           refine st_op (ev_pickT rfl rfl) rfl rfl rfl ?_
           try show aw _ _ _ _ _ _
           refine aw_cond (t := true) rfl ?_
           try show aw _ _ _ _ _ _
           refine aw_seq ?_
           refine aw_reg ?_
           refine st_op (ev_assign rfl) rfl rfl rfl ?_
           try show aw _ _ _ _ _ _
           refine aw_ret ?_
           have hx312 : Ext H H309 := (Ext.trans (Ext.then (Ext.trans (Ext.then (Ext.trans (Ext.trans (Ext.trans (Ext.then (Ext.then (Ext.then (Ext.then (Ext.then (Ext.trans hx6 hx13) hf30 (fun q hq e => by omega)) hf35 (fun q hq e => by omega)) hf40 (fun q hq e => by omega)) hf45 (fun q hq e => by omega)) hxl52 (fun q hq e => by omega)) hx72) hx78) hx85) hx94 (fun q hq e => by omega)) hx110) hf115 (fun q hq e => by omega)) hx310)
           have hres : true = false := by simp_all
           exact ⟨.bool false, rfl, by first | (rw [hres]; done) | rw [← hres], hx312⟩
          ·
           have hb311 : ((5 : Int) = 5) := by simpa using hb311
           refine st_op (ev_move rfl) rfl rfl rfl ?_
           refine st_call rfl rfl rfl ent16 rfl rfl rfl ?_
           have h313 := My.ext h302 hx310
           have h314 := Ext.blk hx310 (by omega) h304
           have hm315 : My H309 H309 none 0 13 (([] : List MsgC).map MsgC.cells) := .nil
           have h316 := Ext.blk hx310 (by omega) h306
           obtain ⟨_, H318, hs317, hs317v, hx319⟩ := raft_Hard_spec H309 (1 : Int) ⟨by omega, by omega⟩ (5 : Int) (3 : Int) (0 : Int) ⟨by omega, by omega⟩ (0 : Int) (⟨#[49, 50, 51]⟩ : ByteArray) (by decide) (⟨#[]⟩ : ByteArray) A79 ([] : List Entry) c80 (My.row h313) (My.capF h313 (by first | omega | (simp only [List.length_append, List.length_cons, List.length_nil, List.length_map, List.length_set, List.length_replicate, Spec.bytesOf_length]; omega) | (simp; omega))) (by first | omega | (simp only [List.length_append, List.length_cons, List.length_nil, List.length_map, List.length_set, List.length_replicate, Spec.bytesOf_length]; omega) | (simp; omega)) b82 (by omega) h314 (by assumption) (0 : Int) (0 : Int) (0 : Int) false   H309 none ([] : List MsgC) 0 hm315 (by omega) (by first | omega | (simp only [List.length_append, List.length_cons, List.length_nil, List.length_map, List.length_set, List.length_replicate, Spec.bytesOf_length]; omega) | (simp; omega)) H309 (Each.nil (S := MsgC.sub) (H0 := H309) (H := H309)) (by omega) false (0 : Int) false b86 (by omega) h316 (by omega)
           rw [hs317v] at hs317; clear hs317v
           refine ⟨_, H318, hs317, ?_⟩
           have H318n : H309.next ≤ H318.next := hx319.1
           refine st_op (ev_fieldF fd35_1 rfl rfl) rfl rfl rfl ?_
           refine st_op (ev_int rfl rfl rfl) rfl rfl rfl ?_
           refine st_op (ev_pickF rfl rfl) rfl rfl rfl ?_
           refine st_op (ev_move rfl) rfl rfl rfl ?_
           refine st_bool 90 rfl (fun hb320 => ?_) (fun hb320 => ?_)
           ·
            have hb320 : ¬ ((3 : Int) = 3) := by simpa using hb320
            iterate 4 refine st_skip rfl rfl rfl ?_
            refine st_op (ev_pickT rfl rfl) rfl rfl rfl ?_
            try show aw _ _ _ _ _ _
            refine aw_cond (t := true) rfl ?_
            try show aw _ _ _ _ _ _
            refine aw_seq ?_
            refine aw_reg ?_
            refine st_op (ev_assign rfl) rfl rfl rfl ?_
            try show aw _ _ _ _ _ _
            refine aw_ret ?_
            have hx321 : Ext H H318 := (Ext.trans (Ext.trans (Ext.then (Ext.trans (Ext.then (Ext.trans (Ext.trans (Ext.trans (Ext.then (Ext.then (Ext.then (Ext.then (Ext.then (Ext.trans hx6 hx13) hf30 (fun q hq e => by omega)) hf35 (fun q hq e => by omega)) hf40 (fun q hq e => by omega)) hf45 (fun q hq e => by omega)) hxl52 (fun q hq e => by omega)) hx72) hx78) hx85) hx94 (fun q hq e => by omega)) hx110) hf115 (fun q hq e => by omega)) hx310) hx319)
            have hres : true = false := by simp_all
            exact ⟨.bool false, rfl, by first | (rw [hres]; done) | rw [← hres], hx321⟩
           ·
            have hb320 : ((3 : Int) = 3) := by simpa using hb320
            refine st_op (ev_move rfl) rfl rfl rfl ?_
            refine st_call rfl rfl rfl ent17 rfl rfl rfl ?_
            have h322 := My.ext h313 hx319
            have h323 := Ext.blk hx319 (by omega) h314
            have hm324 : My H318 H318 none 0 13 (([] : List MsgC).map MsgC.cells) := .nil
            have h325 := Ext.blk hx319 (by omega) h316
            obtain ⟨_, H327, hs326, hs326v, hx328⟩ := raft_Log_spec H318 (1 : Int) ⟨by omega, by omega⟩ (5 : Int) (3 : Int) (0 : Int) ⟨by omega, by omega⟩ (0 : Int) (⟨#[49, 50, 51]⟩ : ByteArray) (by decide) (⟨#[]⟩ : ByteArray) A79 ([] : List Entry) c80 (My.row h322) (My.capF h322 (by first | omega | (simp only [List.length_append, List.length_cons, List.length_nil, List.length_map, List.length_set, List.length_replicate, Spec.bytesOf_length]; omega) | (simp; omega))) (by first | omega | (simp only [List.length_append, List.length_cons, List.length_nil, List.length_map, List.length_set, List.length_replicate, Spec.bytesOf_length]; omega) | (simp; omega)) b82 (by omega) h323 (by assumption) (0 : Int) (0 : Int) (0 : Int) false   H318 none ([] : List MsgC) 0 hm324 (by omega) (by first | omega | (simp only [List.length_append, List.length_cons, List.length_nil, List.length_map, List.length_set, List.length_replicate, Spec.bytesOf_length]; omega) | (simp; omega)) H318 (Each.nil (S := MsgC.sub) (H0 := H318) (H := H318)) (by omega) false (0 : Int) false b86 (by omega) h325 (by omega)
            rw [hs326v] at hs326; clear hs326v
            refine ⟨_, H327, hs326, ?_⟩
            have H327n : H318.next ≤ H327.next := hx328.1
            refine st_call rfl rfl rfl ent18 rfl rfl rfl ?_
            have h329 := My.ext h322 hx328
            have h330 := Ext.blk hx328 (by omega) h323
            obtain ⟨_, H332, hs331, hs331v, hx333⟩ := rlog_Last_spec H327 (0 : Int) ⟨by omega, by omega⟩ (0 : Int) (⟨#[49, 50, 51]⟩ : ByteArray) (by decide) (⟨#[]⟩ : ByteArray) A79 ([] : List Entry) c80 (My.row h329) (My.capF h329 (by first | omega | (simp only [List.length_append, List.length_cons, List.length_nil, List.length_map, List.length_set, List.length_replicate, Spec.bytesOf_length]; omega) | (simp; omega))) (by first | omega | (simp only [List.length_append, List.length_cons, List.length_nil, List.length_map, List.length_set, List.length_replicate, Spec.bytesOf_length]; omega) | (simp; omega)) b82 (by omega) h330 (by assumption)
            rw [hs331v] at hs331; clear hs331v
            refine ⟨_, H332, hs331, ?_⟩
            have H332n : H327.next ≤ H332.next := hx333.1
            refine st_op (ev_int rfl rfl rfl) rfl rfl rfl ?_
            refine st_op (ev_pickF rfl rfl) rfl rfl rfl ?_
            try show aw _ _ _ _ _ _
            by_cases hc334 : (((0 : Int) + (([] : List Entry).length : Int)) != 0) = true
            ·
             refine aw_condT hc334 rfl ?_
             try show aw _ _ _ _ _ _
             have hc334 : ¬ (((0 : Int) + (([] : List Entry).length : Int)) = 0) := by simpa using hc334
             refine aw_seq ?_
             refine aw_reg ?_
             refine st_op (ev_assign rfl) rfl rfl rfl ?_
             try show aw _ _ _ _ _ _
             refine aw_ret ?_
             have hx335 : Ext H H332 := (Ext.trans (Ext.trans (Ext.trans (Ext.trans (Ext.then (Ext.trans (Ext.then (Ext.trans (Ext.trans (Ext.trans (Ext.then (Ext.then (Ext.then (Ext.then (Ext.then (Ext.trans hx6 hx13) hf30 (fun q hq e => by omega)) hf35 (fun q hq e => by omega)) hf40 (fun q hq e => by omega)) hf45 (fun q hq e => by omega)) hxl52 (fun q hq e => by omega)) hx72) hx78) hx85) hx94 (fun q hq e => by omega)) hx110) hf115 (fun q hq e => by omega)) hx310) hx319) hx328) hx333)
             have hres : true = false := by simp_all
             exact ⟨.bool false, rfl, by first | (rw [hres]; done) | rw [← hres], hx335⟩
            ·
             rw [Bool.not_eq_true] at hc334; refine aw_condF hc334 rfl ?_
             try show aw _ _ _ _ _ _
             have hc334 : (((0 : Int) + (([] : List Entry).length : Int)) = 0) := by simpa using hc334
             refine aw_skip ?_
             try show aw _ _ _ _ _ _
             refine aw_seq ?_
             refine aw_reg ?_
             refine st_op (ev_move rfl) rfl rfl rfl ?_
             refine st_op (ev_int rfl rfl rfl) rfl rfl rfl ?_
             refine st_op (ev_move rfl) rfl rfl rfl ?_
             iterate 22 refine st_skip rfl rfl rfl ?_
             refine st_op (ev_pickT rfl rfl) rfl rfl rfl ?_
             refine st_op (ev_assign rfl) rfl rfl rfl ?_
             try show aw _ _ _ _ _ _
             refine aw_ret ?_
             have hx336 : Ext H H332 := (Ext.trans (Ext.trans (Ext.trans (Ext.trans (Ext.then (Ext.trans (Ext.then (Ext.trans (Ext.trans (Ext.trans (Ext.then (Ext.then (Ext.then (Ext.then (Ext.then (Ext.trans hx6 hx13) hf30 (fun q hq e => by omega)) hf35 (fun q hq e => by omega)) hf40 (fun q hq e => by omega)) hf45 (fun q hq e => by omega)) hxl52 (fun q hq e => by omega)) hx72) hx78) hx85) hx94 (fun q hq e => by omega)) hx110) hf115 (fun q hq e => by omega)) hx310) hx319) hx328) hx333)
             have hres : true = true := by rfl
             exact ⟨.bool true, rfl, by first | (rw [hres]; done) | rw [← hres], hx336⟩

end Go.AM
