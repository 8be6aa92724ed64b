/- Part of a machine of its own for this claim: the program's code over memory without draws. -/
import Derived.Test.YtoolcbdceijjlaaGreatSAmXRaftV1
set_option linter.unusedVariables false
set_option linter.unusedSimpArgs false
set_option linter.unnecessarySimpa false
set_option linter.unusedVariables false
set_option linter.unusedSimpArgs false
set_option linter.unnecessarySimpa false
namespace Go.AM
open Go Go.Proofs
theorem raft_asked_spec (H : Heap) (rid : Int) (hrid : 1 ≤ rid ∧ rid ≤ 7) (rt : Int) (rv : Int) (x : Int) (hx : 0 ≤ x ∧ x ≤ 2199023255552) (tm : Int) (cf : ByteArray) (hcf : cf.size ≤ 1073741824) (dt : ByteArray) (lA : Option Addr) (l : List Entry) (lc : Nat) (hl : Row H lA lc 4 (l.map Entry.cells)) (cl : l.length ≤ lc) (ll : l.length ≤ 200) (g : Nat) (hg : g < H.next) (Bg : H.blk g = some ⟨[.int .i64 x, .int .i64 tm, .string cf, .string dt, .slice lA l.length lc], 0, false, false⟩) (uk : Spec.LogOk x tm l) (cmt : Int) (role : Int) (ldr : Int) (hrd : Bool)    (oh : Bool) (of_ : Int) (os_ : Bool) (r : Nat) (hr : r < H.next) (Br : H.blk r = some ⟨[.int .i64 rid, .int .i64 rt, .int .i64 rv, .pointer (some ⟨g, 0, none⟩), .int .i64 cmt, .int .i64 role, .int .i64 ldr, .bool hrd, .pointer none, .pointer none, .slice none 0 0, .bool oh, .int .i64 of_, .bool os_], 0, false, false⟩) (ugr : g < r) (kind : Int) (from_ : Int) (to_ : Int) (term : Int) (index : Int) (logterm : Int) (commit : Int) (yes : Bool) (esA : Option Addr) (es esc : Nat) (s_index : Int) (s_term : Int) (s_conf : ByteArray) (s_data : ByteArray) : ∃ v H', Spec Tryz.prog 47 [.pointer (some ⟨r, 0, none⟩), .agg #[.int .i64 kind, .int .i64 from_, .int .i64 to_, .int .i64 term, .int .i64 index, .int .i64 logterm, .int .i64 commit, .bool yes, .slice esA es esc, .int .i64 s_index, .int .i64 s_term, .string s_conf, .string s_data]] H v H' ∧ (∃ rA2 rc2, (v = .tuple #[]) ∧ (My H H' rA2 rc2 13 (((Spec.voteF rid rt rv hrd oh x tm l from_ index logterm).1).map MsgC.cells)) ∧ (Each MsgC.sub H H' ((Spec.voteF rid rt rv hrd oh x tm l from_ index logterm).1)) ∧ (H'.blk r = some ⟨[.int .i64 rid, .int .i64 rt, .int .i64 ((Spec.voteF rid rt rv hrd oh x tm l from_ index logterm).2.2.1), .pointer (some ⟨g, 0, none⟩), .int .i64 cmt, .int .i64 role, .int .i64 ldr, .bool ((Spec.voteF rid rt rv hrd oh x tm l from_ index logterm).2.2.2), .pointer none, .pointer none, .slice rA2 (((Spec.voteF rid rt rv hrd oh x tm l from_ index logterm).1).length) rc2, .bool ((Spec.voteF rid rt rv hrd oh x tm l from_ index logterm).2.1), .int .i64 of_, .bool os_], 0, false, false⟩) ∧ ((Spec.voteF rid rt rv hrd oh x tm l from_ index logterm).1.length ≤ 100) ∧ (Fr (fun q => q = r) H H')) := by
 refine spec_go2 E0_ok 52 (f := 47) Tryz.func47 rfl rfl rfl ?_
 refine aw_seq ?_
 refine aw_reg ?_
 obtain ⟨b1, H2, he3, b1e, H2n_, hB5, f4⟩ := mem_box (P := Tryz.prog) H (v := .agg #[.int .i64 kind, .int .i64 from_, .int .i64 to_, .int .i64 term, .int .i64 index, .int .i64 logterm, .int .i64 commit, .bool yes, .slice esA es esc, .int .i64 s_index, .int .i64 s_term, .string s_conf, .string s_data]) (cs := [.int .i64 kind, .int .i64 from_, .int .i64 to_, .int .i64 term, .int .i64 index, .int .i64 logterm, .int .i64 commit, .bool yes, .slice esA es esc, .int .i64 s_index, .int .i64 s_term, .string s_conf, .string s_data]) rfl rfl
 refine st_op (he3 _ _ _ _ _ _ _ _ _ rfl) rfl rfl rfl ?_
 have hx6 : Ext H H2 := Ext.new (by omega) H2n_ f4
 have H2n : H.next ≤ H2.next := hx6.1
 try show aw _ _ _ _ _ _
 refine aw_seq ?_
 refine aw_marks (fun b => b < H2.next) [(false, false), (false, false), (false, false), (false, false), (false, false), (false, false), (false, false), (false, false), (false, false), (false, false), (false, false), (false, false), (false, false), (false, false), (false, false), (false, false), (false, false), (false, false), (false, false), (false, false), (false, false), (false, false), (false, false), (false, false), (false, false), (false, false), (false, false), (false, false)] mixed (by kernel_rfl) (by kernel_rfl) ?_
 refine sm_op (ev_move rfl) rfl rfl rfl ?_
 refine sm_op (ev_nilCheck rfl) rfl rfl rfl ?_
 refine sm_op (ev_fieldAddr rfl fa80_1 (o' := 1) rfl) rfl rfl rfl ?_
 refine sm_op (ev_fieldAddr rfl fa35_1 (o' := 2) rfl) rfl rfl rfl ?_
 have h7 := Ext.blk hx6 (by omega) Br
 refine sm_op (ev_load rfl (lvar_one one3 h7 rfl)) rfl rfl rfl ?_
 refine sm_op (ev_int rfl rfl rfl) rfl rfl rfl ?_
 refine sm_op (ev_move rfl) rfl rfl rfl ?_
 refine sm_bool 11 rfl (fun hb8 => ?_) (fun hb8 => ?_)
 ·
  have hb8 := eq_of_beq hb8
  iterate 8 refine sm_skip rfl rfl rfl ?_
  refine sm_op (ev_pickT rfl rfl) rfl rfl rfl ?_
  iterate 2 refine sm_op (ev_move rfl) rfl rfl rfl ?_
  refine sm_op (ev_nilCheck rfl) rfl rfl rfl ?_
  refine sm_op (ev_fieldAddr rfl fa80_2 (o' := 3) rfl) rfl rfl rfl ?_
  refine sm_op (ev_load rfl (lvar_one one36 h7 rfl)) rfl rfl rfl ?_
  refine sm_op (ev_fieldAddr rfl fa26_4 (o' := 4) rfl) rfl rfl rfl ?_
  refine sm_op (ev_load rfl (lvar_one one2 hB5 rfl)) rfl rfl rfl ?_
  refine sm_op (ev_fieldAddr rfl fa26_5 (o' := 5) rfl) rfl rfl rfl ?_
  refine sm_op (ev_load rfl (lvar_one one2 hB5 rfl)) rfl rfl rfl ?_
  refine sm_call rfl rfl rfl ent82 rfl rfl rfl ?_
  have h9 := Row.ext hl hx6
  have h10 := Ext.blk hx6 (by omega) Bg
  obtain ⟨_, H12, hs11, hs11v, hx13⟩ := rlog_Newer_spec H2 x ⟨by omega, by omega⟩ tm cf (by omega) dt lA l lc h9 cl (by omega) g (by omega) h10 (by assumption) index logterm
  rw [hs11v] at hs11; clear hs11v
  refine ⟨_, H12, hs11, (fun h => nomatch h), ?_⟩
  have H12n : H2.next ≤ H12.next := hx13.1
  refine sm_op (ev_pickT rfl rfl) rfl rfl rfl ?_
  refine sm_op (ev_assign rfl) rfl rfl rfl ?_
  try show aw _ _ _ _ _ _
  iterate 2 refine aw_seq ?_
  refine aw_reg ?_
  refine st_op (ev_move rfl) rfl rfl rfl ?_
  try show aw _ _ _ _ _ _
  by_cases hc14 : (Spec.newerF x tm l index logterm) = true
  ·
   refine aw_condT hc14 rfl ?_
   try show aw _ _ _ _ _ _
   refine aw_seq ?_
   refine aw_marks (fun b => b < H12.next) [(false, false), (false, false), (false, false), (false, false), (false, false), (false, false), (false, false), (false, false), (false, false), (false, false)] mixed (by kernel_rfl) (by kernel_rfl) ?_
   iterate 2 refine sm_op (ev_move rfl) rfl rfl rfl ?_
   refine sm_op (ev_nilCheck rfl) rfl rfl rfl ?_
   refine sm_op (ev_fieldAddr rfl fa80_1 (o' := 1) rfl) rfl rfl rfl ?_
   refine sm_op (ev_fieldAddr rfl fa35_0 (o' := 1) rfl) rfl rfl rfl ?_
   have h15 := Ext.blk hx13 (by omega) h7
   refine sm_op (ev_load rfl (lvar_one one2 h15 rfl)) rfl rfl rfl ?_
   refine sm_op (ev_fieldAddr rfl fa26_1 (o' := 1) rfl) rfl rfl rfl ?_
   have h16 := Ext.blk hx13 (by omega) hB5
   refine sm_op (ev_load rfl (lvar_one one3 h16 rfl)) rfl rfl rfl ?_
   refine sm_op (ev_build zero35 pl35 (parts := [(0, .int .i64 rt), (1, .int .i64 from_)]) rfl (cs := [.int .i64 rt, .int .i64 from_]) rfl) rfl rfl rfl ?_
   refine sm_call rfl rfl rfl ent56 rfl rfl rfl ?_
   have h17 := Row.ext h9 hx13
   have h18 := Ext.blk hx13 (by omega) h10
   obtain ⟨_, H20, hs19, hs19v, hB22, hx21⟩ := raft_hard_spec H12 rid ⟨by omega, by omega⟩ rt rv x ⟨by omega, by omega⟩ tm cf (by omega) dt lA l lc h17 cl (by omega) g (by omega) h18 (by assumption) cmt role ldr hrd    oh of_ os_ r (by omega) h15 (by omega) rt from_
   rw [hs19v] at hs19; clear hs19v
   refine ⟨_, H20, hs19, (fun h => nomatch h), ?_⟩
   have H20n : H12.next ≤ H20.next := hx21.1
   try show aw _ _ _ _ _ _
   refine aw_reg ?_
   refine st_op (ev_move rfl) rfl rfl rfl ?_
   refine st_op (ev_nilCheck rfl) rfl rfl rfl ?_
   refine st_op (ev_fieldAddr rfl fa80_6 (o' := 7) rfl) rfl rfl rfl ?_
   obtain ⟨H23, he24, H23n_, hB25, f26⟩ := mem_store (v := .bool true) (o := 7) (cs' := [.int .i64 rid, .int .i64 rt, .int .i64 from_, .pointer (some ⟨g, 0, none⟩), .int .i64 cmt, .int .i64 role, .int .i64 ldr, .bool true, .pointer none, .pointer none, .slice none 0 0, .bool (oh || decide (rt ≠ rt ∨ from_ ≠ rv)), .int .i64 of_, .bool os_]) 1 rfl rfl size4 hB22 rfl rfl rfl
   refine st_op0 (he24 _ _ _ _ _ _ _ _ _ rfl rfl) rfl rfl ?_
   have hf27 : Fr (fun q => q = r) H20 H23 := Fr.write H23n_ f26
   have H23n : H20.next ≤ H23.next := hf27.1
   try show aw _ _ _ _ _ _
   refine aw_reg ?_
   refine st_op (ev_move rfl) rfl rfl rfl ?_
   refine st_op (ev_fieldAddr rfl fa26_1 (o' := 1) rfl) rfl rfl rfl ?_
   have h28 := Fr.blk hx21 (by omega) (fun e => (by omega)) h16
   have h29 := Fr.blk hf27 (by omega) (fun e => (by omega)) h28
   refine st_op (ev_load rfl (lvar_one one3 h29 rfl)) rfl rfl rfl ?_
   refine st_op (ev_move rfl) rfl rfl rfl ?_
   refine st_op (ev_build zero26 pl26 (parts := [(0, .int .i64 2), (2, .int .i64 from_), (7, .bool (Spec.newerF x tm l index logterm))]) rfl (cs := [.int .i64 2, .int .i64 0, .int .i64 from_, .int .i64 0, .int .i64 0, .int .i64 0, .int .i64 0, .bool (Spec.newerF x tm l index logterm), .slice none 0 0, .int .i64 0, .int .i64 0, .string (⟨#[]⟩), .string (⟨#[]⟩)]) rfl) rfl rfl rfl ?_
   refine st_call rfl rfl rfl ent45 rfl rfl rfl ?_
   have h30 := Row.fr h17 hx21 (fun q hq e => ⟨_, e ▸ h15, show (0 : Nat) ≠ 4 by decide⟩)
   have h31 := Row.fr h30 hf27 (fun q hq e => ⟨_, e ▸ hB22, show (0 : Nat) ≠ 4 by decide⟩)
   have h32 := Fr.blk hx21 (by omega) (fun e => (by omega)) h18
   have h33 := Fr.blk hf27 (by omega) (fun e => (by omega)) h32
   have hm34 : My H23 H23 none 0 13 (([] : List MsgC).map MsgC.cells) := .nil
   obtain ⟨_, H36, hs35, A38, c39, hs35v, hm40, hE41, hB42, hx37⟩ := raft_say0_spec H23 rid ⟨by omega, by omega⟩ rt from_ x ⟨by omega, by omega⟩ tm cf (by omega) dt lA l lc h31 cl (by omega) g (by omega) h33 (by assumption) cmt role ldr true   H23 none ([] : List MsgC) 0 hm34 (by omega) (by first | omega | (simp only [List.length_append, List.length_cons, List.length_nil, List.length_map, List.length_set, List.length_replicate, Spec.bytesOf_length]; omega) | (simp; omega)) H23 (Each.nil (S := MsgC.sub) (H0 := H23) (H := H23)) (by omega) (oh || decide (rt ≠ rt ∨ from_ ≠ rv)) of_ os_ r (by omega) hB25 (by omega) (2 : Int) (0 : Int) from_ (0 : Int) (0 : Int) (0 : Int) (0 : Int) (Spec.newerF x tm l index logterm)  (0 : Int) (0 : Int) (⟨#[]⟩ : ByteArray) (⟨#[]⟩ : ByteArray)
   rw [hs35v] at hs35; clear hs35v
   refine ⟨_, H36, hs35, ?_⟩
   have H36n : H23.next ≤ H36.next := hx37.1
   try show aw _ _ _ _ _ _
   have hres : (Spec.voteF rid rt rv hrd oh x tm l from_ index logterm) = ((([] : List MsgC) ++ [(⟨(2 : Int), rid, from_, rt, (0 : Int), (0 : Int), (0 : Int), (Spec.newerF x tm l index logterm), [], none, 0, ⟨(0 : Int), (0 : Int), (⟨#[]⟩ : ByteArray), (⟨#[]⟩ : ByteArray)⟩⟩ : MsgC)]), (oh || decide (rt ≠ rt ∨ from_ ≠ rv)), from_, true) := by first | exact Spec.vote_yes (by omega) (by assumption) (by first | rfl | assumption) (by simp) | exact Spec.vote_no (by first | exact .inl (by omega) | exact .inr (by assumption)) (by first | rfl | assumption)
   exact ⟨.tuple #[], rfl, A38, c39, rfl, (by rw [hres]; exact (My.older hm40 (by omega))), (by rw [hres]; exact (Each.older hE41 (by omega))), (by rw [hres]; exact hB42), (by show (1 : Nat) ≤ 100; decide), (Fr.transG (Fr.transG (Fr.transG (Fr.trans (Fr.trans (Fr.refl (fun q => q = r) H) (hx6.fr fun _ => False) (fun q hq (e : False) => e.elim)) (hx13.fr fun _ => False) (fun q hq (e : False) => e.elim)) hx21 (fun q hq hE e => (e))) hf27 (fun q hq hE e => (e))) hx37 (fun q hq hE e => Or.elim e (fun e => (e)) (fun e => absurd hq (by omega))))⟩
  ·
   rw [Bool.not_eq_true] at hc14; refine aw_condF hc14 rfl ?_
   try show aw _ _ _ _ _ _
   refine aw_skip ?_
   try show aw _ _ _ _ _ _
   refine aw_reg ?_
   refine st_op (ev_move rfl) rfl rfl rfl ?_
   refine st_op (ev_fieldAddr rfl fa26_1 (o' := 1) rfl) rfl rfl rfl ?_
   have h43 := Ext.blk hx13 (by omega) hB5
   refine st_op (ev_load rfl (lvar_one one3 h43 rfl)) rfl rfl rfl ?_
   refine st_op (ev_move rfl) rfl rfl rfl ?_
   refine st_op (ev_build zero26 pl26 (parts := [(0, .int .i64 2), (2, .int .i64 from_), (7, .bool (Spec.newerF x tm l index logterm))]) rfl (cs := [.int .i64 2, .int .i64 0, .int .i64 from_, .int .i64 0, .int .i64 0, .int .i64 0, .int .i64 0, .bool (Spec.newerF x tm l index logterm), .slice none 0 0, .int .i64 0, .int .i64 0, .string (⟨#[]⟩), .string (⟨#[]⟩)]) rfl) rfl rfl rfl ?_
   refine st_call rfl rfl rfl ent45 rfl rfl rfl ?_
   have h44 := Row.ext h9 hx13
   have h45 := Ext.blk hx13 (by omega) h10
   have hm46 : My H12 H12 none 0 13 (([] : List MsgC).map MsgC.cells) := .nil
   have h47 := Ext.blk hx13 (by omega) h7
   obtain ⟨_, H49, hs48, A51, c52, hs48v, hm53, hE54, hB55, hx50⟩ := raft_say0_spec H12 rid ⟨by omega, by omega⟩ rt rv x ⟨by omega, by omega⟩ tm cf (by omega) dt lA l lc h44 cl (by omega) g (by omega) h45 (by assumption) cmt role ldr hrd   H12 none ([] : List MsgC) 0 hm46 (by omega) (by first | omega | (simp only [List.length_append, List.length_cons, List.length_nil, List.length_map, List.length_set, List.length_replicate, Spec.bytesOf_length]; omega) | (simp; omega)) H12 (Each.nil (S := MsgC.sub) (H0 := H12) (H := H12)) (by omega) oh of_ os_ r (by omega) h47 (by omega) (2 : Int) (0 : Int) from_ (0 : Int) (0 : Int) (0 : Int) (0 : Int) (Spec.newerF x tm l index logterm)  (0 : Int) (0 : Int) (⟨#[]⟩ : ByteArray) (⟨#[]⟩ : ByteArray)
   rw [hs48v] at hs48; clear hs48v
   refine ⟨_, H49, hs48, ?_⟩
   have H49n : H12.next ≤ H49.next := hx50.1
   try show aw _ _ _ _ _ _
   have hres : (Spec.voteF rid rt rv hrd oh x tm l from_ index logterm) = ((([] : List MsgC) ++ [(⟨(2 : Int), rid, from_, rt, (0 : Int), (0 : Int), (0 : Int), (Spec.newerF x tm l index logterm), [], none, 0, ⟨(0 : Int), (0 : Int), (⟨#[]⟩ : ByteArray), (⟨#[]⟩ : ByteArray)⟩⟩ : MsgC)]), oh, rv, hrd) := by first | exact Spec.vote_yes (by omega) (by assumption) (by first | rfl | assumption) (by simp) | exact Spec.vote_no (by first | exact .inl (by omega) | exact .inr (by assumption)) (by first | rfl | assumption)
   exact ⟨.tuple #[], rfl, A51, c52, rfl, (by rw [hres]; exact (My.older hm53 (by omega))), (by rw [hres]; exact (Each.older hE54 (by omega))), (by rw [hres]; exact hB55), (by show (1 : Nat) ≤ 100; decide), (Fr.transG (Fr.trans (Fr.trans (Fr.refl (fun q => q = r) H) (hx6.fr fun _ => False) (fun q hq (e : False) => e.elim)) (hx13.fr fun _ => False) (fun q hq (e : False) => e.elim)) hx50 (fun q hq hE e => Or.elim e (fun e => (e)) (fun e => absurd hq (by omega))))⟩
 ·
  have hb8 := ne_of_beq_false hb8
  refine sm_op (ev_move rfl) rfl rfl rfl ?_
  refine sm_op (ev_nilCheck rfl) rfl rfl rfl ?_
  refine sm_op (ev_fieldAddr rfl fa80_1 (o' := 1) rfl) rfl rfl rfl ?_
  refine sm_op (ev_fieldAddr rfl fa35_1 (o' := 2) rfl) rfl rfl rfl ?_
  refine sm_op (ev_load rfl (lvar_one one3 h7 rfl)) rfl rfl rfl ?_
  refine sm_op (ev_fieldAddr rfl fa26_1 (o' := 1) rfl) rfl rfl rfl ?_
  refine sm_op (ev_load rfl (lvar_one one3 hB5 rfl)) rfl rfl rfl ?_
  refine sm_op (ev_int rfl rfl rfl) rfl rfl rfl ?_
  refine sm_op (ev_pickF rfl rfl) rfl rfl rfl ?_
  refine sm_op (ev_move rfl) rfl rfl rfl ?_
  refine sm_bool 21 rfl (fun hb56 => ?_) (fun hb56 => ?_)
  ·
   have hb56 := eq_of_beq hb56
   refine sm_op (ev_move rfl) rfl rfl rfl ?_
   refine sm_op (ev_nilCheck rfl) rfl rfl rfl ?_
   refine sm_op (ev_fieldAddr rfl fa80_2 (o' := 3) rfl) rfl rfl rfl ?_
   refine sm_op (ev_load rfl (lvar_one one36 h7 rfl)) rfl rfl rfl ?_
   refine sm_op (ev_fieldAddr rfl fa26_4 (o' := 4) rfl) rfl rfl rfl ?_
   refine sm_op (ev_load rfl (lvar_one one2 hB5 rfl)) rfl rfl rfl ?_
   refine sm_op (ev_fieldAddr rfl fa26_5 (o' := 5) rfl) rfl rfl rfl ?_
   refine sm_op (ev_load rfl (lvar_one one2 hB5 rfl)) rfl rfl rfl ?_
   refine sm_call rfl rfl rfl ent82 rfl rfl rfl ?_
   have h57 := Row.ext hl hx6
   have h58 := Ext.blk hx6 (by omega) Bg
   obtain ⟨_, H60, hs59, hs59v, hx61⟩ := rlog_Newer_spec H2 x ⟨by omega, by omega⟩ tm cf (by omega) dt lA l lc h57 cl (by omega) g (by omega) h58 (by assumption) index logterm
   rw [hs59v] at hs59; clear hs59v
   refine ⟨_, H60, hs59, (fun h => nomatch h), ?_⟩
   have H60n : H2.next ≤ H60.next := hx61.1
   refine sm_op (ev_pickT rfl rfl) rfl rfl rfl ?_
   refine sm_op (ev_assign rfl) rfl rfl rfl ?_
   try show aw _ _ _ _ _ _
   iterate 2 refine aw_seq ?_
   refine aw_reg ?_
   refine st_op (ev_move rfl) rfl rfl rfl ?_
   try show aw _ _ _ _ _ _
   by_cases hc62 : (Spec.newerF x tm l index logterm) = true
   ·
    refine aw_condT hc62 rfl ?_
    try show aw _ _ _ _ _ _
    refine aw_seq ?_
    refine aw_marks (fun b => b < H60.next) [(false, false), (false, false), (false, false), (false, false), (false, false), (false, false), (false, false), (false, false), (false, false), (false, false)] mixed (by kernel_rfl) (by kernel_rfl) ?_
    iterate 2 refine sm_op (ev_move rfl) rfl rfl rfl ?_
    refine sm_op (ev_nilCheck rfl) rfl rfl rfl ?_
    refine sm_op (ev_fieldAddr rfl fa80_1 (o' := 1) rfl) rfl rfl rfl ?_
    refine sm_op (ev_fieldAddr rfl fa35_0 (o' := 1) rfl) rfl rfl rfl ?_
    have h63 := Ext.blk hx61 (by omega) h7
    refine sm_op (ev_load rfl (lvar_one one2 h63 rfl)) rfl rfl rfl ?_
    refine sm_op (ev_fieldAddr rfl fa26_1 (o' := 1) rfl) rfl rfl rfl ?_
    have h64 := Ext.blk hx61 (by omega) hB5
    refine sm_op (ev_load rfl (lvar_one one3 h64 rfl)) rfl rfl rfl ?_
    refine sm_op (ev_build zero35 pl35 (parts := [(0, .int .i64 rt), (1, .int .i64 from_)]) rfl (cs := [.int .i64 rt, .int .i64 from_]) rfl) rfl rfl rfl ?_
    refine sm_call rfl rfl rfl ent56 rfl rfl rfl ?_
    have h65 := Row.ext h57 hx61
    have h66 := Ext.blk hx61 (by omega) h58
    obtain ⟨_, H68, hs67, hs67v, hB70, hx69⟩ := raft_hard_spec H60 rid ⟨by omega, by omega⟩ rt rv x ⟨by omega, by omega⟩ tm cf (by omega) dt lA l lc h65 cl (by omega) g (by omega) h66 (by assumption) cmt role ldr hrd    oh of_ os_ r (by omega) h63 (by omega) rt from_
    rw [hs67v] at hs67; clear hs67v
    refine ⟨_, H68, hs67, (fun h => nomatch h), ?_⟩
    have H68n : H60.next ≤ H68.next := hx69.1
    try show aw _ _ _ _ _ _
    refine aw_reg ?_
    refine st_op (ev_move rfl) rfl rfl rfl ?_
    refine st_op (ev_nilCheck rfl) rfl rfl rfl ?_
    refine st_op (ev_fieldAddr rfl fa80_6 (o' := 7) rfl) rfl rfl rfl ?_
    obtain ⟨H71, he72, H71n_, hB73, f74⟩ := mem_store (v := .bool true) (o := 7) (cs' := [.int .i64 rid, .int .i64 rt, .int .i64 from_, .pointer (some ⟨g, 0, none⟩), .int .i64 cmt, .int .i64 role, .int .i64 ldr, .bool true, .pointer none, .pointer none, .slice none 0 0, .bool (oh || decide (rt ≠ rt ∨ from_ ≠ rv)), .int .i64 of_, .bool os_]) 1 rfl rfl size4 hB70 rfl rfl rfl
    refine st_op0 (he72 _ _ _ _ _ _ _ _ _ rfl rfl) rfl rfl ?_
    have hf75 : Fr (fun q => q = r) H68 H71 := Fr.write H71n_ f74
    have H71n : H68.next ≤ H71.next := hf75.1
    try show aw _ _ _ _ _ _
    refine aw_reg ?_
    refine st_op (ev_move rfl) rfl rfl rfl ?_
    refine st_op (ev_fieldAddr rfl fa26_1 (o' := 1) rfl) rfl rfl rfl ?_
    have h76 := Fr.blk hx69 (by omega) (fun e => (by omega)) h64
    have h77 := Fr.blk hf75 (by omega) (fun e => (by omega)) h76
    refine st_op (ev_load rfl (lvar_one one3 h77 rfl)) rfl rfl rfl ?_
    refine st_op (ev_move rfl) rfl rfl rfl ?_
    refine st_op (ev_build zero26 pl26 (parts := [(0, .int .i64 2), (2, .int .i64 from_), (7, .bool (Spec.newerF x tm l index logterm))]) rfl (cs := [.int .i64 2, .int .i64 0, .int .i64 from_, .int .i64 0, .int .i64 0, .int .i64 0, .int .i64 0, .bool (Spec.newerF x tm l index logterm), .slice none 0 0, .int .i64 0, .int .i64 0, .string (⟨#[]⟩), .string (⟨#[]⟩)]) rfl) rfl rfl rfl ?_
    refine st_call rfl rfl rfl ent45 rfl rfl rfl ?_
    have h78 := Row.fr h65 hx69 (fun q hq e => ⟨_, e ▸ h63, show (0 : Nat) ≠ 4 by decide⟩)
    have h79 := Row.fr h78 hf75 (fun q hq e => ⟨_, e ▸ hB70, show (0 : Nat) ≠ 4 by decide⟩)
    have h80 := Fr.blk hx69 (by omega) (fun e => (by omega)) h66
    have h81 := Fr.blk hf75 (by omega) (fun e => (by omega)) h80
    have hm82 : My H71 H71 none 0 13 (([] : List MsgC).map MsgC.cells) := .nil
    obtain ⟨_, H84, hs83, A86, c87, hs83v, hm88, hE89, hB90, hx85⟩ := raft_say0_spec H71 rid ⟨by omega, by omega⟩ rt from_ x ⟨by omega, by omega⟩ tm cf (by omega) dt lA l lc h79 cl (by omega) g (by omega) h81 (by assumption) cmt role ldr true   H71 none ([] : List MsgC) 0 hm82 (by omega) (by first | omega | (simp only [List.length_append, List.length_cons, List.length_nil, List.length_map, List.length_set, List.length_replicate, Spec.bytesOf_length]; omega) | (simp; omega)) H71 (Each.nil (S := MsgC.sub) (H0 := H71) (H := H71)) (by omega) (oh || decide (rt ≠ rt ∨ from_ ≠ rv)) of_ os_ r (by omega) hB73 (by omega) (2 : Int) (0 : Int) from_ (0 : Int) (0 : Int) (0 : Int) (0 : Int) (Spec.newerF x tm l index logterm)  (0 : Int) (0 : Int) (⟨#[]⟩ : ByteArray) (⟨#[]⟩ : ByteArray)
    rw [hs83v] at hs83; clear hs83v
    refine ⟨_, H84, hs83, ?_⟩
    have H84n : H71.next ≤ H84.next := hx85.1
    try show aw _ _ _ _ _ _
    have hres : (Spec.voteF rid rt rv hrd oh x tm l from_ index logterm) = ((([] : List MsgC) ++ [(⟨(2 : Int), rid, from_, rt, (0 : Int), (0 : Int), (0 : Int), (Spec.newerF x tm l index logterm), [], none, 0, ⟨(0 : Int), (0 : Int), (⟨#[]⟩ : ByteArray), (⟨#[]⟩ : ByteArray)⟩⟩ : MsgC)]), (oh || decide (rt ≠ rt ∨ from_ ≠ rv)), from_, true) := by first | exact Spec.vote_yes (by omega) (by assumption) (by first | rfl | assumption) (by simp) | exact Spec.vote_no (by first | exact .inl (by omega) | exact .inr (by assumption)) (by first | rfl | assumption)
    exact ⟨.tuple #[], rfl, A86, c87, rfl, (by rw [hres]; exact (My.older hm88 (by omega))), (by rw [hres]; exact (Each.older hE89 (by omega))), (by rw [hres]; exact hB90), (by show (1 : Nat) ≤ 100; decide), (Fr.transG (Fr.transG (Fr.transG (Fr.trans (Fr.trans (Fr.refl (fun q => q = r) H) (hx6.fr fun _ => False) (fun q hq (e : False) => e.elim)) (hx61.fr fun _ => False) (fun q hq (e : False) => e.elim)) hx69 (fun q hq hE e => (e))) hf75 (fun q hq hE e => (e))) hx85 (fun q hq hE e => Or.elim e (fun e => (e)) (fun e => absurd hq (by omega))))⟩
   ·
    rw [Bool.not_eq_true] at hc62; refine aw_condF hc62 rfl ?_
    try show aw _ _ _ _ _ _
    refine aw_skip ?_
    try show aw _ _ _ _ _ _
    refine aw_reg ?_
    refine st_op (ev_move rfl) rfl rfl rfl ?_
    refine st_op (ev_fieldAddr rfl fa26_1 (o' := 1) rfl) rfl rfl rfl ?_
    have h91 := Ext.blk hx61 (by omega) hB5
    refine st_op (ev_load rfl (lvar_one one3 h91 rfl)) rfl rfl rfl ?_
    refine st_op (ev_move rfl) rfl rfl rfl ?_
    refine st_op (ev_build zero26 pl26 (parts := [(0, .int .i64 2), (2, .int .i64 from_), (7, .bool (Spec.newerF x tm l index logterm))]) rfl (cs := [.int .i64 2, .int .i64 0, .int .i64 from_, .int .i64 0, .int .i64 0, .int .i64 0, .int .i64 0, .bool (Spec.newerF x tm l index logterm), .slice none 0 0, .int .i64 0, .int .i64 0, .string (⟨#[]⟩), .string (⟨#[]⟩)]) rfl) rfl rfl rfl ?_
    refine st_call rfl rfl rfl ent45 rfl rfl rfl ?_
    have h92 := Row.ext h57 hx61
    have h93 := Ext.blk hx61 (by omega) h58
    have hm94 : My H60 H60 none 0 13 (([] : List MsgC).map MsgC.cells) := .nil
    have h95 := Ext.blk hx61 (by omega) h7
    obtain ⟨_, H97, hs96, A99, c100, hs96v, hm101, hE102, hB103, hx98⟩ := raft_say0_spec H60 rid ⟨by omega, by omega⟩ rt rv x ⟨by omega, by omega⟩ tm cf (by omega) dt lA l lc h92 cl (by omega) g (by omega) h93 (by assumption) cmt role ldr hrd   H60 none ([] : List MsgC) 0 hm94 (by omega) (by first | omega | (simp only [List.length_append, List.length_cons, List.length_nil, List.length_map, List.length_set, List.length_replicate, Spec.bytesOf_length]; omega) | (simp; omega)) H60 (Each.nil (S := MsgC.sub) (H0 := H60) (H := H60)) (by omega) oh of_ os_ r (by omega) h95 (by omega) (2 : Int) (0 : Int) from_ (0 : Int) (0 : Int) (0 : Int) (0 : Int) (Spec.newerF x tm l index logterm)  (0 : Int) (0 : Int) (⟨#[]⟩ : ByteArray) (⟨#[]⟩ : ByteArray)
    rw [hs96v] at hs96; clear hs96v
    refine ⟨_, H97, hs96, ?_⟩
    have H97n : H60.next ≤ H97.next := hx98.1
    try show aw _ _ _ _ _ _
    have hres : (Spec.voteF rid rt rv hrd oh x tm l from_ index logterm) = ((([] : List MsgC) ++ [(⟨(2 : Int), rid, from_, rt, (0 : Int), (0 : Int), (0 : Int), (Spec.newerF x tm l index logterm), [], none, 0, ⟨(0 : Int), (0 : Int), (⟨#[]⟩ : ByteArray), (⟨#[]⟩ : ByteArray)⟩⟩ : MsgC)]), oh, rv, hrd) := by first | exact Spec.vote_yes (by omega) (by assumption) (by first | rfl | assumption) (by simp) | exact Spec.vote_no (by first | exact .inl (by omega) | exact .inr (by assumption)) (by first | rfl | assumption)
    exact ⟨.tuple #[], rfl, A99, c100, rfl, (by rw [hres]; exact (My.older hm101 (by omega))), (by rw [hres]; exact (Each.older hE102 (by omega))), (by rw [hres]; exact hB103), (by show (1 : Nat) ≤ 100; decide), (Fr.transG (Fr.trans (Fr.trans (Fr.refl (fun q => q = r) H) (hx6.fr fun _ => False) (fun q hq (e : False) => e.elim)) (hx61.fr fun _ => False) (fun q hq (e : False) => e.elim)) hx98 (fun q hq hE e => Or.elim e (fun e => (e)) (fun e => absurd hq (by omega))))⟩
  ·
   have hb56 := ne_of_beq_false hb56
   iterate 9 refine sm_skip rfl rfl rfl ?_
   refine sm_op (ev_pickF rfl rfl) rfl rfl rfl ?_
   refine sm_op (ev_assign rfl) rfl rfl rfl ?_
   try show aw _ _ _ _ _ _
   iterate 2 refine aw_seq ?_
   refine aw_reg ?_
   refine st_op (ev_move rfl) rfl rfl rfl ?_
   try show aw _ _ _ _ _ _
   refine aw_cond (t := false) rfl ?_
   try show aw _ _ _ _ _ _
   refine aw_skip ?_
   try show aw _ _ _ _ _ _
   refine aw_reg ?_
   refine st_op (ev_move rfl) rfl rfl rfl ?_
   refine st_op (ev_fieldAddr rfl fa26_1 (o' := 1) rfl) rfl rfl rfl ?_
   refine st_op (ev_load rfl (lvar_one one3 hB5 rfl)) rfl rfl rfl ?_
   refine st_op (ev_move rfl) rfl rfl rfl ?_
   refine st_op (ev_build zero26 pl26 (parts := [(0, .int .i64 2), (2, .int .i64 from_), (7, .bool false)]) rfl (cs := [.int .i64 2, .int .i64 0, .int .i64 from_, .int .i64 0, .int .i64 0, .int .i64 0, .int .i64 0, .bool false, .slice none 0 0, .int .i64 0, .int .i64 0, .string (⟨#[]⟩), .string (⟨#[]⟩)]) rfl) rfl rfl rfl ?_
   refine st_call rfl rfl rfl ent45 rfl rfl rfl ?_
   have h104 := Row.ext hl hx6
   have h105 := Ext.blk hx6 (by omega) Bg
   have hm106 : My H2 H2 none 0 13 (([] : List MsgC).map MsgC.cells) := .nil
   obtain ⟨_, H108, hs107, A110, c111, hs107v, hm112, hE113, hB114, hx109⟩ := raft_say0_spec H2 rid ⟨by omega, by omega⟩ rt rv x ⟨by omega, by omega⟩ tm cf (by omega) dt lA l lc h104 cl (by omega) g (by omega) h105 (by assumption) cmt role ldr hrd   H2 none ([] : List MsgC) 0 hm106 (by omega) (by first | omega | (simp only [List.length_append, List.length_cons, List.length_nil, List.length_map, List.length_set, List.length_replicate, Spec.bytesOf_length]; omega) | (simp; omega)) H2 (Each.nil (S := MsgC.sub) (H0 := H2) (H := H2)) (by omega) oh of_ os_ r (by omega) h7 (by omega) (2 : Int) (0 : Int) from_ (0 : Int) (0 : Int) (0 : Int) (0 : Int) false  (0 : Int) (0 : Int) (⟨#[]⟩ : ByteArray) (⟨#[]⟩ : ByteArray)
   rw [hs107v] at hs107; clear hs107v
   refine ⟨_, H108, hs107, ?_⟩
   have H108n : H2.next ≤ H108.next := hx109.1
   try show aw _ _ _ _ _ _
   have hres : (Spec.voteF rid rt rv hrd oh x tm l from_ index logterm) = ((([] : List MsgC) ++ [(⟨(2 : Int), rid, from_, rt, (0 : Int), (0 : Int), (0 : Int), false, [], none, 0, ⟨(0 : Int), (0 : Int), (⟨#[]⟩ : ByteArray), (⟨#[]⟩ : ByteArray)⟩⟩ : MsgC)]), oh, rv, hrd) := by first | exact Spec.vote_yes (by omega) (by assumption) (by first | rfl | assumption) (by simp) | exact Spec.vote_no (by first | exact .inl (by omega) | exact .inr (by assumption)) (by first | rfl | assumption)
   exact ⟨.tuple #[], rfl, A110, c111, rfl, (by rw [hres]; exact (My.older hm112 (by omega))), (by rw [hres]; exact (Each.older hE113 (by omega))), (by rw [hres]; exact hB114), (by show (1 : Nat) ≤ 100; decide), (Fr.transG (Fr.trans (Fr.refl (fun q => q = r) H) (hx6.fr fun _ => False) (fun q hq (e : False) => e.elim)) hx109 (fun q hq hE e => Or.elim e (fun e => (e)) (fun e => absurd hq (by omega))))⟩
theorem raft_StepUp_spec (H : Heap) (rid : Int) (hrid : 1 ≤ rid ∧ rid ≤ 7) (rt : Int) (rv : Int) (x : Int) (hx : 0 ≤ x ∧ x ≤ 2199023255552) (tm : Int) (cf : ByteArray) (hcf : cf.size ≤ 1073741824) (dt : ByteArray) (lA : Option Addr) (l : List Entry) (lc : Nat) (hl : Row H lA lc 4 (l.map Entry.cells)) (cl : l.length ≤ lc) (ll : l.length ≤ 200) (g : Nat) (hg : g < H.next) (Bg : H.blk g = some ⟨[.int .i64 x, .int .i64 tm, .string cf, .string dt, .slice lA l.length lc], 0, false, false⟩) (uk : Spec.LogOk x tm l) (cmt : Int) (role : Int) (ldr : Int) (hrd : Bool)    (oh : Bool) (of_ : Int) (os_ : Bool) (r : Nat) (hr : r < H.next) (Br : H.blk r = some ⟨[.int .i64 rid, .int .i64 rt, .int .i64 rv, .pointer (some ⟨g, 0, none⟩), .int .i64 cmt, .int .i64 role, .int .i64 ldr, .bool hrd, .pointer none, .pointer none, .slice none 0 0, .bool oh, .int .i64 of_, .bool os_], 0, false, false⟩) (ugr : g < r) (kind : Int) (from_ : Int) (to_ : Int) (term : Int) (index : Int) (logterm : Int) (commit : Int) (yes : Bool) (esA : Option Addr) (es : List Entry) (esc : Nat) (hes : Row H esA esc 4 (es.map Entry.cells)) (ces : es.length ≤ esc) (les : es.length ≤ 1048576) (s_index : Int) (s_term : Int) (s_conf : ByteArray) (hs_conf : s_conf.size ≤ 1073741824) (s_data : ByteArray) (hs_data : s_data.size ≤ 1073741824) (um0 : Spec.mayMsg kind from_ to_ term index logterm commit yes es s_index s_term s_conf s_data = true) (um1 : kind = 1 ∧ to_ = rid ∧ from_ ≠ rid ∧ rt < term) : ∃ v H', Spec Tryz.prog 15 [.pointer (some ⟨r, 0, none⟩), .agg #[.int .i64 kind, .int .i64 from_, .int .i64 to_, .int .i64 term, .int .i64 index, .int .i64 logterm, .int .i64 commit, .bool yes, .slice esA es.length esc, .int .i64 s_index, .int .i64 s_term, .string s_conf, .string s_data]] H v H' ∧ (∃ rA0 rc0, (v = .agg #[.slice rA0 (((Spec.voteF rid term 0 hrd (oh || decide (term ≠ rt ∨ 0 ≠ rv)) x tm l from_ index logterm).1).length) rc0, .bool ((Spec.voteF rid term 0 hrd (oh || decide (term ≠ rt ∨ 0 ≠ rv)) x tm l from_ index logterm).2.1), .int .i64 of_, .bool os_]) ∧ (My H H' rA0 rc0 13 (((Spec.voteF rid term 0 hrd (oh || decide (term ≠ rt ∨ 0 ≠ rv)) x tm l from_ index logterm).1).map MsgC.cells)) ∧ (Each MsgC.sub H H' ((Spec.voteF rid term 0 hrd (oh || decide (term ≠ rt ∨ 0 ≠ rv)) x tm l from_ index logterm).1)) ∧ (H'.blk r = some ⟨[.int .i64 rid, .int .i64 term, .int .i64 ((Spec.voteF rid term 0 hrd (oh || decide (term ≠ rt ∨ 0 ≠ rv)) x tm l from_ index logterm).2.2.1), .pointer (some ⟨g, 0, none⟩), .int .i64 cmt, .int .i64 0, .int .i64 0, .bool ((Spec.voteF rid term 0 hrd (oh || decide (term ≠ rt ∨ 0 ≠ rv)) x tm l from_ index logterm).2.2.2), .pointer none, .pointer none, .slice none 0 0, .bool false, .int .i64 0, .bool false], 0, false, false⟩) ∧ ((Spec.voteF rid term 0 hrd (oh || decide (term ≠ rt ∨ 0 ≠ rv)) x tm l from_ index logterm).1 = [Spec.plainM 2 rid from_ term (Spec.yesF 0 from_ x tm l index logterm)]) ∧ ((Spec.voteF rid term 0 hrd (oh || decide (term ≠ rt ∨ 0 ≠ rv)) x tm l from_ index logterm).2.2.1 = if (Spec.yesF 0 from_ x tm l index logterm) = true then from_ else 0) ∧ (Fr (fun q => q = r) H H')) := by
 refine spec_go2 E0_ok 101 (f := 15) Tryz.func15 rfl rfl rfl ?_
 refine aw_seq ?_
 refine aw_reg ?_
 obtain ⟨b1, H2, he3, b1e, H2n_, hB5, f4⟩ := mem_box (P := Tryz.prog) H (v := .agg #[.int .i64 kind, .int .i64 from_, .int .i64 to_, .int .i64 term, .int .i64 index, .int .i64 logterm, .int .i64 commit, .bool yes, .slice esA es.length esc, .int .i64 s_index, .int .i64 s_term, .string s_conf, .string s_data]) (cs := [.int .i64 kind, .int .i64 from_, .int .i64 to_, .int .i64 term, .int .i64 index, .int .i64 logterm, .int .i64 commit, .bool yes, .slice esA es.length esc, .int .i64 s_index, .int .i64 s_term, .string s_conf, .string s_data]) rfl rfl
 refine st_op (he3 _ _ _ _ _ _ _ _ _ rfl) rfl rfl rfl ?_
 have hx6 : Ext H H2 := Ext.new (by omega) H2n_ f4
 have H2n : H.next ≤ H2.next := hx6.1
 obtain ⟨b7, H8, he9, b7e, H8n_, hB11, f10⟩ := mem_alloc H2 zero40
 refine st_op (he9 _ _ _ _ _ _ _) rfl rfl rfl ?_
 have hx12 : Ext H2 H8 := Ext.new (by omega) H8n_ f10
 have H8n : H2.next ≤ H8.next := hx12.1
 try show aw _ _ _ _ _ _
 iterate 2 refine aw_seq ?_
 refine aw_marks (fun b => b < H8.next) [(false, false), (false, false), (false, false), (false, false), (false, false), (false, false), (false, false), (false, false), (false, false), (false, false), (false, false), (false, false), (false, false), (false, false), (false, false), (false, false), (false, false), (false, false), (false, false), (false, false), (false, false), (false, false), (false, false), (false, false), (false, false)] mixed (by kernel_rfl) (by kernel_rfl) ?_
 refine sm_op (ev_move rfl) rfl rfl rfl ?_
 refine sm_op (ev_nilEq rfl rfl Tryz.underlying32) rfl rfl rfl ?_
 refine sm_op (ev_move rfl) rfl rfl rfl ?_
 have h13 := Ext.blk hx12 (by omega) hB5
 refine sm_op (ev_load rfl (lvar_part (l := [.int .i64 kind, .int .i64 from_, .int .i64 to_, .int .i64 term, .int .i64 index, .int .i64 logterm, .int .i64 commit, .bool yes, .slice esA es.length esc, .int .i64 s_index, .int .i64 s_term, .string s_conf, .string s_data]) many26 h13 rfl rfl (by decide))) rfl rfl rfl ?_
 refine sm_call rfl rfl rfl ent11 rfl rfl rfl ?_
 have hx15 : Ext H H8 := (Ext.trans hx6 hx12)
 have h14 := Row.ext hes hx15
 obtain ⟨_, H17, hs16, hs16v, hx18⟩ := raft_May_spec H8 kind from_ to_ term index logterm commit yes esA es esc h14 ces (by omega) s_index s_term s_conf (by omega) s_data (by omega)
 rw [hs16v] at hs16; clear hs16v
 refine ⟨_, H17, hs16, (fun h => nomatch h), ?_⟩
 have H17n : H8.next ≤ H17.next := hx18.1
 refine sm_op (ev_not rfl) rfl rfl rfl ?_
 refine sm_op (ev_pickF rfl rfl) rfl rfl rfl ?_
 refine sm_op (ev_move rfl) rfl rfl rfl ?_
 refine sm_bool 12 rfl (fun hb19 => ?_) (fun hb19 => ?_)
 ·
  replace hb19 : (Spec.mayMsg kind from_ to_ term index logterm commit yes es s_index s_term s_conf s_data) = false := by rw [Bool.not_eq_true'] at hb19; exact hb19
  iterate 7 refine sm_skip rfl rfl rfl ?_
  refine sm_op (ev_pickT rfl rfl) rfl rfl rfl ?_
  refine sm_op (ev_move rfl) rfl rfl rfl ?_
  iterate 7 refine sm_skip rfl rfl rfl ?_
  refine sm_op (ev_pickT rfl rfl) rfl rfl rfl ?_
  try show aw _ _ _ _ _ _
  refine aw_cond (t := true) rfl ?_
  try show aw _ _ _ _ _ _
  refine aw_seq ?_
  refine aw_reg ?_
  refine st_op (ev_build zero40 pl40 (parts := []) rfl (cs := [.slice none 0 0, .bool false, .int .i64 0, .bool false]) rfl) rfl rfl rfl ?_
  have h20 := Ext.blk hx18 (by omega) hB11
  obtain ⟨H21, he22, H21n_, hB23, f24⟩ := mem_store (v := .agg #[.slice none 0 0, .bool false, .int .i64 0, .bool false]) (o := 0) (cs' := [.slice none 0 0, .bool false, .int .i64 0, .bool false]) 4 rfl rfl size40 h20 rfl rfl rfl
  refine st_op0 (he22 _ _ _ _ _ _ _ _ _ rfl rfl) rfl rfl ?_
  have hf25 : Fr (fun q => q = b7) H17 H21 := Fr.write H21n_ f24
  have H21n : H17.next ≤ H21.next := hf25.1
  try show aw _ _ _ _ _ _
  refine aw_ret ?_
  exfalso; first | omega | simp_all
 ·
  replace hb19 : (Spec.mayMsg kind from_ to_ term index logterm commit yes es s_index s_term s_conf s_data) = true := by rw [Bool.not_eq_false'] at hb19; exact hb19
  refine sm_op (ev_fieldAddr rfl fa26_2 (o' := 2) rfl) rfl rfl rfl ?_
  have h26 := Ext.blk hx18 (by omega) h13
  refine sm_op (ev_load rfl (lvar_one one3 h26 rfl)) rfl rfl rfl ?_
  refine sm_op (ev_move rfl) rfl rfl rfl ?_
  refine sm_op (ev_nilCheck rfl) rfl rfl rfl ?_
  refine sm_op (ev_fieldAddr rfl fa80_0 (o' := 0) rfl) rfl rfl rfl ?_
  have hx28 : Ext H H17 := (Ext.trans hx15 hx18)
  have h27 := Ext.blk hx28 (by omega) Br
  refine sm_op (ev_load rfl (lvar_one one3 h27 rfl)) rfl rfl rfl ?_
  refine sm_op (ev_int rfl rfl rfl) rfl rfl rfl ?_
  refine sm_op (ev_pickF rfl rfl) rfl rfl rfl ?_
  refine sm_op (ev_move rfl) rfl rfl rfl ?_
  refine sm_bool 21 rfl (fun hb29 => ?_) (fun hb29 => ?_)
  ·
   have hb29 : ¬ (to_ = rid) := by simpa using hb29
   iterate 7 refine sm_skip rfl rfl rfl ?_
   refine sm_op (ev_pickT rfl rfl) rfl rfl rfl ?_
   try show aw _ _ _ _ _ _
   refine aw_cond (t := true) rfl ?_
   try show aw _ _ _ _ _ _
   refine aw_seq ?_
   refine aw_reg ?_
   refine st_op (ev_build zero40 pl40 (parts := []) rfl (cs := [.slice none 0 0, .bool false, .int .i64 0, .bool false]) rfl) rfl rfl rfl ?_
   have h30 := Ext.blk hx18 (by omega) hB11
   obtain ⟨H31, he32, H31n_, hB33, f34⟩ := mem_store (v := .agg #[.slice none 0 0, .bool false, .int .i64 0, .bool false]) (o := 0) (cs' := [.slice none 0 0, .bool false, .int .i64 0, .bool false]) 4 rfl rfl size40 h30 rfl rfl rfl
   refine st_op0 (he32 _ _ _ _ _ _ _ _ _ rfl rfl) rfl rfl ?_
   have hf35 : Fr (fun q => q = b7) H17 H31 := Fr.write H31n_ f34
   have H31n : H17.next ≤ H31.next := hf35.1
   try show aw _ _ _ _ _ _
   refine aw_ret ?_
   exfalso; first | omega | simp_all
  ·
   have hb29 : (to_ = rid) := by simpa using hb29
   refine sm_op (ev_fieldAddr rfl fa26_1 (o' := 1) rfl) rfl rfl rfl ?_
   refine sm_op (ev_load rfl (lvar_one one3 h26 rfl)) rfl rfl rfl ?_
   refine sm_op (ev_move rfl) rfl rfl rfl ?_
   refine sm_op (ev_nilCheck rfl) rfl rfl rfl ?_
   refine sm_op (ev_fieldAddr rfl fa80_0 (o' := 0) rfl) rfl rfl rfl ?_
   refine sm_op (ev_load rfl (lvar_one one3 h27 rfl)) rfl rfl rfl ?_
   refine sm_op (ev_int rfl rfl rfl) rfl rfl rfl ?_
   refine sm_op (ev_pickF rfl rfl) rfl rfl rfl ?_
   try show aw _ _ _ _ _ _
   by_cases hc36 : (from_ == rid) = true
   ·
    refine aw_condT hc36 rfl ?_
    try show aw _ _ _ _ _ _
    have hc36 := eq_of_beq hc36
    refine aw_seq ?_
    refine aw_reg ?_
    refine st_op (ev_build zero40 pl40 (parts := []) rfl (cs := [.slice none 0 0, .bool false, .int .i64 0, .bool false]) rfl) rfl rfl rfl ?_
    have h37 := Ext.blk hx18 (by omega) hB11
    obtain ⟨H38, he39, H38n_, hB40, f41⟩ := mem_store (v := .agg #[.slice none 0 0, .bool false, .int .i64 0, .bool false]) (o := 0) (cs' := [.slice none 0 0, .bool false, .int .i64 0, .bool false]) 4 rfl rfl size40 h37 rfl rfl rfl
    refine st_op0 (he39 _ _ _ _ _ _ _ _ _ rfl rfl) rfl rfl ?_
    have hf42 : Fr (fun q => q = b7) H17 H38 := Fr.write H38n_ f41
    have H38n : H17.next ≤ H38.next := hf42.1
    try show aw _ _ _ _ _ _
    refine aw_ret ?_
    exfalso; first | omega | simp_all
   ·
    rw [Bool.not_eq_true] at hc36; refine aw_condF hc36 rfl ?_
    try show aw _ _ _ _ _ _
    have hc36 := ne_of_beq_false hc36
    refine aw_skip ?_
    try show aw _ _ _ _ _ _
    refine aw_seq ?_
    refine aw_block ?_
    refine aw_seq ?_
    refine aw_marks (fun b => b < H17.next) [(false, false), (false, false), (false, false), (false, false), (false, false), (false, false), (false, false), (false, false), (false, false)] mixed (by kernel_rfl) (by kernel_rfl) ?_
    refine sm_op (ev_fieldAddr rfl fa26_3 (o' := 3) rfl) rfl rfl rfl ?_
    refine sm_op (ev_load rfl (lvar_one one2 h26 rfl)) rfl rfl rfl ?_
    refine sm_op (ev_move rfl) rfl rfl rfl ?_
    refine sm_op (ev_nilCheck rfl) rfl rfl rfl ?_
    refine sm_op (ev_fieldAddr rfl fa80_1 (o' := 1) rfl) rfl rfl rfl ?_
    refine sm_op (ev_fieldAddr rfl fa35_0 (o' := 1) rfl) rfl rfl rfl ?_
    refine sm_op (ev_load rfl (lvar_one one2 h27 rfl)) rfl rfl rfl ?_
    refine sm_op (ev_int rfl rfl rfl) rfl rfl rfl ?_
    refine sm_op (ev_assign rfl) rfl rfl rfl ?_
    try show aw _ _ _ _ _ _
    by_cases hc43 : (decide (term > rt)) = true
    ·
     refine aw_condT hc43 rfl ?_
     try show aw _ _ _ _ _ _
     have hc43 := of_decide_eq_true hc43
     refine aw_reg ?_
     refine st_op (ev_move rfl) rfl rfl rfl ?_
     refine st_op (ev_fieldAddr rfl fa26_3 (o' := 3) rfl) rfl rfl rfl ?_
     refine st_op (ev_load rfl (lvar_one one2 h26 rfl)) rfl rfl rfl ?_
     refine st_call rfl rfl rfl ent44 rfl rfl rfl ?_
     have h44 := Row.ext hl hx28
     have h45 := Ext.blk hx28 (by omega) Bg
     obtain ⟨_, H47, hs46, hs46v, hB49, hx48⟩ := raft_yield_spec H17 rid ⟨by omega, by omega⟩ rt rv x ⟨by omega, by omega⟩ tm cf (by omega) dt lA l lc h44 cl (by omega) g (by omega) h45 (by assumption) cmt role ldr hrd    oh of_ os_ r (by omega) h27 (by omega) term
     rw [hs46v] at hs46; clear hs46v
     refine ⟨_, H47, hs46, ?_⟩
     have H47n : H17.next ≤ H47.next := hx48.1
     try show aw _ _ _ _ _ _
     iterate 2 refine aw_seq ?_
     refine aw_reg ?_
     refine st_op (ev_fieldAddr rfl fa26_0 (o' := 0) rfl) rfl rfl rfl ?_
     have h50 := Fr.blk hx48 (by omega) (fun e => (by omega)) h26
     refine st_op (ev_load rfl (lvar_one one3 h50 rfl)) rfl rfl rfl ?_
     try show aw _ _ _ _ _ _
     refine aw_block ?_
     refine aw_seq ?_
     refine aw_reg ?_
     refine st_op (ev_int rfl rfl rfl) rfl rfl rfl ?_
     refine st_op (ev_assign rfl) rfl rfl rfl ?_
     try show aw _ _ _ _ _ _
     by_cases hc51 : (kind == 1) = true
     ·
      refine aw_condT hc51 rfl ?_
      try show aw _ _ _ _ _ _
      have hc51 := eq_of_beq hc51
      refine aw_reg ?_
      refine st_op (ev_move rfl) rfl rfl rfl ?_
      refine st_op (ev_load rfl (lvar_part (l := [.int .i64 kind, .int .i64 from_, .int .i64 to_, .int .i64 term, .int .i64 index, .int .i64 logterm, .int .i64 commit, .bool yes, .slice esA es.length esc, .int .i64 s_index, .int .i64 s_term, .string s_conf, .string s_data]) many26 h50 rfl rfl (by decide))) rfl rfl rfl ?_
      refine st_call rfl rfl rfl ent47 rfl rfl rfl ?_
      have h52 := Row.fr h44 hx48 (fun q hq e => ⟨_, e ▸ h27, show (0 : Nat) ≠ 4 by decide⟩)
      have h53 := Fr.blk hx48 (by omega) (fun e => (by omega)) h45
      obtain ⟨_, H55, hs54, A57, c58, hs54v, hm59, hE61, hB62, hq60, hx56⟩ := raft_asked_spec H47 rid ⟨by omega, by omega⟩ term (0 : Int) x ⟨by omega, by omega⟩ tm cf (by omega) dt lA l lc h52 cl (by omega) g (by omega) h53 (by assumption) cmt (0 : Int) (0 : Int) hrd    (oh || decide (term ≠ rt ∨ 0 ≠ rv)) of_ os_ r (by omega) hB49 (by omega) kind from_ to_ term index logterm commit yes esA es.length esc s_index s_term s_conf s_data
      rw [hs54v] at hs54; clear hs54v
      refine ⟨_, H55, hs54, ?_⟩
      have H55n : H47.next ≤ H55.next := hx56.1
      try show aw _ _ _ _ _ _
      refine aw_seq ?_
      refine aw_reg ?_
      refine st_op (ev_move rfl) rfl rfl rfl ?_
      refine st_call rfl rfl rfl ent46 rfl rfl rfl ?_
      have h63 := Row.fr h52 hx56 (fun q hq e => ⟨_, e ▸ hB49, show (0 : Nat) ≠ 4 by decide⟩)
      have h64 := Fr.blk hx56 (by omega) (fun e => (by omega)) h53
      obtain ⟨_, H66, hs65, A68, c69, hs65v, hm70, hE71, hB72, hx67⟩ := raft_did_spec H55 rid ⟨by omega, by omega⟩ term ((Spec.voteF rid term (0 : Int) hrd (oh || decide (term ≠ rt ∨ 0 ≠ rv)) x tm l from_ index logterm).2.2.1) x ⟨by omega, by omega⟩ tm cf (by omega) dt lA l lc h63 cl (by first | omega | (simp only [List.length_append, List.length_cons, List.length_nil, List.length_map, List.length_set, List.length_replicate, Spec.bytesOf_length]; omega) | (simp; omega)) g (by omega) h64 (by assumption) cmt (0 : Int) (0 : Int) ((Spec.voteF rid term (0 : Int) hrd (oh || decide (term ≠ rt ∨ 0 ≠ rv)) x tm l from_ index logterm).2.2.2)   H47 A57 ((Spec.voteF rid term (0 : Int) hrd (oh || decide (term ≠ rt ∨ 0 ≠ rv)) x tm l from_ index logterm).1) c58 hm59 (by omega) (by first | omega | (simp only [List.length_append, List.length_cons, List.length_nil, List.length_map, List.length_set, List.length_replicate, Spec.bytesOf_length]; omega) | (simp; omega)) H47 hE61 (by omega) ((Spec.voteF rid term (0 : Int) hrd (oh || decide (term ≠ rt ∨ 0 ≠ rv)) x tm l from_ index logterm).2.1) of_ os_ r (by omega) hB62 (by omega)
      rw [hs65v] at hs65; clear hs65v
      refine ⟨_, H66, hs65, ?_⟩
      have H66n : H55.next ≤ H66.next := hx67.1
      have h73 := Ext.blk hx18 (by omega) hB11
      have h74 := Fr.blk hx48 (by omega) (fun e => (by omega)) h73
      have h75 := Fr.blk hx56 (by omega) (fun e => (by omega)) h74
      have h76 := Fr.blk hx67 (by omega) (fun e => Or.elim e (fun e => (by omega)) (fun e => (zb_ne h75 e.2.2 (show (0 : Nat) ≠ 13 by decide)))) h75
      obtain ⟨H77, he78, H77n_, hB79, f80⟩ := mem_store (v := .agg #[.slice A68 (((Spec.voteF rid term (0 : Int) hrd (oh || decide (term ≠ rt ∨ 0 ≠ rv)) x tm l from_ index logterm).1).length) c69, .bool ((Spec.voteF rid term (0 : Int) hrd (oh || decide (term ≠ rt ∨ 0 ≠ rv)) x tm l from_ index logterm).2.1), .int .i64 of_, .bool os_]) (o := 0) (cs' := [.slice A68 (((Spec.voteF rid term (0 : Int) hrd (oh || decide (term ≠ rt ∨ 0 ≠ rv)) x tm l from_ index logterm).1).length) c69, .bool ((Spec.voteF rid term (0 : Int) hrd (oh || decide (term ≠ rt ∨ 0 ≠ rv)) x tm l from_ index logterm).2.1), .int .i64 of_, .bool os_]) 4 rfl rfl size40 h76 rfl rfl rfl
      refine st_op0 (he78 _ _ _ _ _ _ _ _ _ rfl rfl) rfl rfl ?_
      have hf81 : Fr (fun q => q = b7) H66 H77 := Fr.write H77n_ f80
      have H77n : H66.next ≤ H77.next := hf81.1
      try show aw _ _ _ _ _ _
      refine aw_ret ?_
      have h82 := My.frS hm70 hf81 (fun q hq e => ⟨_, e ▸ h76, show (0 : Nat) ≠ 13 by decide⟩)
      have h83 := Each.frS hE71 hf81 (fun q hq e => ⟨_, e ▸ h76, show (0 : Nat) ≠ 4 by decide⟩)
      have h84 := Fr.blk hf81 (by omega) (fun e => (by omega)) hB72
      have hres : (Spec.voteF rid term 0 hrd (oh || decide (term ≠ rt ∨ 0 ≠ rv)) x tm l from_ index logterm) = (((Spec.voteF rid term (0 : Int) hrd (oh || decide (term ≠ rt ∨ 0 ≠ rv)) x tm l from_ index logterm).1), ((Spec.voteF rid term (0 : Int) hrd (oh || decide (term ≠ rt ∨ 0 ≠ rv)) x tm l from_ index logterm).2.1), ((Spec.voteF rid term (0 : Int) hrd (oh || decide (term ≠ rt ∨ 0 ≠ rv)) x tm l from_ index logterm).2.2.1), ((Spec.voteF rid term (0 : Int) hrd (oh || decide (term ≠ rt ∨ 0 ≠ rv)) x tm l from_ index logterm).2.2.2)) := by rfl
      exact ⟨.agg #[.slice A68 (((Spec.voteF rid term (0 : Int) hrd (oh || decide (term ≠ rt ∨ 0 ≠ rv)) x tm l from_ index logterm).1).length) c69, .bool ((Spec.voteF rid term (0 : Int) hrd (oh || decide (term ≠ rt ∨ 0 ≠ rv)) x tm l from_ index logterm).2.1), .int .i64 of_, .bool os_], (resA_of (resL_cell rfl (lvar_part (l := [.slice A68 (((Spec.voteF rid term (0 : Int) hrd (oh || decide (term ≠ rt ∨ 0 ≠ rv)) x tm l from_ index logterm).1).length) c69, .bool ((Spec.voteF rid term (0 : Int) hrd (oh || decide (term ≠ rt ∨ 0 ≠ rv)) x tm l from_ index logterm).2.1), .int .i64 of_, .bool os_]) many40 hB79 rfl rfl (by decide)) resL_nil) rfl), A68, c69, by first | (rw [hres]; first | done | rfl | simp; done) | rfl, (by rw [hres]; exact (My.older h82 (by omega))), (by rw [hres]; exact (Each.older h83 (by omega))), (by rw [hres]; exact h84), (by rfl), (by rfl), (Fr.transG (Fr.transG (Fr.transG (Fr.transG (Fr.trans (Fr.trans (Fr.trans (Fr.refl (fun q => q = r) H) (hx6.fr fun _ => False) (fun q hq (e : False) => e.elim)) (hx12.fr fun _ => False) (fun q hq (e : False) => e.elim)) (hx18.fr fun _ => False) (fun q hq (e : False) => e.elim)) hx48 (fun q hq hE e => (e))) hx56 (fun q hq hE e => (e))) hx67 (fun q hq hE e => Or.elim e (fun e => (e)) (fun e => absurd hq (by omega)))) hf81 (fun q hq hE e => absurd hq (by omega)))⟩
     ·
      rw [Bool.not_eq_true] at hc51; refine aw_condF hc51 rfl ?_
      try show aw _ _ _ _ _ _
      have hc51 := ne_of_beq_false hc51
      exfalso; omega
    ·
     rw [Bool.not_eq_true] at hc43; refine aw_condF hc43 rfl ?_
     try show aw _ _ _ _ _ _
     have hc43 := of_decide_eq_false hc43
     exfalso; omega
theorem raft_StepEq_spec (H : Heap) (rid : Int) (hrid : 1 ≤ rid ∧ rid ≤ 7) (rt : Int) (rv : Int) (x : Int) (hx : 0 ≤ x ∧ x ≤ 2199023255552) (tm : Int) (cf : ByteArray) (hcf : cf.size ≤ 1073741824) (dt : ByteArray) (lA : Option Addr) (l : List Entry) (lc : Nat) (hl : Row H lA lc 4 (l.map Entry.cells)) (cl : l.length ≤ lc) (ll : l.length ≤ 200) (g : Nat) (hg : g < H.next) (Bg : H.blk g = some ⟨[.int .i64 x, .int .i64 tm, .string cf, .string dt, .slice lA l.length lc], 0, false, false⟩) (uk : Spec.LogOk x tm l) (cmt : Int) (role : Int) (ldr : Int) (hrd : Bool)    (oh : Bool) (of_ : Int) (os_ : Bool) (r : Nat) (hr : r < H.next) (Br : H.blk r = some ⟨[.int .i64 rid, .int .i64 rt, .int .i64 rv, .pointer (some ⟨g, 0, none⟩), .int .i64 cmt, .int .i64 role, .int .i64 ldr, .bool hrd, .pointer none, .pointer none, .slice none 0 0, .bool oh, .int .i64 of_, .bool os_], 0, false, false⟩) (ugr : g < r) (kind : Int) (from_ : Int) (to_ : Int) (term : Int) (index : Int) (logterm : Int) (commit : Int) (yes : Bool) (esA : Option Addr) (es : List Entry) (esc : Nat) (hes : Row H esA esc 4 (es.map Entry.cells)) (ces : es.length ≤ esc) (les : es.length ≤ 1048576) (s_index : Int) (s_term : Int) (s_conf : ByteArray) (hs_conf : s_conf.size ≤ 1073741824) (s_data : ByteArray) (hs_data : s_data.size ≤ 1073741824) (um0 : Spec.mayMsg kind from_ to_ term index logterm commit yes es s_index s_term s_conf s_data = true) (um1 : kind = 1 ∧ to_ = rid ∧ from_ ≠ rid ∧ rt = term) : ∃ v H', Spec Tryz.prog 15 [.pointer (some ⟨r, 0, none⟩), .agg #[.int .i64 kind, .int .i64 from_, .int .i64 to_, .int .i64 term, .int .i64 index, .int .i64 logterm, .int .i64 commit, .bool yes, .slice esA es.length esc, .int .i64 s_index, .int .i64 s_term, .string s_conf, .string s_data]] H v H' ∧ (∃ rA0 rc0, (v = .agg #[.slice rA0 (((Spec.voteF rid rt rv hrd oh x tm l from_ index logterm).1).length) rc0, .bool ((Spec.voteF rid rt rv hrd oh x tm l from_ index logterm).2.1), .int .i64 of_, .bool os_]) ∧ (My H H' rA0 rc0 13 (((Spec.voteF rid rt rv hrd oh x tm l from_ index logterm).1).map MsgC.cells)) ∧ (Each MsgC.sub H H' ((Spec.voteF rid rt rv hrd oh x tm l from_ index logterm).1)) ∧ (H'.blk r = some ⟨[.int .i64 rid, .int .i64 rt, .int .i64 ((Spec.voteF rid rt rv hrd oh x tm l from_ index logterm).2.2.1), .pointer (some ⟨g, 0, none⟩), .int .i64 cmt, .int .i64 role, .int .i64 ldr, .bool ((Spec.voteF rid rt rv hrd oh x tm l from_ index logterm).2.2.2), .pointer none, .pointer none, .slice none 0 0, .bool false, .int .i64 0, .bool false], 0, false, false⟩) ∧ ((Spec.voteF rid rt rv hrd oh x tm l from_ index logterm).1 = [Spec.plainM 2 rid from_ rt (Spec.yesF rv from_ x tm l index logterm)]) ∧ ((Spec.voteF rid rt rv hrd oh x tm l from_ index logterm).2.2.1 = if (Spec.yesF rv from_ x tm l index logterm) = true then from_ else rv) ∧ (Fr (fun q => q = r) H H')) := by
 refine spec_go2 E0_ok 101 (f := 15) Tryz.func15 rfl rfl rfl ?_
 refine aw_seq ?_
 refine aw_reg ?_
 obtain ⟨b1, H2, he3, b1e, H2n_, hB5, f4⟩ := mem_box (P := Tryz.prog) H (v := .agg #[.int .i64 kind, .int .i64 from_, .int .i64 to_, .int .i64 term, .int .i64 index, .int .i64 logterm, .int .i64 commit, .bool yes, .slice esA es.length esc, .int .i64 s_index, .int .i64 s_term, .string s_conf, .string s_data]) (cs := [.int .i64 kind, .int .i64 from_, .int .i64 to_, .int .i64 term, .int .i64 index, .int .i64 logterm, .int .i64 commit, .bool yes, .slice esA es.length esc, .int .i64 s_index, .int .i64 s_term, .string s_conf, .string s_data]) rfl rfl
 refine st_op (he3 _ _ _ _ _ _ _ _ _ rfl) rfl rfl rfl ?_
 have hx6 : Ext H H2 := Ext.new (by omega) H2n_ f4
 have H2n : H.next ≤ H2.next := hx6.1
 obtain ⟨b7, H8, he9, b7e, H8n_, hB11, f10⟩ := mem_alloc H2 zero40
 refine st_op (he9 _ _ _ _ _ _ _) rfl rfl rfl ?_
 have hx12 : Ext H2 H8 := Ext.new (by omega) H8n_ f10
 have H8n : H2.next ≤ H8.next := hx12.1
 try show aw _ _ _ _ _ _
 iterate 2 refine aw_seq ?_
 refine aw_marks (fun b => b < H8.next) [(false, false), (false, false), (false, false), (false, false), (false, false), (false, false), (false, false), (false, false), (false, false), (false, false), (false, false), (false, false), (false, false), (false, false), (false, false), (false, false), (false, false), (false, false), (false, false), (false, false), (false, false), (false, false), (false, false), (false, false), (false, false)] mixed (by kernel_rfl) (by kernel_rfl) ?_
 refine sm_op (ev_move rfl) rfl rfl rfl ?_
 refine sm_op (ev_nilEq rfl rfl Tryz.underlying32) rfl rfl rfl ?_
 refine sm_op (ev_move rfl) rfl rfl rfl ?_
 have h13 := Ext.blk hx12 (by omega) hB5
 refine sm_op (ev_load rfl (lvar_part (l := [.int .i64 kind, .int .i64 from_, .int .i64 to_, .int .i64 term, .int .i64 index, .int .i64 logterm, .int .i64 commit, .bool yes, .slice esA es.length esc, .int .i64 s_index, .int .i64 s_term, .string s_conf, .string s_data]) many26 h13 rfl rfl (by decide))) rfl rfl rfl ?_
 refine sm_call rfl rfl rfl ent11 rfl rfl rfl ?_
 have hx15 : Ext H H8 := (Ext.trans hx6 hx12)
 have h14 := Row.ext hes hx15
 obtain ⟨_, H17, hs16, hs16v, hx18⟩ := raft_May_spec H8 kind from_ to_ term index logterm commit yes esA es esc h14 ces (by omega) s_index s_term s_conf (by omega) s_data (by omega)
 rw [hs16v] at hs16; clear hs16v
 refine ⟨_, H17, hs16, (fun h => nomatch h), ?_⟩
 have H17n : H8.next ≤ H17.next := hx18.1
 refine sm_op (ev_not rfl) rfl rfl rfl ?_
 refine sm_op (ev_pickF rfl rfl) rfl rfl rfl ?_
 refine sm_op (ev_move rfl) rfl rfl rfl ?_
 refine sm_bool 12 rfl (fun hb19 => ?_) (fun hb19 => ?_)
 ·
  replace hb19 : (Spec.mayMsg kind from_ to_ term index logterm commit yes es s_index s_term s_conf s_data) = false := by rw [Bool.not_eq_true'] at hb19; exact hb19
  iterate 7 refine sm_skip rfl rfl rfl ?_
  refine sm_op (ev_pickT rfl rfl) rfl rfl rfl ?_
  refine sm_op (ev_move rfl) rfl rfl rfl ?_
  iterate 7 refine sm_skip rfl rfl rfl ?_
  refine sm_op (ev_pickT rfl rfl) rfl rfl rfl ?_
  try show aw _ _ _ _ _ _
  refine aw_cond (t := true) rfl ?_
  try show aw _ _ _ _ _ _
  refine aw_seq ?_
  refine aw_reg ?_
  refine st_op (ev_build zero40 pl40 (parts := []) rfl (cs := [.slice none 0 0, .bool false, .int .i64 0, .bool false]) rfl) rfl rfl rfl ?_
  have h20 := Ext.blk hx18 (by omega) hB11
  obtain ⟨H21, he22, H21n_, hB23, f24⟩ := mem_store (v := .agg #[.slice none 0 0, .bool false, .int .i64 0, .bool false]) (o := 0) (cs' := [.slice none 0 0, .bool false, .int .i64 0, .bool false]) 4 rfl rfl size40 h20 rfl rfl rfl
  refine st_op0 (he22 _ _ _ _ _ _ _ _ _ rfl rfl) rfl rfl ?_
  have hf25 : Fr (fun q => q = b7) H17 H21 := Fr.write H21n_ f24
  have H21n : H17.next ≤ H21.next := hf25.1
  try show aw _ _ _ _ _ _
  refine aw_ret ?_
  exfalso; first | omega | simp_all
 ·
  replace hb19 : (Spec.mayMsg kind from_ to_ term index logterm commit yes es s_index s_term s_conf s_data) = true := by rw [Bool.not_eq_false'] at hb19; exact hb19
  refine sm_op (ev_fieldAddr rfl fa26_2 (o' := 2) rfl) rfl rfl rfl ?_
  have h26 := Ext.blk hx18 (by omega) h13
  refine sm_op (ev_load rfl (lvar_one one3 h26 rfl)) rfl rfl rfl ?_
  refine sm_op (ev_move rfl) rfl rfl rfl ?_
  refine sm_op (ev_nilCheck rfl) rfl rfl rfl ?_
  refine sm_op (ev_fieldAddr rfl fa80_0 (o' := 0) rfl) rfl rfl rfl ?_
  have hx28 : Ext H H17 := (Ext.trans hx15 hx18)
  have h27 := Ext.blk hx28 (by omega) Br
  refine sm_op (ev_load rfl (lvar_one one3 h27 rfl)) rfl rfl rfl ?_
  refine sm_op (ev_int rfl rfl rfl) rfl rfl rfl ?_
  refine sm_op (ev_pickF rfl rfl) rfl rfl rfl ?_
  refine sm_op (ev_move rfl) rfl rfl rfl ?_
  refine sm_bool 21 rfl (fun hb29 => ?_) (fun hb29 => ?_)
  ·
   have hb29 : ¬ (to_ = rid) := by simpa using hb29
   iterate 7 refine sm_skip rfl rfl rfl ?_
   refine sm_op (ev_pickT rfl rfl) rfl rfl rfl ?_
   try show aw _ _ _ _ _ _
   refine aw_cond (t := true) rfl ?_
   try show aw _ _ _ _ _ _
   refine aw_seq ?_
   refine aw_reg ?_
   refine st_op (ev_build zero40 pl40 (parts := []) rfl (cs := [.slice none 0 0, .bool false, .int .i64 0, .bool false]) rfl) rfl rfl rfl ?_
   have h30 := Ext.blk hx18 (by omega) hB11
   obtain ⟨H31, he32, H31n_, hB33, f34⟩ := mem_store (v := .agg #[.slice none 0 0, .bool false, .int .i64 0, .bool false]) (o := 0) (cs' := [.slice none 0 0, .bool false, .int .i64 0, .bool false]) 4 rfl rfl size40 h30 rfl rfl rfl
   refine st_op0 (he32 _ _ _ _ _ _ _ _ _ rfl rfl) rfl rfl ?_
   have hf35 : Fr (fun q => q = b7) H17 H31 := Fr.write H31n_ f34
   have H31n : H17.next ≤ H31.next := hf35.1
   try show aw _ _ _ _ _ _
   refine aw_ret ?_
   exfalso; first | omega | simp_all
  ·
   have hb29 : (to_ = rid) := by simpa using hb29
   refine sm_op (ev_fieldAddr rfl fa26_1 (o' := 1) rfl) rfl rfl rfl ?_
   refine sm_op (ev_load rfl (lvar_one one3 h26 rfl)) rfl rfl rfl ?_
   refine sm_op (ev_move rfl) rfl rfl rfl ?_
   refine sm_op (ev_nilCheck rfl) rfl rfl rfl ?_
   refine sm_op (ev_fieldAddr rfl fa80_0 (o' := 0) rfl) rfl rfl rfl ?_
   refine sm_op (ev_load rfl (lvar_one one3 h27 rfl)) rfl rfl rfl ?_
   refine sm_op (ev_int rfl rfl rfl) rfl rfl rfl ?_
   refine sm_op (ev_pickF rfl rfl) rfl rfl rfl ?_
   try show aw _ _ _ _ _ _
   by_cases hc36 : (from_ == rid) = true
   ·
    refine aw_condT hc36 rfl ?_
    try show aw _ _ _ _ _ _
    have hc36 := eq_of_beq hc36
    refine aw_seq ?_
    refine aw_reg ?_
    refine st_op (ev_build zero40 pl40 (parts := []) rfl (cs := [.slice none 0 0, .bool false, .int .i64 0, .bool false]) rfl) rfl rfl rfl ?_
    have h37 := Ext.blk hx18 (by omega) hB11
    obtain ⟨H38, he39, H38n_, hB40, f41⟩ := mem_store (v := .agg #[.slice none 0 0, .bool false, .int .i64 0, .bool false]) (o := 0) (cs' := [.slice none 0 0, .bool false, .int .i64 0, .bool false]) 4 rfl rfl size40 h37 rfl rfl rfl
    refine st_op0 (he39 _ _ _ _ _ _ _ _ _ rfl rfl) rfl rfl ?_
    have hf42 : Fr (fun q => q = b7) H17 H38 := Fr.write H38n_ f41
    have H38n : H17.next ≤ H38.next := hf42.1
    try show aw _ _ _ _ _ _
    refine aw_ret ?_
    exfalso; first | omega | simp_all
   ·
    rw [Bool.not_eq_true] at hc36; refine aw_condF hc36 rfl ?_
    try show aw _ _ _ _ _ _
    have hc36 := ne_of_beq_false hc36
    refine aw_skip ?_
    try show aw _ _ _ _ _ _
    refine aw_seq ?_
    refine aw_block ?_
    refine aw_seq ?_
    refine aw_marks (fun b => b < H17.next) [(false, false), (false, false), (false, false), (false, false), (false, false), (false, false), (false, false), (false, false), (false, false)] mixed (by kernel_rfl) (by kernel_rfl) ?_
    refine sm_op (ev_fieldAddr rfl fa26_3 (o' := 3) rfl) rfl rfl rfl ?_
    refine sm_op (ev_load rfl (lvar_one one2 h26 rfl)) rfl rfl rfl ?_
    refine sm_op (ev_move rfl) rfl rfl rfl ?_
    refine sm_op (ev_nilCheck rfl) rfl rfl rfl ?_
    refine sm_op (ev_fieldAddr rfl fa80_1 (o' := 1) rfl) rfl rfl rfl ?_
    refine sm_op (ev_fieldAddr rfl fa35_0 (o' := 1) rfl) rfl rfl rfl ?_
    refine sm_op (ev_load rfl (lvar_one one2 h27 rfl)) rfl rfl rfl ?_
    refine sm_op (ev_int rfl rfl rfl) rfl rfl rfl ?_
    refine sm_op (ev_assign rfl) rfl rfl rfl ?_
    try show aw _ _ _ _ _ _
    by_cases hc43 : (decide (term > rt)) = true
    ·
     refine aw_condT hc43 rfl ?_
     try show aw _ _ _ _ _ _
     have hc43 := of_decide_eq_true hc43
     exfalso; omega
    ·
     rw [Bool.not_eq_true] at hc43; refine aw_condF hc43 rfl ?_
     try show aw _ _ _ _ _ _
     have hc43 := of_decide_eq_false hc43
     refine aw_seq ?_
     refine aw_marks (fun b => b < H17.next) [(false, false), (false, false), (false, false), (false, false), (false, false), (false, false), (false, false), (false, false), (false, false)] mixed (by kernel_rfl) (by kernel_rfl) ?_
     refine sm_op (ev_fieldAddr rfl fa26_3 (o' := 3) rfl) rfl rfl rfl ?_
     refine sm_op (ev_load rfl (lvar_one one2 h26 rfl)) rfl rfl rfl ?_
     refine sm_op (ev_move rfl) rfl rfl rfl ?_
     refine sm_op (ev_nilCheck rfl) rfl rfl rfl ?_
     refine sm_op (ev_fieldAddr rfl fa80_1 (o' := 1) rfl) rfl rfl rfl ?_
     refine sm_op (ev_fieldAddr rfl fa35_0 (o' := 1) rfl) rfl rfl rfl ?_
     refine sm_op (ev_load rfl (lvar_one one2 h27 rfl)) rfl rfl rfl ?_
     refine sm_op (ev_int rfl rfl rfl) rfl rfl rfl ?_
     refine sm_op (ev_assign rfl) rfl rfl rfl ?_
     try show aw _ _ _ _ _ _
     by_cases hc44 : (decide (term < rt)) = true
     ·
      refine aw_condT hc44 rfl ?_
      try show aw _ _ _ _ _ _
      have hc44 := of_decide_eq_true hc44
      exfalso; omega
     ·
      rw [Bool.not_eq_true] at hc44; refine aw_condF hc44 rfl ?_
      try show aw _ _ _ _ _ _
      have hc44 := of_decide_eq_false hc44
      refine aw_skip ?_
      try show aw _ _ _ _ _ _
      iterate 2 refine aw_seq ?_
      refine aw_reg ?_
      refine st_op (ev_fieldAddr rfl fa26_0 (o' := 0) rfl) rfl rfl rfl ?_
      refine st_op (ev_load rfl (lvar_one one3 h26 rfl)) rfl rfl rfl ?_
      try show aw _ _ _ _ _ _
      refine aw_block ?_
      refine aw_seq ?_
      refine aw_reg ?_
      refine st_op (ev_int rfl rfl rfl) rfl rfl rfl ?_
      refine st_op (ev_assign rfl) rfl rfl rfl ?_
      try show aw _ _ _ _ _ _
      by_cases hc45 : (kind == 1) = true
      ·
       refine aw_condT hc45 rfl ?_
       try show aw _ _ _ _ _ _
       have hc45 := eq_of_beq hc45
       refine aw_reg ?_
       refine st_op (ev_move rfl) rfl rfl rfl ?_
       refine st_op (ev_load rfl (lvar_part (l := [.int .i64 kind, .int .i64 from_, .int .i64 to_, .int .i64 term, .int .i64 index, .int .i64 logterm, .int .i64 commit, .bool yes, .slice esA es.length esc, .int .i64 s_index, .int .i64 s_term, .string s_conf, .string s_data]) many26 h26 rfl rfl (by decide))) rfl rfl rfl ?_
       refine st_call rfl rfl rfl ent47 rfl rfl rfl ?_
       have h46 := Row.ext hl hx28
       have h47 := Ext.blk hx28 (by omega) Bg
       obtain ⟨_, H49, hs48, A51, c52, hs48v, hm53, hE55, hB56, hq54, hx50⟩ := raft_asked_spec H17 rid ⟨by omega, by omega⟩ rt rv x ⟨by omega, by omega⟩ tm cf (by omega) dt lA l lc h46 cl (by omega) g (by omega) h47 (by assumption) cmt role ldr hrd    oh of_ os_ r (by omega) h27 (by omega) kind from_ to_ term index logterm commit yes esA es.length esc s_index s_term s_conf s_data
       rw [hs48v] at hs48; clear hs48v
       refine ⟨_, H49, hs48, ?_⟩
       have H49n : H17.next ≤ H49.next := hx50.1
       try show aw _ _ _ _ _ _
       refine aw_seq ?_
       refine aw_reg ?_
       refine st_op (ev_move rfl) rfl rfl rfl ?_
       refine st_call rfl rfl rfl ent46 rfl rfl rfl ?_
       have h57 := Row.fr h46 hx50 (fun q hq e => ⟨_, e ▸ h27, show (0 : Nat) ≠ 4 by decide⟩)
       have h58 := Fr.blk hx50 (by omega) (fun e => (by omega)) h47
       obtain ⟨_, H60, hs59, A62, c63, hs59v, hm64, hE65, hB66, hx61⟩ := raft_did_spec H49 rid ⟨by omega, by omega⟩ rt ((Spec.voteF rid rt rv hrd oh x tm l from_ index logterm).2.2.1) x ⟨by omega, by omega⟩ tm cf (by omega) dt lA l lc h57 cl (by first | omega | (simp only [List.length_append, List.length_cons, List.length_nil, List.length_map, List.length_set, List.length_replicate, Spec.bytesOf_length]; omega) | (simp; omega)) g (by omega) h58 (by assumption) cmt role ldr ((Spec.voteF rid rt rv hrd oh x tm l from_ index logterm).2.2.2)   H17 A51 ((Spec.voteF rid rt rv hrd oh x tm l from_ index logterm).1) c52 hm53 (by omega) (by first | omega | (simp only [List.length_append, List.length_cons, List.length_nil, List.length_map, List.length_set, List.length_replicate, Spec.bytesOf_length]; omega) | (simp; omega)) H17 hE55 (by omega) ((Spec.voteF rid rt rv hrd oh x tm l from_ index logterm).2.1) of_ os_ r (by omega) hB56 (by omega)
       rw [hs59v] at hs59; clear hs59v
       refine ⟨_, H60, hs59, ?_⟩
       have H60n : H49.next ≤ H60.next := hx61.1
       have h67 := Ext.blk hx18 (by omega) hB11
       have h68 := Fr.blk hx50 (by omega) (fun e => (by omega)) h67
       have h69 := Fr.blk hx61 (by omega) (fun e => Or.elim e (fun e => (by omega)) (fun e => (zb_ne h68 e.2.2 (show (0 : Nat) ≠ 13 by decide)))) h68
       obtain ⟨H70, he71, H70n_, hB72, f73⟩ := mem_store (v := .agg #[.slice A62 (((Spec.voteF rid rt rv hrd oh x tm l from_ index logterm).1).length) c63, .bool ((Spec.voteF rid rt rv hrd oh x tm l from_ index logterm).2.1), .int .i64 of_, .bool os_]) (o := 0) (cs' := [.slice A62 (((Spec.voteF rid rt rv hrd oh x tm l from_ index logterm).1).length) c63, .bool ((Spec.voteF rid rt rv hrd oh x tm l from_ index logterm).2.1), .int .i64 of_, .bool os_]) 4 rfl rfl size40 h69 rfl rfl rfl
       refine st_op0 (he71 _ _ _ _ _ _ _ _ _ rfl rfl) rfl rfl ?_
       have hf74 : Fr (fun q => q = b7) H60 H70 := Fr.write H70n_ f73
       have H70n : H60.next ≤ H70.next := hf74.1
       try show aw _ _ _ _ _ _
       refine aw_ret ?_
       have h75 := My.frS hm64 hf74 (fun q hq e => ⟨_, e ▸ h69, show (0 : Nat) ≠ 13 by decide⟩)
       have h76 := Each.frS hE65 hf74 (fun q hq e => ⟨_, e ▸ h69, show (0 : Nat) ≠ 4 by decide⟩)
       have h77 := Fr.blk hf74 (by omega) (fun e => (by omega)) hB66
       have hres : (Spec.voteF rid rt rv hrd oh x tm l from_ index logterm) = (((Spec.voteF rid rt rv hrd oh x tm l from_ index logterm).1), ((Spec.voteF rid rt rv hrd oh x tm l from_ index logterm).2.1), ((Spec.voteF rid rt rv hrd oh x tm l from_ index logterm).2.2.1), ((Spec.voteF rid rt rv hrd oh x tm l from_ index logterm).2.2.2)) := by rfl
       exact ⟨.agg #[.slice A62 (((Spec.voteF rid rt rv hrd oh x tm l from_ index logterm).1).length) c63, .bool ((Spec.voteF rid rt rv hrd oh x tm l from_ index logterm).2.1), .int .i64 of_, .bool os_], (resA_of (resL_cell rfl (lvar_part (l := [.slice A62 (((Spec.voteF rid rt rv hrd oh x tm l from_ index logterm).1).length) c63, .bool ((Spec.voteF rid rt rv hrd oh x tm l from_ index logterm).2.1), .int .i64 of_, .bool os_]) many40 hB72 rfl rfl (by decide)) resL_nil) rfl), A62, c63, by first | (rw [hres]; first | done | rfl | simp; done) | rfl, (by rw [hres]; exact (My.older h75 (by omega))), (by rw [hres]; exact (Each.older h76 (by omega))), (by rw [hres]; exact h77), (by rfl), (by rfl), (Fr.transG (Fr.transG (Fr.transG (Fr.trans (Fr.trans (Fr.trans (Fr.refl (fun q => q = r) H) (hx6.fr fun _ => False) (fun q hq (e : False) => e.elim)) (hx12.fr fun _ => False) (fun q hq (e : False) => e.elim)) (hx18.fr fun _ => False) (fun q hq (e : False) => e.elim)) hx50 (fun q hq hE e => (e))) hx61 (fun q hq hE e => Or.elim e (fun e => (e)) (fun e => absurd hq (by omega)))) hf74 (fun q hq hE e => absurd hq (by omega)))⟩
      ·
       rw [Bool.not_eq_true] at hc45; refine aw_condF hc45 rfl ?_
       try show aw _ _ _ _ _ _
       have hc45 := ne_of_beq_false hc45
       exfalso; omega
theorem raft_New_spec (H : Heap) (rid : Int) (hrid : 1 ≤ rid ∧ rid ≤ 7) (h_term : Int) (h_vote : Int) (uh : Spec.mayF true h_term h_vote 0 0 0 (⟨#[]⟩ : ByteArray) = true) (x : Int) (hx : 0 ≤ x ∧ x ≤ 2199023255552) (tm : Int) (cf : ByteArray) (hcf : cf.size ≤ 1073741824) (dt : ByteArray) (lA : Option Addr) (l : List Entry) (lc : Nat) (hl : Row H lA lc 4 (l.map Entry.cells)) (cl : l.length ≤ lc) (ll : l.length ≤ 200) (g : Nat) (hg : g < H.next) (Bg : H.blk g = some ⟨[.int .i64 x, .int .i64 tm, .string cf, .string dt, .slice lA l.length lc], 0, false, false⟩) (uk : Spec.LogOk x tm l) (cmt : Int) (hcmt : 0 ≤ cmt ∧ cmt ≤ 2199023255752) (ucmt : x ≤ cmt ∧ cmt ≤ x + (l.length : Int)) : ∃ v H', Spec Tryz.prog 13 [.int .i64 rid, .agg #[.int .i64 h_term, .int .i64 h_vote], .pointer (some ⟨g, 0, none⟩), .int .i64 cmt] H v H' ∧ (∃ rb0, (v = .pointer (some ⟨rb0, 0, none⟩)) ∧ (H.next ≤ rb0) ∧ (rb0 < H'.next) ∧ (H'.blk rb0 = some ⟨[.int .i64 rid, .int .i64 h_term, .int .i64 h_vote, .pointer (some ⟨g, 0, none⟩), .int .i64 cmt, .int .i64 0, .int .i64 0, .bool false, .pointer none, .pointer none, .slice none 0 0, .bool false, .int .i64 0, .bool false], 0, false, false⟩) ∧ (Ext H H')) := by
 refine spec_go4 E0_ok 44 (f := 13) Tryz.func13 rfl rfl rfl ?_
 refine aw_seq ?_
 refine aw_reg ?_
 obtain ⟨b1, H2, he3, b1e, H2n_, hB5, f4⟩ := mem_box (P := Tryz.prog) H (v := .agg #[.int .i64 h_term, .int .i64 h_vote]) (cs := [.int .i64 h_term, .int .i64 h_vote]) rfl rfl
 refine st_op (he3 _ _ _ _ _ _ _ _ _ rfl) rfl rfl rfl ?_
 have hx6 : Ext H H2 := Ext.new (by omega) H2n_ f4
 have H2n : H.next ≤ H2.next := hx6.1
 refine st_op (ev_assign rfl) rfl rfl rfl ?_
 try show aw _ _ _ _ _ _
 iterate 2 refine aw_seq ?_
 refine aw_reg ?_
 refine st_op (ev_move rfl) rfl rfl rfl ?_
 refine st_op (ev_int rfl rfl rfl) rfl rfl rfl ?_
 refine st_op (ev_move rfl) rfl rfl rfl ?_
 refine st_bool 11 rfl (fun hb7 => ?_) (fun hb7 => ?_)
 ·
  have hb7 := of_decide_eq_true hb7
  exfalso; omega
 ·
  have hb7 := of_decide_eq_false hb7
  refine st_op (ev_move rfl) rfl rfl rfl ?_
  refine st_op (ev_int rfl rfl rfl) rfl rfl rfl ?_
  refine st_op (ev_pickF rfl rfl) rfl rfl rfl ?_
  refine st_op (ev_move rfl) rfl rfl rfl ?_
  refine st_bool 15 rfl (fun hb8 => ?_) (fun hb8 => ?_)
  ·
   have hb8 := of_decide_eq_true hb8
   exfalso; omega
  ·
   have hb8 := of_decide_eq_false hb8
   refine st_op (ev_move rfl) rfl rfl rfl ?_
   refine st_op (ev_nilEq rfl rfl Tryz.underlying36) rfl rfl rfl ?_
   refine st_op (ev_pickF rfl rfl) rfl rfl rfl ?_
   refine st_op (ev_move rfl) rfl rfl rfl ?_
   refine st_op (ev_load rfl (lvar_part (l := [.int .i64 h_term, .int .i64 h_vote]) many35 hB5 rfl rfl (by decide))) rfl rfl rfl ?_
   refine st_op (ev_build zero76 pl76 (parts := [(0, .bool true), (1, .agg #[.int .i64 h_term, .int .i64 h_vote])]) rfl (cs := [.bool true, .int .i64 h_term, .int .i64 h_vote, .int .i64 0, .int .i64 0, .int .i64 0, .string (⟨#[]⟩)]) rfl) rfl rfl rfl ?_
   refine st_call rfl rfl rfl ent40 rfl rfl rfl ?_
   obtain ⟨_, H10, hs9, hs9v, hx11⟩ := wal_May_spec H2 true h_term h_vote (0 : Int) (0 : Int) (0 : Int) (⟨#[]⟩ : ByteArray)
   rw [hs9v] at hs9; clear hs9v
   refine ⟨_, H10, hs9, ?_⟩
   have H10n : H2.next ≤ H10.next := hx11.1
   refine st_op (ev_not rfl) rfl rfl rfl ?_
   refine st_op (ev_pickF rfl rfl) rfl rfl rfl ?_
   refine st_op (ev_move rfl) rfl rfl rfl ?_
   refine st_bool 25 rfl (fun hb12 => ?_) (fun hb12 => ?_)
   ·
    replace hb12 : (Spec.mayF true h_term h_vote (0 : Int) (0 : Int) (0 : Int) (⟨#[]⟩ : ByteArray)) = false := by rw [Bool.not_eq_true'] at hb12; exact hb12
    iterate 5 refine st_skip rfl rfl rfl ?_
    refine st_op (ev_pickT rfl rfl) rfl rfl rfl ?_
    refine st_op (ev_move rfl) rfl rfl rfl ?_
    iterate 4 refine st_skip rfl rfl rfl ?_
    refine st_op (ev_pickT rfl rfl) rfl rfl rfl ?_
    try show aw _ _ _ _ _ _
    refine aw_cond (t := true) rfl ?_
    try show aw _ _ _ _ _ _
    refine aw_seq ?_
    refine aw_reg ?_
    refine st_op (ev_assign rfl) rfl rfl rfl ?_
    try show aw _ _ _ _ _ _
    refine aw_ret ?_
    exfalso; first | omega | (simp_all; done) | (simp_all; omega)
   ·
    replace hb12 : (Spec.mayF true h_term h_vote (0 : Int) (0 : Int) (0 : Int) (⟨#[]⟩ : ByteArray)) = true := by rw [Bool.not_eq_false'] at hb12; exact hb12
    have hb12m := Spec.may_says hb12
    iterate 2 refine st_op (ev_move rfl) rfl rfl rfl ?_
    refine st_call rfl rfl rfl ent26 rfl rfl rfl ?_
    have hx14 : Ext H H10 := (Ext.trans hx6 hx11)
    have h13 := Row.ext hl hx14
    have h15 := Ext.blk hx14 (by omega) Bg
    obtain ⟨_, H17, hs16, hs16v, hx18⟩ := rlog_Snap_spec H10 x ⟨by omega, by omega⟩ tm cf (by omega) dt lA l lc h13 cl (by omega) g (by omega) h15 (by assumption)
    rw [hs16v] at hs16; clear hs16v
    refine ⟨_, H17, hs16, ?_⟩
    have H17n : H10.next ≤ H17.next := hx18.1
    refine st_op (ev_fieldF fd24_0 rfl rfl) rfl rfl rfl ?_
    refine st_op (ev_int rfl rfl rfl) rfl rfl rfl ?_
    refine st_op (ev_pickF rfl rfl) rfl rfl rfl ?_
    refine st_op (ev_move rfl) rfl rfl rfl ?_
    refine st_bool 32 rfl (fun hb19 => ?_) (fun hb19 => ?_)
    ·
     have hb19 := of_decide_eq_true hb19
     iterate 4 refine st_skip rfl rfl rfl ?_
     refine st_op (ev_pickT rfl rfl) rfl rfl rfl ?_
     try show aw _ _ _ _ _ _
     refine aw_cond (t := true) rfl ?_
     try show aw _ _ _ _ _ _
     refine aw_seq ?_
     refine aw_reg ?_
     refine st_op (ev_assign rfl) rfl rfl rfl ?_
     try show aw _ _ _ _ _ _
     refine aw_ret ?_
     exfalso; first | omega | (simp_all; done) | (simp_all; omega)
    ·
     have hb19 := of_decide_eq_false hb19
     iterate 2 refine st_op (ev_move rfl) rfl rfl rfl ?_
     refine st_call rfl rfl rfl ent18 rfl rfl rfl ?_
     have h20 := Row.ext h13 hx18
     have h21 := Ext.blk hx18 (by omega) h15
     obtain ⟨_, H23, hs22, hs22v, hx24⟩ := rlog_Last_spec H17 x ⟨by omega, by omega⟩ tm cf (by omega) dt lA l lc h20 cl (by omega) g (by omega) h21 (by assumption)
     rw [hs22v] at hs22; clear hs22v
     refine ⟨_, H23, hs22, ?_⟩
     have H23n : H17.next ≤ H23.next := hx24.1
     refine st_op (ev_int rfl rfl rfl) rfl rfl rfl ?_
     refine st_op (ev_pickF rfl rfl) rfl rfl rfl ?_
     try show aw _ _ _ _ _ _
     by_cases hc25 : (decide (cmt > (x + (l.length : Int)))) = true
     ·
      refine aw_condT hc25 rfl ?_
      try show aw _ _ _ _ _ _
      have hc25 := of_decide_eq_true hc25
      refine aw_seq ?_
      refine aw_reg ?_
      refine st_op (ev_assign rfl) rfl rfl rfl ?_
      try show aw _ _ _ _ _ _
      refine aw_ret ?_
      exfalso; first | omega | (simp_all; done) | (simp_all; omega)
     ·
      rw [Bool.not_eq_true] at hc25; refine aw_condF hc25 rfl ?_
      try show aw _ _ _ _ _ _
      have hc25 := of_decide_eq_false hc25
      refine aw_skip ?_
      try show aw _ _ _ _ _ _
      refine aw_seq ?_
      refine aw_reg ?_
      refine st_op (ev_move rfl) rfl rfl rfl ?_
      have hx27 : Ext H2 H23 := (Ext.trans (Ext.trans hx11 hx18) hx24)
      have h26 := Ext.blk hx27 (by omega) hB5
      refine st_op (ev_load rfl (lvar_part (l := [.int .i64 h_term, .int .i64 h_vote]) many35 h26 rfl rfl (by decide))) rfl rfl rfl ?_
      iterate 2 refine st_op (ev_move rfl) rfl rfl rfl ?_
      refine st_op (ev_build zero80 pl80 (parts := [(0, .int .i64 rid), (1, .agg #[.int .i64 h_term, .int .i64 h_vote]), (2, .pointer (some ⟨g, 0, none⟩)), (3, .int .i64 cmt)]) rfl (cs := [.int .i64 rid, .int .i64 h_term, .int .i64 h_vote, .pointer (some ⟨g, 0, none⟩), .int .i64 cmt, .int .i64 0, .int .i64 0, .bool false, .pointer none, .pointer none, .slice none 0 0, .bool false, .int .i64 0, .bool false]) rfl) rfl rfl rfl ?_
      obtain ⟨b28, H29, he30, b28e, H29n_, hB32, f31⟩ := mem_box (P := Tryz.prog) H23 (v := .agg #[.int .i64 rid, .int .i64 h_term, .int .i64 h_vote, .pointer (some ⟨g, 0, none⟩), .int .i64 cmt, .int .i64 0, .int .i64 0, .bool false, .pointer none, .pointer none, .slice none 0 0, .bool false, .int .i64 0, .bool false]) (cs := [.int .i64 rid, .int .i64 h_term, .int .i64 h_vote, .pointer (some ⟨g, 0, none⟩), .int .i64 cmt, .int .i64 0, .int .i64 0, .bool false, .pointer none, .pointer none, .slice none 0 0, .bool false, .int .i64 0, .bool false]) rfl rfl
      refine st_op (he30 _ _ _ _ _ _ _ _ _ rfl) rfl rfl rfl ?_
      have hx33 : Ext H23 H29 := Ext.new (by omega) H29n_ f31
      have H29n : H23.next ≤ H29.next := hx33.1
      refine st_op (ev_assign rfl) rfl rfl rfl ?_
      try show aw _ _ _ _ _ _
      refine aw_ret ?_
      have hx34 : Ext H H29 := (Ext.trans (Ext.trans (Ext.trans hx14 hx18) hx24) hx33)
      exact ⟨.pointer (some ⟨b28, 0, none⟩), rfl, b28, rfl, (by omega), (by omega), hB32, hx34⟩
theorem raft_Hard_spec (H : Heap) (rid : Int) (hrid : 1 ≤ rid ∧ rid ≤ 7) (rt : Int) (rv : Int) (x : Int) (hx : 0 ≤ x ∧ x ≤ 2199023255552) (tm : Int) (cf : ByteArray) (hcf : cf.size ≤ 1073741824) (dt : ByteArray) (lA : Option Addr) (l : List Entry) (lc : Nat) (hl : Row H lA lc 4 (l.map Entry.cells)) (cl : l.length ≤ lc) (ll : l.length ≤ 200) (g : Nat) (hg : g < H.next) (Bg : H.blk g = some ⟨[.int .i64 x, .int .i64 tm, .string cf, .string dt, .slice lA l.length lc], 0, false, false⟩) (uk : Spec.LogOk x tm l) (cmt : Int) (role : Int) (ldr : Int) (hrd : Bool)   (msH : Heap) (msA : Option Addr) (ms : List MsgC) (msc : Nat) (hms : My msH H msA msc 13 (ms.map MsgC.cells)) (nms : msH.next ≤ H.next) (lms : ms.length ≤ 100) (msE : Heap) (ems : Each MsgC.sub msE H ms) (nems : msE.next ≤ H.next) (oh : Bool) (of_ : Int) (os_ : Bool) (r : Nat) (hr : r < H.next) (Br : H.blk r = some ⟨[.int .i64 rid, .int .i64 rt, .int .i64 rv, .pointer (some ⟨g, 0, none⟩), .int .i64 cmt, .int .i64 role, .int .i64 ldr, .bool hrd, .pointer none, .pointer none, .slice msA ms.length msc, .bool oh, .int .i64 of_, .bool os_], 0, false, false⟩) (ugr : g < r) : ∃ v H', Spec Tryz.prog 16 [.pointer (some ⟨r, 0, none⟩)] H v H' ∧ ((v = .agg #[.int .i64 rt, .int .i64 rv]) ∧ (Ext H H')) := by
 refine spec_go1 E0_ok 10 (f := 16) Tryz.func16 rfl rfl rfl ?_
 refine aw_seq ?_
 refine aw_reg ?_
 obtain ⟨b1, H2, he3, b1e, H2n_, hB5, f4⟩ := mem_alloc H zero35
 refine st_op (he3 _ _ _ _ _ _ _) rfl rfl rfl ?_
 have hx6 : Ext H H2 := Ext.new (by omega) H2n_ f4
 have H2n : H.next ≤ H2.next := hx6.1
 try show aw _ _ _ _ _ _
 iterate 2 refine aw_seq ?_
 refine aw_reg ?_
 refine st_op (ev_move rfl) rfl rfl rfl ?_
 refine st_op (ev_nilEq rfl rfl Tryz.underlying32) rfl rfl rfl ?_
 try show aw _ _ _ _ _ _
 refine aw_cond (t := false) rfl ?_
 try show aw _ _ _ _ _ _
 refine aw_skip ?_
 try show aw _ _ _ _ _ _
 refine aw_seq ?_
 refine aw_reg ?_
 refine st_op (ev_move rfl) rfl rfl rfl ?_
 refine st_op (ev_nilCheck rfl) rfl rfl rfl ?_
 refine st_op (ev_fieldAddr rfl fa80_1 (o' := 1) rfl) rfl rfl rfl ?_
 have h7 := Ext.blk hx6 (by omega) Br
 refine st_op (ev_load rfl (lvar_part (l := [.int .i64 rt, .int .i64 rv]) many35 h7 rfl rfl (by decide))) rfl rfl rfl ?_
 obtain ⟨H8, he9, H8n_, hB10, f11⟩ := mem_store (v := .agg #[.int .i64 rt, .int .i64 rv]) (o := 0) (cs' := [.int .i64 rt, .int .i64 rv]) 2 rfl rfl size35 hB5 rfl rfl rfl
 refine st_op0 (he9 _ _ _ _ _ _ _ _ _ rfl rfl) rfl rfl ?_
 have hf12 : Fr (fun q => q = b1) H2 H8 := Fr.write H8n_ f11
 have H8n : H2.next ≤ H8.next := hf12.1
 try show aw _ _ _ _ _ _
 refine aw_ret ?_
 have hx13 : Ext H H8 := (Ext.then hx6 hf12 (fun q hq e => by omega))
 exact ⟨.agg #[.int .i64 rt, .int .i64 rv], (resA_of (resL_cell rfl (lvar_part (l := [.int .i64 rt, .int .i64 rv]) many35 hB10 rfl rfl (by decide)) resL_nil) rfl), rfl, hx13⟩

end Go.AM
