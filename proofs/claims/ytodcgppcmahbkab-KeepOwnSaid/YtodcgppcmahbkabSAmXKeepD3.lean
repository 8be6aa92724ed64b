/- Part of a machine of its own for this claim: the program's code over memory without draws. -/
import Derived.Test.YtodcgppcmahbkabSAmXKeepD2
set_option linter.unusedVariables false
set_option linter.unusedSimpArgs false
set_option linter.unnecessarySimpa false
set_option linter.unusedVariables false
set_option linter.unusedSimpArgs false
set_option linter.unnecessarySimpa false
namespace Go.AM
open Go Go.Proofs
theorem keep_take_spec (H:Heap) (d:Nat) (ht:Int) (hv:Int) (si:Int) (hsi:0≤si∧si≤1099511627776) (st:Int) (sc:ByteArray) (sd:ByteArray) (lH:Heap) (lA:Option Addr) (l:List Entry) (lc:Nat) (hl:My lH H lA lc 4 (l.map Entry.cells)) (nl:lH.next≤H.next) (ll:l.length≤200) (sz:Int) (hsz:0≤sz∧sz≤1048576) (k:Nat) (hk:k<H.next) (Bk:H.blk k=some ⟨[.pointer (some ⟨d,0,none⟩),.int .i64 ht,.int .i64 hv,.int .i64 si,.int .i64 st,.string sc,.string sd,.slice lA l.length lc,.int .i64 sz],0,false,false⟩) (r_hard:Bool) (r_h_term:Int) (r_h_vote:Int) (r_e_index:Int) (r_e_term:Int) (r_e_kind:Int) (r_e_data:ByteArray) (ur:Spec.mayF r_hard r_h_term r_h_vote r_e_index r_e_term r_e_kind r_e_data=true):∃ v H',Spec Try.prog 38 [.pointer (some ⟨k,1,none⟩),.agg #[.bool r_hard,.int .i64 r_h_term,.int .i64 r_h_vote,.int .i64 r_e_index,.int .i64 r_e_term,.int .i64 r_e_kind,.string r_e_data]] H v H'∧(∃ rA3 rc3,(v = .bool ((Spec.takeF ht hv si l r_hard r_h_term r_h_vote r_e_index r_e_term r_e_kind r_e_data).1))∧(My lH H' rA3 rc3 4 (((Spec.takeF ht hv si l r_hard r_h_term r_h_vote r_e_index r_e_term r_e_kind r_e_data).2.2.2).map Entry.cells))∧(H'.blk k=some ⟨[.pointer (some ⟨d,0,none⟩),.int .i64 ((Spec.takeF ht hv si l r_hard r_h_term r_h_vote r_e_index r_e_term r_e_kind r_e_data).2.1),.int .i64 ((Spec.takeF ht hv si l r_hard r_h_term r_h_vote r_e_index r_e_term r_e_kind r_e_data).2.2.1),.int .i64 si,.int .i64 st,.string sc,.string sd,.slice rA3 (((Spec.takeF ht hv si l r_hard r_h_term r_h_vote r_e_index r_e_term r_e_kind r_e_data).2.2.2).length) rc3,.int .i64 sz],0,false,false⟩)∧(Fr (fun q=>q=k∨(lH.next≤q∧q<H.next∧ZB H q 4)) H H')):=by
 have hrr:=Spec.may_says ur
 refine spec_go2 E0_ok 51 (f:=38) Try.func38 rfl rfl rfl ?_
 refine aw_seq ?_
 refine aw_reg ?_
 obtain⟨b1,H2,he3,b1e,H2n_,hB5,f4⟩:=mem_box (P:=Try.prog) H (v := .agg #[.bool r_hard,.int .i64 r_h_term,.int .i64 r_h_vote,.int .i64 r_e_index,.int .i64 r_e_term,.int .i64 r_e_kind,.string r_e_data]) (cs := [.bool r_hard,.int .i64 r_h_term,.int .i64 r_h_vote,.int .i64 r_e_index,.int .i64 r_e_term,.int .i64 r_e_kind,.string r_e_data]) rfl rfl
 refine st_op (he3 _ _ _ _ _ _ _ _ _ rfl) rfl rfl rfl ?_
 have hx6:Ext H H2:=Ext.new (by omega) H2n_ f4
 have H2n:H.next≤H2.next:=hx6.1
 refine st_op (ev_assign rfl) rfl rfl rfl ?_
 iterate 2 refine aw_seq ?_
 refine aw_reg ?_
 refine st_op (ev_fieldAddr rfl fa95_0 (o':=0) rfl) rfl rfl rfl ?_
 refine st_op (ev_load rfl (lvar_one one4 hB5 rfl)) rfl rfl rfl ?_
 by_cases hc7:r_hard=true
 ·
  refine aw_condT hc7 rfl ?_
  refine aw_seq ?_
  refine aw_reg ?_
  refine st_op (ev_move rfl) rfl rfl rfl ?_
  refine st_op (ev_fieldAddr rfl fa95_1 (o':=1) rfl) rfl rfl rfl ?_
  refine st_op (ev_load rfl (lvar_part (l := [.int .i64 r_h_term,.int .i64 r_h_vote]) many41 hB5 rfl rfl (by decide))) rfl rfl rfl ?_
  refine st_op (ev_nilCheck rfl) rfl rfl rfl ?_
  refine st_op (ev_fieldAddr rfl fa61_0 (o':=1) rfl) rfl rfl rfl ?_
  have h8:=Ext.blk hx6 (by omega) Bk
  obtain⟨H9,he10,H9n_,hB11,f12⟩:=mem_store (v := .agg #[.int .i64 r_h_term,.int .i64 r_h_vote]) (o:=1) (cs' := [.pointer (some ⟨d,0,none⟩),.int .i64 r_h_term,.int .i64 r_h_vote,.int .i64 si,.int .i64 st,.string sc,.string sd,.slice lA l.length lc,.int .i64 sz]) 2 rfl rfl size41 h8 rfl rfl rfl
  refine st_op0 (he10 _ _ _ _ _ _ _ _ _ rfl rfl) rfl rfl ?_
  have hf13:Fr (fun q=>q=k) H2 H9:=Fr.write H9n_ f12
  have H9n:H2.next≤H9.next:=hf13.1
  refine aw_seq ?_
  refine aw_reg ?_
  refine st_op (ev_assign rfl) rfl rfl rfl ?_
  refine aw_ret ?_
  have h14:=My.ext hl hx6
  have h15:=My.frS h14 hf13 (fun q hq e=>⟨_,e ▸ h8,show(0:Nat)≠4 by decide⟩)
  have hres:(Spec.takeF ht hv si l r_hard r_h_term r_h_vote r_e_index r_e_term r_e_kind r_e_data)=(true,r_h_term,r_h_vote,l):=by exact Spec.takeF_hard hc7
  exact⟨.bool true,rfl,lA,lc,by first | (rw[hres];first | done | rfl | simp;done) | rfl,(by rw[hres];exact h15),(by rw[hres];exact hB11),(Fr.transG (Fr.trans (Fr.refl (fun q=>q=k∨(lH.next≤q∧q<H.next∧ZB H q 4)) H) (hx6.fr fun _=>False) (fun q hq (e:False)=>e.elim)) hf13 (fun q hq hE e=>Or.inl (e)))⟩
 ·
  rw[Bool.not_eq_true] at hc7;refine aw_condF hc7 rfl ?_
  refine aw_skip ?_
  refine aw_seq ?_
  refine aw_marks (fun b=>b<H2.next) [(false,false),(false,false),(false,false),(false,false),(false,false),(false,false),(false,false),(false,false),(false,false),(false,false),(false,false)] mixed (by kernel_rfl) (by kernel_rfl) ?_
  refine sm_op (ev_fieldAddr rfl fa95_2 (o':=3) rfl) rfl rfl rfl ?_
  refine sm_op (ev_fieldAddr rfl fa54_0 (o':=3) rfl) rfl rfl rfl ?_
  refine sm_op (ev_load rfl (lvar_one one2 hB5 rfl)) rfl rfl rfl ?_
  refine sm_op (ev_move rfl) rfl rfl rfl ?_
  refine sm_op (ev_nilCheck rfl) rfl rfl rfl ?_
  refine sm_op (ev_fieldAddr rfl fa61_1 (o':=3) rfl) rfl rfl rfl ?_
  refine sm_op (ev_fieldAddr rfl fa46_0 (o':=3) rfl) rfl rfl rfl ?_
  have h16:=Ext.blk hx6 (by omega) Bk
  refine sm_op (ev_load rfl (lvar_one one2 h16 rfl)) rfl rfl rfl ?_
  refine sm_op (ev_int64 (c:=r_e_index - si) rfl rfl rfl (by omega) (by omega)) rfl rfl rfl ?_
  refine sm_op (ev_int64 (c:=(r_e_index - si) - 1) rfl rfl rfl (by omega) (by omega)) rfl rfl rfl ?_
  refine sm_op (ev_assign rfl) rfl rfl rfl ?_
  iterate 2 refine aw_seq ?_
  refine aw_reg ?_
  refine st_op (ev_move rfl) rfl rfl rfl ?_
  refine st_op (ev_int rfl rfl rfl) rfl rfl rfl ?_
  refine st_op (ev_move rfl) rfl rfl rfl ?_
  refine st_bool 25 rfl (fun hb17=>?_) (fun hb17=>?_)
  ·
   have hb17:=of_decide_eq_true hb17
   iterate 7 refine st_skip rfl rfl rfl ?_
   refine st_op (ev_pickT rfl rfl) rfl rfl rfl ?_
   refine st_op (ev_move rfl) rfl rfl rfl ?_
   iterate 2 refine st_skip rfl rfl rfl ?_
   refine st_op (ev_pickT rfl rfl) rfl rfl rfl ?_
   refine aw_cond (t:=true) rfl ?_
   refine aw_seq ?_
   refine aw_reg ?_
   refine st_op (ev_assign rfl) rfl rfl rfl ?_
   refine aw_ret ?_
   have h18:=My.ext hl hx6
   have hres:(Spec.takeF ht hv si l r_hard r_h_term r_h_vote r_e_index r_e_term r_e_kind r_e_data)=(false,ht,hv,l):=by exact Spec.takeF_no hc7 (by omega)
   exact⟨.bool false,rfl,lA,lc,by first | (rw[hres];first | done | rfl | simp;done) | rfl,(by rw[hres];exact h18),(by rw[hres];exact h16),(Fr.trans (Fr.refl (fun q=>q=k∨(lH.next≤q∧q<H.next∧ZB H q 4)) H) (hx6.fr fun _=>False) (fun q hq (e:False)=>e.elim))⟩
  ·
   have hb17:=of_decide_eq_false hb17
   iterate 2 refine st_op (ev_move rfl) rfl rfl rfl ?_
   refine st_op (ev_nilCheck rfl) rfl rfl rfl ?_
   refine st_op (ev_fieldAddr rfl fa61_2 (o':=7) rfl) rfl rfl rfl ?_
   refine st_op (ev_load rfl (lvar_one one39 h16 rfl)) rfl rfl rfl ?_
   refine st_op (ev_lenSl rfl Try.underlying39) rfl rfl rfl ?_
   refine st_op (ev_int rfl rfl rfl) rfl rfl rfl ?_
   refine st_op (ev_pickF rfl rfl) rfl rfl rfl ?_
   refine st_op (ev_move rfl) rfl rfl rfl ?_
   refine st_bool 34 rfl (fun hb19=>?_) (fun hb19=>?_)
   ·
    have hb19:=of_decide_eq_true hb19
    iterate 2 refine st_skip rfl rfl rfl ?_
    refine st_op (ev_pickT rfl rfl) rfl rfl rfl ?_
    refine aw_cond (t:=true) rfl ?_
    refine aw_seq ?_
    refine aw_reg ?_
    refine st_op (ev_assign rfl) rfl rfl rfl ?_
    refine aw_ret ?_
    have h20:=My.ext hl hx6
    have hres:(Spec.takeF ht hv si l r_hard r_h_term r_h_vote r_e_index r_e_term r_e_kind r_e_data)=(false,ht,hv,l):=by exact Spec.takeF_no hc7 (by omega)
    exact⟨.bool false,rfl,lA,lc,by first | (rw[hres];first | done | rfl | simp;done) | rfl,(by rw[hres];exact h20),(by rw[hres];exact h16),(Fr.trans (Fr.refl (fun q=>q=k∨(lH.next≤q∧q<H.next∧ZB H q 4)) H) (hx6.fr fun _=>False) (fun q hq (e:False)=>e.elim))⟩
   ·
    have hb19:=of_decide_eq_false hb19
    refine st_op (ev_move rfl) rfl rfl rfl ?_
    refine st_op (ev_int rfl rfl rfl) rfl rfl rfl ?_
    refine st_op (ev_pickF rfl rfl) rfl rfl rfl ?_
    by_cases hc21:(decide ((r_e_index - si) - 1 ≥ 200))=true
    ·
     refine aw_condT hc21 rfl ?_
     have hc21:=of_decide_eq_true hc21
     refine aw_seq ?_
     refine aw_reg ?_
     refine st_op (ev_assign rfl) rfl rfl rfl ?_
     refine aw_ret ?_
     have h22:=My.ext hl hx6
     have hres:(Spec.takeF ht hv si l r_hard r_h_term r_h_vote r_e_index r_e_term r_e_kind r_e_data)=(false,ht,hv,l):=by exact Spec.takeF_no hc7 (by omega)
     exact⟨.bool false,rfl,lA,lc,by first | (rw[hres];first | done | rfl | simp;done) | rfl,(by rw[hres];exact h22),(by rw[hres];exact h16),(Fr.trans (Fr.refl (fun q=>q=k∨(lH.next≤q∧q<H.next∧ZB H q 4)) H) (hx6.fr fun _=>False) (fun q hq (e:False)=>e.elim))⟩
    ·
     rw[Bool.not_eq_true] at hc21;refine aw_condF hc21 rfl ?_
     have hc21:=of_decide_eq_false hc21
     refine aw_skip ?_
     refine aw_seq ?_
     refine aw_marks (fun b=>b<H2.next) [(false,false),(false,false),(false,false),(false,false),(true,false),(false,false),(true,false),(false,false),(false,false),(false,true),(false,false),(false,false),(false,false),(false,false)] mixed (by kernel_rfl) (by kernel_rfl) ?_
     iterate 2 refine sm_op (ev_move rfl) rfl rfl rfl ?_
     refine sm_op (ev_nilCheck rfl) rfl rfl rfl ?_
     refine sm_op (ev_fieldAddr rfl fa61_2 (o':=7) rfl) rfl rfl rfl ?_
     refine sm_read (ev_load rfl (lvar_one one39 h16 rfl)) rfl rfl rfl (fun b hb=>by cases hb;dsimp only <;> omega) ?_
     refine sm_op (ev_move rfl) rfl rfl rfl ?_
     have h31:=My.ext hl hx6
     obtain⟨A23,c24,L25,hL26,hl27,hs28,hr29⟩:=sliceA_my Entry.cells el39 (by decide) h31 (by omega) (lo:=none) (hi:=some (.int .i64 ((r_e_index - si) - 1))) (p:=0) (q:=(((r_e_index - si) - 1)).toNat) (by rw[Option.isSome_some,if_pos rfl];exact bound_int (by omega) (by omega) (by first | rfl | omega)) rfl (by omega) (by omega) (.inr ⟨_,_,rfl⟩)
     refine sm_read (ev_slice rfl rfl rfl rfl hs28) rfl rfl rfl (fun q hq=>Nat.lt_of_lt_of_le (rd_slice rfl rfl (My.row h31) hq) (by omega)) ?_
     refine sm_op (ev_fieldAddr rfl fa95_2 (o':=3) rfl) rfl rfl rfl ?_
     refine sm_op (ev_load rfl (lvar_part (l := [.int .i64 r_e_index,.int .i64 r_e_term,.int .i64 r_e_kind,.string r_e_data]) many54 hB5 rfl rfl (by decide))) rfl rfl rfl ?_
     obtain⟨b32,H33,he34,b32e,H33n_,hm36,f35⟩:=mem_lit H2 (xs:=([.agg #[.int .i64 r_e_index,.int .i64 r_e_term,.int .i64 r_e_kind,.string r_e_data]]:List Value)) (m:=1) (rows := [[.int .i64 r_e_index,.int .i64 r_e_term,.int .i64 r_e_kind,.string r_e_data]]) rfl eok39 (by decide) (by decide) zf54 rfl (allLen rfl) rfl
     replace hm36:My H2 H33 (some ⟨b32,0,none⟩) 1 4 ([(⟨r_e_index,r_e_term,r_e_kind,r_e_data⟩:Entry)].map Entry.cells):=hm36
     refine sm_act (he34 _ _ _ _ _ _ _ _ rfl) rfl rfl rfl (fun q hq=>f35 q (by omega)) ?_
     have hx37:Ext H2 H33:=Ext.new (by omega) H33n_ f35
     have H33n:H2.next≤H33.next:=hx37.1
     have h38:=My.ext hr29 hx37
     obtain⟨A39,c40,H41,W42,he43,hm44,hf45⟩:=mem_append (f:=Entry.cells) (old:=L25) (new := [(⟨r_e_index,r_e_term,r_e_kind,r_e_data⟩:Entry)]) (m:=L25.length) (mx:=1) (c:=c24) (by first | rfl | simp) (by first | rfl | simp) eok39 (by decide) hr29 h38 (by omega) (((My.row hm36)).srcF (by decide) (by first | rfl | simp)) rfl Entry.cells_len Entry.cells_one (by first | omega | (simp only [List.length_append,List.length_cons,List.length_nil,List.length_map,List.length_set,List.length_replicate,Spec.bytesOf_length];omega) | (simp;omega)) (by first | omega | (simp only [List.length_append,List.length_cons,List.length_nil,List.length_map,List.length_set,List.length_replicate,Spec.bytesOf_length];omega) | (simp;omega))
     refine sm_op (he43 _ _ _ _ _ _ _ _ _ _ rfl rfl isrow39) rfl rfl rfl ?_
     have H41n:H33.next≤H41.next:=hf45.1
     refine sm_op (ev_nilCheck rfl) rfl rfl rfl ?_
     refine sm_op (ev_fieldAddr rfl fa61_2 (o':=7) rfl) rfl rfl rfl ?_
     have h46:=Ext.blk hx37 (by omega) h16
     have h47:=Fr.blk hf45 (by omega) (fun e=>(zb_ne h46 e.2.2 (show(0:Nat)≠4 by decide))) h46
     obtain⟨H48,he49,H48n_,hB50,f51⟩:=mem_store (v := .slice A39 ((L25 ++ [(⟨r_e_index,r_e_term,r_e_kind,r_e_data⟩:Entry)]).length) c40) (o:=7) (cs' := [.pointer (some ⟨d,0,none⟩),.int .i64 ht,.int .i64 hv,.int .i64 si,.int .i64 st,.string sc,.string sd,.slice A39 ((L25 ++ [(⟨r_e_index,r_e_term,r_e_kind,r_e_data⟩:Entry)]).length) c40,.int .i64 sz]) 1 rfl rfl size39 h47 rfl rfl rfl
     refine sm_op0 (he49 _ _ _ _ _ _ _ _ _ rfl rfl) rfl rfl ?_
     have hf52:Fr (fun q=>q=k) H41 H48:=Fr.write H48n_ f51
     have H48n:H41.next≤H48.next:=hf52.1
     refine aw_seq ?_
     refine aw_reg ?_
     refine st_op (ev_assign rfl) rfl rfl rfl ?_
     refine aw_ret ?_
     have h53:=My.frS hm44 hf52 (fun q hq e=>⟨_,e ▸ h47,show(0:Nat)≠4 by decide⟩)
     have hres:(Spec.takeF ht hv si l r_hard r_h_term r_h_vote r_e_index r_e_term r_e_kind r_e_data)=(true,ht,hv,(L25 ++ [(⟨r_e_index,r_e_term,r_e_kind,r_e_data⟩:Entry)])):=by rw[Spec.takeF_ok hc7 (by omega),hL26];simp
     exact⟨.bool true,rfl,A39,c40,by first | (rw[hres];first | done | rfl | simp;done) | rfl,(by rw[hres];exact h53),(by rw[hres];exact hB50),(Fr.transG (Fr.transG (Fr.trans (Fr.trans (Fr.refl (fun q=>q=k∨(lH.next≤q∧q<H.next∧ZB H q 4)) H) (hx6.fr fun _=>False) (fun q hq (e:False)=>e.elim)) (hx37.fr fun _=>False) (fun q hq (e:False)=>e.elim)) hf45 (fun q hq hE e=>Or.inr ((⟨by omega,by omega,ZB.back hE e.2.2⟩)))) hf52 (fun q hq hE e=>Or.inl (e)))⟩
theorem keep_OpenOk_spec (H:Heap) (d dm:Nat) (dD:Nat→Prop) (dl:Files) (dp:List Place) (dk:Int) (rd:DiskR dD H d dm dl dp dk) (kd:dk≤1099511627000) (f:FileS) (hg:Spec.fget ⟨#[115,116,97,116,101]⟩ dl=some f) (ho:(Spec.openR f.b).1=true):∃ v H',Spec Try.prog 19 [.pointer (some ⟨d,0,none⟩)] H v H'∧(∃ rA8 rc8,∃ rb0,(v = .tuple #[.pointer (some ⟨rb0,0,none⟩),.int .i64 0])∧(My H H' rA8 rc8 4 (((Spec.openR f.b).2.2.2.2.2.2.2.1).map Entry.cells))∧(H.next≤rb0)∧(rb0<H'.next)∧(H'.blk rb0=some ⟨[.pointer (some ⟨d,0,none⟩),.int .i64 ((Spec.openR f.b).2.1),.int .i64 ((Spec.openR f.b).2.2.1),.int .i64 ((Spec.openR f.b).2.2.2.1),.int .i64 ((Spec.openR f.b).2.2.2.2.1),.string ((Spec.openR f.b).2.2.2.2.2.1),.string ((Spec.openR f.b).2.2.2.2.2.2.1),.slice rA8 (((Spec.openR f.b).2.2.2.2.2.2.2.1).length) rc8,.int .i64 ((Spec.openR f.b).2.2.2.2.2.2.2.2)],0,false,false⟩)∧(DiskX dD H H' d (Spec.openL dl f.b (Spec.openR f.b).2.2.2.2.2.2.2.2) dk 1 rb0)∧(Fr (fun q=>(dD q∧Z01 H q)) H H')):=by
 have bd:=rd.below _ rd.dp;have bdm:=rd.below _ rd.dm;have zd:=rd.kb
 have sub_d:∀ q,dD q→dD q∨(H.next≤q∧q<H.next):=fun q e => .inl e
 refine spec_go1 E0_ok 87 (f:=19) Try.func19 rfl rfl rfl ?_
 refine aw_seq ?_
 refine aw_reg ?_
 iterate 2 refine st_op (ev_assign rfl) rfl rfl rfl ?_
 refine aw_seq ?_
 refine aw_reg ?_
 refine st_op (ev_move rfl) rfl rfl rfl ?_
 refine st_op (ev_build zero88 pl88 (parts := [(0,.pointer (some ⟨d,0,none⟩))]) rfl (cs := [.pointer (some ⟨d,0,none⟩),.int .i64 0,.int .i64 0,.int .i64 0,.int .i64 0,.string (⟨#[]⟩),.string (⟨#[]⟩),.slice none 0 0,.int .i64 0]) rfl) rfl rfl rfl ?_
 obtain⟨b1,H2,he3,b1e,H2n_,hB5,f4⟩:=mem_box (P:=Try.prog) H (v := .agg #[.pointer (some ⟨d,0,none⟩),.int .i64 0,.int .i64 0,.int .i64 0,.int .i64 0,.string (⟨#[]⟩),.string (⟨#[]⟩),.slice none 0 0,.int .i64 0]) (cs := [.pointer (some ⟨d,0,none⟩),.int .i64 0,.int .i64 0,.int .i64 0,.int .i64 0,.string (⟨#[]⟩),.string (⟨#[]⟩),.slice none 0 0,.int .i64 0]) rfl rfl
 refine st_op (he3 _ _ _ _ _ _ _ _ _ rfl) rfl rfl rfl ?_
 have hx6:Ext H H2:=Ext.new (by omega) H2n_ f4
 have H2n:H.next≤H2.next:=hx6.1
 have hno7:¬ dD b1:=fun e=>by have e:=rd.below _ e;omega
 refine st_op (ev_assign rfl) rfl rfl rfl ?_
 refine aw_seq ?_
 refine aw_reg ?_
 refine st_op (ev_move rfl) rfl rfl rfl ?_
 refine st_call rfl rfl rfl ent16 rfl rfl rfl ?_
 have h8:=DiskR.ext rd hx6
 have hS9:=disk_Read_spec H2 d dD dl dk ⟨_,_,h8⟩ (by omega) (⟨#[115,116,97,116,101]⟩) (by first | omega | decide | assumption)
 rw[Spec.read_at hg] at hS9;try dsimp only at hS9
 obtain⟨_,H10,hs11,A13,c14,rfl,hm15,hb16,hl17,hx12⟩:=hS9
 refine⟨_,H10,hs11,?_⟩
 have H10n:H2.next≤H10.next:=hx12.1
 refine st_op (ev_move rfl) rfl rfl rfl ?_
 iterate 2 refine st_op (ev_extract rfl rfl) rfl rfl rfl ?_
 iterate 2 refine st_op (ev_assign rfl) rfl rfl rfl ?_
 iterate 2 refine aw_seq ?_
 refine aw_reg ?_
 refine st_op (ev_move rfl) rfl rfl rfl ?_
 refine st_op (ev_int rfl rfl rfl) rfl rfl rfl ?_
 refine aw_cond (t:=false) rfl ?_
 refine aw_skip ?_
 refine aw_seq ?_
 refine aw_reg ?_
 refine st_op (ev_move rfl) rfl rfl rfl ?_
 refine st_call rfl rfl rfl ent36 rfl rfl rfl ?_
 obtain⟨_,H19,hs18,hs18v,hq21,hq22,hq23,hx20⟩:=wal_GetSnap_spec H10 A13 f.b c14 (My.row hm15) (My.capF hm15 (by omega)) (by omega) (by first | assumption | exact Spec.Bytes.nil | exact Spec.bytes_of _ | (repeat' first | assumption | exact Spec.Bytes.nil | exact Spec.bytes_of _ | exact Spec.enc_bytes _ | exact Spec.four_bytes _ | exact Spec.sealF_bytes (by assumption) | apply Spec.Bytes.append | apply Spec.Bytes.cons (by omega) | apply Spec.Bytes.take | apply Spec.Bytes.drop))
 rw[hs18v] at hs18;clear hs18v
 generalize hR25:(Spec.getSnapF f.b)=r24 at hs18 hq21 hq22 hq23
 obtain⟨z26,z27,z28,z29,z30,z31⟩:=r24
 dsimp only at hs18 hq21 hq22 hq23
 refine⟨_,H19,hs18,?_⟩
 have H19n:H10.next≤H19.next:=hx20.1
 refine st_op (ev_move rfl) rfl rfl rfl ?_
 iterate 3 refine st_op (ev_extract rfl rfl) rfl rfl rfl ?_
 obtain⟨b32,H33,he34,b32e,H33n_,hB36,f35⟩:=mem_alloc H19 zero46
 refine st_op (he34 _ _ _ _ _ _ _) rfl rfl rfl ?_
 have hx37:Ext H19 H33:=Ext.new (by omega) H33n_ f35
 have H33n:H19.next≤H33.next:=hx37.1
 have hno38:¬ dD b32:=fun e=>by have e:=rd.below _ e;omega
 obtain⟨H39,he40,H39n_,hB41,f42⟩:=mem_store (v := .agg #[.int .i64 z26,.int .i64 z27,.string z28,.string z29]) (o:=0) (cs' := [.int .i64 z26,.int .i64 z27,.string z28,.string z29]) 4 rfl rfl size46 hB36 rfl rfl rfl
 refine st_op0 (he40 _ _ _ _ _ _ _ _ _ rfl rfl) rfl rfl ?_
 have hf43:Fr (fun q=>q=b32) H33 H39:=Fr.write H39n_ f42
 have H39n:H33.next≤H39.next:=hf43.1
 iterate 2 refine st_op (ev_assign rfl) rfl rfl rfl ?_
 iterate 2 refine aw_seq ?_
 refine aw_reg ?_
 refine st_op (ev_move rfl) rfl rfl rfl ?_
 refine st_op (ev_int rfl rfl rfl) rfl rfl rfl ?_
 by_cases hc44:(z31 != 0)=true
 ·
  refine aw_condT hc44 rfl ?_
  have hc44:¬ (z31=0):=by simpa using hc44
  refine aw_seq ?_
  refine aw_reg ?_
  iterate 2 refine st_op (ev_assign rfl) rfl rfl rfl ?_
  refine aw_ret ?_
  exfalso;have q:(Spec.openR f.b).1=false:=by exact Spec.openR_snap hR25 (by omega)
  rw[ho] at q;cases q
 ·
  rw[Bool.not_eq_true] at hc44;refine aw_condF hc44 rfl ?_
  have hc44:(z31=0):=by simpa using hc44
  refine aw_skip ?_
  refine aw_seq ?_
  refine aw_reg ?_
  refine st_op (ev_move rfl) rfl rfl rfl ?_
  refine st_op (ev_load rfl (lvar_part (l := [.int .i64 z26,.int .i64 z27,.string z28,.string z29]) many46 hB41 rfl rfl (by decide))) rfl rfl rfl ?_
  refine st_op (ev_nilCheck rfl) rfl rfl rfl ?_
  refine st_op (ev_fieldAddr rfl fa88_1 (o':=1) rfl) rfl rfl rfl ?_
  refine st_op (ev_fieldAddr rfl fa61_1 (o':=3) rfl) rfl rfl rfl ?_
  have hx46:Ext H2 H39:=(Ext.then (Ext.trans (Ext.trans hx12 hx20) hx37) hf43 (fun q hq e=>by omega))
  have h45:=Ext.blk hx46 (by omega) hB5
  obtain⟨H47,he48,H47n_,hB49,f50⟩:=mem_store (v := .agg #[.int .i64 z26,.int .i64 z27,.string z28,.string z29]) (o:=3) (cs' := [.pointer (some ⟨d,0,none⟩),.int .i64 0,.int .i64 0,.int .i64 z26,.int .i64 z27,.string z28,.string z29,.slice none 0 0,.int .i64 0]) 4 rfl rfl size46 h45 rfl rfl rfl
  refine st_op0 (he48 _ _ _ _ _ _ _ _ _ rfl rfl) rfl rfl ?_
  have hf51:Fr (fun q=>q=b1) H39 H47:=Fr.write H47n_ f50
  have H47n:H39.next≤H47.next:=hf51.1
  refine aw_seq ?_
  refine aw_reg ?_
  iterate 2 refine st_op (ev_move rfl) rfl rfl rfl ?_
  have hx61:Ext H10 H39:=(Ext.then (Ext.trans hx20 hx37) hf43 (fun q hq e=>by omega))
  have h60:=My.ext hm15 hx61
  have h62:=My.frS h60 hf51 (fun q hq e=>⟨_,e ▸ h45,show(0:Nat)≠1 by decide⟩)
  obtain⟨A52,c53,L54,hL55,hl56,hs57,hr58⟩:=sliceA_my u8c el26 (by decide) h62 (by omega) (lo:=some (.int .i64 z30)) (hi:=none) (p:=(z30).toNat) (q:=f.b.length) rfl (bound_int (by omega) (by omega) (by first | rfl | omega)) (by omega) (by omega) (.inl rfl)
  refine st_op (ev_slice rfl rfl rfl rfl hs57) rfl rfl rfl ?_
  have hL55b:Spec.Bytes L54:=by rw[hL55];exact Spec.Bytes.take (Spec.Bytes.drop hb16 _) _
  refine st_call rfl rfl rfl ent37 rfl rfl rfl ?_
  obtain⟨_,H64,hs63,A66,c67,hs63v,hm68,hx65⟩:=wal_Scan_spec H47 A52 L54 c53 (My.row hr58) (My.capF hr58 (by omega)) (by omega) (by assumption)
  rw[hs63v] at hs63;clear hs63v
  generalize hR70:(Spec.scanW L54)=r69 at hs63 hm68
  obtain⟨z71,z72,z73⟩:=r69
  dsimp only at hs63 hm68
  refine⟨_,H64,hs63,?_⟩
  have H64n:H47.next≤H64.next:=hx65.1
  have hsc:=Spec.scanW_all _ L54 rfl hL55b
  rw[hR70] at hsc;simp only at hsc
  have hgr:=Spec.getSnap_rng (b:=f.b) (by rw[hR25];omega)
  rw[hR25] at hgr;simp only at hgr
  have hLd:L54=f.b.drop z30.toNat:=by rw[hL55];exact List.take_of_length_le (by simp)
  refine st_op (ev_move rfl) rfl rfl rfl ?_
  iterate 3 refine st_op (ev_extract rfl rfl) rfl rfl rfl ?_
  iterate 3 refine st_op (ev_assign rfl) rfl rfl rfl ?_
  iterate 2 refine aw_seq ?_
  refine aw_reg ?_
  refine st_op (ev_move rfl) rfl rfl rfl ?_
  refine st_op (ev_not rfl) rfl rfl rfl ?_
  by_cases hc74:(!z73)=true
  ·
   refine aw_condT hc74 rfl ?_
   replace hc74:z73=false:=by rw[Bool.not_eq_true'] at hc74;exact hc74
   refine aw_seq ?_
   refine aw_reg ?_
   iterate 2 refine st_op (ev_assign rfl) rfl rfl rfl ?_
   refine aw_ret ?_
   exfalso;have q:(Spec.openR f.b).1=false:=by exact Spec.openR_torn hR25 ((congrArg Spec.scanW hLd.symm).trans hR70) hc74
   rw[ho] at q;cases q
  ·
   rw[Bool.not_eq_true] at hc74;refine aw_condF hc74 rfl ?_
   replace hc74:z73=true:=by rw[Bool.not_eq_false'] at hc74;exact hc74
   refine aw_skip ?_
   iterate 2 refine aw_seq ?_
   refine aw_reg ?_
   refine st_op (ev_move rfl) rfl rfl rfl ?_
   refine st_op (ev_lenSl rfl Try.underlying91) rfl rfl rfl ?_
   refine st_op (ev_move rfl) rfl rfl rfl ?_
   refine aw_block ?_
   have h76:=Ext.blk hx65 (by omega) hB49
   have hm77:My H64 H64 none 0 4 (([]:List Entry).map Entry.cells) := .nil
   refine aw_keep [0,4,5,8,10,49,50,51] (l':=(.cons 0 (.pointer (some ⟨d,0,none⟩)) (.cons 4 (.pointer (some ⟨b1,0,none⟩)) (.cons 5 (.slice A13 f.b.length c14) (.cons 8 (.int .i64 z30) (.cons 10 (.int .i64 z72) (.cons 49 (.slice A66 z71.length c67) (.cons 50 (.int .i64 (z71.length:Int)) (.cons 51 (.int .i64 0) .nil))))))))) (by repeat (first | exact Up.done | refine Up.then ?_ | refine Up.inBlock ?_)) rfl ?_
   refine aw_iter (α:=Nat×Int×Int×Option Addr×Nat×List Entry×Heap) (fun a=>z71.length - a.1) (fun a=>(.cons 0 (.pointer (some ⟨d,0,none⟩)) (.cons 4 (.pointer (some ⟨b1,0,none⟩)) (.cons 5 (.slice A13 f.b.length c14) (.cons 8 (.int .i64 z30) (.cons 10 (.int .i64 z72) (.cons 49 (.slice A66 z71.length c67) (.cons 50 (.int .i64 (z71.length:Int)) (.cons 51 (.int .i64 (a.1:Int)) .nil))))))))) (fun a=>a.2.2.2.2.2.2) (fun a=>(a.1≤z71.length)∧(a.2.2.2.2.2.1.length≤200)∧(Spec.takeA z26 0 0 [] z71=Spec.takeA z26 a.2.1 a.2.2.1 a.2.2.2.2.2.1 (z71.drop a.1))∧(My H64 a.2.2.2.2.2.2 a.2.2.2.1 a.2.2.2.2.1 4 (a.2.2.2.2.2.1.map Entry.cells))∧(a.2.2.2.2.2.2.blk b1=some ⟨[.pointer (some ⟨d,0,none⟩),.int .i64 a.2.1,.int .i64 a.2.2.1,.int .i64 z26,.int .i64 z27,.string z28,.string z29,.slice a.2.2.2.1 a.2.2.2.2.2.1.length a.2.2.2.2.1,.int .i64 0],0,false,false⟩)∧(Fr (fun q=>q=b1) H64 a.2.2.2.2.2.2)) (0,(0:Int),(0:Int),none,0,([]:List Entry),H64) ⟨(show 0≤z71.length from Nat.zero_le _),(show([]:List Entry).length≤200 from Nat.zero_le _),(show Spec.takeA z26 0 0 [] z71=Spec.takeA z26 (0:Int) (0:Int) ([]:List Entry) (z71.drop 0) from rfl),(show My H64 H64 none 0 4 (([]:List Entry).map Entry.cells) from hm77),(show H64.blk b1=some ⟨[.pointer (some ⟨d,0,none⟩),.int .i64 (0:Int),.int .i64 (0:Int),.int .i64 z26,.int .i64 z27,.string z28,.string z29,.slice none ([]:List Entry).length 0,.int .i64 0],0,false,false⟩ from h76),(show Fr (fun q=>q=b1) H64 H64 from(Fr.refl _ H64))⟩ ?_
   rintro⟨i,hq,vq,A,cp,lg,Hl75⟩ ⟨hi,hlg,hT,hm78,hB79,hxl80⟩ ih81
   replace hi:i≤z71.length:=hi
   replace hlg:lg.length≤200:=hlg
   replace hT:Spec.takeA z26 0 0 [] z71=Spec.takeA z26 hq vq lg (z71.drop i):=hT
   replace hm78:My H64 Hl75 A cp 4 (lg.map Entry.cells):=hm78
   replace hB79:Hl75.blk b1=some ⟨[.pointer (some ⟨d,0,none⟩),.int .i64 hq,.int .i64 vq,.int .i64 z26,.int .i64 z27,.string z28,.string z29,.slice A lg.length cp,.int .i64 0],0,false,false⟩:=hB79
   replace hxl80:Fr (fun q=>q=b1) H64 Hl75:=hxl80
   show aw _ _ _ (RL _ (.cons 0 (.pointer (some ⟨d,0,none⟩)) (.cons 4 (.pointer (some ⟨b1,0,none⟩)) (.cons 5 (.slice A13 f.b.length c14) (.cons 8 (.int .i64 z30) (.cons 10 (.int .i64 z72) (.cons 49 (.slice A66 z71.length c67) (.cons 50 (.int .i64 (z71.length:Int)) (.cons 51 (.int .i64 (i:Int)) .nil))))))))) Hl75 _
   have Hl75n:H64.next≤Hl75.next:=hxl80.1
   refine aw_seq ?_
   refine aw_reg ?_
   refine st_op (ev_int rfl rfl rfl) rfl rfl rfl ?_
   refine aw_seq ?_
   by_cases hc82:(decide ((i:Int)<(z71.length:Int)))=true
   ·
    refine aw_condT hc82 rfl ?_
    have hc82:=of_decide_eq_true hc82
    refine aw_skip ?_
    refine aw_seq ?_
    refine aw_block ?_
    refine aw_seq ?_
    refine aw_reg ?_
    have h83:=My.frS hm68 hxl80 (fun q hq e=>⟨_,e ▸ h76,show(0:Nat)≠7 by decide⟩)
    have hi84:0≤((i:Int):Int):=by omega
    have hi85:((i:Int):Int)<((z71.length:Nat):Int):=by omega
    obtain⟨x86,hx87⟩:∃ e,z71[i]?=some e:=⟨_,List.getElem?_eq_getElem (by omega)⟩
    have x86m:=hsc.1 _ (List.mem_of_getElem? hx87)
    refine st_op (ev_at rfl rfl (My.row h83) (getMap Rec.cells hx87) (by first | rfl | omega | simp) hi84 hi85 el91) rfl rfl rfl ?_
    refine st_op (ev_atN (cs := [.bool x86.hard,.int .i64 x86.h.term,.int .i64 x86.h.vote,.int .i64 x86.e.index,.int .i64 x86.e.term,.int .i64 x86.e.kind,.string x86.e.data]) rfl (My.row h83) (getMap Rec.cells hx87) many95 rfl rfl (by decide)) rfl rfl rfl ?_
    obtain⟨b88,H89,he90,b88e,H89n_,hB92,f91⟩:=mem_alloc Hl75 zero95
    refine st_op (he90 _ _ _ _ _ _ _) rfl rfl rfl ?_
    have hx93:Ext Hl75 H89:=Ext.new (by omega) H89n_ f91
    have H89n:Hl75.next≤H89.next:=hx93.1
    have hno94:¬ dD b88:=fun e=>by have e:=rd.below _ e;omega
    obtain⟨H95,he96,H95n_,hB97,f98⟩:=mem_store (v := .agg #[.bool x86.hard,.int .i64 x86.h.term,.int .i64 x86.h.vote,.int .i64 x86.e.index,.int .i64 x86.e.term,.int .i64 x86.e.kind,.string x86.e.data]) (o:=0) (cs' := [.bool x86.hard,.int .i64 x86.h.term,.int .i64 x86.h.vote,.int .i64 x86.e.index,.int .i64 x86.e.term,.int .i64 x86.e.kind,.string x86.e.data]) 7 rfl rfl size95 hB92 rfl rfl rfl
    refine st_op0 (he96 _ _ _ _ _ _ _ _ _ rfl rfl) rfl rfl ?_
    have hf99:Fr (fun q=>q=b88) H89 H95:=Fr.write H95n_ f98
    have H95n:H89.next≤H95.next:=hf99.1
    refine aw_seq ?_
    refine aw_marks (fun b=>b<H95.next) [(false,false),(false,false),(false,false),(false,false),(false,false),(false,false)] mixed (by kernel_rfl) (by kernel_rfl) ?_
    refine sm_op (ev_move rfl) rfl rfl rfl ?_
    refine sm_op (ev_nilCheck rfl) rfl rfl rfl ?_
    refine sm_op (ev_fieldAddr rfl fa88_1 (o':=1) rfl) rfl rfl rfl ?_
    refine sm_op (ev_load rfl (lvar_part (l := [.bool x86.hard,.int .i64 x86.h.term,.int .i64 x86.h.vote,.int .i64 x86.e.index,.int .i64 x86.e.term,.int .i64 x86.e.kind,.string x86.e.data]) many95 hB97 rfl rfl (by decide))) rfl rfl rfl ?_
    refine sm_call rfl rfl rfl ent38 rfl rfl rfl ?_
    have hx101:Ext Hl75 H95:=(Ext.then hx93 hf99 (fun q hq e=>by omega))
    have h100:=My.ext hm78 hx101
    have h102:=Ext.blk hx101 (by omega) hB79
    obtain⟨_,H104,hs103,A106,c107,hs103v,hm108,hB109,hx105⟩:=keep_take_spec H95 d hq vq z26 ⟨by omega,by omega⟩ z27 z28 z29 H64 A lg cp h100 (by omega) (by omega) 0 (by decide) b1 (by omega) h102 x86.hard x86.h.term x86.h.vote x86.e.index x86.e.term x86.e.kind x86.e.data x86m
    rw[hs103v] at hs103;clear hs103v
    generalize hR111:(Spec.takeF hq vq z26 lg x86.hard x86.h.term x86.h.vote x86.e.index x86.e.term x86.e.kind x86.e.data)=r110 at hs103 hm108 hB109
    obtain⟨z112,z113,z114,z115⟩:=r110
    dsimp only at hs103 hm108 hB109
    refine⟨_,H104,hs103,(fun h=>nomatch h),?_⟩
    have H104n:H95.next≤H104.next:=hx105.1
    refine sm_op (ev_not rfl) rfl rfl rfl ?_
    by_cases hc116:(!z112)=true
    ·
     refine aw_condT hc116 rfl ?_
     replace hc116:z112=false:=by rw[Bool.not_eq_true'] at hc116;exact hc116
     refine aw_seq ?_
     refine aw_reg ?_
     iterate 2 refine st_op (ev_assign rfl) rfl rfl rfl ?_
     refine aw_ret ?_
     exfalso;have q:(Spec.openR f.b).1=false:=by exact Spec.openR_take hR25 ((congrArg Spec.scanW hLd.symm).trans hR70) (by rw[hT,Spec.takeA_no hx87 hR111 hc116])
     rw[ho] at q;cases q
    ·
     rw[Bool.not_eq_true] at hc116;refine aw_condF hc116 rfl ?_
     replace hc116:z112=true:=by rw[Bool.not_eq_false'] at hc116;exact hc116
     refine aw_skip ?_
     refine aw_reg ?_
     refine st_op (ev_int64 (c:=(i:Int)+1) rfl rfl rfl (by omega) (by omega)) rfl rfl rfl ?_
     refine st_op (ev_move rfl) rfl rfl rfl ?_
     refine aw_keep [0,4,5,8,10,49,50,51] (l':=(.cons 0 (.pointer (some ⟨d,0,none⟩)) (.cons 4 (.pointer (some ⟨b1,0,none⟩)) (.cons 5 (.slice A13 f.b.length c14) (.cons 8 (.int .i64 z30) (.cons 10 (.int .i64 z72) (.cons 49 (.slice A66 z71.length c67) (.cons 50 (.int .i64 (z71.length:Int)) (.cons 51 (.int .i64 ((i:Int)+1)) .nil))))))))) (by repeat (first | exact Up.done | refine Up.then ?_ | refine Up.inBlock ?_)) rfl ?_
     exact ih81 (i+1,z113,z114,A106,c107,z115,H104) ⟨(show(i+1)≤z71.length from(by omega)),(show z115.length≤200 from(by have:=@Spec.takeF_len hq vq z26 x86.h.term x86.h.vote x86.e.index x86.e.term x86.e.kind lg x86.hard x86.e.data hlg;rw[hR111] at this;exact this)),(show Spec.takeA z26 0 0 [] z71=Spec.takeA z26 z113 z114 z115 (z71.drop (i+1)) from(by rw[hT];exact Spec.takeA_step hx87 hR111 hc116)),(show My H64 H104 A106 c107 4 (z115.map Entry.cells) from hm108),(show H104.blk b1=some ⟨[.pointer (some ⟨d,0,none⟩),.int .i64 z113,.int .i64 z114,.int .i64 z26,.int .i64 z27,.string z28,.string z29,.slice A106 z115.length c107,.int .i64 0],0,false,false⟩ from hB109),(show Fr (fun q=>q=b1) H64 H104 from(Fr.transG (Fr.transG (Fr.trans (Fr.transG (Fr.refl (fun q=>q=b1) H64) hxl80 (fun q hq hE e=>(e))) (hx93.fr fun _=>False) (fun q hq (e:False)=>e.elim)) hf99 (fun q hq hE e=>absurd hq (by omega))) hx105 (fun q hq hE e=>Or.elim e (fun e=>(e)) (fun e=>absurd hq (by omega)))))⟩ (by simp only;omega)
   ·
    rw[Bool.not_eq_true] at hc82;refine aw_condF hc82 rfl ?_
    have hc82:=of_decide_eq_false hc82
    refine aw_exit ?_
    refine aw_seq ?_
    refine aw_reg ?_
    iterate 3 refine st_op (ev_move rfl) rfl rfl rfl ?_
    refine st_op (ev_int64 (c:=z30+z72) rfl rfl rfl (by omega) (by omega)) rfl rfl rfl ?_
    refine st_op (ev_nilCheck rfl) rfl rfl rfl ?_
    refine st_op (ev_fieldAddr rfl fa88_2 (o':=8) rfl) rfl rfl rfl ?_
    obtain⟨H117,he118,H117n_,hB119,f120⟩:=mem_store (v := .int .i64 (z30+z72)) (o:=8) (cs' := [.pointer (some ⟨d,0,none⟩),.int .i64 hq,.int .i64 vq,.int .i64 z26,.int .i64 z27,.string z28,.string z29,.slice A lg.length cp,.int .i64 (z30+z72)]) 1 rfl rfl size3 hB79 rfl rfl rfl
    refine st_op0 (he118 _ _ _ _ _ _ _ _ _ rfl rfl) rfl rfl ?_
    have hf121:Fr (fun q=>q=b1) Hl75 H117:=Fr.write H117n_ f120
    have H117n:Hl75.next≤H117.next:=hf121.1
    iterate 2 refine aw_seq ?_
    refine aw_reg ?_
    refine st_op (ev_move rfl) rfl rfl rfl ?_
    refine st_op (ev_nilCheck rfl) rfl rfl rfl ?_
    refine st_op (ev_fieldAddr rfl fa88_2 (o':=8) rfl) rfl rfl rfl ?_
    refine st_op (ev_load rfl (lvar_one one3 hB119 rfl)) rfl rfl rfl ?_
    refine st_op (ev_move rfl) rfl rfl rfl ?_
    refine st_op (ev_lenSl rfl Try.underlying26) rfl rfl rfl ?_
    refine st_op (ev_int rfl rfl rfl) rfl rfl rfl ?_
    by_cases hc122:(decide (z30+z72<(f.b.length:Int)))=true
    ·
     refine aw_condT hc122 rfl ?_
     have hc122:=of_decide_eq_true hc122
     refine aw_seq ?_
     refine aw_reg ?_
     iterate 3 refine st_op (ev_move rfl) rfl rfl rfl ?_
     refine st_op (ev_nilCheck rfl) rfl rfl rfl ?_
     refine st_op (ev_fieldAddr rfl fa88_2 (o':=8) rfl) rfl rfl rfl ?_
     refine st_op (ev_load rfl (lvar_one one3 hB119 rfl)) rfl rfl rfl ?_
     have h131:=My.ext h62 hx65
     have h132:=My.frS h131 hxl80 (fun q hq e=>⟨_,e ▸ h76,show(0:Nat)≠1 by decide⟩)
     have h133:=My.frS h132 hf121 (fun q hq e=>⟨_,e ▸ hB79,show(0:Nat)≠1 by decide⟩)
     obtain⟨A123,c124,L125,hL126,hl127,hs128,hr129⟩:=sliceA_my u8c el26 (by decide) h133 (by omega) (lo:=none) (hi:=some (.int .i64 (z30+z72))) (p:=0) (q:=((z30+z72)).toNat) (by rw[Option.isSome_some,if_pos rfl];exact bound_int (by omega) (by omega) (by first | rfl | omega)) rfl (by omega) (by omega) (.inr ⟨_,_,rfl⟩)
     refine st_op (ev_slice rfl rfl rfl rfl hs128) rfl rfl rfl ?_
     have hL126b:Spec.Bytes L125:=by rw[hL126];exact Spec.Bytes.take (Spec.Bytes.drop hb16 _) _
     refine st_call rfl rfl rfl ent13 rfl rfl rfl ?_
     have hx135:Ext H H117:=(Ext.then (Ext.then (Ext.trans (Ext.then (Ext.then (Ext.trans (Ext.trans (Ext.trans hx6 hx12) hx20) hx37) hf43 (fun q hq e=>by omega)) hf51 (fun q hq e=>by omega)) hx65) hxl80 (fun q hq e=>by omega)) hf121 (fun q hq e=>by omega))
     have h134:=DiskR.ext rd hx135
     have hS136:=disk_Swap_spec H117 d dD dl dk ⟨_,_,h134⟩ (by omega) (⟨#[115,116,97,116,101]⟩) (by first | omega | decide | assumption) A123 L125 c124 (My.row hr129) (My.capF hr129 (by omega)) (by omega) (by assumption)
     rw[Spec.swap_ok (F:=⟨#[115,116,97,116,101]⟩) (b:=L125) (l:=dl) (by decide) (by omega)] at hS136;try dsimp only at hS136
     obtain⟨_,H137,hs138,rfl,D140,⟨mb141,ps142,hr143⟩,hb144,hx139⟩:=hS136
     refine⟨_,H137,hs138,?_⟩
     have H137n:H117.next≤H137.next:=hx139.1
     have hno145:¬ D140 b1:=fun e=>(hb144 _ e).elim hno7 (fun e=>by omega)
     have hno146:¬ D140 b32:=fun e=>(hb144 _ e).elim hno38 (fun e=>by omega)
     have hD147:=fun q e=>(hb144 q e).imp (rd.below q) id
     have hS148:∀ q,D140 q→dD q∨(H.next≤q∧q<H137.next):=fun q e=>(hb144 q e).elim (fun e=>(sub_d q e).imp id (fun e=>by omega)) (fun e => .inr (by omega))
     refine st_op (ev_assign rfl) rfl rfl rfl ?_
     refine aw_seq ?_
     refine aw_reg ?_
     refine st_op (ev_move rfl) rfl rfl rfl ?_
     refine st_op (ev_int rfl rfl rfl) rfl rfl rfl ?_
     refine aw_cond (t:=false) rfl ?_
     refine aw_skip ?_
     refine aw_seq ?_
     refine aw_reg ?_
     refine st_op (ev_move rfl) rfl rfl rfl ?_
     iterate 2 refine st_op (ev_assign rfl) rfl rfl rfl ?_
     refine aw_ret ?_
     have h149:=Fr.blk hx139 (by omega) (fun e=>(hno7 e.1)) hB119
     have h150:=My.frS hm78 hf121 (fun q hq e=>⟨_,e ▸ hB79,show(0:Nat)≠4 by decide⟩)
     have h151:=My.frS h150 hx139 (fun q hq e=>(Z01.ne e.2 (show(4:Nat)≠0 by decide) (show(4:Nat)≠1 by decide)))
     have hop:=Spec.openR_is (ht:=hq) (hv:=vq) (lg:=lg) hR25 ((congrArg Spec.scanW hLd.symm).trans hR70) (by rw[hT,List.drop_eq_nil_of_le (by omega)];rfl) (by omega) hc74
     have hres:((Spec.openR f.b).2.1,(Spec.openR f.b).2.2.1,(Spec.openR f.b).2.2.2.1,(Spec.openR f.b).2.2.2.2.1,(Spec.openR f.b).2.2.2.2.2.1,(Spec.openR f.b).2.2.2.2.2.2.1,(Spec.openR f.b).2.2.2.2.2.2.2.1,(Spec.openR f.b).2.2.2.2.2.2.2.2,(Spec.openL dl f.b (Spec.openR f.b).2.2.2.2.2.2.2.2))=(hq,vq,z26,z27,z28,z29,lg,z30+z72,(Spec.fput ⟨#[115,116,97,116,101]⟩ ⟨L125,(L125.length:Int),true⟩ dl)):=by rw[hop];simp only [Spec.openL];rw[if_pos (by omega),show f.b.take (z30+z72).toNat=_ from(by rw[hL126];simp:f.b.take (z30+z72).toNat=L125)]
     have he0:(Spec.openR f.b).2.1=hq:=congrArg (fun p=>p.1) hres
     have he1:(Spec.openR f.b).2.2.1=vq:=congrArg (fun p=>p.2.1) hres
     have he2:(Spec.openR f.b).2.2.2.1=z26:=congrArg (fun p=>p.2.2.1) hres
     have he3:(Spec.openR f.b).2.2.2.2.1=z27:=congrArg (fun p=>p.2.2.2.1) hres
     have he4:(Spec.openR f.b).2.2.2.2.2.1=z28:=congrArg (fun p=>p.2.2.2.2.1) hres
     have he5:(Spec.openR f.b).2.2.2.2.2.2.1=z29:=congrArg (fun p=>p.2.2.2.2.2.1) hres
     have he6:(Spec.openR f.b).2.2.2.2.2.2.2.1=lg:=congrArg (fun p=>p.2.2.2.2.2.2.1) hres
     have he7:(Spec.openR f.b).2.2.2.2.2.2.2.2=z30+z72:=congrArg (fun p=>p.2.2.2.2.2.2.2.1) hres
     have he8:(Spec.openL dl f.b (Spec.openR f.b).2.2.2.2.2.2.2.2)=(Spec.fput ⟨#[115,116,97,116,101]⟩ ⟨L125,(L125.length:Int),true⟩ dl):=congrArg (fun p=>p.2.2.2.2.2.2.2.2) hres
     exact⟨.tuple #[.pointer (some ⟨b1,0,none⟩),.int .i64 0],rfl,A,cp,b1,rfl,(by first | exact(My.older h151 (by omega)) | (rw[he0];exact(My.older h151 (by omega))) | (rw[he1];exact(My.older h151 (by omega))) | (rw[he2];exact(My.older h151 (by omega))) | (rw[he3];exact(My.older h151 (by omega))) | (rw[he4];exact(My.older h151 (by omega))) | (rw[he5];exact(My.older h151 (by omega))) | (rw[he6];exact(My.older h151 (by omega))) | (rw[he7];exact(My.older h151 (by omega))) | (rw[he8];exact(My.older h151 (by omega))) | (rw[he0,he1];exact(My.older h151 (by omega))) | (simp only [he0,he1,he2,he3,he4,he5,he6,he7,he8];exact(My.older h151 (by omega)))),(by first | exact(by omega) | (rw[he0];exact(by omega)) | (rw[he1];exact(by omega)) | (rw[he2];exact(by omega)) | (rw[he3];exact(by omega)) | (rw[he4];exact(by omega)) | (rw[he5];exact(by omega)) | (rw[he6];exact(by omega)) | (rw[he7];exact(by omega)) | (rw[he8];exact(by omega)) | (rw[he0,he1];exact(by omega)) | (simp only [he0,he1,he2,he3,he4,he5,he6,he7,he8];exact(by omega))),(by first | exact(by omega) | (rw[he0];exact(by omega)) | (rw[he1];exact(by omega)) | (rw[he2];exact(by omega)) | (rw[he3];exact(by omega)) | (rw[he4];exact(by omega)) | (rw[he5];exact(by omega)) | (rw[he6];exact(by omega)) | (rw[he7];exact(by omega)) | (rw[he8];exact(by omega)) | (rw[he0,he1];exact(by omega)) | (simp only [he0,he1,he2,he3,he4,he5,he6,he7,he8];exact(by omega))),(by first | exact h149 | (rw[he0];exact h149) | (rw[he1];exact h149) | (rw[he2];exact h149) | (rw[he3];exact h149) | (rw[he4];exact h149) | (rw[he5];exact h149) | (rw[he6];exact h149) | (rw[he7];exact h149) | (rw[he8];exact h149) | (rw[he0,he1];exact h149) | (simp only [he0,he1,he2,he3,he4,he5,he6,he7,he8];exact h149)),(by first | exact⟨D140,(dk+1),⟨_,_,hr143⟩,by omega,(fun q e=>(hS148 q e).imp id (fun e=>by omega)),hno145⟩ | (rw[he0];exact⟨D140,(dk+1),⟨_,_,hr143⟩,by omega,(fun q e=>(hS148 q e).imp id (fun e=>by omega)),hno145⟩) | (rw[he1];exact⟨D140,(dk+1),⟨_,_,hr143⟩,by omega,(fun q e=>(hS148 q e).imp id (fun e=>by omega)),hno145⟩) | (rw[he2];exact⟨D140,(dk+1),⟨_,_,hr143⟩,by omega,(fun q e=>(hS148 q e).imp id (fun e=>by omega)),hno145⟩) | (rw[he3];exact⟨D140,(dk+1),⟨_,_,hr143⟩,by omega,(fun q e=>(hS148 q e).imp id (fun e=>by omega)),hno145⟩) | (rw[he4];exact⟨D140,(dk+1),⟨_,_,hr143⟩,by omega,(fun q e=>(hS148 q e).imp id (fun e=>by omega)),hno145⟩) | (rw[he5];exact⟨D140,(dk+1),⟨_,_,hr143⟩,by omega,(fun q e=>(hS148 q e).imp id (fun e=>by omega)),hno145⟩) | (rw[he6];exact⟨D140,(dk+1),⟨_,_,hr143⟩,by omega,(fun q e=>(hS148 q e).imp id (fun e=>by omega)),hno145⟩) | (rw[he7];exact⟨D140,(dk+1),⟨_,_,hr143⟩,by omega,(fun q e=>(hS148 q e).imp id (fun e=>by omega)),hno145⟩) | (rw[he8];exact⟨D140,(dk+1),⟨_,_,hr143⟩,by omega,(fun q e=>(hS148 q e).imp id (fun e=>by omega)),hno145⟩) | (rw[he0,he1];exact⟨D140,(dk+1),⟨_,_,hr143⟩,by omega,(fun q e=>(hS148 q e).imp id (fun e=>by omega)),hno145⟩) | (simp only [he0,he1,he2,he3,he4,he5,he6,he7,he8];exact⟨D140,(dk+1),⟨_,_,hr143⟩,by omega,(fun q e=>(hS148 q e).imp id (fun e=>by omega)),hno145⟩)),(Fr.transG (Fr.transG (Fr.transG (Fr.trans (Fr.transG (Fr.transG (Fr.trans (Fr.trans (Fr.trans (Fr.trans (Fr.refl (fun q=>(dD q∧Z01 H q)) H) (hx6.fr fun _=>False) (fun q hq (e:False)=>e.elim)) (hx12.fr fun _=>False) (fun q hq (e:False)=>e.elim)) (hx20.fr fun _=>False) (fun q hq (e:False)=>e.elim)) (hx37.fr fun _=>False) (fun q hq (e:False)=>e.elim)) hf43 (fun q hq hE e=>absurd hq (by omega))) hf51 (fun q hq hE e=>absurd hq (by omega))) (hx65.fr fun _=>False) (fun q hq (e:False)=>e.elim)) hxl80 (fun q hq hE e=>absurd hq (by omega))) hf121 (fun q hq hE e=>absurd hq (by omega))) hx139 (fun q hq hE e=>(⟨e.1,Z01.back hE e.2⟩)))⟩
    ·
     rw[Bool.not_eq_true] at hc122;refine aw_condF hc122 rfl ?_
     have hc122:=of_decide_eq_false hc122
     refine aw_skip ?_
     refine aw_seq ?_
     refine aw_reg ?_
     refine st_op (ev_move rfl) rfl rfl rfl ?_
     iterate 2 refine st_op (ev_assign rfl) rfl rfl rfl ?_
     refine aw_ret ?_
     have h152:=My.frS hm78 hf121 (fun q hq e=>⟨_,e ▸ hB79,show(0:Nat)≠4 by decide⟩)
     have hx154:Ext H H117:=(Ext.then (Ext.then (Ext.trans (Ext.then (Ext.then (Ext.trans (Ext.trans (Ext.trans hx6 hx12) hx20) hx37) hf43 (fun q hq e=>by omega)) hf51 (fun q hq e=>by omega)) hx65) hxl80 (fun q hq e=>by omega)) hf121 (fun q hq e=>by omega))
     have h153:=DiskR.ext rd hx154
     have hop:=Spec.openR_is (ht:=hq) (hv:=vq) (lg:=lg) hR25 ((congrArg Spec.scanW hLd.symm).trans hR70) (by rw[hT,List.drop_eq_nil_of_le (by omega)];rfl) (by omega) hc74
     have hres:((Spec.openR f.b).2.1,(Spec.openR f.b).2.2.1,(Spec.openR f.b).2.2.2.1,(Spec.openR f.b).2.2.2.2.1,(Spec.openR f.b).2.2.2.2.2.1,(Spec.openR f.b).2.2.2.2.2.2.1,(Spec.openR f.b).2.2.2.2.2.2.2.1,(Spec.openR f.b).2.2.2.2.2.2.2.2,(Spec.openL dl f.b (Spec.openR f.b).2.2.2.2.2.2.2.2))=(hq,vq,z26,z27,z28,z29,lg,z30+z72,dl):=by rw[hop];simp only [Spec.openL];rw[if_neg (by omega)]
     have he0:(Spec.openR f.b).2.1=hq:=congrArg (fun p=>p.1) hres
     have he1:(Spec.openR f.b).2.2.1=vq:=congrArg (fun p=>p.2.1) hres
     have he2:(Spec.openR f.b).2.2.2.1=z26:=congrArg (fun p=>p.2.2.1) hres
     have he3:(Spec.openR f.b).2.2.2.2.1=z27:=congrArg (fun p=>p.2.2.2.1) hres
     have he4:(Spec.openR f.b).2.2.2.2.2.1=z28:=congrArg (fun p=>p.2.2.2.2.1) hres
     have he5:(Spec.openR f.b).2.2.2.2.2.2.1=z29:=congrArg (fun p=>p.2.2.2.2.2.1) hres
     have he6:(Spec.openR f.b).2.2.2.2.2.2.2.1=lg:=congrArg (fun p=>p.2.2.2.2.2.2.1) hres
     have he7:(Spec.openR f.b).2.2.2.2.2.2.2.2=z30+z72:=congrArg (fun p=>p.2.2.2.2.2.2.2.1) hres
     have he8:(Spec.openL dl f.b (Spec.openR f.b).2.2.2.2.2.2.2.2)=dl:=congrArg (fun p=>p.2.2.2.2.2.2.2.2) hres
     exact⟨.tuple #[.pointer (some ⟨b1,0,none⟩),.int .i64 0],rfl,A,cp,b1,rfl,(by first | exact(My.older h152 (by omega)) | (rw[he0];exact(My.older h152 (by omega))) | (rw[he1];exact(My.older h152 (by omega))) | (rw[he2];exact(My.older h152 (by omega))) | (rw[he3];exact(My.older h152 (by omega))) | (rw[he4];exact(My.older h152 (by omega))) | (rw[he5];exact(My.older h152 (by omega))) | (rw[he6];exact(My.older h152 (by omega))) | (rw[he7];exact(My.older h152 (by omega))) | (rw[he8];exact(My.older h152 (by omega))) | (rw[he0,he1];exact(My.older h152 (by omega))) | (simp only [he0,he1,he2,he3,he4,he5,he6,he7,he8];exact(My.older h152 (by omega)))),(by first | exact(by omega) | (rw[he0];exact(by omega)) | (rw[he1];exact(by omega)) | (rw[he2];exact(by omega)) | (rw[he3];exact(by omega)) | (rw[he4];exact(by omega)) | (rw[he5];exact(by omega)) | (rw[he6];exact(by omega)) | (rw[he7];exact(by omega)) | (rw[he8];exact(by omega)) | (rw[he0,he1];exact(by omega)) | (simp only [he0,he1,he2,he3,he4,he5,he6,he7,he8];exact(by omega))),(by first | exact(by omega) | (rw[he0];exact(by omega)) | (rw[he1];exact(by omega)) | (rw[he2];exact(by omega)) | (rw[he3];exact(by omega)) | (rw[he4];exact(by omega)) | (rw[he5];exact(by omega)) | (rw[he6];exact(by omega)) | (rw[he7];exact(by omega)) | (rw[he8];exact(by omega)) | (rw[he0,he1];exact(by omega)) | (simp only [he0,he1,he2,he3,he4,he5,he6,he7,he8];exact(by omega))),(by first | exact hB119 | (rw[he0];exact hB119) | (rw[he1];exact hB119) | (rw[he2];exact hB119) | (rw[he3];exact hB119) | (rw[he4];exact hB119) | (rw[he5];exact hB119) | (rw[he6];exact hB119) | (rw[he7];exact hB119) | (rw[he8];exact hB119) | (rw[he0,he1];exact hB119) | (simp only [he0,he1,he2,he3,he4,he5,he6,he7,he8];exact hB119)),(by first | exact⟨dD,dk,⟨_,_,h153⟩,by omega,(fun q e=>(sub_d q e).imp id (fun e=>by omega)),hno7⟩ | (rw[he0];exact⟨dD,dk,⟨_,_,h153⟩,by omega,(fun q e=>(sub_d q e).imp id (fun e=>by omega)),hno7⟩) | (rw[he1];exact⟨dD,dk,⟨_,_,h153⟩,by omega,(fun q e=>(sub_d q e).imp id (fun e=>by omega)),hno7⟩) | (rw[he2];exact⟨dD,dk,⟨_,_,h153⟩,by omega,(fun q e=>(sub_d q e).imp id (fun e=>by omega)),hno7⟩) | (rw[he3];exact⟨dD,dk,⟨_,_,h153⟩,by omega,(fun q e=>(sub_d q e).imp id (fun e=>by omega)),hno7⟩) | (rw[he4];exact⟨dD,dk,⟨_,_,h153⟩,by omega,(fun q e=>(sub_d q e).imp id (fun e=>by omega)),hno7⟩) | (rw[he5];exact⟨dD,dk,⟨_,_,h153⟩,by omega,(fun q e=>(sub_d q e).imp id (fun e=>by omega)),hno7⟩) | (rw[he6];exact⟨dD,dk,⟨_,_,h153⟩,by omega,(fun q e=>(sub_d q e).imp id (fun e=>by omega)),hno7⟩) | (rw[he7];exact⟨dD,dk,⟨_,_,h153⟩,by omega,(fun q e=>(sub_d q e).imp id (fun e=>by omega)),hno7⟩) | (rw[he8];exact⟨dD,dk,⟨_,_,h153⟩,by omega,(fun q e=>(sub_d q e).imp id (fun e=>by omega)),hno7⟩) | (rw[he0,he1];exact⟨dD,dk,⟨_,_,h153⟩,by omega,(fun q e=>(sub_d q e).imp id (fun e=>by omega)),hno7⟩) | (simp only [he0,he1,he2,he3,he4,he5,he6,he7,he8];exact⟨dD,dk,⟨_,_,h153⟩,by omega,(fun q e=>(sub_d q e).imp id (fun e=>by omega)),hno7⟩)),(Fr.transG (Fr.transG (Fr.trans (Fr.transG (Fr.transG (Fr.trans (Fr.trans (Fr.trans (Fr.trans (Fr.refl (fun q=>(dD q∧Z01 H q)) H) (hx6.fr fun _=>False) (fun q hq (e:False)=>e.elim)) (hx12.fr fun _=>False) (fun q hq (e:False)=>e.elim)) (hx20.fr fun _=>False) (fun q hq (e:False)=>e.elim)) (hx37.fr fun _=>False) (fun q hq (e:False)=>e.elim)) hf43 (fun q hq hE e=>absurd hq (by omega))) hf51 (fun q hq hE e=>absurd hq (by omega))) (hx65.fr fun _=>False) (fun q hq (e:False)=>e.elim)) hxl80 (fun q hq hE e=>absurd hq (by omega))) hf121 (fun q hq hE e=>absurd hq (by omega)))⟩
section
open Spec
variable {K D : Nat → Prop} {S : KSt} {o : Option FileS} {kc : Int}
theorem keepw_State_spec (H:Heap) (k d:Nat) (K:Nat→Prop) (S:KSt) (o:Option FileS) (kc:Int) (h:KeepR K H k d S o kc) (hk:kc≤1099511627000) :
  ∃ v H',Spec Try.prog 26 [.pointer (some ⟨k,0,none⟩)] H v H'∧(∃ A' c',v = .agg #[.int .i64 S.ht,.int .i64 S.hv,.int .i64 S.si,.int .i64 S.st,.string S.sc,.string S.sd,.slice A' S.l.length c']∧My H H' A' c' 4 (S.l.map Entry.cells)∧Ext H H'):=by
 obtain⟨D,A,c,⟨mb,ps,r⟩,hDK,nk,hB,hmy,hA⟩:=h.ex
 obtain⟨v',H',s1,A',c',rfl,e1,e6⟩:=keep_State_spec H d mb D _ ps kc r hk S.ht S.hv S.si h.si S.st S.sc S.sd A S.l c (My.row hmy) (My.capF hmy (by have:=h.lenl;omega)) h.lenl (sizeO o) (DiskH.szO ⟨mb,ps,r⟩) k (h.below k h.kk) hB nk
 exact⟨_,H',s1,A',c',rfl,e1,e6⟩
theorem keepw_HardOk_spec (H:Heap) (k d:Nat) (K:Nat→Prop) (S:KSt) (o:Option FileS) (kc:Int) (h:KeepR K H k d S o kc) (hk:kc≤1099511627000) (t v:Int) (hm:mayF true t v 0 0 0 (⟨#[]⟩:ByteArray)=true) (hs:S.sd.size≤200) :
  ∃ w H',Spec Try.prog 23 [.pointer (some ⟨k,0,none⟩),.agg #[.int .i64 t,.int .i64 v]] H w H'∧(w = .int .i64 0∧∃ K' kc',KeepR K' H' k d (hardS S t v) (some (addO o (wholeS S) (encH t v))) kc'∧kc'≤kc+2∧(∀ q,K' q→K q∨(H.next≤q∧q<H'.next))∧Fr (fun q=>K q∧Z01 H q) H H'):=by
 obtain⟨D,A,c,⟨mb,ps,r⟩,hDK,nk,hB,hmy,hA⟩:=h.ex
 have hw:=whole_small hs h.lenl
 have hl:=encodeF_len true t v 0 0 0 (⟨#[]⟩:ByteArray)
 have hg:(wholeF S.ht S.hv S.si S.st S.sc S.sd S.l).length+(encodeF true t v 0 0 0 (⟨#[]⟩:ByteArray)).length≤1048576:=by unfold wholeS at hw;omega
 obtain⟨v',H',s1,A',c',rfl,e1,e2,⟨D',k',e3,e4,e5⟩,e6⟩:=keep_HardOk_spec H d mb D _ ps kc r hk S.ht S.hv S.si h.si S.st S.sc S.sd A S.l c (My.row hmy) (My.capF hmy (by have:=h.lenl;omega)) h.lenl (sizeO o) (DiskH.szO ⟨mb,ps,r⟩) k (h.below k h.kk) hB nk t v hm hg (fileOk_O o)
 rw[addF_O hg] at e2 e3
 exact⟨_,H',s1,rfl,grow K H H',k',h.next (S':=hardS S t v) e6.1 e3 e5 hDK nk e2 (My.older e1 (Nat.zero_le _)) (fun q hq => .inr ⟨e1.inNew q hq,inA.lt e1 q hq⟩) h.lenl h.si,e4,fun q e=>e,h.frame hB hDK e6⟩
theorem keepw_Write_spec (H:Heap) (k d:Nat) (K:Nat→Prop) (S:KSt) (o:Option FileS) (kc:Int) (h:KeepR K H k d S o kc) (hk:kc≤1099511627000) (wA:Option Addr) (w:List Entry) (wc:Nat) (hw:Row H wA wc 4 (w.map Entry.cells)) (cw:w.length≤wc) (lw:w.length≤100) (bw:EntsI w) (hs:S.sd.size≤200) :
  ∃ v H',Spec Try.prog 22 [.pointer (some ⟨k,0,none⟩),.slice wA w.length wc] H v H'∧(v = .int .i64 (writeE S.si S.l w)∧∃ K' kc',KeepR K' H' k d (writeS S w) (writeO S o w) kc'∧kc'≤kc+2∧(∀ q,K' q→K q∨(H.next≤q∧q<H'.next))∧Fr (fun q=>K q∧Z01 H q) H H'):=by
 obtain⟨D,A,c,⟨mb,ps,r⟩,hDK,nk,hB,hmy,hA⟩:=h.ex
 by_cases hx:writeE S.si S.l w=0∧w ≠ []
 ·
  have hws:=whole_small hs h.lenl
  have hl:=encKs_len w
  have hg:(wholeF S.ht S.hv S.si S.st S.sc S.sd S.l).length+(encKs w).length≤1048576:=by unfold wholeS at hws;omega
  obtain⟨v',H',s1,A',c',rfl,e1,e2,⟨D',k',e3,e4,e5⟩,e6⟩:=keep_WriteOk_spec H d mb D _ ps kc r hk S.ht S.hv S.si h.si S.st S.sc S.sd A S.l c (My.row hmy) (My.capF hmy (by have:=h.lenl;omega)) h.lenl (sizeO o) (DiskH.szO ⟨mb,ps,r⟩) k (h.below k h.kk) hB nk wA w wc hw cw (by omega) bw hx.1 hx.2 hg (fileOk_O o)
  rw[addF_O hg] at e2 e3
  rw[hx.1,show writeS S w={ S with l:=writeL S.si S.l w } from if_pos hx.1,show writeO S o w=some (addO o (wholeS S) (encKs w)) from if_pos hx]
  exact⟨_,H',s1,rfl,grow K H H',k',h.next (S':={ S with l:=writeL S.si S.l w }) e6.1 e3 e5 hDK nk e2 (My.older e1 (Nat.zero_le _)) (fun q hq => .inr ⟨e1.inNew q hq,inA.lt e1 q hq⟩) (writeL_len hx.1 h.lenl) h.si,e4,fun q e=>e,h.frame hB hDK e6⟩
 ·
  have hx':writeE S.si S.l w≠0∨w = []:=by
   by_cases hy:writeE S.si S.l w=0
   ·
    exact .inr (Decidable.byContradiction fun c=>hx ⟨hy,c⟩)
   ·
    exact .inl hy
  obtain⟨v',H',s1,rfl,e6⟩:=keep_WriteErr_spec H d mb D _ ps kc r hk S.ht S.hv S.si h.si S.st S.sc S.sd A S.l c (My.row hmy) (My.capF hmy (by have:=h.lenl;omega)) h.lenl (sizeO o) (DiskH.szO ⟨mb,ps,r⟩) k (h.below k h.kk) hB nk wA w wc hw cw (by omega) bw hx'
  rw[writeS_no hx',show writeO S o w=o from if_neg hx]
  exact⟨_,H',s1,rfl,K,kc,h.ext e6,by omega,fun q e => .inl e,e6.frAny _⟩
theorem keepw_Sync_spec (H:Heap) (k d:Nat) (K:Nat→Prop) (S:KSt) (o:Option FileS) (kc:Int) (h:KeepR K H k d S o kc) (hk:kc≤1099511627000) :
  ∃ v H',Spec Try.prog 27 [.pointer (some ⟨k,0,none⟩)] H v H'∧(v = .int .i64 0∧∃ K' kc',KeepR K' H' k d S (syncK o) kc'∧kc'≤kc+2∧(∀ q,K' q→K q∨(H.next≤q∧q<H'.next))∧Fr (fun q=>K q∧Z01 H q) H H'):=by
 obtain⟨D,A,c,⟨mb,ps,r⟩,hDK,nk,hB,hmy,hA⟩:=h.ex
 by_cases hz:sizeO o=0
 ·
  obtain⟨v',H',s1,rfl,e6⟩:=keep_SyncZero_spec H d mb D _ ps kc r hk S.ht S.hv S.si h.si S.st S.sc S.sd A S.l c (My.row hmy) (My.capF hmy (by have:=h.lenl;omega)) h.lenl (sizeO o) (DiskH.szO ⟨mb,ps,r⟩) k (h.below k h.kk) hB nk hz
  rw[show syncK o=o from if_pos hz]
  exact⟨_,H',s1,rfl,K,kc,h.ext e6,by omega,fun q e => .inl e,e6.frAny _⟩
 ·
  cases o with
  | none=>exact absurd rfl hz
  | some f =>
   obtain⟨v',H',s1,rfl,e2,⟨D',k',e3,e4,e5⟩,e6⟩:=keep_SyncOk_spec H d mb D _ ps kc r hk S.ht S.hv S.si h.si S.st S.sc S.sd A S.l c (My.row hmy) (My.capF hmy (by have:=h.lenl;omega)) h.lenl (sizeO (some f)) (DiskH.szO ⟨mb,ps,r⟩) k (h.below k h.kk) hB nk f (filesO_get _) hz
   rw[show syncK (some f)=some ⟨f.b,f.b.length,true⟩ from if_neg hz]
   have e3':DiskH D' H' d (filesO (some ⟨f.b,f.b.length,true⟩)) k':=filesO_put (some f) ⟨f.b,f.b.length,true⟩ ▸ e3
   have hm':=My.frS hmy e6 (fun q hq e=>e.elim (fun e=>⟨_,e ▸ hB,show(0:Nat)≠4 by decide⟩) (fun e=>Z01.ne e.2 (show(4:Nat)≠0 by decide) (show(4:Nat)≠1 by decide)))
   exact⟨_,H',s1,rfl,grow K H H',k',h.next (S':=S) e6.1 e3' e5 hDK nk e2 hm' (fun q hq => .inl (hA q hq)) h.lenl h.si,by omega,fun q e=>e,h.frame hB hDK e6⟩
theorem keepw_OpenN_spec (H:Heap) (d:Nat) (D:Nat→Prop) (kc:Int) (h:DiskH D H d (filesO none) kc) (hk:kc≤1099511627000) :
  ∃ v H',Spec Try.prog 19 [.pointer (some ⟨d,0,none⟩)] H v H'∧(∃ k K',v = .tuple #[.pointer (some ⟨k,0,none⟩),.int .i64 0]∧KeepR K' H' k d KSt0 none kc∧(∀ q,K' q→D q∨(H.next≤q∧q<H'.next))∧Ext H H'):=by
 obtain⟨mb,ps,r⟩:=h
 obtain⟨v',H',s1,k,rfl,e1,e2,e3,e6⟩:=keep_OpenNone_spec H d mb D _ ps kc r hk (filesO_get none)
 exact⟨_,H',s1,k,grow D H H',rfl,⟨.inr ⟨e1,e2⟩,⟨D,none,0,⟨mb,ps,DiskR.ext r e6⟩,fun q e => .inl e,fun e=>by have:=r.below k e;omega,e3,.nil,fun q e=>absurd rfl e.1⟩,Nat.zero_le _,⟨Int.le_refl _,by decide⟩,fun q e=>e.elim (fun e=>Nat.lt_of_lt_of_le (r.below q e) e6.1) fun e=>e.2⟩,fun q e=>e,e6⟩
theorem keepw_OpenY_spec (H:Heap) (d:Nat) (D:Nat→Prop) (f:FileS) (kc:Int) (h:DiskH D H d (filesO (some f)) kc) (hk:kc≤1099511627000) (ho:(openR f.b).1=true) :
  ∃ v H',Spec Try.prog 19 [.pointer (some ⟨d,0,none⟩)] H v H'∧(∃ k K' kc',v = .tuple #[.pointer (some ⟨k,0,none⟩),.int .i64 0]∧KeepR K' H' k d (stateO f.b) (some (openO f)) kc'∧kc'≤kc+1∧(∀ q,K' q→D q∨(H.next≤q∧q<H'.next))∧Fr (fun q=>D q∧Z01 H q) H H'):=by
 obtain⟨mb,ps,r⟩:=h
 obtain⟨v',H',s1,A',c',k,rfl,e1,e2,e3,e4,⟨D',k',e5,e7,e8,e9⟩,e6⟩:=keep_OpenOk_spec H d mb D _ ps kc r hk f (filesO_get _) ho
 have e5':DiskH D' H' d (filesO (some (openO f))) k':=openL_O (f:=f) ▸ e5
 have e4':=e4
 rw[show(openR f.b).2.2.2.2.2.2.2.2=sizeO (some (openO f)) from(openO_len r.fileO.1 ho).symm] at e4'
 exact⟨_,H',s1,k,grow D H H',k',rfl,⟨.inr ⟨e2,e3⟩,⟨D',A',c',e5',fun q e=>e8 q e,e9,e4',My.older e1 (Nat.zero_le _),fun q hq => .inr ⟨e1.inNew q hq,inA.lt e1 q hq⟩⟩,stateO_len _,stateO_si ho,fun q e=>e.elim (fun e=>Nat.lt_of_lt_of_le (r.below q e) e6.1) fun e=>e.2⟩,e7,fun q e=>e,e6⟩
end


theorem maps_KeysR_spec (H:Heap) (mb:Nat):∃ v H',Spec Try.prog 35 [.map (some mb)] H v H'∧(∃ b1,(v = .func (.func 54) #[] #[.pointer (some ⟨b1,0,none⟩)])∧(H.next≤b1∧b1<H'.next)∧(H'.blk b1=some ⟨[.map (some mb)],0,false,false⟩)∧(Ext H H')):=by
 refine spec_go1 E0_ok 4 (f:=35) Try.func35 rfl rfl rfl ?_
 refine aw_seq ?_
 refine aw_reg ?_
 obtain⟨b1,H2,he3,b1e,H2n_,hB5,f4⟩:=mem_box (P:=Try.prog) H (v := .map (some mb)) (cs := [.map (some mb)]) rfl rfl
 refine st_op (he3 _ _ _ _ _ _ _ _ _ rfl) rfl rfl rfl ?_
 have hx6:Ext H H2:=Ext.new (by omega) H2n_ f4
 have H2n:H.next≤H2.next:=hx6.1
 refine st_op (ev_assign rfl) rfl rfl rfl ?_
 refine aw_seq ?_
 refine aw_reg ?_
 refine st_op (ev_makeFunc rfl) rfl rfl rfl ?_
 refine st_op (ev_assign rfl) rfl rfl rfl ?_
 refine aw_ret ?_
 exact⟨.func (.func 54) #[] #[.pointer (some ⟨b1,0,none⟩)],rfl,b1,rfl,⟨by omega,by omega⟩,hB5,hx6⟩

end Go.AM
namespace Go.Proofs
open Go.Shelf Go.RowKit Go.Maps Go.Sort
def Try.keys35_ren : Go.Shelf.Ren:=⟨fun | 7=>35 | 10=>54 | n=>n,fun | 23=>75 | 26=>9 | 3=>79 | 28=>85 | 0=>0 | 27=>84 | 33=>78 | 4=>4 | n=>n,fun | n=>n⟩
theorem Try.keys35 : Go.Proofs.SlLaysZ.n7 Try.prog Try.keys35_ren:={
 mixed:=by kernel_rfl
 f7:=⟨Try.f35.name,by decide,Try.func35.trans (congrArg some (by kernel_rfl))⟩
 f10:=⟨Try.f54.name,by decide,Try.func54.trans (congrArg some (by kernel_rfl))⟩
 t0:=Try.underlying0
 a0:=Try.isAgg0
 z0:=Try.sizeOf0
 v0:=Try.zeroValue0
 t4:=Try.underlying4
 a4:=Try.isAgg4
 z4:=Try.sizeOf4
 v4:=Try.zeroValue4
 t23:=Try.underlying75
 a23:=Try.isAgg75
 z23:=Try.sizeOf75
 v23:=Try.zeroValue75
 t26:=Try.underlying9
 a26:=Try.isAgg9
 z26:=Try.sizeOf9
 v26:=Try.zeroValue9
 t27:=Try.underlying84
 a27:=Try.isAgg84
 z27:=Try.sizeOf84
 v27:=Try.zeroValue84
 t28:=Try.underlying85
 a28:=Try.isAgg85
 z28:=Try.sizeOf85
 v28:=Try.zeroValue85
 t33:=Try.underlying78
 a33:=Try.isAgg78
 z33:=Try.sizeOf78
 v33:=Try.zeroValue78 }
def Try.sorted34_ren : Go.Shelf.Ren:=⟨fun | 6=>34 | 8=>52 | 9=>53 | 11=>67 | 13=>69 | 12=>68 | 23=>85 | 24=>86 | 14=>76 | 15=>77 | 16=>78 | 17=>79 | 18=>80 | 19=>81 | 20=>82 | 21=>83 | 22=>84 | 25=>87 | 26=>88 | 27=>89 | 28=>90 | 29=>91 | 30=>92 | 31=>93 | n=>n,fun | 26=>9 | 28=>85 | 24=>33 | 0=>0 | 3=>3 | 37=>129 | 48=>133 | 50=>139 | 4=>4 | 40=>143 | 39=>142 | 45=>148 | 5=>5 | 9=>9 | 51=>152 | 55=>156 | 57=>158 | 58=>159 | 33=>78 | n=>n,fun | n=>n⟩
theorem Try.sorted34 : Go.Proofs.SlLaysZ.n6 Try.prog Try.sorted34_ren:={
 mixed:=by kernel_rfl
 f6:=⟨Try.f34.name,by decide,Try.func34.trans (congrArg some (by kernel_rfl))⟩
 f8:=⟨Try.f52.name,by decide,Try.func52.trans (congrArg some (by kernel_rfl))⟩
 f11:=⟨Try.f67.name,by decide,Try.func67.trans (congrArg some (by kernel_rfl))⟩
 t0:=Try.underlying0
 a0:=Try.isAgg0
 z0:=Try.sizeOf0
 v0:=Try.zeroValue0
 t24:=Try.underlying33
 a24:=Try.isAgg33
 z24:=Try.sizeOf33
 v24:=Try.zeroValue33
 t26:=Try.underlying9
 a26:=Try.isAgg9
 z26:=Try.sizeOf9
 v26:=Try.zeroValue9
 t28:=Try.underlying85
 a28:=Try.isAgg85
 z28:=Try.sizeOf85
 v28:=Try.zeroValue85
 i26:=by kernel_rfl }
def Try.sort53_ren : Go.Shelf.Ren:=⟨fun | 6=>53 | 8=>69 | 9=>68 | 19=>85 | 20=>86 | 21=>76 | 22=>77 | 23=>78 | 24=>79 | 25=>80 | 26=>81 | 27=>82 | 28=>83 | 29=>84 | 36=>87 | 31=>88 | 32=>89 | 37=>90 | 38=>91 | 39=>92 | 41=>93 | n=>n,fun | 27=>33 | 29=>9 | 3=>3 | 32=>129 | 26=>33 | 0=>0 | 44=>133 | 46=>139 | 4=>4 | 36=>143 | 35=>142 | 41=>148 | 5=>5 | 9=>9 | 53=>152 | 57=>156 | 63=>158 | 64=>159 | n=>n,fun | n=>n⟩
theorem Try.sort53 : Go.Proofs.SlLaysM.n6 Try.prog Try.sort53_ren:={
 mixed:=by kernel_rfl
 f6:=⟨Try.f53.name,by decide,Try.func53.trans (congrArg some (by kernel_rfl))⟩
 f8:=Try.func69.trans (congrArg some (by kernel_rfl))
 f9:=⟨Try.f68.name,by decide,Try.func68.trans (congrArg some (by kernel_rfl))⟩
 f19:=Try.func85.trans (congrArg some (by kernel_rfl))
 f20:=Try.func86.trans (congrArg some (by kernel_rfl))
 f21:=⟨Try.f76.name,by decide,Try.func76.trans (congrArg some (by kernel_rfl))⟩
 f22:=⟨Try.f77.name,by decide,Try.func77.trans (congrArg some (by kernel_rfl))⟩
 f23:=⟨Try.f78.name,by decide,Try.func78.trans (congrArg some (by kernel_rfl))⟩
 f24:=⟨Try.f79.name,by decide,Try.func79.trans (congrArg some (by kernel_rfl))⟩
 f25:=⟨Try.f80.name,by decide,Try.func80.trans (congrArg some (by kernel_rfl))⟩
 f26:=⟨Try.f81.name,by decide,Try.func81.trans (congrArg some (by kernel_rfl))⟩
 f27:=⟨Try.f82.name,by decide,Try.func82.trans (congrArg some (by kernel_rfl))⟩
 f28:=⟨Try.f83.name,by decide,Try.func83.trans (congrArg some (by kernel_rfl))⟩
 f29:=⟨Try.f84.name,by decide,Try.func84.trans (congrArg some (by kernel_rfl))⟩
 f31:=Try.func88.trans (congrArg some (by kernel_rfl))
 f32:=Try.func89.trans (congrArg some (by kernel_rfl))
 f36:=⟨Try.f87.name,by decide,Try.func87.trans (congrArg some (by kernel_rfl))⟩
 f37:=⟨Try.f90.name,by decide,Try.func90.trans (congrArg some (by kernel_rfl))⟩
 f38:=⟨Try.f91.name,by decide,Try.func91.trans (congrArg some (by kernel_rfl))⟩
 f39:=⟨Try.f92.name,by decide,Try.func92.trans (congrArg some (by kernel_rfl))⟩
 f41:=⟨Try.f93.name,by decide,Try.func93.trans (congrArg some (by kernel_rfl))⟩
 t0:=Try.underlying0
 a0:=Try.isAgg0
 z0:=Try.sizeOf0
 v0:=Try.zeroValue0
 t3:=Try.underlying3
 a3:=Try.isAgg3
 z3:=Try.sizeOf3
 v3:=Try.zeroValue3
 t4:=Try.underlying4
 a4:=Try.isAgg4
 z4:=Try.sizeOf4
 v4:=Try.zeroValue4
 t5:=Try.underlying5
 a5:=Try.isAgg5
 z5:=Try.sizeOf5
 v5:=Try.zeroValue5
 t9:=Try.underlying9
 a9:=Try.isAgg9
 z9:=Try.sizeOf9
 v9:=Try.zeroValue9
 t26:=Try.underlying33
 a26:=Try.isAgg33
 z26:=Try.sizeOf33
 v26:=Try.zeroValue33
 t27:=Try.underlying33
 a27:=Try.isAgg33
 z27:=Try.sizeOf33
 v27:=Try.zeroValue33
 t29:=Try.underlying9
 a29:=Try.isAgg9
 z29:=Try.sizeOf9
 v29:=Try.zeroValue9
 t32:=Try.underlying129
 a32:=Try.isAgg129
 z32:=Try.sizeOf129
 v32:=Try.zeroValue129
 t35:=Try.underlying142
 a35:=Try.isAgg142
 z35:=Try.sizeOf142
 v35:=Try.zeroValue142
 t36:=Try.underlying143
 a36:=Try.isAgg143
 z36:=Try.sizeOf143
 v36:=Try.zeroValue143
 t41:=Try.underlying148
 a41:=Try.isAgg148
 z41:=Try.sizeOf148
 v41:=Try.zeroValue148
 t44:=Try.underlying133
 a44:=Try.isAgg133
 z44:=Try.sizeOf133
 v44:=Try.zeroValue133
 t46:=Try.underlying139
 a46:=Try.isAgg139
 z46:=Try.sizeOf139
 v46:=Try.zeroValue139
 t53:=Try.underlying152
 a53:=Try.isAgg152
 z53:=Try.sizeOf152
 v53:=Try.zeroValue152
 t57:=Try.underlying156
 a57:=Try.isAgg156
 z57:=Try.sizeOf156
 v57:=Try.zeroValue156
 t63:=Try.underlying158
 a63:=Try.isAgg158
 z63:=Try.sizeOf158
 v63:=Try.zeroValue158
 t64:=Try.underlying159
 a64:=Try.isAgg159
 z64:=Try.sizeOf159
 v64:=Try.zeroValue159 }

theorem Try.sortsK (m:Nat):AnyZ.SortsIn Try.prog Try.sorted34_ren Fence.wide m :=
 ⟨fun blk off cap ss W hH hblk hsz=>callsIn_wide.2 (AnyM.slices_Sort_string Try.sort53 blk off cap ss W hH hblk hsz),
   fun p cap W=>callsIn_wide.2 (AnyM.slices_Sort_string_none Try.sort53 p cap W)⟩
set_option maxHeartbeats 1000000 in
theorem Try.sortedK : Go.AM.SortedK Try.prog 34 54 9:=by
 refine⟨Try.underlying9,fun Bm b nn D0 R w hBm hm hown hmax hbytes=>?_⟩
 have hseq:SeqGives Fence.wide 2 Try.prog 54 #[.pointer (some ⟨Bm,0,none⟩)] encStr (fun ss=>ss.Perm (strKeys D0)) (Maps.size D0) w :=
  AnyZ.keys_gives (ρ:=Try.keys35_ren) { Try.keys35 with } Fence.wide _ trivial rfl (by omega) Bm b nn D0 _ hBm hm hown
 exact(callsIn_wide (n:=5)).1 (AnyZ.sorted_in Try.sorted34 Fence.wide 5 trivial trivial trivial trivial rfl (by omega) (Try.sortsK _) (enters_of Try.func53 (by kernel_rfl) rfl) 54 #[.pointer (some ⟨Bm,0,none⟩)] trivial (enters_of Try.func54 (by kernel_rfl) rfl) _ _ hmax hbytes _ hseq)
end Go.Proofs
namespace Go.AM
open Go Go.Proofs

theorem disk_NamesR_spec (H:Heap) (d dm:Nat) (dD:Nat→Prop) (dl:Files) (dp:List Place) (dk:Int) (rd:DiskR dD H d dm dl dp dk) (kd:dk≤1099511627776) (ld:dl.length≤1099511627776):∃ v H',Spec Try.prog 15 [.pointer (some ⟨d,0,none⟩)] H v H'∧(∃ A7 c8,(v = .slice A7 ((Spec.namesF dl).length) c8)∧(My H H' A7 c8 1 ((Spec.namesF dl).map strC))∧(Ext H H')):=by
 have bd:=rd.below _ rd.dp;have bdm:=rd.below _ rd.dm;have zd:=rd.kb
 refine spec_go1 E0_ok 11 (f:=15) Try.func15 rfl rfl rfl ?_
 refine aw_seq ?_
 refine aw_reg ?_
 refine st_op (ev_assign rfl) rfl rfl rfl ?_
 iterate 2 refine aw_seq ?_
 refine aw_reg ?_
 refine st_op (ev_move rfl) rfl rfl rfl ?_
 refine st_op (ev_nilEq rfl rfl Try.underlying24) rfl rfl rfl ?_
 refine aw_cond (t:=false) rfl ?_
 refine aw_skip ?_
 refine aw_seq ?_
 refine aw_reg ?_
 refine st_op (ev_move rfl) rfl rfl rfl ?_
 refine st_op (ev_nilCheck rfl) rfl rfl rfl ?_
 refine st_op (ev_fieldAddr rfl fa77_0 (o':=0) rfl) rfl rfl rfl ?_
 refine st_op (ev_load rfl (lvar_one one75 rd.blk rfl)) rfl rfl rfl ?_
 refine st_call rfl rfl rfl ent35 rfl rfl rfl ?_
 obtain⟨_,H1,hs2,b3,rfl,b3l,b3B,hx4⟩:=maps_KeysR_spec H dm
 refine⟨_,H1,hs2,?_⟩
 have H1n:H.next≤H1.next:=hx4.1
 refine st_call rfl rfl rfl ent34 rfl rfl rfl ?_
 have h11:=DiskR.ext rd hx4
 obtain⟨_,H5,hs6,A7,c8,rfl,hm9,hx10⟩:=names_am Try.sortedK h11.len b3B h11.mblk (by omega)
 refine⟨_,H5,hs6,?_⟩
 have H5n:H1.next≤H5.next:=hx10.1
 have A7n:=Spec.names_length dl
 refine st_op (ev_assign rfl) rfl rfl rfl ?_
 refine aw_ret ?_
 have hx12:Ext H H5:=(Ext.trans hx4 hx10)
 exact⟨.slice A7 ((Spec.namesF dl).length) c8,rfl,A7,c8,rfl,(My.older hm9 (by omega)),hx12⟩


theorem disk_CrashR_spec (H:Heap) (d dm:Nat) (dD:Nat→Prop) (dl:Files) (dp:List Place) (dk:Int) (rd:DiskR dD H d dm dl dp dk) (kd:dk≤1099511627776) (ld:dl.length≤1099511627776) (n:Int):∃ v H',Spec Try.prog 14 [.pointer (some ⟨d,0,none⟩),.int .i64 n] H v H'∧(∃ p D',v = .pointer (some ⟨p,0,none⟩)∧DiskH D' H' p (Spec.crashF dl n) 0∧(∀ q,D' q→H.next≤q∧q<H'.next)∧Ext H H'):=by
 have bd:=rd.below _ rd.dp;have bdm:=rd.below _ rd.dm;have zd:=rd.kb
 refine spec_go2 E0_ok 65 (f:=14) Try.func14 rfl rfl rfl ?_
 refine aw_seq ?_
 refine aw_reg ?_
 refine st_op (ev_assign rfl) rfl rfl rfl ?_
 iterate 2 refine aw_seq ?_
 refine aw_reg ?_
 refine st_op (ev_move rfl) rfl rfl rfl ?_
 refine st_op (ev_nilEq rfl rfl Try.underlying24) rfl rfl rfl ?_
 refine aw_cond (t:=false) rfl ?_
 refine aw_skip ?_
 refine aw_seq ?_
 refine aw_reg ?_
 refine st_call rfl rfl rfl ent10 rfl rfl rfl ?_
 obtain⟨_,H1,hs2,d3,D4,rfl,⟨mb8,ps9,hr10⟩,hD6,hx7⟩:=disk_New_spec H
 refine⟨_,H1,hs2,?_⟩
 have H1n:H.next≤H1.next:=hx7.1
 have bd3:=hD6 _ hr10.dp;have bmb8:=hD6 _ hr10.dm
 refine st_op (ev_assign rfl) rfl rfl rfl ?_
 iterate 2 refine aw_seq ?_
 refine aw_reg ?_
 refine st_op (ev_move rfl) rfl rfl rfl ?_
 refine st_call rfl rfl rfl ent15 rfl rfl rfl ?_
 have h17:=DiskR.ext rd hx7
 obtain⟨_,H11,hs12,A13,c14,rfl,hm15,hx16⟩:=disk_NamesR_spec H1 d dm dD dl dp dk h17 (by omega) (by omega)
 refine⟨_,H11,hs12,?_⟩
 have H11n:H1.next≤H11.next:=hx16.1
 have A13n:=Spec.names_length dl
 refine st_op (ev_lenSl rfl Try.underlying33) rfl rfl rfl ?_
 refine st_op (ev_move rfl) rfl rfl rfl ?_
 refine aw_block ?_
 have h19:=DiskR.ext hr10 hx16
 refine aw_keep [0,1,5,14,15,16] (l':=(.cons 0 (.pointer (some ⟨d,0,none⟩)) (.cons 1 (.int .i64 n) (.cons 5 (.pointer (some ⟨d3,0,none⟩)) (.cons 14 (.slice A13 ((Spec.namesF dl).length) c14) (.cons 15 (.int .i64 ((Spec.namesF dl).length:Int)) (.cons 16 (.int .i64 0) .nil))))))) (by repeat (first | exact Up.done | refine Up.then ?_ | refine Up.inBlock ?_)) rfl ?_
 refine aw_iter (α:=Nat×List Place×(Nat→Prop)×Heap) (fun a=>(Spec.namesF dl).length - a.1) (fun a=>(.cons 0 (.pointer (some ⟨d,0,none⟩)) (.cons 1 (.int .i64 n) (.cons 5 (.pointer (some ⟨d3,0,none⟩)) (.cons 14 (.slice A13 ((Spec.namesF dl).length) c14) (.cons 15 (.int .i64 ((Spec.namesF dl).length:Int)) (.cons 16 (.int .i64 (a.1:Int)) .nil))))))) (fun a=>a.2.2.2) (fun a=>(a.1≤(Spec.namesF dl).length)∧(DiskR a.2.2.1 a.2.2.2 d3 mb8 (((Spec.namesF dl).take a.1).filterMap (Spec.crash1 dl n)) a.2.1 0)∧(∀ q,a.2.2.1 q→D4 q∨(H11.next≤q∧q<a.2.2.2.next))∧(Fr (fun q=>(D4 q∧Z01 H11 q)) H11 a.2.2.2)) (0,ps9,D4,H11) ⟨(show 0≤(Spec.namesF dl).length from Nat.zero_le _),(show DiskR D4 H11 d3 mb8 (((Spec.namesF dl).take 0).filterMap (Spec.crash1 dl n)) ps9 0 from h19),(show ∀ q,D4 q→D4 q∨(H11.next≤q∧q<H11.next) from(fun q e => .inl e)),(show Fr (fun q=>(D4 q∧Z01 H11 q)) H11 H11 from(Fr.refl _ H11))⟩ ?_
 rintro⟨i,ps2,D2,Hl18⟩ ⟨hi,hr20,hD21,hxl22⟩ ih23
 replace hi:i≤(Spec.namesF dl).length:=hi
 replace hr20:DiskR D2 Hl18 d3 mb8 (((Spec.namesF dl).take i).filterMap (Spec.crash1 dl n)) ps2 0:=hr20
 replace hD21:∀ q,D2 q→D4 q∨(H11.next≤q∧q<Hl18.next):=hD21
 replace hxl22:Fr (fun q=>(D4 q∧Z01 H11 q)) H11 Hl18:=hxl22
 show aw _ _ _ (RL _ (.cons 0 (.pointer (some ⟨d,0,none⟩)) (.cons 1 (.int .i64 n) (.cons 5 (.pointer (some ⟨d3,0,none⟩)) (.cons 14 (.slice A13 ((Spec.namesF dl).length) c14) (.cons 15 (.int .i64 ((Spec.namesF dl).length:Int)) (.cons 16 (.int .i64 (i:Int)) .nil))))))) Hl18 _
 have Hl18n:H11.next≤Hl18.next:=hxl22.1
 have hD24:=fun q e=>(hD21 q e).imp (hD6 q) id
 refine aw_seq ?_
 refine aw_reg ?_
 refine st_op (ev_int rfl rfl rfl) rfl rfl rfl ?_
 refine aw_seq ?_
 by_cases hc25:(decide ((i:Int)<((Spec.namesF dl).length:Int)))=true
 ·
  refine aw_condT hc25 rfl ?_
  have hc25:=of_decide_eq_true hc25
  refine aw_skip ?_
  refine aw_seq ?_
  refine aw_block ?_
  refine aw_seq ?_
  refine aw_reg ?_
  have h26:=My.fr hm15 hxl22 (fun q h1 h2 e=>by(first | omega | (replace e:=hD6 _ e.1;omega)))
  have hi27:0≤((i:Int):Int):=by omega
  have hi28:((i:Int):Int)<(((Spec.namesF dl).length:Nat):Int):=by first | omega | (simp only [List.length_append,List.length_cons,List.length_nil,List.length_map,List.length_set,List.length_replicate,Spec.bytesOf_length];omega) | (simp;omega)
  obtain⟨x29,hx30⟩:∃ e,(Spec.namesF dl)[i]?=some e:=⟨_,List.getElem?_eq_getElem (by first | omega | (simp only [List.length_append,List.length_cons,List.length_nil,List.length_map,List.length_set,List.length_replicate,Spec.bytesOf_length];omega) | (simp;omega))⟩
  refine st_op (ev_at rfl rfl (My.row h26) (getMap strC hx30) (by first | rfl | omega | simp) hi27 hi28 el33) rfl rfl rfl ?_
  refine st_op (ev_atL rfl (My.row h26) (getMap strC hx30) one9 rfl) rfl rfl rfl ?_
  refine st_op (ev_assign rfl) rfl rfl rfl ?_
  refine aw_seq ?_
  refine aw_reg ?_
  refine st_op (ev_move rfl) rfl rfl rfl ?_
  refine st_op (ev_nilCheck rfl) rfl rfl rfl ?_
  refine st_op (ev_fieldAddr rfl fa77_0 (o':=0) rfl) rfl rfl rfl ?_
  have hx32:Ext H Hl18:=(Ext.then (Ext.trans hx7 hx16) hxl22 (fun q hq e=>by(first | omega | (replace e:=hD6 _ e.1;omega))))
  have h31:=DiskR.ext rd hx32
  refine st_op (ev_load rfl (lvar_one one75 h31.blk rfl)) rfl rfl rfl ?_
  refine st_op (ev_move rfl) rfl rfl rfl ?_
  obtain⟨fi33,hf34⟩:=Spec.names_get (l:=dl) hx30
  obtain⟨⟨b35,A36,c37⟩,hg38,z39⟩:=DiskR.found h31 hf34
  have b35l:=rd.below _ z39.dom
  dsimp only at b35l hg38
  have z39n:=z39.len;have z39lo:=z39.lo;have z39hi:=z39.hi;have z39b:=z39.bytes;have z39B:=z39.blk;have z39r:=My.row z39.row;have z39c:=My.capF z39.row (by omega)
  have z39s:=name_size (DiskR.name_of h31 hx30)
  dsimp only at z39B z39r z39c
  refine st_op (ev_lookup ptrMap75 rfl rfl h31.mblk hg38) rfl rfl rfl ?_
  refine st_op (ev_assign rfl) rfl rfl rfl ?_
  refine aw_seq ?_
  refine aw_reg ?_
  refine st_op (ev_move rfl) rfl rfl rfl ?_
  refine st_op (ev_nilCheck rfl) rfl rfl rfl ?_
  refine st_op (ev_fieldAddr rfl fa81_1 (o':=1) rfl) rfl rfl rfl ?_
  refine st_op (ev_load rfl (lvar_one one3 z39B rfl)) rfl rfl rfl ?_
  refine st_op (ev_assign rfl) rfl rfl rfl ?_
  iterate 2 refine aw_seq ?_
  refine aw_reg ?_
  refine st_op (ev_move rfl) rfl rfl rfl ?_
  refine st_op (ev_int rfl rfl rfl) rfl rfl rfl ?_
  by_cases hc40:(decide (n ≥ 0))=true
  ·
   refine aw_condT hc40 rfl ?_
   have hc40:=of_decide_eq_true hc40
   refine aw_reg ?_
   iterate 4 refine st_op (ev_move rfl) rfl rfl rfl ?_
   refine st_call rfl rfl rfl ent17 rfl rfl rfl ?_
   obtain⟨_,H41,hs42,rfl,hq43,hq44,hx45⟩:=disk_Loose_spec Hl18 d dD dl dk ⟨_,_,h31⟩ (by omega) x29 (by omega)
   refine⟨_,H41,hs42,?_⟩
   have H41n:Hl18.next≤H41.next:=hx45.1
   refine st_op (ev_int64 (c:=(Spec.looseF dl x29)+1) rfl rfl rfl (by omega) (by omega)) rfl rfl rfl ?_
   refine st_op (ev_rem (b:=(Spec.looseF dl x29)+1) rfl rfl (by omega)) rfl rfl rfl ?_
   generalize hr47:(Int.tmod n ((Spec.looseF dl x29)+1))=rm46
   have hr47b:=Spec.rem_bounds (by omega) hf34 z39hi hr47
   refine st_op (ev_int64 (c:=fi33.lasts+rm46) rfl rfl rfl (by omega) (by omega)) rfl rfl rfl ?_
   refine st_op (ev_assign rfl) rfl rfl rfl ?_
   refine aw_seq ?_
   refine aw_reg ?_
   refine st_op (ev_move rfl) rfl rfl rfl ?_
   refine st_op (ev_int rfl rfl rfl) rfl rfl rfl ?_
   refine st_op (ev_move rfl) rfl rfl rfl ?_
   refine st_bool 42 rfl (fun hb48=>?_) (fun hb48=>?_)
   ·
    have hb48:=of_decide_eq_true hb48
    iterate 4 refine st_skip rfl rfl rfl ?_
    refine st_op (ev_pickT rfl rfl) rfl rfl rfl ?_
    refine aw_cond (t:=true) rfl ?_
    refine aw_marks (fun b=>b<H41.next) [(false,false),(false,false),(false,false),(true,false),(false,false),(false,false),(false,false),(false,false),(false,false),(false,false),(false,false),(false,true),(false,false),(false,false),(false,true),(false,false)] mixed (by kernel_rfl) (by kernel_rfl) ?_
    refine sm_op (ev_move rfl) rfl rfl rfl ?_
    refine sm_op (ev_nilCheck rfl) rfl rfl rfl ?_
    refine sm_op (ev_fieldAddr rfl fa77_0 (o':=0) rfl) rfl rfl rfl ?_
    have h49:=DiskR.ext hr20 hx45
    refine sm_read (ev_load rfl (lvar_one one75 h49.blk rfl)) rfl rfl rfl (fun b hb=>by cases hb;dsimp only <;> omega) ?_
    iterate 2 refine sm_op (ev_move rfl) rfl rfl rfl ?_
    refine sm_op (ev_nilCheck rfl) rfl rfl rfl ?_
    refine sm_op (ev_fieldAddr rfl fa81_0 (o':=0) rfl) rfl rfl rfl ?_
    have h50:=Ext.blk hx45 (by omega) z39B
    refine sm_op (ev_load rfl (lvar_one one26 h50 rfl)) rfl rfl rfl ?_
    refine sm_op (ev_move rfl) rfl rfl rfl ?_
    have h59:=Row.ext z39r hx45
    obtain⟨A51,c52,L53,hL54,hl55,hs56,hr57,hc58⟩:=sliceA_typed u8c el26 (by decide) h59 z39c (lo:=none) (hi:=some (.int .i64 (fi33.lasts+rm46))) (l:=0) (h:=((fi33.lasts+rm46)).toNat) (by rw[Option.isSome_some,if_pos rfl];exact bound_int (by first | omega | (simp only [List.length_append,List.length_cons,List.length_nil,List.length_map,List.length_set,List.length_replicate,Spec.bytesOf_length];omega) | (simp;omega)) (by first | omega | (simp only [List.length_append,List.length_cons,List.length_nil,List.length_map,List.length_set,List.length_replicate,Spec.bytesOf_length];omega) | (simp;omega)) (by first | rfl | omega)) rfl (by first | omega | (simp only [List.length_append,List.length_cons,List.length_nil,List.length_map,List.length_set,List.length_replicate,Spec.bytesOf_length];omega) | (simp;omega)) (by first | omega | (simp only [List.length_append,List.length_cons,List.length_nil,List.length_map,List.length_set,List.length_replicate,Spec.bytesOf_length];omega) | (simp;omega))
    refine sm_op (ev_slice rfl rfl rfl rfl hs56) rfl rfl rfl ?_
    have hL54b:Spec.Bytes L53:=by rw[hL54];exact Spec.Bytes.take (Spec.Bytes.drop z39b _) _
    refine sm_call rfl rfl rfl ent33 rfl rfl rfl ?_
    obtain⟨_,H61,hs60,A63,c64,hs60v,hm65,hx62⟩:=bytes_Clone_spec H41 A51 L53 c52 hr57 hc58 (by first | omega | (simp only [List.length_append,List.length_cons,List.length_nil,List.length_map,List.length_set,List.length_replicate,Spec.bytesOf_length];omega) | (simp;omega))
    rw[hs60v] at hs60;clear hs60v
    refine⟨_,H61,hs60,(fun _ b hb=>hx62.2 b (by omega)),?_⟩
    have H61n:H41.next≤H61.next:=hx62.1
    refine sm_op (ev_move rfl) rfl rfl rfl ?_
    refine sm_op (ev_build zero81 pl81 (parts := [(0,.slice A63 L53.length c64),(1,.int .i64 (fi33.lasts+rm46)),(2,.bool true)]) rfl (cs := [.slice A63 L53.length c64,.int .i64 (fi33.lasts+rm46),.bool true]) rfl) rfl rfl rfl ?_
    obtain⟨b66,H67,he68,b66e,H67n_,hB70,f69⟩:=mem_box (P:=Try.prog) H61 (v := .agg #[.slice A63 L53.length c64,.int .i64 (fi33.lasts+rm46),.bool true]) (cs := [.slice A63 L53.length c64,.int .i64 (fi33.lasts+rm46),.bool true]) rfl rfl
    refine sm_act (he68 _ _ _ _ _ _ _ _ _ rfl) rfl rfl rfl (fun q hq=>f69 q (by omega)) ?_
    have hx71:Ext H61 H67:=Ext.new (by omega) H67n_ f69
    have H67n:H61.next≤H67.next:=hx71.1
    have hx73:Ext H41 H67:=(Ext.trans hx62 hx71)
    have h72:=DiskR.ext h49 hx73
    obtain⟨H74,he75,H74n_,hB76,f77⟩:=mem_mapUpd (v := .pointer (some ⟨b66,0,none⟩)) (s:=x29) ptrMap75 h72.mblk (by omega)
    refine sm_op0 (he75 _ _ _ _ _ _ _ _ _ _ rfl rfl rfl) rfl rfl ?_
    have hf78:Fr (fun q=>q=mb8) H67 H74:=Fr.write H74n_ f77
    have H74n:H67.next≤H74.next:=hf78.1
    have h79:=Fr.blk hf78 (by omega) (fun e=>(by omega)) hB70
    have h80:=My.ext hm65 hx71
    have h81:=My.frS h80 hf78 (fun q hq e=>⟨_,e ▸ h72.mblk,show(0:Nat)≠1 by decide⟩)
    have hx83:Ext H H74:=(Ext.then (Ext.trans (Ext.trans (Ext.trans hx32 hx45) hx62) hx71) hf78 (fun q hq e=>by omega))
    have h82:=DiskR.ext rd hx83
    have hr84:=DiskR.put_new (f':=⟨L53,fi33.lasts+rm46,true⟩) hr20 (Fr.transG (Fr.trans (Fr.trans (Fr.trans (Fr.refl (fun q=>q=mb8) Hl18) (hx45.fr fun _=>False) (fun q hq (e:False)=>e.elim)) (hx62.fr fun _=>False) (fun q hq (e:False)=>e.elim)) (hx71.fr fun _=>False) (fun q hq (e:False)=>e.elim)) hf78 (fun q hq hE e=>(e))) hB76 ⟨by omega,by omega⟩ h79 h81 (by omega) (by assumption) (by dsimp only;omega) (by dsimp only;omega) (Spec.crash_new (DiskR.names_nodup h82) hx30) (DiskR.name_of h82 hx30)
    have hD85:∀ q,(grow D2 Hl18 H74) q→_:=fun q e=>Or.imp (hD24 q) id e
    have hS86:∀ q,(grow D2 Hl18 H74) q→D4 q∨(H11.next≤q∧q<H74.next):=fun q e=>e.elim (fun e=>(hD21 q e).imp id (fun e=>by omega)) (fun e => .inr (by omega))
    refine aw_reg ?_
    refine st_op (ev_int64 (c:=(i:Int)+1) rfl rfl rfl (by omega) (by omega)) rfl rfl rfl ?_
    refine st_op (ev_move rfl) rfl rfl rfl ?_
    refine aw_keep [0,1,5,14,15,16] (l':=(.cons 0 (.pointer (some ⟨d,0,none⟩)) (.cons 1 (.int .i64 n) (.cons 5 (.pointer (some ⟨d3,0,none⟩)) (.cons 14 (.slice A13 ((Spec.namesF dl).length) c14) (.cons 15 (.int .i64 ((Spec.namesF dl).length:Int)) (.cons 16 (.int .i64 ((i:Int)+1)) .nil))))))) (by repeat (first | exact Up.done | refine Up.then ?_ | refine Up.inBlock ?_)) rfl ?_
    have hkk:Spec.keepN fi33 n=fi33.lasts+rm46:=by first | exact Spec.keep_neg (by omega) | exact Spec.keep_eq (by omega) hf34 hr47
    exact ih23 (i+1,(ps2 ++ [(b66,A63,c64)]),(grow D2 Hl18 H74),H74) ⟨(show(i+1)≤(Spec.namesF dl).length from(by omega)),(show DiskR (grow D2 Hl18 H74) H74 d3 mb8 (((Spec.namesF dl).take (i+1)).filterMap (Spec.crash1 dl n)) (ps2 ++ [(b66,A63,c64)]) 0 from(by rw[Spec.crash_step hx30,Spec.crash1_yes hf34 (by rw[hkk];exact .inl (by omega)),hkk];have h9:=hr84;rw[hL54] at h9;simpa using h9)),(show ∀ q,(grow D2 Hl18 H74) q→D4 q∨(H11.next≤q∧q<H74.next) from(fun q e=>(hS86 q e).imp id (fun e=>by omega))),(show Fr (fun q=>(D4 q∧Z01 H11 q)) H11 H74 from(Fr.transG (Fr.trans (Fr.trans (Fr.trans (Fr.transG (Fr.refl (fun q=>(D4 q∧Z01 H11 q)) H11) hxl22 (fun q hq hE e=>(⟨e.1,Z01.back hE e.2⟩))) (hx45.fr fun _=>False) (fun q hq (e:False)=>e.elim)) (hx62.fr fun _=>False) (fun q hq (e:False)=>e.elim)) (hx71.fr fun _=>False) (fun q hq (e:False)=>e.elim)) hf78 (fun q hq hE e=>(e ▸ (DiskR.zm h19)))))⟩ (by simp only;omega)
   ·
    have hb48:=of_decide_eq_false hb48
    refine st_op (ev_move rfl) rfl rfl rfl ?_
    refine st_op (ev_nilCheck rfl) rfl rfl rfl ?_
    refine st_op (ev_fieldAddr rfl fa81_2 (o':=2) rfl) rfl rfl rfl ?_
    have h87:=Ext.blk hx45 (by omega) z39B
    refine st_op (ev_load rfl (lvar_one one4 h87 rfl)) rfl rfl rfl ?_
    refine st_op (ev_pickF rfl rfl) rfl rfl rfl ?_
    by_cases hc88:fi33.there=true
    ·
     refine aw_condT hc88 rfl ?_
     refine aw_marks (fun b=>b<H41.next) [(false,false),(false,false),(false,false),(true,false),(false,false),(false,false),(false,false),(false,false),(false,false),(false,false),(false,false),(false,true),(false,false),(false,false),(false,true),(false,false)] mixed (by kernel_rfl) (by kernel_rfl) ?_
     refine sm_op (ev_move rfl) rfl rfl rfl ?_
     refine sm_op (ev_nilCheck rfl) rfl rfl rfl ?_
     refine sm_op (ev_fieldAddr rfl fa77_0 (o':=0) rfl) rfl rfl rfl ?_
     have h89:=DiskR.ext hr20 hx45
     refine sm_read (ev_load rfl (lvar_one one75 h89.blk rfl)) rfl rfl rfl (fun b hb=>by cases hb;dsimp only <;> omega) ?_
     iterate 2 refine sm_op (ev_move rfl) rfl rfl rfl ?_
     refine sm_op (ev_nilCheck rfl) rfl rfl rfl ?_
     refine sm_op (ev_fieldAddr rfl fa81_0 (o':=0) rfl) rfl rfl rfl ?_
     refine sm_op (ev_load rfl (lvar_one one26 h87 rfl)) rfl rfl rfl ?_
     refine sm_op (ev_move rfl) rfl rfl rfl ?_
     have h98:=Row.ext z39r hx45
     obtain⟨A90,c91,L92,hL93,hl94,hs95,hr96,hc97⟩:=sliceA_typed u8c el26 (by decide) h98 z39c (lo:=none) (hi:=some (.int .i64 (fi33.lasts+rm46))) (l:=0) (h:=((fi33.lasts+rm46)).toNat) (by rw[Option.isSome_some,if_pos rfl];exact bound_int (by first | omega | (simp only [List.length_append,List.length_cons,List.length_nil,List.length_map,List.length_set,List.length_replicate,Spec.bytesOf_length];omega) | (simp;omega)) (by first | omega | (simp only [List.length_append,List.length_cons,List.length_nil,List.length_map,List.length_set,List.length_replicate,Spec.bytesOf_length];omega) | (simp;omega)) (by first | rfl | omega)) rfl (by first | omega | (simp only [List.length_append,List.length_cons,List.length_nil,List.length_map,List.length_set,List.length_replicate,Spec.bytesOf_length];omega) | (simp;omega)) (by first | omega | (simp only [List.length_append,List.length_cons,List.length_nil,List.length_map,List.length_set,List.length_replicate,Spec.bytesOf_length];omega) | (simp;omega))
     refine sm_op (ev_slice rfl rfl rfl rfl hs95) rfl rfl rfl ?_
     have hL93b:Spec.Bytes L92:=by rw[hL93];exact Spec.Bytes.take (Spec.Bytes.drop z39b _) _
     refine sm_call rfl rfl rfl ent33 rfl rfl rfl ?_
     obtain⟨_,H100,hs99,A102,c103,hs99v,hm104,hx101⟩:=bytes_Clone_spec H41 A90 L92 c91 hr96 hc97 (by first | omega | (simp only [List.length_append,List.length_cons,List.length_nil,List.length_map,List.length_set,List.length_replicate,Spec.bytesOf_length];omega) | (simp;omega))
     rw[hs99v] at hs99;clear hs99v
     refine⟨_,H100,hs99,(fun _ b hb=>hx101.2 b (by omega)),?_⟩
     have H100n:H41.next≤H100.next:=hx101.1
     refine sm_op (ev_move rfl) rfl rfl rfl ?_
     refine sm_op (ev_build zero81 pl81 (parts := [(0,.slice A102 L92.length c103),(1,.int .i64 (fi33.lasts+rm46)),(2,.bool true)]) rfl (cs := [.slice A102 L92.length c103,.int .i64 (fi33.lasts+rm46),.bool true]) rfl) rfl rfl rfl ?_
     obtain⟨b105,H106,he107,b105e,H106n_,hB109,f108⟩:=mem_box (P:=Try.prog) H100 (v := .agg #[.slice A102 L92.length c103,.int .i64 (fi33.lasts+rm46),.bool true]) (cs := [.slice A102 L92.length c103,.int .i64 (fi33.lasts+rm46),.bool true]) rfl rfl
     refine sm_act (he107 _ _ _ _ _ _ _ _ _ rfl) rfl rfl rfl (fun q hq=>f108 q (by omega)) ?_
     have hx110:Ext H100 H106:=Ext.new (by omega) H106n_ f108
     have H106n:H100.next≤H106.next:=hx110.1
     have hx112:Ext H41 H106:=(Ext.trans hx101 hx110)
     have h111:=DiskR.ext h89 hx112
     obtain⟨H113,he114,H113n_,hB115,f116⟩:=mem_mapUpd (v := .pointer (some ⟨b105,0,none⟩)) (s:=x29) ptrMap75 h111.mblk (by omega)
     refine sm_op0 (he114 _ _ _ _ _ _ _ _ _ _ rfl rfl rfl) rfl rfl ?_
     have hf117:Fr (fun q=>q=mb8) H106 H113:=Fr.write H113n_ f116
     have H113n:H106.next≤H113.next:=hf117.1
     have h118:=Fr.blk hf117 (by omega) (fun e=>(by omega)) hB109
     have h119:=My.ext hm104 hx110
     have h120:=My.frS h119 hf117 (fun q hq e=>⟨_,e ▸ h111.mblk,show(0:Nat)≠1 by decide⟩)
     have hx122:Ext H H113:=(Ext.then (Ext.trans (Ext.trans (Ext.trans hx32 hx45) hx101) hx110) hf117 (fun q hq e=>by omega))
     have h121:=DiskR.ext rd hx122
     have hr123:=DiskR.put_new (f':=⟨L92,fi33.lasts+rm46,true⟩) hr20 (Fr.transG (Fr.trans (Fr.trans (Fr.trans (Fr.refl (fun q=>q=mb8) Hl18) (hx45.fr fun _=>False) (fun q hq (e:False)=>e.elim)) (hx101.fr fun _=>False) (fun q hq (e:False)=>e.elim)) (hx110.fr fun _=>False) (fun q hq (e:False)=>e.elim)) hf117 (fun q hq hE e=>(e))) hB115 ⟨by omega,by omega⟩ h118 h120 (by omega) (by assumption) (by dsimp only;omega) (by dsimp only;omega) (Spec.crash_new (DiskR.names_nodup h121) hx30) (DiskR.name_of h121 hx30)
     have hD124:∀ q,(grow D2 Hl18 H113) q→_:=fun q e=>Or.imp (hD24 q) id e
     have hS125:∀ q,(grow D2 Hl18 H113) q→D4 q∨(H11.next≤q∧q<H113.next):=fun q e=>e.elim (fun e=>(hD21 q e).imp id (fun e=>by omega)) (fun e => .inr (by omega))
     refine aw_reg ?_
     refine st_op (ev_int64 (c:=(i:Int)+1) rfl rfl rfl (by omega) (by omega)) rfl rfl rfl ?_
     refine st_op (ev_move rfl) rfl rfl rfl ?_
     refine aw_keep [0,1,5,14,15,16] (l':=(.cons 0 (.pointer (some ⟨d,0,none⟩)) (.cons 1 (.int .i64 n) (.cons 5 (.pointer (some ⟨d3,0,none⟩)) (.cons 14 (.slice A13 ((Spec.namesF dl).length) c14) (.cons 15 (.int .i64 ((Spec.namesF dl).length:Int)) (.cons 16 (.int .i64 ((i:Int)+1)) .nil))))))) (by repeat (first | exact Up.done | refine Up.then ?_ | refine Up.inBlock ?_)) rfl ?_
     have hkk:Spec.keepN fi33 n=fi33.lasts+rm46:=by first | exact Spec.keep_neg (by omega) | exact Spec.keep_eq (by omega) hf34 hr47
     exact ih23 (i+1,(ps2 ++ [(b105,A102,c103)]),(grow D2 Hl18 H113),H113) ⟨(show(i+1)≤(Spec.namesF dl).length from(by omega)),(show DiskR (grow D2 Hl18 H113) H113 d3 mb8 (((Spec.namesF dl).take (i+1)).filterMap (Spec.crash1 dl n)) (ps2 ++ [(b105,A102,c103)]) 0 from(by rw[Spec.crash_step hx30,Spec.crash1_yes hf34 (by rw[hkk];exact .inr hc88),hkk];have h9:=hr123;rw[hL93] at h9;simpa using h9)),(show ∀ q,(grow D2 Hl18 H113) q→D4 q∨(H11.next≤q∧q<H113.next) from(fun q e=>(hS125 q e).imp id (fun e=>by omega))),(show Fr (fun q=>(D4 q∧Z01 H11 q)) H11 H113 from(Fr.transG (Fr.trans (Fr.trans (Fr.trans (Fr.transG (Fr.refl (fun q=>(D4 q∧Z01 H11 q)) H11) hxl22 (fun q hq hE e=>(⟨e.1,Z01.back hE e.2⟩))) (hx45.fr fun _=>False) (fun q hq (e:False)=>e.elim)) (hx101.fr fun _=>False) (fun q hq (e:False)=>e.elim)) (hx110.fr fun _=>False) (fun q hq (e:False)=>e.elim)) hf117 (fun q hq hE e=>(e ▸ (DiskR.zm h19)))))⟩ (by simp only;omega)
    ·
     rw[Bool.not_eq_true] at hc88;refine aw_condF hc88 rfl ?_
     refine aw_skip ?_
     refine aw_reg ?_
     refine st_op (ev_int64 (c:=(i:Int)+1) rfl rfl rfl (by omega) (by omega)) rfl rfl rfl ?_
     refine st_op (ev_move rfl) rfl rfl rfl ?_
     have h126:=DiskR.ext hr20 hx45
     refine aw_keep [0,1,5,14,15,16] (l':=(.cons 0 (.pointer (some ⟨d,0,none⟩)) (.cons 1 (.int .i64 n) (.cons 5 (.pointer (some ⟨d3,0,none⟩)) (.cons 14 (.slice A13 ((Spec.namesF dl).length) c14) (.cons 15 (.int .i64 ((Spec.namesF dl).length:Int)) (.cons 16 (.int .i64 ((i:Int)+1)) .nil))))))) (by repeat (first | exact Up.done | refine Up.then ?_ | refine Up.inBlock ?_)) rfl ?_
     have hkk:Spec.keepN fi33 n=fi33.lasts+rm46:=by first | exact Spec.keep_neg (by omega) | exact Spec.keep_eq (by omega) hf34 hr47
     exact ih23 (i+1,ps2,D2,H41) ⟨(show(i+1)≤(Spec.namesF dl).length from(by omega)),(show DiskR D2 H41 d3 mb8 (((Spec.namesF dl).take (i+1)).filterMap (Spec.crash1 dl n)) ps2 0 from(by rw[Spec.crash_step hx30,Spec.crash1_no hf34 (by rw[hkk];rintro(h | h) <;> first | omega | simp_all)];simpa using h126)),(show ∀ q,D2 q→D4 q∨(H11.next≤q∧q<H41.next) from(fun q e=>(hD21 q e).imp id (fun e=>by omega))),(show Fr (fun q=>(D4 q∧Z01 H11 q)) H11 H41 from(Fr.trans (Fr.transG (Fr.refl (fun q=>(D4 q∧Z01 H11 q)) H11) hxl22 (fun q hq hE e=>(⟨e.1,Z01.back hE e.2⟩))) (hx45.fr fun _=>False) (fun q hq (e:False)=>e.elim)))⟩ (by simp only;omega)
  ·
   rw[Bool.not_eq_true] at hc40;refine aw_condF hc40 rfl ?_
   have hc40:=of_decide_eq_false hc40
   refine aw_skip ?_
   refine aw_seq ?_
   refine aw_reg ?_
   refine st_op (ev_move rfl) rfl rfl rfl ?_
   refine st_op (ev_int rfl rfl rfl) rfl rfl rfl ?_
   refine st_op (ev_move rfl) rfl rfl rfl ?_
   refine st_bool 42 rfl (fun hb127=>?_) (fun hb127=>?_)
   ·
    have hb127:=of_decide_eq_true hb127
    iterate 4 refine st_skip rfl rfl rfl ?_
    refine st_op (ev_pickT rfl rfl) rfl rfl rfl ?_
    refine aw_cond (t:=true) rfl ?_
    refine aw_marks (fun b=>b<Hl18.next) [(false,false),(false,false),(false,false),(true,false),(false,false),(false,false),(false,false),(false,false),(false,false),(false,false),(false,false),(false,true),(false,false),(false,false),(false,true),(false,false)] mixed (by kernel_rfl) (by kernel_rfl) ?_
    refine sm_op (ev_move rfl) rfl rfl rfl ?_
    refine sm_op (ev_nilCheck rfl) rfl rfl rfl ?_
    refine sm_op (ev_fieldAddr rfl fa77_0 (o':=0) rfl) rfl rfl rfl ?_
    refine sm_read (ev_load rfl (lvar_one one75 hr20.blk rfl)) rfl rfl rfl (fun b hb=>by cases hb;dsimp only <;> omega) ?_
    iterate 2 refine sm_op (ev_move rfl) rfl rfl rfl ?_
    refine sm_op (ev_nilCheck rfl) rfl rfl rfl ?_
    refine sm_op (ev_fieldAddr rfl fa81_0 (o':=0) rfl) rfl rfl rfl ?_
    refine sm_op (ev_load rfl (lvar_one one26 z39B rfl)) rfl rfl rfl ?_
    refine sm_op (ev_move rfl) rfl rfl rfl ?_
    obtain⟨A128,c129,L130,hL131,hl132,hs133,hr134,hc135⟩:=sliceA_typed u8c el26 (by decide) z39r z39c (lo:=none) (hi:=some (.int .i64 fi33.lasts)) (l:=0) (h:=(fi33.lasts).toNat) (by rw[Option.isSome_some,if_pos rfl];exact bound_int (by first | omega | (simp only [List.length_append,List.length_cons,List.length_nil,List.length_map,List.length_set,List.length_replicate,Spec.bytesOf_length];omega) | (simp;omega)) (by first | omega | (simp only [List.length_append,List.length_cons,List.length_nil,List.length_map,List.length_set,List.length_replicate,Spec.bytesOf_length];omega) | (simp;omega)) (by first | rfl | omega)) rfl (by first | omega | (simp only [List.length_append,List.length_cons,List.length_nil,List.length_map,List.length_set,List.length_replicate,Spec.bytesOf_length];omega) | (simp;omega)) (by first | omega | (simp only [List.length_append,List.length_cons,List.length_nil,List.length_map,List.length_set,List.length_replicate,Spec.bytesOf_length];omega) | (simp;omega))
    refine sm_op (ev_slice rfl rfl rfl rfl hs133) rfl rfl rfl ?_
    have hL131b:Spec.Bytes L130:=by rw[hL131];exact Spec.Bytes.take (Spec.Bytes.drop z39b _) _
    refine sm_call rfl rfl rfl ent33 rfl rfl rfl ?_
    obtain⟨_,H137,hs136,A139,c140,hs136v,hm141,hx138⟩:=bytes_Clone_spec Hl18 A128 L130 c129 hr134 hc135 (by first | omega | (simp only [List.length_append,List.length_cons,List.length_nil,List.length_map,List.length_set,List.length_replicate,Spec.bytesOf_length];omega) | (simp;omega))
    rw[hs136v] at hs136;clear hs136v
    refine⟨_,H137,hs136,(fun _ b hb=>hx138.2 b (by omega)),?_⟩
    have H137n:Hl18.next≤H137.next:=hx138.1
    refine sm_op (ev_move rfl) rfl rfl rfl ?_
    refine sm_op (ev_build zero81 pl81 (parts := [(0,.slice A139 L130.length c140),(1,.int .i64 fi33.lasts),(2,.bool true)]) rfl (cs := [.slice A139 L130.length c140,.int .i64 fi33.lasts,.bool true]) rfl) rfl rfl rfl ?_
    obtain⟨b142,H143,he144,b142e,H143n_,hB146,f145⟩:=mem_box (P:=Try.prog) H137 (v := .agg #[.slice A139 L130.length c140,.int .i64 fi33.lasts,.bool true]) (cs := [.slice A139 L130.length c140,.int .i64 fi33.lasts,.bool true]) rfl rfl
    refine sm_act (he144 _ _ _ _ _ _ _ _ _ rfl) rfl rfl rfl (fun q hq=>f145 q (by omega)) ?_
    have hx147:Ext H137 H143:=Ext.new (by omega) H143n_ f145
    have H143n:H137.next≤H143.next:=hx147.1
    have hx149:Ext Hl18 H143:=(Ext.trans hx138 hx147)
    have h148:=DiskR.ext hr20 hx149
    obtain⟨H150,he151,H150n_,hB152,f153⟩:=mem_mapUpd (v := .pointer (some ⟨b142,0,none⟩)) (s:=x29) ptrMap75 h148.mblk (by omega)
    refine sm_op0 (he151 _ _ _ _ _ _ _ _ _ _ rfl rfl rfl) rfl rfl ?_
    have hf154:Fr (fun q=>q=mb8) H143 H150:=Fr.write H150n_ f153
    have H150n:H143.next≤H150.next:=hf154.1
    have h155:=Fr.blk hf154 (by omega) (fun e=>(by omega)) hB146
    have h156:=My.ext hm141 hx147
    have h157:=My.frS h156 hf154 (fun q hq e=>⟨_,e ▸ h148.mblk,show(0:Nat)≠1 by decide⟩)
    have hx159:Ext H H150:=(Ext.then (Ext.trans (Ext.trans hx32 hx138) hx147) hf154 (fun q hq e=>by omega))
    have h158:=DiskR.ext rd hx159
    have hr160:=DiskR.put_new (f':=⟨L130,fi33.lasts,true⟩) hr20 (Fr.transG (Fr.trans (Fr.trans (Fr.refl (fun q=>q=mb8) Hl18) (hx138.fr fun _=>False) (fun q hq (e:False)=>e.elim)) (hx147.fr fun _=>False) (fun q hq (e:False)=>e.elim)) hf154 (fun q hq hE e=>(e))) hB152 ⟨by omega,by omega⟩ h155 h157 (by omega) (by assumption) (by dsimp only;omega) (by dsimp only;omega) (Spec.crash_new (DiskR.names_nodup h158) hx30) (DiskR.name_of h158 hx30)
    have hD161:∀ q,(grow D2 Hl18 H150) q→_:=fun q e=>Or.imp (hD24 q) id e
    have hS162:∀ q,(grow D2 Hl18 H150) q→D4 q∨(H11.next≤q∧q<H150.next):=fun q e=>e.elim (fun e=>(hD21 q e).imp id (fun e=>by omega)) (fun e => .inr (by omega))
    refine aw_reg ?_
    refine st_op (ev_int64 (c:=(i:Int)+1) rfl rfl rfl (by omega) (by omega)) rfl rfl rfl ?_
    refine st_op (ev_move rfl) rfl rfl rfl ?_
    refine aw_keep [0,1,5,14,15,16] (l':=(.cons 0 (.pointer (some ⟨d,0,none⟩)) (.cons 1 (.int .i64 n) (.cons 5 (.pointer (some ⟨d3,0,none⟩)) (.cons 14 (.slice A13 ((Spec.namesF dl).length) c14) (.cons 15 (.int .i64 ((Spec.namesF dl).length:Int)) (.cons 16 (.int .i64 ((i:Int)+1)) .nil))))))) (by repeat (first | exact Up.done | refine Up.then ?_ | refine Up.inBlock ?_)) rfl ?_
    have hkk:Spec.keepN fi33 n=fi33.lasts:=by first | exact Spec.keep_neg (by omega) | exact Spec.keep_eq (by omega) hf34 rfl
    exact ih23 (i+1,(ps2 ++ [(b142,A139,c140)]),(grow D2 Hl18 H150),H150) ⟨(show(i+1)≤(Spec.namesF dl).length from(by omega)),(show DiskR (grow D2 Hl18 H150) H150 d3 mb8 (((Spec.namesF dl).take (i+1)).filterMap (Spec.crash1 dl n)) (ps2 ++ [(b142,A139,c140)]) 0 from(by rw[Spec.crash_step hx30,Spec.crash1_yes hf34 (by rw[hkk];exact .inl (by omega)),hkk];have h9:=hr160;rw[hL131] at h9;simpa using h9)),(show ∀ q,(grow D2 Hl18 H150) q→D4 q∨(H11.next≤q∧q<H150.next) from(fun q e=>(hS162 q e).imp id (fun e=>by omega))),(show Fr (fun q=>(D4 q∧Z01 H11 q)) H11 H150 from(Fr.transG (Fr.trans (Fr.trans (Fr.transG (Fr.refl (fun q=>(D4 q∧Z01 H11 q)) H11) hxl22 (fun q hq hE e=>(⟨e.1,Z01.back hE e.2⟩))) (hx138.fr fun _=>False) (fun q hq (e:False)=>e.elim)) (hx147.fr fun _=>False) (fun q hq (e:False)=>e.elim)) hf154 (fun q hq hE e=>(e ▸ (DiskR.zm h19)))))⟩ (by simp only;omega)
   ·
    have hb127:=of_decide_eq_false hb127
    refine st_op (ev_move rfl) rfl rfl rfl ?_
    refine st_op (ev_nilCheck rfl) rfl rfl rfl ?_
    refine st_op (ev_fieldAddr rfl fa81_2 (o':=2) rfl) rfl rfl rfl ?_
    refine st_op (ev_load rfl (lvar_one one4 z39B rfl)) rfl rfl rfl ?_
    refine st_op (ev_pickF rfl rfl) rfl rfl rfl ?_
    by_cases hc163:fi33.there=true
    ·
     refine aw_condT hc163 rfl ?_
     refine aw_marks (fun b=>b<Hl18.next) [(false,false),(false,false),(false,false),(true,false),(false,false),(false,false),(false,false),(false,false),(false,false),(false,false),(false,false),(false,true),(false,false),(false,false),(false,true),(false,false)] mixed (by kernel_rfl) (by kernel_rfl) ?_
     refine sm_op (ev_move rfl) rfl rfl rfl ?_
     refine sm_op (ev_nilCheck rfl) rfl rfl rfl ?_
     refine sm_op (ev_fieldAddr rfl fa77_0 (o':=0) rfl) rfl rfl rfl ?_
     refine sm_read (ev_load rfl (lvar_one one75 hr20.blk rfl)) rfl rfl rfl (fun b hb=>by cases hb;dsimp only <;> omega) ?_
     iterate 2 refine sm_op (ev_move rfl) rfl rfl rfl ?_
     refine sm_op (ev_nilCheck rfl) rfl rfl rfl ?_
     refine sm_op (ev_fieldAddr rfl fa81_0 (o':=0) rfl) rfl rfl rfl ?_
     refine sm_op (ev_load rfl (lvar_one one26 z39B rfl)) rfl rfl rfl ?_
     refine sm_op (ev_move rfl) rfl rfl rfl ?_
     obtain⟨A164,c165,L166,hL167,hl168,hs169,hr170,hc171⟩:=sliceA_typed u8c el26 (by decide) z39r z39c (lo:=none) (hi:=some (.int .i64 fi33.lasts)) (l:=0) (h:=(fi33.lasts).toNat) (by rw[Option.isSome_some,if_pos rfl];exact bound_int (by first | omega | (simp only [List.length_append,List.length_cons,List.length_nil,List.length_map,List.length_set,List.length_replicate,Spec.bytesOf_length];omega) | (simp;omega)) (by first | omega | (simp only [List.length_append,List.length_cons,List.length_nil,List.length_map,List.length_set,List.length_replicate,Spec.bytesOf_length];omega) | (simp;omega)) (by first | rfl | omega)) rfl (by first | omega | (simp only [List.length_append,List.length_cons,List.length_nil,List.length_map,List.length_set,List.length_replicate,Spec.bytesOf_length];omega) | (simp;omega)) (by first | omega | (simp only [List.length_append,List.length_cons,List.length_nil,List.length_map,List.length_set,List.length_replicate,Spec.bytesOf_length];omega) | (simp;omega))
     refine sm_op (ev_slice rfl rfl rfl rfl hs169) rfl rfl rfl ?_
     have hL167b:Spec.Bytes L166:=by rw[hL167];exact Spec.Bytes.take (Spec.Bytes.drop z39b _) _
     refine sm_call rfl rfl rfl ent33 rfl rfl rfl ?_
     obtain⟨_,H173,hs172,A175,c176,hs172v,hm177,hx174⟩:=bytes_Clone_spec Hl18 A164 L166 c165 hr170 hc171 (by first | omega | (simp only [List.length_append,List.length_cons,List.length_nil,List.length_map,List.length_set,List.length_replicate,Spec.bytesOf_length];omega) | (simp;omega))
     rw[hs172v] at hs172;clear hs172v
     refine⟨_,H173,hs172,(fun _ b hb=>hx174.2 b (by omega)),?_⟩
     have H173n:Hl18.next≤H173.next:=hx174.1
     refine sm_op (ev_move rfl) rfl rfl rfl ?_
     refine sm_op (ev_build zero81 pl81 (parts := [(0,.slice A175 L166.length c176),(1,.int .i64 fi33.lasts),(2,.bool true)]) rfl (cs := [.slice A175 L166.length c176,.int .i64 fi33.lasts,.bool true]) rfl) rfl rfl rfl ?_
     obtain⟨b178,H179,he180,b178e,H179n_,hB182,f181⟩:=mem_box (P:=Try.prog) H173 (v := .agg #[.slice A175 L166.length c176,.int .i64 fi33.lasts,.bool true]) (cs := [.slice A175 L166.length c176,.int .i64 fi33.lasts,.bool true]) rfl rfl
     refine sm_act (he180 _ _ _ _ _ _ _ _ _ rfl) rfl rfl rfl (fun q hq=>f181 q (by omega)) ?_
     have hx183:Ext H173 H179:=Ext.new (by omega) H179n_ f181
     have H179n:H173.next≤H179.next:=hx183.1
     have hx185:Ext Hl18 H179:=(Ext.trans hx174 hx183)
     have h184:=DiskR.ext hr20 hx185
     obtain⟨H186,he187,H186n_,hB188,f189⟩:=mem_mapUpd (v := .pointer (some ⟨b178,0,none⟩)) (s:=x29) ptrMap75 h184.mblk (by omega)
     refine sm_op0 (he187 _ _ _ _ _ _ _ _ _ _ rfl rfl rfl) rfl rfl ?_
     have hf190:Fr (fun q=>q=mb8) H179 H186:=Fr.write H186n_ f189
     have H186n:H179.next≤H186.next:=hf190.1
     have h191:=Fr.blk hf190 (by omega) (fun e=>(by omega)) hB182
     have h192:=My.ext hm177 hx183
     have h193:=My.frS h192 hf190 (fun q hq e=>⟨_,e ▸ h184.mblk,show(0:Nat)≠1 by decide⟩)
     have hx195:Ext H H186:=(Ext.then (Ext.trans (Ext.trans hx32 hx174) hx183) hf190 (fun q hq e=>by omega))
     have h194:=DiskR.ext rd hx195
     have hr196:=DiskR.put_new (f':=⟨L166,fi33.lasts,true⟩) hr20 (Fr.transG (Fr.trans (Fr.trans (Fr.refl (fun q=>q=mb8) Hl18) (hx174.fr fun _=>False) (fun q hq (e:False)=>e.elim)) (hx183.fr fun _=>False) (fun q hq (e:False)=>e.elim)) hf190 (fun q hq hE e=>(e))) hB188 ⟨by omega,by omega⟩ h191 h193 (by omega) (by assumption) (by dsimp only;omega) (by dsimp only;omega) (Spec.crash_new (DiskR.names_nodup h194) hx30) (DiskR.name_of h194 hx30)
     have hD197:∀ q,(grow D2 Hl18 H186) q→_:=fun q e=>Or.imp (hD24 q) id e
     have hS198:∀ q,(grow D2 Hl18 H186) q→D4 q∨(H11.next≤q∧q<H186.next):=fun q e=>e.elim (fun e=>(hD21 q e).imp id (fun e=>by omega)) (fun e => .inr (by omega))
     refine aw_reg ?_
     refine st_op (ev_int64 (c:=(i:Int)+1) rfl rfl rfl (by omega) (by omega)) rfl rfl rfl ?_
     refine st_op (ev_move rfl) rfl rfl rfl ?_
     refine aw_keep [0,1,5,14,15,16] (l':=(.cons 0 (.pointer (some ⟨d,0,none⟩)) (.cons 1 (.int .i64 n) (.cons 5 (.pointer (some ⟨d3,0,none⟩)) (.cons 14 (.slice A13 ((Spec.namesF dl).length) c14) (.cons 15 (.int .i64 ((Spec.namesF dl).length:Int)) (.cons 16 (.int .i64 ((i:Int)+1)) .nil))))))) (by repeat (first | exact Up.done | refine Up.then ?_ | refine Up.inBlock ?_)) rfl ?_
     have hkk:Spec.keepN fi33 n=fi33.lasts:=by first | exact Spec.keep_neg (by omega) | exact Spec.keep_eq (by omega) hf34 rfl
     exact ih23 (i+1,(ps2 ++ [(b178,A175,c176)]),(grow D2 Hl18 H186),H186) ⟨(show(i+1)≤(Spec.namesF dl).length from(by omega)),(show DiskR (grow D2 Hl18 H186) H186 d3 mb8 (((Spec.namesF dl).take (i+1)).filterMap (Spec.crash1 dl n)) (ps2 ++ [(b178,A175,c176)]) 0 from(by rw[Spec.crash_step hx30,Spec.crash1_yes hf34 (by rw[hkk];exact .inr hc163),hkk];have h9:=hr196;rw[hL167] at h9;simpa using h9)),(show ∀ q,(grow D2 Hl18 H186) q→D4 q∨(H11.next≤q∧q<H186.next) from(fun q e=>(hS198 q e).imp id (fun e=>by omega))),(show Fr (fun q=>(D4 q∧Z01 H11 q)) H11 H186 from(Fr.transG (Fr.trans (Fr.trans (Fr.transG (Fr.refl (fun q=>(D4 q∧Z01 H11 q)) H11) hxl22 (fun q hq hE e=>(⟨e.1,Z01.back hE e.2⟩))) (hx174.fr fun _=>False) (fun q hq (e:False)=>e.elim)) (hx183.fr fun _=>False) (fun q hq (e:False)=>e.elim)) hf190 (fun q hq hE e=>(e ▸ (DiskR.zm h19)))))⟩ (by simp only;omega)
    ·
     rw[Bool.not_eq_true] at hc163;refine aw_condF hc163 rfl ?_
     refine aw_skip ?_
     refine aw_reg ?_
     refine st_op (ev_int64 (c:=(i:Int)+1) rfl rfl rfl (by omega) (by omega)) rfl rfl rfl ?_
     refine st_op (ev_move rfl) rfl rfl rfl ?_
     refine aw_keep [0,1,5,14,15,16] (l':=(.cons 0 (.pointer (some ⟨d,0,none⟩)) (.cons 1 (.int .i64 n) (.cons 5 (.pointer (some ⟨d3,0,none⟩)) (.cons 14 (.slice A13 ((Spec.namesF dl).length) c14) (.cons 15 (.int .i64 ((Spec.namesF dl).length:Int)) (.cons 16 (.int .i64 ((i:Int)+1)) .nil))))))) (by repeat (first | exact Up.done | refine Up.then ?_ | refine Up.inBlock ?_)) rfl ?_
     have hkk:Spec.keepN fi33 n=fi33.lasts:=by first | exact Spec.keep_neg (by omega) | exact Spec.keep_eq (by omega) hf34 rfl
     exact ih23 (i+1,ps2,D2,Hl18) ⟨(show(i+1)≤(Spec.namesF dl).length from(by omega)),(show DiskR D2 Hl18 d3 mb8 (((Spec.namesF dl).take (i+1)).filterMap (Spec.crash1 dl n)) ps2 0 from(by rw[Spec.crash_step hx30,Spec.crash1_no hf34 (by rw[hkk];rintro(h | h) <;> first | omega | simp_all)];simpa using hr20)),(show ∀ q,D2 q→D4 q∨(H11.next≤q∧q<Hl18.next) from(fun q e=>(hD21 q e).imp id (fun e=>by omega))),(show Fr (fun q=>(D4 q∧Z01 H11 q)) H11 Hl18 from(Fr.transG (Fr.refl (fun q=>(D4 q∧Z01 H11 q)) H11) hxl22 (fun q hq hE e=>(⟨e.1,Z01.back hE e.2⟩))))⟩ (by simp only;omega)
 ·
  rw[Bool.not_eq_true] at hc25;refine aw_condF hc25 rfl ?_
  have hc25:=of_decide_eq_false hc25
  refine aw_exit ?_
  refine aw_seq ?_
  refine aw_reg ?_
  refine st_op (ev_move rfl) rfl rfl rfl ?_
  refine st_op (ev_assign rfl) rfl rfl rfl ?_
  refine aw_ret ?_
  have hres:((Spec.namesF dl).take i).filterMap (Spec.crash1 dl n)=Spec.crashF dl n:=by unfold Spec.crashF;rw[List.take_of_length_le (by omega)]
  rw[hres] at hr20
  have hx199:Ext H Hl18:=(Ext.then (Ext.trans hx7 hx16) hxl22 (fun q hq e=>by(first | omega | (replace e:=hD6 _ e.1;omega))))
  exact⟨_,rfl,d3,D2,rfl,⟨_,_,hr20⟩,(fun q e=>by have e:=hD24 q e;omega),hx199⟩





theorem law19_begun_spec (H:Heap)  : ∃ v H',Spec Try.prog 18 [] H v H'∧((v = .bool true)∧(Ext H H')):=by
 refine spec_go0 E0_ok 79 (f:=18) Try.func18 rfl rfl ?_
 refine aw_seq ?_
 refine aw_reg ?_
 refine st_op (ev_assign rfl) rfl rfl rfl ?_
 refine aw_seq ?_
 refine aw_reg ?_
 refine st_call rfl rfl rfl ent10 rfl rfl rfl ?_
 obtain⟨_,H1,hs2,d3,D4,rfl,⟨mb8,ps9,hr10⟩,hD6,hx7⟩:=disk_New_spec H
 refine⟨_,H1,hs2,?_⟩
 have H1n:H.next≤H1.next:=hx7.1
 have bd3:=hD6 _ hr10.dp;have bmb8:=hD6 _ hr10.dm
 refine st_op (ev_assign rfl) rfl rfl rfl ?_
 refine aw_seq ?_
 refine aw_reg ?_
 refine st_op (ev_move rfl) rfl rfl rfl ?_
 refine st_call rfl rfl rfl ent19 rfl rfl rfl ?_
 obtain⟨_,H11,hs12,k13,K14,rfl,hr15,hb16,hx17⟩:=keepw_OpenN_spec H1 d3 D4 0 ⟨_,_,hr10⟩ (by omega)
 refine⟨_,H11,hs12,?_⟩
 have H11n:H1.next≤H11.next:=hx17.1
 have hD18:=fun q e=>(hb16 q e).imp (hD6 q) id
 have k13b:=hD18 _ hr15.kk
 refine st_op (ev_move rfl) rfl rfl rfl ?_
 iterate 2 refine st_op (ev_extract rfl rfl) rfl rfl rfl ?_
 iterate 2 refine st_op (ev_assign rfl) rfl rfl rfl ?_
 iterate 2 refine aw_seq ?_
 refine aw_reg ?_
 refine st_op (ev_move rfl) rfl rfl rfl ?_
 refine st_op (ev_int rfl rfl rfl) rfl rfl rfl ?_
 iterate 2 refine st_op (ev_move rfl) rfl rfl rfl ?_
 refine st_op (ev_nilEq rfl rfl Try.underlying42) rfl rfl rfl ?_
 refine st_op (ev_pickF rfl rfl) rfl rfl rfl ?_
 refine aw_cond (t:=false) rfl ?_
 refine aw_skip ?_
 refine aw_seq ?_
 refine aw_reg ?_
 refine st_op (ev_move rfl) rfl rfl rfl ?_
 refine st_op (ev_build zero41 pl41 (parts := [(0,.int .i64 2),(1,.int .i64 1)]) rfl (cs := [.int .i64 2,.int .i64 1]) rfl) rfl rfl rfl ?_
 refine st_call rfl rfl rfl ent23 rfl rfl rfl ?_
 have hm28:Spec.mayF true (2:Int) (1:Int) 0 0 0 (⟨#[]⟩:ByteArray)=true:=(by rw[Spec.mayH_eq];decide)
 have hS19:=keepw_HardOk_spec H11 k13 d3 K14 Spec.KSt0 none 0 hr15 (by omega) (2:Int) (1:Int) hm28 (by decide)
 obtain⟨_,H20,hs21,rfl,K22,k23,hr24,hk25,hb26,hx27⟩:=hS19
 have hg29:Spec.GoodK (Spec.hardS Spec.KSt0 (2:Int) (1:Int)) (some (Spec.addO none (Spec.wholeS Spec.KSt0) (Spec.encH (2:Int) (1:Int)))):=(Spec.good_hard Spec.good0 hm28)
 have hz30:(Spec.hardS Spec.KSt0 (2:Int) (1:Int))=(⟨2,1,0,0,⟨#[]⟩,⟨#[]⟩,[]⟩:KSt):=rfl
 rw[hz30] at hr24 hg29
 refine⟨_,H20,hs21,?_⟩
 have H20n:H11.next≤H20.next:=hx27.1
 obtain⟨f31,hf32⟩:∃ f_:FileS,f_=(Spec.addO none (Spec.wholeS Spec.KSt0) (Spec.encH (2:Int) (1:Int))):=⟨_,rfl⟩
 rw[← hf32] at hr24 hg29
 have k23b:k23≤0+2:=hk25
 have hD33:=fun q e=>(hb26 q e).imp (hD18 q) id
 refine st_op (ev_move rfl) rfl rfl rfl ?_
 refine st_op (ev_build zero54 pl54 (parts := [(0,.int .i64 1),(1,.int .i64 2),(2,.int .i64 1)]) rfl (cs := [.int .i64 1,.int .i64 2,.int .i64 1,.string (⟨#[]⟩)]) rfl) rfl rfl rfl ?_
 obtain⟨b34,H35,he36,b34e,H35n_,hm38,f37⟩:=mem_lit H20 (xs:=([.agg #[.int .i64 1,.int .i64 2,.int .i64 1,.string (⟨#[]⟩)]]:List Value)) (m:=1) (rows := [[.int .i64 1,.int .i64 2,.int .i64 1,.string (⟨#[]⟩)]]) rfl eok39 (by decide) (by decide) zf54 rfl (allLen rfl) rfl
 replace hm38:My H20 H35 (some ⟨b34,0,none⟩) 1 4 ([(⟨1,2,1,(⟨#[]⟩:ByteArray)⟩:Entry)].map Entry.cells):=hm38
 refine st_op (he36 _ _ _ _ _ _ _ _ rfl) rfl rfl rfl ?_
 have hx39:Ext H20 H35:=Ext.new (by omega) H35n_ f37
 have H35n:H20.next≤H35.next:=hx39.1
 refine st_call rfl rfl rfl ent22 rfl rfl rfl ?_
 have h40:=KeepR.ext hr24 hx39
 have hS41:=keepw_Write_spec H35 k13 d3 K22 (⟨2,1,0,0,⟨#[]⟩,⟨#[]⟩,[]⟩:KSt) (some f31) k23 h40 (by omega) (some ⟨b34,0,none⟩) ([(⟨1,2,1,(⟨#[]⟩:ByteArray)⟩:Entry)]) 1 (My.row hm38) (My.capF hm38 (by first | omega | (simp only [List.length_append,List.length_cons,List.length_nil,List.length_map,List.length_set,List.length_replicate,Spec.bytesOf_length];omega) | (simp;omega))) (by first | omega | (simp only [List.length_append,List.length_cons,List.length_nil,List.length_map,List.length_set,List.length_replicate,Spec.bytesOf_length];omega) | (simp;omega)) (Spec.full_ents (by decide)) (by decide)
 obtain⟨_,H42,hs43,rfl,K44,k45,hr46,hk47,hb48,hx49⟩:=hS41
 have hg50:Spec.GoodK (Spec.writeS (⟨2,1,0,0,⟨#[]⟩,⟨#[]⟩,[]⟩:KSt) ([(⟨1,2,1,(⟨#[]⟩:ByteArray)⟩:Entry)])) (Spec.writeO (⟨2,1,0,0,⟨#[]⟩,⟨#[]⟩,[]⟩:KSt) (some f31) ([(⟨1,2,1,(⟨#[]⟩:ByteArray)⟩:Entry)])):=(Spec.good_write hg29)
 have hz51:(Spec.writeE (⟨2,1,0,0,⟨#[]⟩,⟨#[]⟩,[]⟩:KSt).si (⟨2,1,0,0,⟨#[]⟩,⟨#[]⟩,[]⟩:KSt).l ([(⟨1,2,1,(⟨#[]⟩:ByteArray)⟩:Entry)]))=0:=Spec.writeE_ok (e:=(⟨1,2,1,⟨#[]⟩⟩:Entry)) rfl (by decide) (by simp only [Spec.rowE,Spec.mayE_eq];decide) (by decide)
 have hz52:(Spec.writeS (⟨2,1,0,0,⟨#[]⟩,⟨#[]⟩,[]⟩:KSt) ([(⟨1,2,1,(⟨#[]⟩:ByteArray)⟩:Entry)]))=(⟨2,1,0,0,⟨#[]⟩,⟨#[]⟩,[⟨1,2,1,⟨#[]⟩⟩]⟩:KSt):=(Spec.writeS_ok hz51).trans rfl
 rw[hz52] at hr46 hg50
 have hz53:(Spec.writeO (⟨2,1,0,0,⟨#[]⟩,⟨#[]⟩,[]⟩:KSt) (some f31) ([(⟨1,2,1,(⟨#[]⟩:ByteArray)⟩:Entry)]))=(some (Spec.addO (some f31) (Spec.wholeS (⟨2,1,0,0,⟨#[]⟩,⟨#[]⟩,[]⟩:KSt)) (Spec.encKs ([(⟨1,2,1,(⟨#[]⟩:ByteArray)⟩:Entry)])))):=Spec.writeO_ok hz51 (by simp)
 rw[hz53] at hr46 hg50
 have hz54:(Spec.writeE (⟨2,1,0,0,⟨#[]⟩,⟨#[]⟩,[]⟩:KSt).si (⟨2,1,0,0,⟨#[]⟩,⟨#[]⟩,[]⟩:KSt).l ([(⟨1,2,1,(⟨#[]⟩:ByteArray)⟩:Entry)]))=0:=hz51
 rw[hz54] at hs43
 refine⟨_,H42,hs43,?_⟩
 have H42n:H35.next≤H42.next:=hx49.1
 obtain⟨f55,hf56⟩:∃ f_:FileS,f_=(Spec.addO (some f31) (Spec.wholeS (⟨2,1,0,0,⟨#[]⟩,⟨#[]⟩,[]⟩:KSt)) (Spec.encKs ([(⟨1,2,1,(⟨#[]⟩:ByteArray)⟩:Entry)]))):=⟨_,rfl⟩
 rw[← hf56] at hr46 hg50
 have k45b:k45≤k23+2:=hk47
 have hD57:=fun q e=>(hb48 q e).imp (hD33 q) id
 refine st_op (ev_move rfl) rfl rfl rfl ?_
 refine st_call rfl rfl rfl ent27 rfl rfl rfl ?_
 have hS58:=keepw_Sync_spec H42 k13 d3 K44 (⟨2,1,0,0,⟨#[]⟩,⟨#[]⟩,[⟨1,2,1,⟨#[]⟩⟩]⟩:KSt) (some f55) k45 hr46 (by omega)
 obtain⟨_,H59,hs60,rfl,K61,k62,hr63,hk64,hb65,hx66⟩:=hS58
 have hg67:Spec.GoodK (⟨2,1,0,0,⟨#[]⟩,⟨#[]⟩,[⟨1,2,1,⟨#[]⟩⟩]⟩:KSt) (Spec.syncK (some f55)):=(Spec.good_sync hg50)
 have hz68:(Spec.syncK (some f55))=(some ⟨f55.b,(f55.b.length:Int),true⟩):=Spec.syncK_some hg50
 rw[hz68] at hr63 hg67
 refine⟨_,H59,hs60,?_⟩
 have H59n:H42.next≤H59.next:=hx66.1
 obtain⟨f69,hf70⟩:∃ f_:FileS,f_=⟨f55.b,(f55.b.length:Int),true⟩:=⟨_,rfl⟩
 rw[← hf70] at hr63 hg67
 have k62b:k62≤k45+2:=hk64
 have hD71:=fun q e=>(hb65 q e).imp (hD57 q) id
 iterate 3 refine st_op (ev_assign rfl) rfl rfl rfl ?_
 refine aw_seq ?_
 refine aw_reg ?_
 refine st_op (ev_move rfl) rfl rfl rfl ?_
 refine st_call rfl rfl rfl ent14 rfl rfl rfl ?_
 obtain⟨D72,mb73,ps74,hr75⟩:=KeepR.disk hr63
 have hS76:=disk_CrashR_spec H59 d3 mb73 D72 (Spec.filesO (some f69)) ps74 k62 hr75 (by omega) (Spec.filesO_len _) 0
 have hc86:∀ n,Spec.crashF (Spec.filesO (some f69)) n=Spec.filesO (some f69):=fun n=>by rw[hf70];exact Spec.crash_synced
 rw[hc86 0] at hS76
 obtain⟨_,H77,hs78,p79,D80,rfl,⟨mb81,ps82,hr83⟩,hD84,hx85⟩:=hS76
 refine⟨_,H77,hs78,?_⟩
 have H77n:H59.next≤H77.next:=hx85.1
 refine st_call rfl rfl rfl ent19 rfl rfl rfl ?_
 have ho96:=Spec.open_good hg67
 obtain⟨_,H87,hs88,k89,K90,k91,rfl,hr92,hk93,hb94,hx95⟩:=keepw_OpenY_spec H77 p79 D80 f69 0 ⟨_,_,hr83⟩ (by omega) ho96.1
 rw[ho96.2.1,ho96.2.2] at hr92
 refine⟨_,H87,hs88,?_⟩
 have H87n:H77.next≤H87.next:=hx95.1
 have k91b:k91≤0+1:=hk93
 have hD97:=fun q e=>(hb94 q e).imp (hD84 q) id
 have k89b:=hD97 _ hr92.kk
 refine st_op (ev_move rfl) rfl rfl rfl ?_
 iterate 2 refine st_op (ev_extract rfl rfl) rfl rfl rfl ?_
 iterate 2 refine st_op (ev_assign rfl) rfl rfl rfl ?_
 refine aw_seq ?_
 refine aw_reg ?_
 refine st_op (ev_move rfl) rfl rfl rfl ?_
 refine st_call rfl rfl rfl ent26 rfl rfl rfl ?_
 obtain⟨_,H98,hs99,A100,c101,rfl,hm102,hx103⟩:=keepw_State_spec H87 k89 p79 K90 (⟨2,1,0,0,⟨#[]⟩,⟨#[]⟩,[⟨1,2,1,⟨#[]⟩⟩]⟩:KSt) (some f69) k91 hr92 (by omega)
 refine⟨_,H98,hs99,?_⟩
 have H98n:H87.next≤H98.next:=hx103.1
 replace hm102:My H87 H98 A100 c101 4 (([⟨1,2,1,⟨#[]⟩⟩]:List Entry).map Entry.cells):=hm102
 obtain⟨b104,H105,he106,b104e,H105n_,hB108,f107⟩:=mem_alloc H98 zero61
 refine st_op (he106 _ _ _ _ _ _ _) rfl rfl rfl ?_
 have hx109:Ext H98 H105:=Ext.new (by omega) H105n_ f107
 have H105n:H98.next≤H105.next:=hx109.1
 obtain⟨H110,he111,H110n_,hB112,f113⟩:=mem_store (v := .agg #[.int .i64 ((⟨2,1,0,0,⟨#[]⟩,⟨#[]⟩,[⟨1,2,1,⟨#[]⟩⟩]⟩:KSt).ht),.int .i64 ((⟨2,1,0,0,⟨#[]⟩,⟨#[]⟩,[⟨1,2,1,⟨#[]⟩⟩]⟩:KSt).hv),.int .i64 ((⟨2,1,0,0,⟨#[]⟩,⟨#[]⟩,[⟨1,2,1,⟨#[]⟩⟩]⟩:KSt).si),.int .i64 ((⟨2,1,0,0,⟨#[]⟩,⟨#[]⟩,[⟨1,2,1,⟨#[]⟩⟩]⟩:KSt).st),.string ((⟨2,1,0,0,⟨#[]⟩,⟨#[]⟩,[⟨1,2,1,⟨#[]⟩⟩]⟩:KSt).sc),.string ((⟨2,1,0,0,⟨#[]⟩,⟨#[]⟩,[⟨1,2,1,⟨#[]⟩⟩]⟩:KSt).sd),.slice A100 (([⟨1,2,1,⟨#[]⟩⟩]:List Entry).length) c101]) (o:=0) (cs' := [.int .i64 ((⟨2,1,0,0,⟨#[]⟩,⟨#[]⟩,[⟨1,2,1,⟨#[]⟩⟩]⟩:KSt).ht),.int .i64 ((⟨2,1,0,0,⟨#[]⟩,⟨#[]⟩,[⟨1,2,1,⟨#[]⟩⟩]⟩:KSt).hv),.int .i64 ((⟨2,1,0,0,⟨#[]⟩,⟨#[]⟩,[⟨1,2,1,⟨#[]⟩⟩]⟩:KSt).si),.int .i64 ((⟨2,1,0,0,⟨#[]⟩,⟨#[]⟩,[⟨1,2,1,⟨#[]⟩⟩]⟩:KSt).st),.string ((⟨2,1,0,0,⟨#[]⟩,⟨#[]⟩,[⟨1,2,1,⟨#[]⟩⟩]⟩:KSt).sc),.string ((⟨2,1,0,0,⟨#[]⟩,⟨#[]⟩,[⟨1,2,1,⟨#[]⟩⟩]⟩:KSt).sd),.slice A100 (([⟨1,2,1,⟨#[]⟩⟩]:List Entry).length) c101]) 7 rfl rfl size61 hB108 rfl rfl rfl
 refine st_op0 (he111 _ _ _ _ _ _ _ _ _ rfl rfl) rfl rfl ?_
 have hf114:Fr (fun q=>q=b104) H105 H110:=Fr.write H110n_ f113
 have H110n:H105.next≤H110.next:=hf114.1
 refine aw_seq ?_
 refine aw_reg ?_
 refine st_op (ev_move rfl) rfl rfl rfl ?_
 refine st_op (ev_int rfl rfl rfl) rfl rfl rfl ?_
 iterate 2 refine st_op (ev_move rfl) rfl rfl rfl ?_
 refine st_op (ev_int rfl rfl rfl) rfl rfl rfl ?_
 refine st_op (ev_pickT rfl rfl) rfl rfl rfl ?_
 iterate 2 refine st_op (ev_move rfl) rfl rfl rfl ?_
 refine st_op (ev_int rfl rfl rfl) rfl rfl rfl ?_
 refine st_op (ev_pickT rfl rfl) rfl rfl rfl ?_
 iterate 2 refine st_op (ev_move rfl) rfl rfl rfl ?_
 refine st_op (ev_int rfl rfl rfl) rfl rfl rfl ?_
 refine st_op (ev_pickT rfl rfl) rfl rfl rfl ?_
 refine st_op (ev_move rfl) rfl rfl rfl ?_
 refine st_op (ev_fieldAddr rfl fa61_0 (o':=0) rfl) rfl rfl rfl ?_
 refine st_op (ev_fieldAddr rfl fa41_0 (o':=0) rfl) rfl rfl rfl ?_
 refine st_op (ev_load rfl (lvar_one one2 hB112 rfl)) rfl rfl rfl ?_
 refine st_op (ev_int rfl rfl rfl) rfl rfl rfl ?_
 refine st_op (ev_pickT rfl rfl) rfl rfl rfl ?_
 refine st_op (ev_move rfl) rfl rfl rfl ?_
 refine st_bool 59 rfl (fun hb115=>?_) (fun hb115=>?_)
 ·
  have hb115:=eq_of_beq hb115
  refine st_op (ev_fieldAddr rfl fa61_0 (o':=0) rfl) rfl rfl rfl ?_
  refine st_op (ev_fieldAddr rfl fa41_1 (o':=1) rfl) rfl rfl rfl ?_
  refine st_op (ev_load rfl (lvar_one one3 hB112 rfl)) rfl rfl rfl ?_
  refine st_op (ev_int rfl rfl rfl) rfl rfl rfl ?_
  refine st_op (ev_pickT rfl rfl) rfl rfl rfl ?_
  refine st_op (ev_move rfl) rfl rfl rfl ?_
  refine st_bool 65 rfl (fun hb116=>?_) (fun hb116=>?_)
  ·
   have hb116:=eq_of_beq hb116
   refine st_op (ev_fieldAddr rfl fa61_2 (o':=6) rfl) rfl rfl rfl ?_
   refine st_op (ev_load rfl (lvar_one one39 hB112 rfl)) rfl rfl rfl ?_
   refine st_op (ev_lenSl rfl Try.underlying39) rfl rfl rfl ?_
   refine st_op (ev_int rfl rfl rfl) rfl rfl rfl ?_
   refine st_op (ev_pickT rfl rfl) rfl rfl rfl ?_
   refine st_op (ev_move rfl) rfl rfl rfl ?_
   refine st_bool 71 rfl (fun hb117=>?_) (fun hb117=>?_)
   ·
    have hb117:=eq_of_beq hb117
    refine st_op (ev_fieldAddr rfl fa61_2 (o':=6) rfl) rfl rfl rfl ?_
    refine st_op (ev_load rfl (lvar_one one39 hB112 rfl)) rfl rfl rfl ?_
    have hx119:Ext H98 H110:=(Ext.then hx109 hf114 (fun q hq e=>by omega))
    have h118:=My.ext hm102 hx119
    have hi120:0≤(0:Int):=by omega
    have hi121:(0:Int)<((([⟨1,2,1,⟨#[]⟩⟩]:List Entry).length:Nat):Int):=by first | omega | (simp only [List.length_append,List.length_cons,List.length_nil,List.length_map,List.length_set,List.length_replicate,Spec.bytesOf_length];omega) | (simp;omega)
    obtain⟨x122,hx123⟩:∃ e,([⟨1,2,1,⟨#[]⟩⟩]:List Entry)[0]?=some e:=⟨_,List.getElem?_eq_getElem (by first | omega | (simp only [List.length_append,List.length_cons,List.length_nil,List.length_map,List.length_set,List.length_replicate,Spec.bytesOf_length];omega) | (simp;omega))⟩
    refine st_op (ev_at rfl rfl (My.row h118) (getMap Entry.cells hx123) (by first | rfl | omega | simp) hi120 hi121 el39) rfl rfl rfl ?_
    refine st_op (ev_atF rfl (My.row h118) (getMap Entry.cells hx123) fa54_0 rfl) rfl rfl rfl ?_
    refine st_op (ev_atL rfl (My.row h118) (getMap Entry.cells hx123) one2 rfl) rfl rfl rfl ?_
    refine st_op (ev_int rfl rfl rfl) rfl rfl rfl ?_
    refine st_op (ev_pickT rfl rfl) rfl rfl rfl ?_
    refine st_op (ev_assign rfl) rfl rfl rfl ?_
    refine aw_ret ?_
    have hx124:Ext H H110:=(Ext.then (Ext.trans (Ext.trans (Ext.then (Ext.trans (Ext.then (Ext.then (Ext.trans (Ext.then (Ext.trans hx7 hx17) hx27 (fun q hq e=>by(first | omega | (replace e:=hD18 _ e.1;omega)))) hx39) hx49 (fun q hq e=>by(first | omega | (replace e:=hD33 _ e.1;omega)))) hx66 (fun q hq e=>by(first | omega | (replace e:=hD57 _ e.1;omega)))) hx85) hx95 (fun q hq e=>by(first | omega | (replace e:=hD84 _ e.1;omega)))) hx103) hx109) hf114 (fun q hq e=>by omega))
    exact⟨.bool (x122.index == 1),rfl,by rw[show x122=(⟨1,2,1,⟨#[]⟩⟩:Entry) from(Option.some.inj hx123).symm];rfl,hx124⟩
   ·
    exact Bool.noConfusion (hb117.symm.trans (show _=true from by kernel_rfl))
  ·
   exact Bool.noConfusion (hb116.symm.trans (show _=true from by kernel_rfl))
 ·
  exact Bool.noConfusion (hb115.symm.trans (show _=true from by kernel_rfl))

end Go.AM
