/- Part of a machine of its own for this claim: the program's code over memory without draws. -/
import Derived.Test.YtodcgppcmahbkabSAmXKeepD1
set_option linter.unusedVariables false
set_option linter.unusedSimpArgs false
set_option linter.unnecessarySimpa false
set_option linter.unusedVariables false
set_option linter.unusedSimpArgs false
set_option linter.unnecessarySimpa false
namespace Go.AM
open Go Go.Proofs
theorem keep_WriteOk_spec (H:Heap) (d dm:Nat) (dD:Nat→Prop) (dl:Files) (dp:List Place) (dk:Int) (rd:DiskR dD H d dm dl dp dk) (kd:dk≤1099511627000) (ht:Int) (hv:Int) (si:Int) (hsi:0≤si∧si≤1099511627776) (st:Int) (sc:ByteArray) (sd:ByteArray) (lA:Option Addr) (l:List Entry) (lc:Nat) (hl:Row H lA lc 4 (l.map Entry.cells)) (cl:l.length≤lc) (ll:l.length≤200) (sz:Int) (hsz:0≤sz∧sz≤1048576) (k:Nat) (hk:k<H.next) (Bk:H.blk k=some ⟨[.pointer (some ⟨d,0,none⟩),.int .i64 ht,.int .i64 hv,.int .i64 si,.int .i64 st,.string sc,.string sd,.slice lA l.length lc,.int .i64 sz],0,false,false⟩) (nk:¬ dD k) (wA:Option Addr) (w:List Entry) (wc:Nat) (hw:Row H wA wc 4 (w.map Entry.cells)) (cw:w.length≤wc) (lw:w.length≤1000) (bw:Spec.EntsI w) (hw0:Spec.writeE si l w=0) (hwn:w ≠ []) (hg:(Spec.wholeF ht hv si st sc sd l).length+(Spec.encKs w).length≤1048576) (hf:Spec.FileOk dl sz):∃ v H',Spec Try.prog 22 [.pointer (some ⟨k,0,none⟩),.slice wA w.length wc] H v H'∧(∃ rA1 rc1,(v = .int .i64 0)∧(My H H' rA1 rc1 4 ((Spec.writeL si l w).map Entry.cells))∧(H'.blk k=some ⟨[.pointer (some ⟨d,0,none⟩),.int .i64 ht,.int .i64 hv,.int .i64 si,.int .i64 st,.string sc,.string sd,.slice rA1 ((Spec.writeL si l w).length) rc1,.int .i64 ((Spec.addF dl sz (Spec.wholeF ht hv si st sc sd l) (Spec.encKs w)).1)],0,false,false⟩)∧(DiskS dD H H' d ((Spec.addF dl sz (Spec.wholeF ht hv si st sc sd l) (Spec.encKs w)).2) dk 2)∧(Fr (fun q=>q=k∨(dD q∧Z01 H q)) H H')):=by
 have bd:=rd.below _ rd.dp;have bdm:=rd.below _ rd.dm;have zd:=rd.kb
 have sub_d:∀ q,dD q→dD q∨(H.next≤q∧q<H.next):=fun q e => .inl e
 refine spec_go2 E0_ok 79 (f:=22) Try.func22 rfl rfl rfl ?_
 refine aw_seq ?_
 refine aw_reg ?_
 refine st_op (ev_assign rfl) rfl rfl rfl ?_
 iterate 2 refine aw_seq ?_
 refine aw_reg ?_
 refine st_op (ev_move rfl) rfl rfl rfl ?_
 refine st_op (ev_nilEq rfl rfl Try.underlying42) rfl rfl rfl ?_
 refine aw_cond (t:=false) rfl ?_
 refine aw_skip ?_
 iterate 2 refine aw_seq ?_
 refine aw_reg ?_
 refine st_op (ev_move rfl) rfl rfl rfl ?_
 refine st_op (ev_lenSl rfl Try.underlying39) rfl rfl rfl ?_
 refine st_op (ev_int rfl rfl rfl) rfl rfl rfl ?_
 by_cases hc1:((w.length:Int) == 0)=true
 ·
  refine aw_condT hc1 rfl ?_
  have hc1:=eq_of_beq hc1
  refine aw_seq ?_
  refine aw_reg ?_
  refine st_op (ev_assign rfl) rfl rfl rfl ?_
  refine aw_ret ?_
  exfalso;exact hwn (List.eq_nil_of_length_eq_zero (by omega))
 ·
  rw[Bool.not_eq_true] at hc1;refine aw_condF hc1 rfl ?_
  have hc1:=ne_of_beq_false hc1
  refine aw_skip ?_
  refine aw_seq ?_
  refine aw_reg ?_
  refine st_op (ev_move rfl) rfl rfl rfl ?_
  refine st_call rfl rfl rfl ent26 rfl rfl rfl ?_
  obtain⟨_,H3,hs2,A5,c6,hs2v,hm7,hx4⟩:=keep_State_spec H d dm dD dl dp dk rd (by omega) ht hv si ⟨by omega,by omega⟩ st sc sd lA l lc hl cl (by omega) sz ⟨by omega,by omega⟩ k (by omega) Bk nk
  rw[hs2v] at hs2;clear hs2v
  refine⟨_,H3,hs2,?_⟩
  have H3n:H.next≤H3.next:=hx4.1
  obtain⟨b8,H9,he10,b8e,H9n_,hB12,f11⟩:=mem_alloc H3 zero61
  refine st_op (he10 _ _ _ _ _ _ _) rfl rfl rfl ?_
  have hx13:Ext H3 H9:=Ext.new (by omega) H9n_ f11
  have H9n:H3.next≤H9.next:=hx13.1
  obtain⟨H14,he15,H14n_,hB16,f17⟩:=mem_store (v := .agg #[.int .i64 ht,.int .i64 hv,.int .i64 si,.int .i64 st,.string sc,.string sd,.slice A5 l.length c6]) (o:=0) (cs' := [.int .i64 ht,.int .i64 hv,.int .i64 si,.int .i64 st,.string sc,.string sd,.slice A5 l.length c6]) 7 rfl rfl size61 hB12 rfl rfl rfl
  refine st_op0 (he15 _ _ _ _ _ _ _ _ _ rfl rfl) rfl rfl ?_
  have hf18:Fr (fun q=>q=b8) H9 H14:=Fr.write H14n_ f17
  have H14n:H9.next≤H14.next:=hf18.1
  refine aw_seq ?_
  refine aw_marks (fun b=>b<H14.next) [(false,false),(false,false),(false,false),(false,false),(false,false),(false,false),(false,false),(false,false),(false,false),(false,false)] mixed (by kernel_rfl) (by kernel_rfl) ?_
  refine sm_op (ev_move rfl) rfl rfl rfl ?_
  have hx20:Ext H H14:=(Ext.then (Ext.trans hx4 hx13) hf18 (fun q hq e=>by omega))
  have h19:=Row.ext hw hx20
  have hi21:0≤(0:Int):=by omega
  have hi22:(0:Int)<((w.length:Nat):Int):=by omega
  obtain⟨x23,hx24⟩:∃ e,w[0]?=some e:=⟨_,List.getElem?_eq_getElem (by omega)⟩
  have hwi:=bw _ (List.mem_of_getElem? hx24)
  refine sm_op (ev_at rfl rfl h19 (getMap Entry.cells hx24) (by first | rfl | omega | simp) hi21 hi22 el39) rfl rfl rfl ?_
  refine sm_op (ev_atF rfl h19 (getMap Entry.cells hx24) fa54_0 rfl) rfl rfl rfl ?_
  refine sm_op (ev_atL rfl h19 (getMap Entry.cells hx24) one2 rfl) rfl rfl rfl ?_
  refine sm_op (ev_fieldAddr rfl fa61_1 (o':=2) rfl) rfl rfl rfl ?_
  refine sm_op (ev_fieldAddr rfl fa46_0 (o':=2) rfl) rfl rfl rfl ?_
  refine sm_op (ev_load rfl (lvar_one one2 hB16 rfl)) rfl rfl rfl ?_
  iterate 2 refine sm_op (ev_int rfl rfl rfl) rfl rfl rfl ?_
  have hat:=Spec.at_wrap (x:=x23.index) (s:=si) hwi (by omega)
  generalize hatv:(IntKind.i64.wrap ((IntKind.i64.wrap (x23.index - si)) - 1))=at_ at hat
  have hatr : -9223372036854775808≤at_∧at_≤9223372036854775807:=by rw[← hatv];exact wrapI64 _
  refine sm_op (ev_assign rfl) rfl rfl rfl ?_
  iterate 2 refine aw_seq ?_
  refine aw_reg ?_
  refine st_op (ev_move rfl) rfl rfl rfl ?_
  refine st_op (ev_int rfl rfl rfl) rfl rfl rfl ?_
  refine st_op (ev_move rfl) rfl rfl rfl ?_
  refine st_bool 28 rfl (fun hb25=>?_) (fun hb25=>?_)
  ·
   have hb25:=of_decide_eq_true hb25
   iterate 5 refine st_skip rfl rfl rfl ?_
   refine st_op (ev_pickT rfl rfl) rfl rfl rfl ?_
   refine aw_cond (t:=true) rfl ?_
   refine aw_seq ?_
   refine aw_reg ?_
   refine st_op (ev_assign rfl) rfl rfl rfl ?_
   refine aw_ret ?_
   exfalso;have q:Spec.writeE si l w=1:=by exact Spec.writeE_out hx24 (fun c=>by have:=hat.1 ⟨by omega,by omega⟩;omega)
   rw[hw0] at q;exact absurd q (by decide)
  ·
   have hb25:=of_decide_eq_false hb25
   refine st_op (ev_move rfl) rfl rfl rfl ?_
   refine st_op (ev_fieldAddr rfl fa61_2 (o':=6) rfl) rfl rfl rfl ?_
   refine st_op (ev_load rfl (lvar_one one39 hB16 rfl)) rfl rfl rfl ?_
   refine st_op (ev_lenSl rfl Try.underlying39) rfl rfl rfl ?_
   refine st_op (ev_int rfl rfl rfl) rfl rfl rfl ?_
   refine st_op (ev_pickF rfl rfl) rfl rfl rfl ?_
   by_cases hc26:(decide (at_ > (l.length:Int)))=true
   ·
    refine aw_condT hc26 rfl ?_
    have hc26:=of_decide_eq_true hc26
    refine aw_seq ?_
    refine aw_reg ?_
    refine st_op (ev_assign rfl) rfl rfl rfl ?_
    refine aw_ret ?_
    exfalso;have q:Spec.writeE si l w=1:=by exact Spec.writeE_out hx24 (fun c=>by have:=hat.1 ⟨by omega,by omega⟩;omega)
    rw[hw0] at q;exact absurd q (by decide)
   ·
    rw[Bool.not_eq_true] at hc26;refine aw_condF hc26 rfl ?_
    have hc26:=of_decide_eq_false hc26
    refine aw_skip ?_
    refine aw_seq ?_
    refine aw_reg ?_
    refine st_op (ev_assign rfl) rfl rfl rfl ?_
    iterate 2 refine aw_seq ?_
    refine aw_reg ?_
    refine st_op (ev_move rfl) rfl rfl rfl ?_
    refine st_op (ev_lenSl rfl Try.underlying39) rfl rfl rfl ?_
    refine st_op (ev_move rfl) rfl rfl rfl ?_
    refine aw_block ?_
    have hx0b:0≤x23.index∧x23.index≤2199023255552:=by omega
    have hm28:My H14 H14 none 0 1 (([]:List Int).map u8c) := .nil
    refine aw_keep [0,1,5,6,7,35,36,37] (l':=(.cons 0 (.pointer (some ⟨k,0,none⟩)) (.cons 1 (.slice wA w.length wc) (.cons 5 (.pointer (some ⟨b8,0,none⟩)) (.cons 6 (.int .i64 at_) (.cons 7 (.slice none 0 0) (.cons 35 (.slice wA w.length wc) (.cons 36 (.int .i64 (w.length:Int)) (.cons 37 (.int .i64 0) .nil))))))))) (by repeat (first | exact Up.done | refine Up.then ?_ | refine Up.inBlock ?_)) rfl ?_
    refine aw_iter (α:=Nat×Option Addr×Nat×List Int×Heap) (fun a=>w.length - a.1) (fun a=>(.cons 0 (.pointer (some ⟨k,0,none⟩)) (.cons 1 (.slice wA w.length wc) (.cons 5 (.pointer (some ⟨b8,0,none⟩)) (.cons 6 (.int .i64 at_) (.cons 7 (.slice a.2.1 a.2.2.2.1.length a.2.2.1) (.cons 35 (.slice wA w.length wc) (.cons 36 (.int .i64 (w.length:Int)) (.cons 37 (.int .i64 (a.1:Int)) .nil))))))))) (fun a=>a.2.2.2.2) (fun a=>(a.1≤w.length)∧(Spec.encKs w=a.2.2.2.1++Spec.encKs (w.drop a.1))∧(Spec.rowE x23.index w=Spec.rowE (x23.index+(a.1:Int)) (w.drop a.1))∧(a.2.2.2.1.length≤2550 * a.1)∧(Spec.Bytes a.2.2.2.1)∧(My H14 a.2.2.2.2 a.2.1 a.2.2.1 1 (a.2.2.2.1.map u8c))∧(Ext H14 a.2.2.2.2)) (0,none,0,([]:List Int),H14) ⟨(show 0≤w.length from Nat.zero_le _),(show Spec.encKs w=([]:List Int)++Spec.encKs (w.drop 0) from rfl),(show Spec.rowE x23.index w=Spec.rowE (x23.index+(0:Int)) (w.drop 0) from(by simp)),(show([]:List Int).length≤2550 * 0 from(Nat.le_refl _)),(show Spec.Bytes ([]:List Int) from Spec.Bytes.nil),(show My H14 H14 none 0 1 (([]:List Int).map u8c) from hm28),(show Ext H14 H14 from(Ext.refl H14))⟩ ?_
    rintro⟨i,A,cp,out,Hl27⟩ ⟨hi,hS,hr,hL,hBo,hm29,hxl30⟩ ih31
    replace hi:i≤w.length:=hi
    replace hS:Spec.encKs w=out++Spec.encKs (w.drop i):=hS
    replace hr:Spec.rowE x23.index w=Spec.rowE (x23.index+(i:Int)) (w.drop i):=hr
    replace hL:out.length≤2550 * i:=hL
    replace hBo:Spec.Bytes out:=hBo
    replace hm29:My H14 Hl27 A cp 1 (out.map u8c):=hm29
    replace hxl30:Ext H14 Hl27:=hxl30
    show aw _ _ _ (RL _ (.cons 0 (.pointer (some ⟨k,0,none⟩)) (.cons 1 (.slice wA w.length wc) (.cons 5 (.pointer (some ⟨b8,0,none⟩)) (.cons 6 (.int .i64 at_) (.cons 7 (.slice A out.length cp) (.cons 35 (.slice wA w.length wc) (.cons 36 (.int .i64 (w.length:Int)) (.cons 37 (.int .i64 (i:Int)) .nil))))))))) Hl27 _
    have Hl27n:H14.next≤Hl27.next:=hxl30.1
    refine aw_seq ?_
    refine aw_reg ?_
    refine st_op (ev_int rfl rfl rfl) rfl rfl rfl ?_
    refine aw_seq ?_
    by_cases hc32:(decide ((i:Int)<(w.length:Int)))=true
    ·
     refine aw_condT hc32 rfl ?_
     have hc32:=of_decide_eq_true hc32
     refine aw_skip ?_
     refine aw_seq ?_
     refine aw_block ?_
     refine aw_seq ?_
     refine aw_reg ?_
     refine st_op (ev_move rfl) rfl rfl rfl ?_
     have h33:=Row.ext h19 hxl30
     have hi34:0≤((i:Int):Int):=by omega
     have hi35:((i:Int):Int)<((w.length:Nat):Int):=by omega
     obtain⟨x36,hx37⟩:∃ e,w[i]?=some e:=⟨_,List.getElem?_eq_getElem (by omega)⟩
     refine st_op (ev_at rfl rfl h33 (getMap Entry.cells hx37) (by first | rfl | omega | simp) hi34 hi35 el39) rfl rfl rfl ?_
     refine st_op (ev_atN (cs := [.int .i64 x36.index,.int .i64 x36.term,.int .i64 x36.kind,.string x36.data]) rfl h33 (getMap Entry.cells hx37) many54 rfl rfl (by decide)) rfl rfl rfl ?_
     obtain⟨b38,H39,he40,b38e,H39n_,hB42,f41⟩:=mem_alloc Hl27 zero54
     refine st_op (he40 _ _ _ _ _ _ _) rfl rfl rfl ?_
     have hx43:Ext Hl27 H39:=Ext.new (by omega) H39n_ f41
     have H39n:Hl27.next≤H39.next:=hx43.1
     refine st_op (ev_assign rfl) rfl rfl rfl ?_
     obtain⟨H44,he45,H44n_,hB46,f47⟩:=mem_store (v := .agg #[.int .i64 x36.index,.int .i64 x36.term,.int .i64 x36.kind,.string x36.data]) (o:=0) (cs' := [.int .i64 x36.index,.int .i64 x36.term,.int .i64 x36.kind,.string x36.data]) 4 rfl rfl size54 hB42 rfl rfl rfl
     refine st_op0 (he45 _ _ _ _ _ _ _ _ _ rfl rfl) rfl rfl ?_
     have hf48:Fr (fun q=>q=b38) H39 H44:=Fr.write H44n_ f47
     have H44n:H39.next≤H44.next:=hf48.1
     iterate 2 refine aw_seq ?_
     refine aw_marks (fun b=>b<H44.next) [(false,false),(false,false),(false,false),(false,false),(false,false),(false,false),(false,false),(false,false),(false,false),(false,false),(false,false),(false,false),(false,false),(false,false),(false,false)] mixed (by kernel_rfl) (by kernel_rfl) ?_
     refine sm_op (ev_load rfl (lvar_part (l := [.int .i64 x36.index,.int .i64 x36.term,.int .i64 x36.kind,.string x36.data]) many54 hB46 rfl rfl (by decide))) rfl rfl rfl ?_
     refine sm_op (ev_build zero95 pl95 (parts := [(2,.agg #[.int .i64 x36.index,.int .i64 x36.term,.int .i64 x36.kind,.string x36.data])]) rfl (cs := [.bool false,.int .i64 0,.int .i64 0,.int .i64 x36.index,.int .i64 x36.term,.int .i64 x36.kind,.string x36.data]) rfl) rfl rfl rfl ?_
     refine sm_call rfl rfl rfl ent43 rfl rfl rfl ?_
     obtain⟨_,H50,hs49,hs49v,hx51⟩:=wal_May_spec H44 false (0:Int) (0:Int) x36.index x36.term x36.kind x36.data
     rw[hs49v] at hs49;clear hs49v
     refine⟨_,H50,hs49,(fun h=>nomatch h),?_⟩
     have H50n:H44.next≤H50.next:=hx51.1
     refine sm_op (ev_not rfl) rfl rfl rfl ?_
     refine sm_op (ev_move rfl) rfl rfl rfl ?_
     refine sm_bool 46 rfl (fun hb52=>?_) (fun hb52=>?_)
     ·
      replace hb52:(Spec.mayF false (0:Int) (0:Int) x36.index x36.term x36.kind x36.data)=false:=by rw[Bool.not_eq_true'] at hb52;exact hb52
      iterate 9 refine sm_skip rfl rfl rfl ?_
      refine sm_op (ev_pickT rfl rfl) rfl rfl rfl ?_
      refine aw_cond (t:=true) rfl ?_
      refine aw_seq ?_
      refine aw_reg ?_
      refine st_op (ev_assign rfl) rfl rfl rfl ?_
      refine aw_ret ?_
      exfalso;have q:Spec.writeE si l w=1:=by exact Spec.writeE_row hx24 (by omega) (by rw[hr];first | exact Spec.rowE_may hx37 hb52 | exact Spec.rowE_ix hx37 (by omega))
      rw[hw0] at q;exact absurd q (by decide)
     ·
      replace hb52:(Spec.mayF false (0:Int) (0:Int) x36.index x36.term x36.kind x36.data)=true:=by rw[Bool.not_eq_false'] at hb52;exact hb52
      have hb52m:=Spec.may_says hb52
      have hb52r:=Spec.mayE_rng hb52
      refine sm_op (ev_fieldAddr rfl fa54_0 (o':=0) rfl) rfl rfl rfl ?_
      have h53:=Ext.blk hx51 (by omega) hB46
      refine sm_op (ev_load rfl (lvar_one one2 h53 rfl)) rfl rfl rfl ?_
      refine sm_op (ev_move rfl) rfl rfl rfl ?_
      have hx55:Ext Hl27 H50:=(Ext.trans (Ext.then hx43 hf48 (fun q hq e=>by omega)) hx51)
      have h54:=Row.ext h33 hx55
      have hi56:0≤(0:Int):=by omega
      have hi57:(0:Int)<((w.length:Nat):Int):=by omega
      refine sm_op (ev_at rfl rfl h54 (getMap Entry.cells hx24) (by first | rfl | omega | simp) hi56 hi57 el39) rfl rfl rfl ?_
      refine sm_op (ev_atF rfl h54 (getMap Entry.cells hx24) fa54_0 rfl) rfl rfl rfl ?_
      refine sm_op (ev_atL rfl h54 (getMap Entry.cells hx24) one2 rfl) rfl rfl rfl ?_
      refine sm_op (ev_move rfl) rfl rfl rfl ?_
      refine sm_op (ev_int64 (c:=x23.index+(i:Int)) rfl rfl rfl (by omega) (by omega)) rfl rfl rfl ?_
      refine sm_op (ev_int rfl rfl rfl) rfl rfl rfl ?_
      refine sm_op (ev_pickF rfl rfl) rfl rfl rfl ?_
      by_cases hc58:(x36.index != x23.index+(i:Int))=true
      ·
       refine aw_condT hc58 rfl ?_
       have hc58:¬ (x36.index=x23.index+(i:Int)):=by simpa using hc58
       refine aw_seq ?_
       refine aw_reg ?_
       refine st_op (ev_assign rfl) rfl rfl rfl ?_
       refine aw_ret ?_
       exfalso;have q:Spec.writeE si l w=1:=by exact Spec.writeE_row hx24 (by omega) (by rw[hr];first | exact Spec.rowE_may hx37 hb52 | exact Spec.rowE_ix hx37 (by omega))
       rw[hw0] at q;exact absurd q (by decide)
      ·
       rw[Bool.not_eq_true] at hc58;refine aw_condF hc58 rfl ?_
       have hc58:(x36.index=x23.index+(i:Int)):=by simpa using hc58
       refine aw_skip ?_
       refine aw_reg ?_
       refine st_op (ev_move rfl) rfl rfl rfl ?_
       refine st_op (ev_load rfl (lvar_part (l := [.int .i64 x36.index,.int .i64 x36.term,.int .i64 x36.kind,.string x36.data]) many54 h53 rfl rfl (by decide))) rfl rfl rfl ?_
       refine st_op (ev_build zero95 pl95 (parts := [(2,.agg #[.int .i64 x36.index,.int .i64 x36.term,.int .i64 x36.kind,.string x36.data])]) rfl (cs := [.bool false,.int .i64 0,.int .i64 0,.int .i64 x36.index,.int .i64 x36.term,.int .i64 x36.kind,.string x36.data]) rfl) rfl rfl rfl ?_
       refine st_call rfl rfl rfl ent44 rfl rfl rfl ?_
       obtain⟨_,H60,hs59,A62,c63,hs59v,hm64,hq65,hx61⟩:=wal_Encode_spec H50 false (0:Int) (0:Int) x36.index x36.term x36.kind x36.data
       rw[hs59v] at hs59;clear hs59v
       refine⟨_,H60,hs59,?_⟩
       have H60n:H50.next≤H60.next:=hx61.1
       have hx67:Ext Hl27 H60:=(Ext.trans hx55 hx61)
       have h66:=My.ext hm29 hx67
       obtain⟨A68,c69,H70,W71,he72,hm73,hf74⟩:=mem_append (f:=u8c) (old:=out) (new:=(Spec.encodeF false (0:Int) (0:Int) x36.index x36.term x36.kind x36.data)) (m:=out.length) (mx:=(Spec.encodeF false (0:Int) (0:Int) x36.index x36.term x36.kind x36.data).length) (c:=cp) (by first | rfl | simp) (by first | rfl | simp) eok26 (by decide) hm29 h66 (by omega) (((My.row hm64)).srcF (by decide) (by first | rfl | simp)) rfl u8c_len u8c_one (by first | omega | (simp only [List.length_append,List.length_cons,List.length_nil,List.length_map,List.length_set,List.length_replicate,Spec.bytesOf_length];omega) | (simp;omega)) (by first | omega | (simp only [List.length_append,List.length_cons,List.length_nil,List.length_map,List.length_set,List.length_replicate,Spec.bytesOf_length];omega) | (simp;omega))
       refine st_op (he72 _ _ _ _ _ _ _ _ _ _ rfl rfl isrow26) rfl rfl rfl ?_
       have H70n:H60.next≤H70.next:=hf74.1
       refine st_op (ev_assign rfl) rfl rfl rfl ?_
       refine aw_reg ?_
       refine st_op (ev_int64 (c:=(i:Int)+1) rfl rfl rfl (by omega) (by omega)) rfl rfl rfl ?_
       refine st_op (ev_move rfl) rfl rfl rfl ?_
       have hx75:Ext H14 H70:=(Ext.then (Ext.trans (Ext.trans (Ext.then (Ext.trans hxl30 hx43) hf48 (fun q hq e=>by omega)) hx51) hx61) hf74 (fun q hq e=>by omega))
       refine aw_keep [0,1,5,6,7,35,36,37] (l':=(.cons 0 (.pointer (some ⟨k,0,none⟩)) (.cons 1 (.slice wA w.length wc) (.cons 5 (.pointer (some ⟨b8,0,none⟩)) (.cons 6 (.int .i64 at_) (.cons 7 (.slice A68 ((out++(Spec.encodeF false (0:Int) (0:Int) x36.index x36.term x36.kind x36.data)).length) c69) (.cons 35 (.slice wA w.length wc) (.cons 36 (.int .i64 (w.length:Int)) (.cons 37 (.int .i64 ((i:Int)+1)) .nil))))))))) (by repeat (first | exact Up.done | refine Up.then ?_ | refine Up.inBlock ?_)) rfl ?_
       exact ih31 (i+1,A68,c69,(out++(Spec.encodeF false (0:Int) (0:Int) x36.index x36.term x36.kind x36.data)),H70) ⟨(show(i+1)≤w.length from(by omega)),(show Spec.encKs w=(out++(Spec.encodeF false (0:Int) (0:Int) x36.index x36.term x36.kind x36.data))++Spec.encKs (w.drop (i+1)) from(by rw[hS,Spec.encKs_step hx37,List.append_assoc];rfl)),(show Spec.rowE x23.index w=Spec.rowE (x23.index+((i+1):Int)) (w.drop (i+1)) from(by rw[hr];exact Spec.rowE_step hx37 hb52 (by omega))),(show(out++(Spec.encodeF false (0:Int) (0:Int) x36.index x36.term x36.kind x36.data)).length≤2550 * (i+1) from(by have h2:=Spec.encK_len x36;rw[List.length_append];unfold Spec.encK at h2;omega)),(show Spec.Bytes (out++(Spec.encodeF false (0:Int) (0:Int) x36.index x36.term x36.kind x36.data)) from(Spec.Bytes.append hBo (Spec.encodeF_bytes _ _ _ _ _ _ _))),(show My H14 H70 A68 c69 1 ((out++(Spec.encodeF false (0:Int) (0:Int) x36.index x36.term x36.kind x36.data)).map u8c) from hm73),(show Ext H14 H70 from hx75)⟩ (by simp only;omega)
    ·
     rw[Bool.not_eq_true] at hc32;refine aw_condF hc32 rfl ?_
     have hc32:=of_decide_eq_false hc32
     refine aw_exit ?_
     iterate 2 refine aw_seq ?_
     refine aw_reg ?_
     iterate 2 refine st_op (ev_move rfl) rfl rfl rfl ?_
     refine st_op (ev_lenSl rfl Try.underlying39) rfl rfl rfl ?_
     refine st_op (ev_int64 (c:=at_+(w.length:Int)) rfl rfl rfl (by omega) (by omega)) rfl rfl rfl ?_
     refine st_op (ev_int rfl rfl rfl) rfl rfl rfl ?_
     by_cases hc76:(decide (at_+(w.length:Int) > 200))=true
     ·
      refine aw_condT hc76 rfl ?_
      have hc76:=of_decide_eq_true hc76
      refine aw_seq ?_
      refine aw_reg ?_
      refine st_op (ev_assign rfl) rfl rfl rfl ?_
      refine aw_ret ?_
      exfalso;have q:Spec.writeE si l w=5:=by exact Spec.writeE_full hx24 (by omega) (by rw[hr,List.drop_eq_nil_of_le (by omega)];rfl) (by omega)
      rw[hw0] at q;exact absurd q (by decide)
     ·
      rw[Bool.not_eq_true] at hc76;refine aw_condF hc76 rfl ?_
      have hc76:=of_decide_eq_false hc76
      have hout:out=Spec.encKs w:=by rw[hS,List.drop_eq_nil_of_le (by omega)];exact(List.append_nil _).symm
      have hat3:at_=x23.index - si - 1:=by omega
      refine aw_skip ?_
      refine aw_seq ?_
      refine aw_reg ?_
      refine st_op (ev_fieldAddr rfl fa61_2 (o':=6) rfl) rfl rfl rfl ?_
      have h77:=Ext.blk hxl30 (by omega) hB16
      refine st_op (ev_load rfl (lvar_one one39 h77 rfl)) rfl rfl rfl ?_
      refine st_op (ev_move rfl) rfl rfl rfl ?_
      have hx87:Ext H3 Hl27:=(Ext.trans (Ext.then hx13 hf18 (fun q hq e=>by omega)) hxl30)
      have h86:=My.ext hm7 hx87
      obtain⟨A78,c79,L80,hL81,hl82,hs83,hr84⟩:=sliceA_my Entry.cells el39 (by decide) h86 (by omega) (lo:=none) (hi:=some (.int .i64 at_)) (p:=0) (q:=(at_).toNat) (by rw[Option.isSome_some,if_pos rfl];exact bound_int (by omega) (by omega) (by first | rfl | omega)) rfl (by omega) (by omega) (.inr ⟨_,_,rfl⟩)
      refine st_op (ev_slice rfl rfl rfl rfl hs83) rfl rfl rfl ?_
      refine st_op (ev_move rfl) rfl rfl rfl ?_
      have h88:=Row.ext h19 hxl30
      obtain⟨A89,c90,H91,W92,he93,hm94,hf95⟩:=mem_append (f:=Entry.cells) (old:=L80) (new:=w) (m:=L80.length) (mx:=w.length) (c:=c79) (by first | rfl | simp) (by first | rfl | simp) eok39 (by decide) hr84 hr84 (by omega) ((h88).srcF (by decide) (by first | rfl | simp)) rfl Entry.cells_len Entry.cells_one (by omega) (by omega)
      refine st_op (he93 _ _ _ _ _ _ _ _ _ _ rfl rfl isrow39) rfl rfl rfl ?_
      have H91n:Hl27.next≤H91.next:=hf95.1
      refine st_op (ev_fieldAddr rfl fa61_2 (o':=6) rfl) rfl rfl rfl ?_
      have h96:=Fr.blk hf95 (by omega) (fun e=>(zb_ne h77 e.2.2 (show(0:Nat)≠4 by decide))) h77
      obtain⟨H97,he98,H97n_,hB99,f100⟩:=mem_store (v := .slice A89 ((L80++w).length) c90) (o:=6) (cs' := [.int .i64 ht,.int .i64 hv,.int .i64 si,.int .i64 st,.string sc,.string sd,.slice A89 ((L80++w).length) c90]) 1 rfl rfl size39 h96 rfl rfl rfl
      refine st_op0 (he98 _ _ _ _ _ _ _ _ _ rfl rfl) rfl rfl ?_
      have hf101:Fr (fun q=>q=b8) H91 H97:=Fr.write H97n_ f100
      have H97n:H91.next≤H97.next:=hf101.1
      refine aw_seq ?_
      refine aw_reg ?_
      iterate 2 refine st_op (ev_move rfl) rfl rfl rfl ?_
      refine st_op (ev_load rfl (lvar_part (l := [.int .i64 ht,.int .i64 hv,.int .i64 si,.int .i64 st,.string sc,.string sd,.slice A89 ((L80++w).length) c90]) many61 hB99 rfl rfl (by decide))) rfl rfl rfl ?_
      refine st_call rfl rfl rfl ent45 rfl rfl rfl ?_
      have hx103:Ext H H97:=(Ext.then (Ext.then (Ext.trans hx20 hxl30) hf95 (fun q hq e=>by omega)) hf101 (fun q hq e=>by omega))
      have h102:=DiskR.ext rd hx103
      have h104:=Row.ext hl hx103
      have h105:=Ext.blk hx103 (by omega) Bk
      have h106:=My.frS hm29 hf95 (fun q hq e=>(ZB.ne e.2.2 (show(4:Nat)≠1 by decide)))
      have h107:=My.frS h106 hf101 (fun q hq e=>⟨_,e ▸ h96,show(0:Nat)≠1 by decide⟩)
      have h108:=My.frS hm94 hf101 (fun q hq e=>⟨_,e ▸ h96,show(0:Nat)≠4 by decide⟩)
      obtain⟨_,H110,hs109,hs109v,hB112,hS113,hx111⟩:=keep_add_spec H97 d dm dD dl dp dk h102 (by omega) ht hv si ⟨by omega,by omega⟩ st sc sd lA l lc h104 cl (by first | omega | (simp only [List.length_append,List.length_cons,List.length_nil,List.length_map,List.length_set,List.length_replicate,Spec.bytesOf_length];omega) | (simp;omega)) sz ⟨by omega,by omega⟩ k (by omega) h105 nk A out cp (My.row h107) (My.capF h107 (by first | omega | (simp only [List.length_append,List.length_cons,List.length_nil,List.length_map,List.length_set,List.length_replicate,Spec.bytesOf_length];omega) | (simp;omega))) (by first | omega | (simp only [List.length_append,List.length_cons,List.length_nil,List.length_map,List.length_set,List.length_replicate,Spec.bytesOf_length];omega) | (simp;omega)) (by assumption) ht hv si st sc sd A89 (L80++w) c90 (My.row h108) (My.capF h108 (by first | omega | (simp only [List.length_append,List.length_cons,List.length_nil,List.length_map,List.length_set,List.length_replicate,Spec.bytesOf_length];omega) | (simp;omega))) (by first | omega | (simp only [List.length_append,List.length_cons,List.length_nil,List.length_map,List.length_set,List.length_replicate,Spec.bytesOf_length];omega) | (simp;omega)) (RowA.of_my h107 (fun q e=>by replace e:=rd.below _ e;omega)) (by first | exact hg | (rw[hout];exact hg)) (by exact hf)
      rw[hs109v] at hs109;clear hs109v
      refine⟨_,H110,hs109,?_⟩
      have H110n:H97.next≤H110.next:=hx111.1
      obtain⟨D114,k115,⟨mb116,ps117,hr118⟩,hk119,hb120⟩:=hS113
      have k115b:=hr118.kb
      have hno122:¬ D114 k:=fun e=>(hb120 _ e).elim nk (fun e=>by omega)
      have hD123:=fun q e=>(hb120 q e).imp (rd.below q) id
      have hS124:∀ q,D114 q→dD q∨(H.next≤q∧q<H110.next):=fun q e=>(hb120 q e).elim (fun e=>(sub_d q e).imp id (fun e=>by omega)) (fun e => .inr (by omega))
      refine st_op (ev_assign rfl) rfl rfl rfl ?_
      refine aw_ret ?_
      have h125:=My.frS h108 hx111 (fun q hq e=>Or.elim e (fun e=>⟨_,e ▸ h105,show(0:Nat)≠4 by decide⟩) (fun e=>(Z01.ne e.2 (show(4:Nat)≠0 by decide) (show(4:Nat)≠1 by decide))))
      have hres:((Spec.writeL si l w),(Spec.addF dl sz (Spec.wholeF ht hv si st sc sd l) (Spec.encKs w)).1,(Spec.addF dl sz (Spec.wholeF ht hv si st sc sd l) (Spec.encKs w)).2)=((L80++w),((Spec.addF dl sz (Spec.wholeF ht hv si st sc sd l) out).1),((Spec.addF dl sz (Spec.wholeF ht hv si st sc sd l) out).2)):=by rw[Spec.writeL_is hx24,← hat3,hout,hL81];simp
      have he0:(Spec.writeL si l w)=(L80++w):=congrArg (fun p=>p.1) hres
      have he1:(Spec.addF dl sz (Spec.wholeF ht hv si st sc sd l) (Spec.encKs w)).1=((Spec.addF dl sz (Spec.wholeF ht hv si st sc sd l) out).1):=congrArg (fun p=>p.2.1) hres
      have he2:(Spec.addF dl sz (Spec.wholeF ht hv si st sc sd l) (Spec.encKs w)).2=((Spec.addF dl sz (Spec.wholeF ht hv si st sc sd l) out).2):=congrArg (fun p=>p.2.2) hres
      exact⟨.int .i64 0,rfl,A89,c90,rfl,(by first | exact h125 | (rw[he0];exact h125) | (rw[he1];exact h125) | (rw[he2];exact h125) | (rw[he0,he1];exact h125) | (simp only [he0,he1,he2];exact h125)),(by first | exact hB112 | (rw[he0];exact hB112) | (rw[he1];exact hB112) | (rw[he2];exact hB112) | (rw[he0,he1];exact hB112) | (simp only [he0,he1,he2];exact hB112)),(by first | exact⟨D114,k115,⟨_,_,hr118⟩,by omega,(fun q e=>(hS124 q e).imp id (fun e=>by omega))⟩ | (rw[he0];exact⟨D114,k115,⟨_,_,hr118⟩,by omega,(fun q e=>(hS124 q e).imp id (fun e=>by omega))⟩) | (rw[he1];exact⟨D114,k115,⟨_,_,hr118⟩,by omega,(fun q e=>(hS124 q e).imp id (fun e=>by omega))⟩) | (rw[he2];exact⟨D114,k115,⟨_,_,hr118⟩,by omega,(fun q e=>(hS124 q e).imp id (fun e=>by omega))⟩) | (rw[he0,he1];exact⟨D114,k115,⟨_,_,hr118⟩,by omega,(fun q e=>(hS124 q e).imp id (fun e=>by omega))⟩) | (simp only [he0,he1,he2];exact⟨D114,k115,⟨_,_,hr118⟩,by omega,(fun q e=>(hS124 q e).imp id (fun e=>by omega))⟩)),(Fr.transG (Fr.transG (Fr.transG (Fr.trans (Fr.transG (Fr.trans (Fr.trans (Fr.refl (fun q=>q=k∨(dD q∧Z01 H q)) H) (hx4.fr fun _=>False) (fun q hq (e:False)=>e.elim)) (hx13.fr fun _=>False) (fun q hq (e:False)=>e.elim)) hf18 (fun q hq hE e=>absurd hq (by omega))) (hxl30.fr fun _=>False) (fun q hq (e:False)=>e.elim)) hf95 (fun q hq hE e=>absurd hq (by omega))) hf101 (fun q hq hE e=>absurd hq (by omega))) hx111 (fun q hq hE e=>Or.elim e (fun e=>Or.inl (e)) (fun e=>Or.inr ((⟨e.1,Z01.back hE e.2⟩)))))⟩
theorem keep_WriteErr_spec (H:Heap) (d dm:Nat) (dD:Nat→Prop) (dl:Files) (dp:List Place) (dk:Int) (rd:DiskR dD H d dm dl dp dk) (kd:dk≤1099511627000) (ht:Int) (hv:Int) (si:Int) (hsi:0≤si∧si≤1099511627776) (st:Int) (sc:ByteArray) (sd:ByteArray) (lA:Option Addr) (l:List Entry) (lc:Nat) (hl:Row H lA lc 4 (l.map Entry.cells)) (cl:l.length≤lc) (ll:l.length≤200) (sz:Int) (hsz:0≤sz∧sz≤1048576) (k:Nat) (hk:k<H.next) (Bk:H.blk k=some ⟨[.pointer (some ⟨d,0,none⟩),.int .i64 ht,.int .i64 hv,.int .i64 si,.int .i64 st,.string sc,.string sd,.slice lA l.length lc,.int .i64 sz],0,false,false⟩) (nk:¬ dD k) (wA:Option Addr) (w:List Entry) (wc:Nat) (hw:Row H wA wc 4 (w.map Entry.cells)) (cw:w.length≤wc) (lw:w.length≤1000) (bw:Spec.EntsI w) (hwe:Spec.writeE si l w≠0∨w = []):∃ v H',Spec Try.prog 22 [.pointer (some ⟨k,0,none⟩),.slice wA w.length wc] H v H'∧((v = .int .i64 (Spec.writeE si l w))∧(Ext H H')):=by
 have bd:=rd.below _ rd.dp;have bdm:=rd.below _ rd.dm;have zd:=rd.kb
 have sub_d:∀ q,dD q→dD q∨(H.next≤q∧q<H.next):=fun q e => .inl e
 refine spec_go2 E0_ok 79 (f:=22) Try.func22 rfl rfl rfl ?_
 refine aw_seq ?_
 refine aw_reg ?_
 refine st_op (ev_assign rfl) rfl rfl rfl ?_
 iterate 2 refine aw_seq ?_
 refine aw_reg ?_
 refine st_op (ev_move rfl) rfl rfl rfl ?_
 refine st_op (ev_nilEq rfl rfl Try.underlying42) rfl rfl rfl ?_
 refine aw_cond (t:=false) rfl ?_
 refine aw_skip ?_
 iterate 2 refine aw_seq ?_
 refine aw_reg ?_
 refine st_op (ev_move rfl) rfl rfl rfl ?_
 refine st_op (ev_lenSl rfl Try.underlying39) rfl rfl rfl ?_
 refine st_op (ev_int rfl rfl rfl) rfl rfl rfl ?_
 by_cases hc1:((w.length:Int) == 0)=true
 ·
  refine aw_condT hc1 rfl ?_
  have hc1:=eq_of_beq hc1
  refine aw_seq ?_
  refine aw_reg ?_
  refine st_op (ev_assign rfl) rfl rfl rfl ?_
  refine aw_ret ?_
  have hres:(Spec.writeE si l w)=0:=by rw[show w = [] from List.eq_nil_of_length_eq_zero (by omega)];rfl
  exact⟨.int .i64 0,rfl,by first | (rw[hres];done) | rw[← hres],(Ext.refl H)⟩
 ·
  rw[Bool.not_eq_true] at hc1;refine aw_condF hc1 rfl ?_
  have hc1:=ne_of_beq_false hc1
  refine aw_skip ?_
  refine aw_seq ?_
  refine aw_reg ?_
  refine st_op (ev_move rfl) rfl rfl rfl ?_
  refine st_call rfl rfl rfl ent26 rfl rfl rfl ?_
  obtain⟨_,H3,hs2,A5,c6,hs2v,hm7,hx4⟩:=keep_State_spec H d dm dD dl dp dk rd (by omega) ht hv si ⟨by omega,by omega⟩ st sc sd lA l lc hl cl (by omega) sz ⟨by omega,by omega⟩ k (by omega) Bk nk
  rw[hs2v] at hs2;clear hs2v
  refine⟨_,H3,hs2,?_⟩
  have H3n:H.next≤H3.next:=hx4.1
  obtain⟨b8,H9,he10,b8e,H9n_,hB12,f11⟩:=mem_alloc H3 zero61
  refine st_op (he10 _ _ _ _ _ _ _) rfl rfl rfl ?_
  have hx13:Ext H3 H9:=Ext.new (by omega) H9n_ f11
  have H9n:H3.next≤H9.next:=hx13.1
  obtain⟨H14,he15,H14n_,hB16,f17⟩:=mem_store (v := .agg #[.int .i64 ht,.int .i64 hv,.int .i64 si,.int .i64 st,.string sc,.string sd,.slice A5 l.length c6]) (o:=0) (cs' := [.int .i64 ht,.int .i64 hv,.int .i64 si,.int .i64 st,.string sc,.string sd,.slice A5 l.length c6]) 7 rfl rfl size61 hB12 rfl rfl rfl
  refine st_op0 (he15 _ _ _ _ _ _ _ _ _ rfl rfl) rfl rfl ?_
  have hf18:Fr (fun q=>q=b8) H9 H14:=Fr.write H14n_ f17
  have H14n:H9.next≤H14.next:=hf18.1
  refine aw_seq ?_
  refine aw_marks (fun b=>b<H14.next) [(false,false),(false,false),(false,false),(false,false),(false,false),(false,false),(false,false),(false,false),(false,false),(false,false)] mixed (by kernel_rfl) (by kernel_rfl) ?_
  refine sm_op (ev_move rfl) rfl rfl rfl ?_
  have hx20:Ext H H14:=(Ext.then (Ext.trans hx4 hx13) hf18 (fun q hq e=>by omega))
  have h19:=Row.ext hw hx20
  have hi21:0≤(0:Int):=by omega
  have hi22:(0:Int)<((w.length:Nat):Int):=by omega
  obtain⟨x23,hx24⟩:∃ e,w[0]?=some e:=⟨_,List.getElem?_eq_getElem (by omega)⟩
  have hwi:=bw _ (List.mem_of_getElem? hx24)
  refine sm_op (ev_at rfl rfl h19 (getMap Entry.cells hx24) (by first | rfl | omega | simp) hi21 hi22 el39) rfl rfl rfl ?_
  refine sm_op (ev_atF rfl h19 (getMap Entry.cells hx24) fa54_0 rfl) rfl rfl rfl ?_
  refine sm_op (ev_atL rfl h19 (getMap Entry.cells hx24) one2 rfl) rfl rfl rfl ?_
  refine sm_op (ev_fieldAddr rfl fa61_1 (o':=2) rfl) rfl rfl rfl ?_
  refine sm_op (ev_fieldAddr rfl fa46_0 (o':=2) rfl) rfl rfl rfl ?_
  refine sm_op (ev_load rfl (lvar_one one2 hB16 rfl)) rfl rfl rfl ?_
  iterate 2 refine sm_op (ev_int rfl rfl rfl) rfl rfl rfl ?_
  have hat:=Spec.at_wrap (x:=x23.index) (s:=si) hwi (by omega)
  generalize hatv:(IntKind.i64.wrap ((IntKind.i64.wrap (x23.index - si)) - 1))=at_ at hat
  have hatr : -9223372036854775808≤at_∧at_≤9223372036854775807:=by rw[← hatv];exact wrapI64 _
  refine sm_op (ev_assign rfl) rfl rfl rfl ?_
  iterate 2 refine aw_seq ?_
  refine aw_reg ?_
  refine st_op (ev_move rfl) rfl rfl rfl ?_
  refine st_op (ev_int rfl rfl rfl) rfl rfl rfl ?_
  refine st_op (ev_move rfl) rfl rfl rfl ?_
  refine st_bool 28 rfl (fun hb25=>?_) (fun hb25=>?_)
  ·
   have hb25:=of_decide_eq_true hb25
   iterate 5 refine st_skip rfl rfl rfl ?_
   refine st_op (ev_pickT rfl rfl) rfl rfl rfl ?_
   refine aw_cond (t:=true) rfl ?_
   refine aw_seq ?_
   refine aw_reg ?_
   refine st_op (ev_assign rfl) rfl rfl rfl ?_
   refine aw_ret ?_
   have hres:(Spec.writeE si l w)=1:=by exact Spec.writeE_out hx24 (fun c=>by have:=hat.1 ⟨by omega,by omega⟩;omega)
   exact⟨.int .i64 1,rfl,by first | (rw[hres];done) | rw[← hres],hx20⟩
  ·
   have hb25:=of_decide_eq_false hb25
   refine st_op (ev_move rfl) rfl rfl rfl ?_
   refine st_op (ev_fieldAddr rfl fa61_2 (o':=6) rfl) rfl rfl rfl ?_
   refine st_op (ev_load rfl (lvar_one one39 hB16 rfl)) rfl rfl rfl ?_
   refine st_op (ev_lenSl rfl Try.underlying39) rfl rfl rfl ?_
   refine st_op (ev_int rfl rfl rfl) rfl rfl rfl ?_
   refine st_op (ev_pickF rfl rfl) rfl rfl rfl ?_
   by_cases hc26:(decide (at_ > (l.length:Int)))=true
   ·
    refine aw_condT hc26 rfl ?_
    have hc26:=of_decide_eq_true hc26
    refine aw_seq ?_
    refine aw_reg ?_
    refine st_op (ev_assign rfl) rfl rfl rfl ?_
    refine aw_ret ?_
    have hres:(Spec.writeE si l w)=1:=by exact Spec.writeE_out hx24 (fun c=>by have:=hat.1 ⟨by omega,by omega⟩;omega)
    exact⟨.int .i64 1,rfl,by first | (rw[hres];done) | rw[← hres],hx20⟩
   ·
    rw[Bool.not_eq_true] at hc26;refine aw_condF hc26 rfl ?_
    have hc26:=of_decide_eq_false hc26
    refine aw_skip ?_
    refine aw_seq ?_
    refine aw_reg ?_
    refine st_op (ev_assign rfl) rfl rfl rfl ?_
    iterate 2 refine aw_seq ?_
    refine aw_reg ?_
    refine st_op (ev_move rfl) rfl rfl rfl ?_
    refine st_op (ev_lenSl rfl Try.underlying39) rfl rfl rfl ?_
    refine st_op (ev_move rfl) rfl rfl rfl ?_
    refine aw_block ?_
    have hx0b:0≤x23.index∧x23.index≤2199023255552:=by omega
    have hm28:My H14 H14 none 0 1 (([]:List Int).map u8c) := .nil
    refine aw_keep [0,1,5,6,7,35,36,37] (l':=(.cons 0 (.pointer (some ⟨k,0,none⟩)) (.cons 1 (.slice wA w.length wc) (.cons 5 (.pointer (some ⟨b8,0,none⟩)) (.cons 6 (.int .i64 at_) (.cons 7 (.slice none 0 0) (.cons 35 (.slice wA w.length wc) (.cons 36 (.int .i64 (w.length:Int)) (.cons 37 (.int .i64 0) .nil))))))))) (by repeat (first | exact Up.done | refine Up.then ?_ | refine Up.inBlock ?_)) rfl ?_
    refine aw_iter (α:=Nat×Option Addr×Nat×List Int×Heap) (fun a=>w.length - a.1) (fun a=>(.cons 0 (.pointer (some ⟨k,0,none⟩)) (.cons 1 (.slice wA w.length wc) (.cons 5 (.pointer (some ⟨b8,0,none⟩)) (.cons 6 (.int .i64 at_) (.cons 7 (.slice a.2.1 a.2.2.2.1.length a.2.2.1) (.cons 35 (.slice wA w.length wc) (.cons 36 (.int .i64 (w.length:Int)) (.cons 37 (.int .i64 (a.1:Int)) .nil))))))))) (fun a=>a.2.2.2.2) (fun a=>(a.1≤w.length)∧(Spec.encKs w=a.2.2.2.1++Spec.encKs (w.drop a.1))∧(Spec.rowE x23.index w=Spec.rowE (x23.index+(a.1:Int)) (w.drop a.1))∧(a.2.2.2.1.length≤2550 * a.1)∧(Spec.Bytes a.2.2.2.1)∧(My H14 a.2.2.2.2 a.2.1 a.2.2.1 1 (a.2.2.2.1.map u8c))∧(Ext H14 a.2.2.2.2)) (0,none,0,([]:List Int),H14) ⟨(show 0≤w.length from Nat.zero_le _),(show Spec.encKs w=([]:List Int)++Spec.encKs (w.drop 0) from rfl),(show Spec.rowE x23.index w=Spec.rowE (x23.index+(0:Int)) (w.drop 0) from(by simp)),(show([]:List Int).length≤2550 * 0 from(Nat.le_refl _)),(show Spec.Bytes ([]:List Int) from Spec.Bytes.nil),(show My H14 H14 none 0 1 (([]:List Int).map u8c) from hm28),(show Ext H14 H14 from(Ext.refl H14))⟩ ?_
    rintro⟨i,A,cp,out,Hl27⟩ ⟨hi,hS,hr,hL,hBo,hm29,hxl30⟩ ih31
    replace hi:i≤w.length:=hi
    replace hS:Spec.encKs w=out++Spec.encKs (w.drop i):=hS
    replace hr:Spec.rowE x23.index w=Spec.rowE (x23.index+(i:Int)) (w.drop i):=hr
    replace hL:out.length≤2550 * i:=hL
    replace hBo:Spec.Bytes out:=hBo
    replace hm29:My H14 Hl27 A cp 1 (out.map u8c):=hm29
    replace hxl30:Ext H14 Hl27:=hxl30
    show aw _ _ _ (RL _ (.cons 0 (.pointer (some ⟨k,0,none⟩)) (.cons 1 (.slice wA w.length wc) (.cons 5 (.pointer (some ⟨b8,0,none⟩)) (.cons 6 (.int .i64 at_) (.cons 7 (.slice A out.length cp) (.cons 35 (.slice wA w.length wc) (.cons 36 (.int .i64 (w.length:Int)) (.cons 37 (.int .i64 (i:Int)) .nil))))))))) Hl27 _
    have Hl27n:H14.next≤Hl27.next:=hxl30.1
    refine aw_seq ?_
    refine aw_reg ?_
    refine st_op (ev_int rfl rfl rfl) rfl rfl rfl ?_
    refine aw_seq ?_
    by_cases hc32:(decide ((i:Int)<(w.length:Int)))=true
    ·
     refine aw_condT hc32 rfl ?_
     have hc32:=of_decide_eq_true hc32
     refine aw_skip ?_
     refine aw_seq ?_
     refine aw_block ?_
     refine aw_seq ?_
     refine aw_reg ?_
     refine st_op (ev_move rfl) rfl rfl rfl ?_
     have h33:=Row.ext h19 hxl30
     have hi34:0≤((i:Int):Int):=by omega
     have hi35:((i:Int):Int)<((w.length:Nat):Int):=by omega
     obtain⟨x36,hx37⟩:∃ e,w[i]?=some e:=⟨_,List.getElem?_eq_getElem (by omega)⟩
     refine st_op (ev_at rfl rfl h33 (getMap Entry.cells hx37) (by first | rfl | omega | simp) hi34 hi35 el39) rfl rfl rfl ?_
     refine st_op (ev_atN (cs := [.int .i64 x36.index,.int .i64 x36.term,.int .i64 x36.kind,.string x36.data]) rfl h33 (getMap Entry.cells hx37) many54 rfl rfl (by decide)) rfl rfl rfl ?_
     obtain⟨b38,H39,he40,b38e,H39n_,hB42,f41⟩:=mem_alloc Hl27 zero54
     refine st_op (he40 _ _ _ _ _ _ _) rfl rfl rfl ?_
     have hx43:Ext Hl27 H39:=Ext.new (by omega) H39n_ f41
     have H39n:Hl27.next≤H39.next:=hx43.1
     refine st_op (ev_assign rfl) rfl rfl rfl ?_
     obtain⟨H44,he45,H44n_,hB46,f47⟩:=mem_store (v := .agg #[.int .i64 x36.index,.int .i64 x36.term,.int .i64 x36.kind,.string x36.data]) (o:=0) (cs' := [.int .i64 x36.index,.int .i64 x36.term,.int .i64 x36.kind,.string x36.data]) 4 rfl rfl size54 hB42 rfl rfl rfl
     refine st_op0 (he45 _ _ _ _ _ _ _ _ _ rfl rfl) rfl rfl ?_
     have hf48:Fr (fun q=>q=b38) H39 H44:=Fr.write H44n_ f47
     have H44n:H39.next≤H44.next:=hf48.1
     iterate 2 refine aw_seq ?_
     refine aw_marks (fun b=>b<H44.next) [(false,false),(false,false),(false,false),(false,false),(false,false),(false,false),(false,false),(false,false),(false,false),(false,false),(false,false),(false,false),(false,false),(false,false),(false,false)] mixed (by kernel_rfl) (by kernel_rfl) ?_
     refine sm_op (ev_load rfl (lvar_part (l := [.int .i64 x36.index,.int .i64 x36.term,.int .i64 x36.kind,.string x36.data]) many54 hB46 rfl rfl (by decide))) rfl rfl rfl ?_
     refine sm_op (ev_build zero95 pl95 (parts := [(2,.agg #[.int .i64 x36.index,.int .i64 x36.term,.int .i64 x36.kind,.string x36.data])]) rfl (cs := [.bool false,.int .i64 0,.int .i64 0,.int .i64 x36.index,.int .i64 x36.term,.int .i64 x36.kind,.string x36.data]) rfl) rfl rfl rfl ?_
     refine sm_call rfl rfl rfl ent43 rfl rfl rfl ?_
     obtain⟨_,H50,hs49,hs49v,hx51⟩:=wal_May_spec H44 false (0:Int) (0:Int) x36.index x36.term x36.kind x36.data
     rw[hs49v] at hs49;clear hs49v
     refine⟨_,H50,hs49,(fun h=>nomatch h),?_⟩
     have H50n:H44.next≤H50.next:=hx51.1
     refine sm_op (ev_not rfl) rfl rfl rfl ?_
     refine sm_op (ev_move rfl) rfl rfl rfl ?_
     refine sm_bool 46 rfl (fun hb52=>?_) (fun hb52=>?_)
     ·
      replace hb52:(Spec.mayF false (0:Int) (0:Int) x36.index x36.term x36.kind x36.data)=false:=by rw[Bool.not_eq_true'] at hb52;exact hb52
      iterate 9 refine sm_skip rfl rfl rfl ?_
      refine sm_op (ev_pickT rfl rfl) rfl rfl rfl ?_
      refine aw_cond (t:=true) rfl ?_
      refine aw_seq ?_
      refine aw_reg ?_
      refine st_op (ev_assign rfl) rfl rfl rfl ?_
      refine aw_ret ?_
      have hx53:Ext H H50:=(Ext.trans (Ext.then (Ext.trans (Ext.trans hx20 hxl30) hx43) hf48 (fun q hq e=>by omega)) hx51)
      have hres:(Spec.writeE si l w)=1:=by exact Spec.writeE_row hx24 (by omega) (by rw[hr];first | exact Spec.rowE_may hx37 hb52 | exact Spec.rowE_ix hx37 (by omega))
      exact⟨.int .i64 1,rfl,by first | (rw[hres];done) | rw[← hres],hx53⟩
     ·
      replace hb52:(Spec.mayF false (0:Int) (0:Int) x36.index x36.term x36.kind x36.data)=true:=by rw[Bool.not_eq_false'] at hb52;exact hb52
      have hb52m:=Spec.may_says hb52
      have hb52r:=Spec.mayE_rng hb52
      refine sm_op (ev_fieldAddr rfl fa54_0 (o':=0) rfl) rfl rfl rfl ?_
      have h54:=Ext.blk hx51 (by omega) hB46
      refine sm_op (ev_load rfl (lvar_one one2 h54 rfl)) rfl rfl rfl ?_
      refine sm_op (ev_move rfl) rfl rfl rfl ?_
      have hx56:Ext Hl27 H50:=(Ext.trans (Ext.then hx43 hf48 (fun q hq e=>by omega)) hx51)
      have h55:=Row.ext h33 hx56
      have hi57:0≤(0:Int):=by omega
      have hi58:(0:Int)<((w.length:Nat):Int):=by omega
      refine sm_op (ev_at rfl rfl h55 (getMap Entry.cells hx24) (by first | rfl | omega | simp) hi57 hi58 el39) rfl rfl rfl ?_
      refine sm_op (ev_atF rfl h55 (getMap Entry.cells hx24) fa54_0 rfl) rfl rfl rfl ?_
      refine sm_op (ev_atL rfl h55 (getMap Entry.cells hx24) one2 rfl) rfl rfl rfl ?_
      refine sm_op (ev_move rfl) rfl rfl rfl ?_
      refine sm_op (ev_int64 (c:=x23.index+(i:Int)) rfl rfl rfl (by omega) (by omega)) rfl rfl rfl ?_
      refine sm_op (ev_int rfl rfl rfl) rfl rfl rfl ?_
      refine sm_op (ev_pickF rfl rfl) rfl rfl rfl ?_
      by_cases hc59:(x36.index != x23.index+(i:Int))=true
      ·
       refine aw_condT hc59 rfl ?_
       have hc59:¬ (x36.index=x23.index+(i:Int)):=by simpa using hc59
       refine aw_seq ?_
       refine aw_reg ?_
       refine st_op (ev_assign rfl) rfl rfl rfl ?_
       refine aw_ret ?_
       have hx60:Ext H H50:=(Ext.trans (Ext.then (Ext.trans (Ext.trans hx20 hxl30) hx43) hf48 (fun q hq e=>by omega)) hx51)
       have hres:(Spec.writeE si l w)=1:=by exact Spec.writeE_row hx24 (by omega) (by rw[hr];first | exact Spec.rowE_may hx37 hb52 | exact Spec.rowE_ix hx37 (by omega))
       exact⟨.int .i64 1,rfl,by first | (rw[hres];done) | rw[← hres],hx60⟩
      ·
       rw[Bool.not_eq_true] at hc59;refine aw_condF hc59 rfl ?_
       have hc59:(x36.index=x23.index+(i:Int)):=by simpa using hc59
       refine aw_skip ?_
       refine aw_reg ?_
       refine st_op (ev_move rfl) rfl rfl rfl ?_
       refine st_op (ev_load rfl (lvar_part (l := [.int .i64 x36.index,.int .i64 x36.term,.int .i64 x36.kind,.string x36.data]) many54 h54 rfl rfl (by decide))) rfl rfl rfl ?_
       refine st_op (ev_build zero95 pl95 (parts := [(2,.agg #[.int .i64 x36.index,.int .i64 x36.term,.int .i64 x36.kind,.string x36.data])]) rfl (cs := [.bool false,.int .i64 0,.int .i64 0,.int .i64 x36.index,.int .i64 x36.term,.int .i64 x36.kind,.string x36.data]) rfl) rfl rfl rfl ?_
       refine st_call rfl rfl rfl ent44 rfl rfl rfl ?_
       obtain⟨_,H62,hs61,A64,c65,hs61v,hm66,hq67,hx63⟩:=wal_Encode_spec H50 false (0:Int) (0:Int) x36.index x36.term x36.kind x36.data
       rw[hs61v] at hs61;clear hs61v
       refine⟨_,H62,hs61,?_⟩
       have H62n:H50.next≤H62.next:=hx63.1
       have hx69:Ext Hl27 H62:=(Ext.trans hx56 hx63)
       have h68:=My.ext hm29 hx69
       obtain⟨A70,c71,H72,W73,he74,hm75,hf76⟩:=mem_append (f:=u8c) (old:=out) (new:=(Spec.encodeF false (0:Int) (0:Int) x36.index x36.term x36.kind x36.data)) (m:=out.length) (mx:=(Spec.encodeF false (0:Int) (0:Int) x36.index x36.term x36.kind x36.data).length) (c:=cp) (by first | rfl | simp) (by first | rfl | simp) eok26 (by decide) hm29 h68 (by omega) (((My.row hm66)).srcF (by decide) (by first | rfl | simp)) rfl u8c_len u8c_one (by first | omega | (simp only [List.length_append,List.length_cons,List.length_nil,List.length_map,List.length_set,List.length_replicate,Spec.bytesOf_length];omega) | (simp;omega)) (by first | omega | (simp only [List.length_append,List.length_cons,List.length_nil,List.length_map,List.length_set,List.length_replicate,Spec.bytesOf_length];omega) | (simp;omega))
       refine st_op (he74 _ _ _ _ _ _ _ _ _ _ rfl rfl isrow26) rfl rfl rfl ?_
       have H72n:H62.next≤H72.next:=hf76.1
       refine st_op (ev_assign rfl) rfl rfl rfl ?_
       refine aw_reg ?_
       refine st_op (ev_int64 (c:=(i:Int)+1) rfl rfl rfl (by omega) (by omega)) rfl rfl rfl ?_
       refine st_op (ev_move rfl) rfl rfl rfl ?_
       have hx77:Ext H14 H72:=(Ext.then (Ext.trans (Ext.trans (Ext.then (Ext.trans hxl30 hx43) hf48 (fun q hq e=>by omega)) hx51) hx63) hf76 (fun q hq e=>by omega))
       refine aw_keep [0,1,5,6,7,35,36,37] (l':=(.cons 0 (.pointer (some ⟨k,0,none⟩)) (.cons 1 (.slice wA w.length wc) (.cons 5 (.pointer (some ⟨b8,0,none⟩)) (.cons 6 (.int .i64 at_) (.cons 7 (.slice A70 ((out++(Spec.encodeF false (0:Int) (0:Int) x36.index x36.term x36.kind x36.data)).length) c71) (.cons 35 (.slice wA w.length wc) (.cons 36 (.int .i64 (w.length:Int)) (.cons 37 (.int .i64 ((i:Int)+1)) .nil))))))))) (by repeat (first | exact Up.done | refine Up.then ?_ | refine Up.inBlock ?_)) rfl ?_
       exact ih31 (i+1,A70,c71,(out++(Spec.encodeF false (0:Int) (0:Int) x36.index x36.term x36.kind x36.data)),H72) ⟨(show(i+1)≤w.length from(by omega)),(show Spec.encKs w=(out++(Spec.encodeF false (0:Int) (0:Int) x36.index x36.term x36.kind x36.data))++Spec.encKs (w.drop (i+1)) from(by rw[hS,Spec.encKs_step hx37,List.append_assoc];rfl)),(show Spec.rowE x23.index w=Spec.rowE (x23.index+((i+1):Int)) (w.drop (i+1)) from(by rw[hr];exact Spec.rowE_step hx37 hb52 (by omega))),(show(out++(Spec.encodeF false (0:Int) (0:Int) x36.index x36.term x36.kind x36.data)).length≤2550 * (i+1) from(by have h2:=Spec.encK_len x36;rw[List.length_append];unfold Spec.encK at h2;omega)),(show Spec.Bytes (out++(Spec.encodeF false (0:Int) (0:Int) x36.index x36.term x36.kind x36.data)) from(Spec.Bytes.append hBo (Spec.encodeF_bytes _ _ _ _ _ _ _))),(show My H14 H72 A70 c71 1 ((out++(Spec.encodeF false (0:Int) (0:Int) x36.index x36.term x36.kind x36.data)).map u8c) from hm75),(show Ext H14 H72 from hx77)⟩ (by simp only;omega)
    ·
     rw[Bool.not_eq_true] at hc32;refine aw_condF hc32 rfl ?_
     have hc32:=of_decide_eq_false hc32
     refine aw_exit ?_
     iterate 2 refine aw_seq ?_
     refine aw_reg ?_
     iterate 2 refine st_op (ev_move rfl) rfl rfl rfl ?_
     refine st_op (ev_lenSl rfl Try.underlying39) rfl rfl rfl ?_
     refine st_op (ev_int64 (c:=at_+(w.length:Int)) rfl rfl rfl (by omega) (by omega)) rfl rfl rfl ?_
     refine st_op (ev_int rfl rfl rfl) rfl rfl rfl ?_
     by_cases hc78:(decide (at_+(w.length:Int) > 200))=true
     ·
      refine aw_condT hc78 rfl ?_
      have hc78:=of_decide_eq_true hc78
      refine aw_seq ?_
      refine aw_reg ?_
      refine st_op (ev_assign rfl) rfl rfl rfl ?_
      refine aw_ret ?_
      have hx79:Ext H Hl27:=(Ext.trans hx20 hxl30)
      have hres:(Spec.writeE si l w)=5:=by exact Spec.writeE_full hx24 (by omega) (by rw[hr,List.drop_eq_nil_of_le (by omega)];rfl) (by omega)
      exact⟨.int .i64 5,rfl,by first | (rw[hres];done) | rw[← hres],hx79⟩
     ·
      rw[Bool.not_eq_true] at hc78;refine aw_condF hc78 rfl ?_
      have hc78:=of_decide_eq_false hc78
      rcases hwe with q | q
      ·
       exact absurd (Spec.writeE_ok hx24 (by omega) (by rw[hr,List.drop_eq_nil_of_le (by omega)];rfl) (by omega)) q
      ·
       rw[q] at hx24;cases hx24
theorem keep_SyncZero_spec (H:Heap) (d dm:Nat) (dD:Nat→Prop) (dl:Files) (dp:List Place) (dk:Int) (rd:DiskR dD H d dm dl dp dk) (kd:dk≤1099511627000) (ht:Int) (hv:Int) (si:Int) (hsi:0≤si∧si≤1099511627776) (st:Int) (sc:ByteArray) (sd:ByteArray) (lA:Option Addr) (l:List Entry) (lc:Nat) (hl:Row H lA lc 4 (l.map Entry.cells)) (cl:l.length≤lc) (ll:l.length≤200) (sz:Int) (hsz:0≤sz∧sz≤1048576) (k:Nat) (hk:k<H.next) (Bk:H.blk k=some ⟨[.pointer (some ⟨d,0,none⟩),.int .i64 ht,.int .i64 hv,.int .i64 si,.int .i64 st,.string sc,.string sd,.slice lA l.length lc,.int .i64 sz],0,false,false⟩) (nk:¬ dD k) (hz:sz=0):∃ v H',Spec Try.prog 27 [.pointer (some ⟨k,0,none⟩)] H v H'∧((v = .int .i64 0)∧(Ext H H')):=by
 have bd:=rd.below _ rd.dp;have bdm:=rd.below _ rd.dm;have zd:=rd.kb
 have sub_d:∀ q,dD q→dD q∨(H.next≤q∧q<H.next):=fun q e => .inl e
 refine spec_go1 E0_ok 17 (f:=27) Try.func27 rfl rfl rfl ?_
 refine aw_seq ?_
 refine aw_reg ?_
 refine st_op (ev_assign rfl) rfl rfl rfl ?_
 refine aw_seq ?_
 refine aw_block ?_
 refine aw_seq ?_
 refine aw_reg ?_
 refine st_op (ev_move rfl) rfl rfl rfl ?_
 refine st_op (ev_nilEq rfl rfl Try.underlying42) rfl rfl rfl ?_
 refine st_op (ev_assign rfl) rfl rfl rfl ?_
 refine aw_cond (t:=false) rfl ?_
 refine aw_seq ?_
 refine aw_reg ?_
 refine st_op (ev_move rfl) rfl rfl rfl ?_
 refine st_op (ev_nilCheck rfl) rfl rfl rfl ?_
 refine st_op (ev_fieldAddr rfl fa88_2 (o':=8) rfl) rfl rfl rfl ?_
 refine st_op (ev_load rfl (lvar_one one3 Bk rfl)) rfl rfl rfl ?_
 refine st_op (ev_int rfl rfl rfl) rfl rfl rfl ?_
 refine st_op (ev_assign rfl) rfl rfl rfl ?_
 by_cases hc1:(sz == 0)=true
 ·
  refine aw_condT hc1 rfl ?_
  have hc1:=eq_of_beq hc1
  refine aw_seq ?_
  refine aw_reg ?_
  refine st_op (ev_assign rfl) rfl rfl rfl ?_
  refine aw_ret ?_
  exact⟨.int .i64 0,rfl,rfl,(Ext.refl H)⟩
 ·
  rw[Bool.not_eq_true] at hc1;refine aw_condF hc1 rfl ?_
  have hc1:=ne_of_beq_false hc1
  exact absurd hz hc1

theorem keep_SyncOk_spec (H:Heap) (d dm:Nat) (dD:Nat→Prop) (dl:Files) (dp:List Place) (dk:Int) (rd:DiskR dD H d dm dl dp dk) (kd:dk≤1099511627000) (ht:Int) (hv:Int) (si:Int) (hsi:0≤si∧si≤1099511627776) (st:Int) (sc:ByteArray) (sd:ByteArray) (lA:Option Addr) (l:List Entry) (lc:Nat) (hl:Row H lA lc 4 (l.map Entry.cells)) (cl:l.length≤lc) (ll:l.length≤200) (sz:Int) (hsz:0≤sz∧sz≤1048576) (k:Nat) (hk:k<H.next) (Bk:H.blk k=some ⟨[.pointer (some ⟨d,0,none⟩),.int .i64 ht,.int .i64 hv,.int .i64 si,.int .i64 st,.string sc,.string sd,.slice lA l.length lc,.int .i64 sz],0,false,false⟩) (nk:¬ dD k) (f:FileS) (hg:Spec.fget ⟨#[115,116,97,116,101]⟩ dl=some f) (hz:sz≠0):∃ v H',Spec Try.prog 27 [.pointer (some ⟨k,0,none⟩)] H v H'∧((v = .int .i64 0)∧(H'.blk k=some ⟨[.pointer (some ⟨d,0,none⟩),.int .i64 ht,.int .i64 hv,.int .i64 si,.int .i64 st,.string sc,.string sd,.slice lA l.length lc,.int .i64 sz],0,false,false⟩)∧(DiskS dD H H' d (Spec.fput ⟨#[115,116,97,116,101]⟩ ⟨f.b,(f.b.length:Int),true⟩ dl) dk 1)∧(Fr (fun q=>q=k∨(dD q∧Z01 H q)) H H')):=by
 have bd:=rd.below _ rd.dp;have bdm:=rd.below _ rd.dm;have zd:=rd.kb
 have sub_d:∀ q,dD q→dD q∨(H.next≤q∧q<H.next):=fun q e => .inl e
 refine spec_go1 E0_ok 17 (f:=27) Try.func27 rfl rfl rfl ?_
 refine aw_seq ?_
 refine aw_reg ?_
 refine st_op (ev_assign rfl) rfl rfl rfl ?_
 refine aw_seq ?_
 refine aw_block ?_
 refine aw_seq ?_
 refine aw_reg ?_
 refine st_op (ev_move rfl) rfl rfl rfl ?_
 refine st_op (ev_nilEq rfl rfl Try.underlying42) rfl rfl rfl ?_
 refine st_op (ev_assign rfl) rfl rfl rfl ?_
 refine aw_cond (t:=false) rfl ?_
 refine aw_seq ?_
 refine aw_reg ?_
 refine st_op (ev_move rfl) rfl rfl rfl ?_
 refine st_op (ev_nilCheck rfl) rfl rfl rfl ?_
 refine st_op (ev_fieldAddr rfl fa88_2 (o':=8) rfl) rfl rfl rfl ?_
 refine st_op (ev_load rfl (lvar_one one3 Bk rfl)) rfl rfl rfl ?_
 refine st_op (ev_int rfl rfl rfl) rfl rfl rfl ?_
 refine st_op (ev_assign rfl) rfl rfl rfl ?_
 by_cases hc1:(sz == 0)=true
 ·
  refine aw_condT hc1 rfl ?_
  have hc1:=eq_of_beq hc1
  exact absurd hc1 hz
 ·
  rw[Bool.not_eq_true] at hc1;refine aw_condF hc1 rfl ?_
  have hc1:=ne_of_beq_false hc1
  refine aw_skip ?_
  refine aw_seq ?_
  refine aw_reg ?_
  refine st_op (ev_move rfl) rfl rfl rfl ?_
  refine st_op (ev_nilCheck rfl) rfl rfl rfl ?_
  refine st_op (ev_fieldAddr rfl fa88_0 (o':=0) rfl) rfl rfl rfl ?_
  refine st_op (ev_load rfl (lvar_one one24 Bk rfl)) rfl rfl rfl ?_
  refine st_call rfl rfl rfl ent12 rfl rfl rfl ?_
  have hS2:=disk_Sync_spec H d dD dl dk ⟨_,_,rd⟩ (by omega) (⟨#[115,116,97,116,101]⟩) (by first | omega | decide | assumption)
  rw[Spec.sync_at (F:=⟨#[115,116,97,116,101]⟩) hg] at hS2;try dsimp only at hS2
  obtain⟨_,H3,hs4,rfl,D6,⟨mb7,ps8,hr9⟩,hb10,hx5⟩:=hS2
  refine⟨_,H3,hs4,?_⟩
  have H3n:H.next≤H3.next:=hx5.1
  have hno11:¬ D6 k:=fun e=>(hb10 _ e).elim nk (fun e=>by omega)
  have hD12:=fun q e=>(hb10 q e).imp (rd.below q) id
  have hS13:∀ q,D6 q→dD q∨(H.next≤q∧q<H3.next):=fun q e=>(hb10 q e).elim (fun e=>(sub_d q e).imp id (fun e=>by omega)) (fun e => .inr (by omega))
  refine st_op (ev_assign rfl) rfl rfl rfl ?_
  refine aw_ret ?_
  have h14:=Fr.blk hx5 (by omega) (fun e=>(nk e.1)) Bk
  have hres:(Spec.fput ⟨#[115,116,97,116,101]⟩ ⟨f.b,(f.b.length:Int),true⟩ dl)=(Spec.fput ⟨#[115,116,97,116,101]⟩ ⟨f.b,(f.b.length:Int),true⟩ dl):=by rfl
  exact⟨.int .i64 0,rfl,rfl,(by first | exact h14 | (rw[hres];exact h14)),(by first | exact⟨D6,(dk+1),⟨_,_,hr9⟩,by omega,(fun q e=>(hS13 q e).imp id (fun e=>by omega))⟩ | (rw[hres];exact⟨D6,(dk+1),⟨_,_,hr9⟩,by omega,(fun q e=>(hS13 q e).imp id (fun e=>by omega))⟩)),(Fr.transG (Fr.refl (fun q=>q=k∨(dD q∧Z01 H q)) H) hx5 (fun q hq hE e=>Or.inr ((⟨e.1,Z01.back hE e.2⟩))))⟩

theorem keep_OpenNone_spec (H:Heap) (d dm:Nat) (dD:Nat→Prop) (dl:Files) (dp:List Place) (dk:Int) (rd:DiskR dD H d dm dl dp dk) (kd:dk≤1099511627000) (hg:Spec.fget ⟨#[115,116,97,116,101]⟩ dl=none):∃ v H',Spec Try.prog 19 [.pointer (some ⟨d,0,none⟩)] H v H'∧(∃ rb0,(v = .tuple #[.pointer (some ⟨rb0,0,none⟩),.int .i64 0])∧(H.next≤rb0)∧(rb0<H'.next)∧(H'.blk rb0=some ⟨[.pointer (some ⟨d,0,none⟩),.int .i64 0,.int .i64 0,.int .i64 0,.int .i64 0,.string (⟨#[]⟩),.string (⟨#[]⟩),.slice none 0 0,.int .i64 0],0,false,false⟩)∧(Ext H H')):=by
 have bd:=rd.below _ rd.dp;have bdm:=rd.below _ rd.dm;have zd:=rd.kb
 have sub_d:∀ q,dD q→dD q∨(H.next≤q∧q<H.next):=fun q e => .inl e
 refine spec_go1 E0_ok 87 (f:=19) Try.func19 rfl rfl rfl ?_
 refine aw_seq ?_
 refine aw_reg ?_
 iterate 2 refine st_op (ev_assign rfl) rfl rfl rfl ?_
 refine aw_seq ?_
 refine aw_reg ?_
 refine st_op (ev_move rfl) rfl rfl rfl ?_
 refine st_op (ev_build zero88 pl88 (parts := [(0,.pointer (some ⟨d,0,none⟩))]) rfl (cs := [.pointer (some ⟨d,0,none⟩),.int .i64 0,.int .i64 0,.int .i64 0,.int .i64 0,.string (⟨#[]⟩),.string (⟨#[]⟩),.slice none 0 0,.int .i64 0]) rfl) rfl rfl rfl ?_
 obtain⟨b1,H2,he3,b1e,H2n_,hB5,f4⟩:=mem_box (P:=Try.prog) H (v := .agg #[.pointer (some ⟨d,0,none⟩),.int .i64 0,.int .i64 0,.int .i64 0,.int .i64 0,.string (⟨#[]⟩),.string (⟨#[]⟩),.slice none 0 0,.int .i64 0]) (cs := [.pointer (some ⟨d,0,none⟩),.int .i64 0,.int .i64 0,.int .i64 0,.int .i64 0,.string (⟨#[]⟩),.string (⟨#[]⟩),.slice none 0 0,.int .i64 0]) rfl rfl
 refine st_op (he3 _ _ _ _ _ _ _ _ _ rfl) rfl rfl rfl ?_
 have hx6:Ext H H2:=Ext.new (by omega) H2n_ f4
 have H2n:H.next≤H2.next:=hx6.1
 refine st_op (ev_assign rfl) rfl rfl rfl ?_
 refine aw_seq ?_
 refine aw_reg ?_
 refine st_op (ev_move rfl) rfl rfl rfl ?_
 refine st_call rfl rfl rfl ent16 rfl rfl rfl ?_
 have h7:=DiskR.ext rd hx6
 have hS8:=disk_Read_spec H2 d dD dl dk ⟨_,_,h7⟩ (by omega) (⟨#[115,116,97,116,101]⟩) (by first | omega | decide | assumption)
 rw[Spec.read_no hg] at hS8;try dsimp only at hS8
 obtain⟨_,H9,hs10,A12,c13,rfl,hm14,hb15,hl16,hx11⟩:=hS8
 refine⟨_,H9,hs10,?_⟩
 have H9n:H2.next≤H9.next:=hx11.1
 refine st_op (ev_move rfl) rfl rfl rfl ?_
 iterate 2 refine st_op (ev_extract rfl rfl) rfl rfl rfl ?_
 iterate 2 refine st_op (ev_assign rfl) rfl rfl rfl ?_
 iterate 2 refine aw_seq ?_
 refine aw_reg ?_
 refine st_op (ev_move rfl) rfl rfl rfl ?_
 refine st_op (ev_int rfl rfl rfl) rfl rfl rfl ?_
 refine aw_cond (t:=true) rfl ?_
 refine aw_seq ?_
 refine aw_reg ?_
 refine st_op (ev_move rfl) rfl rfl rfl ?_
 iterate 2 refine st_op (ev_assign rfl) rfl rfl rfl ?_
 refine aw_ret ?_
 have h17:=Ext.blk hx11 (by omega) hB5
 have hx18:Ext H H9:=(Ext.trans hx6 hx11)
 exact⟨.tuple #[.pointer (some ⟨b1,0,none⟩),.int .i64 0],rfl,b1,rfl,(by omega),(by omega),h17,hx18⟩
theorem num_Get_spec (H:Heap) (bA:Option Addr) (b:List Int) (bc:Nat) (hb:Row H bA bc 1 (b.map u8c)) (cb:b.length≤bc) (lb:b.length≤1099511627776) (bb:Spec.Bytes b):∃ v H',Spec Try.prog 70 [.slice bA b.length bc] H v H'∧((v = .tuple #[.int .i64 ((Spec.numGet 0 0 b).1),.int .i64 ((Spec.numGet 0 0 b).2.1),.int .i64 ((Spec.numGet 0 0 b).2.2)])∧((Spec.numGet 0 0 b).2.2=0 → -9223372036854775808≤(Spec.numGet 0 0 b).1∧(Spec.numGet 0 0 b).1≤9223372036854775807∧1≤(Spec.numGet 0 0 b).2.1∧(Spec.numGet 0 0 b).2.1≤10∧(Spec.numGet 0 0 b).2.1≤b.length)∧(0≤(Spec.numGet 0 0 b).2.2∧(Spec.numGet 0 0 b).2.2≤2)∧((Spec.numGet 0 0 b).2.2≠0→(Spec.numGet 0 0 b).1=0∧(Spec.numGet 0 0 b).2.1=0)∧(Ext H H')):=by
 refine spec_go1 E0_ok 50 (f:=70) Try.func70 rfl rfl rfl ?_
 refine aw_seq ?_
 refine aw_reg ?_
 iterate 3 refine st_op (ev_assign rfl) rfl rfl rfl ?_
 refine aw_seq ?_
 refine aw_reg ?_
 refine st_op (ev_assign rfl) rfl rfl rfl ?_
 iterate 2 refine aw_seq ?_
 refine aw_reg ?_
 refine st_op (ev_move rfl) rfl rfl rfl ?_
 refine st_op (ev_lenSl rfl Try.underlying26) rfl rfl rfl ?_
 refine st_op (ev_move rfl) rfl rfl rfl ?_
 refine aw_block ?_
 refine aw_keep [5,9,10,11] (l':=(.cons 5 (.int .u64 0) (.cons 9 (.slice bA b.length bc) (.cons 10 (.int .i64 (b.length:Int)) (.cons 11 (.int .i64 0) .nil))))) (by repeat (first | exact Up.done | refine Up.then ?_ | refine Up.inBlock ?_)) rfl ?_
 refine aw_iter (α:=Nat×Int×Nat×Heap) (fun a=>b.length - a.1) (fun a=>(.cons 5 (.int .u64 a.2.1) (.cons 9 (.slice bA b.length bc) (.cons 10 (.int .i64 (b.length:Int)) (.cons 11 (.int .i64 (a.1:Int)) .nil))))) (fun a=>a.2.2.2) (fun a=>(a.1≤b.length)∧(a.1≤9)∧(a.2.1=(a.2.2.1:Int))∧(a.2.2.1<2 ^ (7 * a.1))∧(Spec.numGet 0 0 b=Spec.numGet a.1 a.2.2.1 (b.drop a.1))∧(0≤a.2.1∧a.2.1≤18446744073709551615)∧(Ext H a.2.2.2)) (0,(0:Int),0,H) ⟨(show 0≤b.length from Nat.zero_le _),(show 0≤9 from Nat.zero_le _),(show(0:Int)=(0:Int) from rfl),(show 0<2 ^ (7 * 0) from(by decide)),(show Spec.numGet 0 0 b=Spec.numGet 0 0 (b.drop 0) from rfl),(show 0≤(0:Int)∧(0:Int)≤18446744073709551615 from⟨by omega,by omega⟩),(show Ext H H from(Ext.refl H))⟩ ?_
 rintro⟨i,v,u,Hl1⟩ ⟨hi,hnine,hv,hu,hI,hn2,hxl3⟩ ih4
 replace hi:i≤b.length:=hi
 replace hnine:i≤9:=hnine
 replace hv:v=(u:Int):=hv
 replace hu:u<2 ^ (7 * i):=hu
 replace hI:Spec.numGet 0 0 b=Spec.numGet i u (b.drop i):=hI
 replace hn2:0≤v∧v≤18446744073709551615:=hn2
 replace hxl3:Ext H Hl1:=hxl3
 show aw _ _ _ (RL _ (.cons 5 (.int .u64 v) (.cons 9 (.slice bA b.length bc) (.cons 10 (.int .i64 (b.length:Int)) (.cons 11 (.int .i64 (i:Int)) .nil))))) Hl1 _
 have Hl1n:H.next≤Hl1.next:=hxl3.1
 refine aw_seq ?_
 refine aw_reg ?_
 refine st_op (ev_int rfl rfl rfl) rfl rfl rfl ?_
 refine aw_seq ?_
 by_cases hc5:(decide ((i:Int)<(b.length:Int)))=true
 ·
  refine aw_condT hc5 rfl ?_
  have hc5:=of_decide_eq_true hc5
  refine aw_skip ?_
  refine aw_seq ?_
  refine aw_block ?_
  refine aw_seq ?_
  refine aw_reg ?_
  refine st_op (ev_move rfl) rfl rfl rfl ?_
  have h6:=Row.ext hb hxl3
  have hi7:0≤((i:Int):Int):=by omega
  have hi8:((i:Int):Int)<((b.length:Nat):Int):=by omega
  obtain⟨x9,hx10⟩:∃ e,b[i]?=some e:=⟨_,List.getElem?_eq_getElem (by omega)⟩
  have x9b:0≤x9∧x9<256:=((by assumption):Spec.Bytes b) _ (List.mem_of_getElem? hx10)
  have hg:=fun h=>Spec.get_acc (u:=u) (i:=i) (c:=x9) x9b hu hnine h
  refine st_op (ev_at rfl rfl h6 (getMap u8c hx10) (by first | rfl | omega | simp) hi7 hi8 el26) rfl rfl rfl ?_
  refine st_op (ev_atL rfl h6 (getMap u8c hx10) one5 rfl) rfl rfl rfl ?_
  iterate 2 refine st_op (ev_assign rfl) rfl rfl rfl ?_
  iterate 2 refine aw_seq ?_
  refine aw_reg ?_
  refine st_op (ev_move rfl) rfl rfl rfl ?_
  refine st_op (ev_int rfl rfl rfl) rfl rfl rfl ?_
  refine st_op (ev_move rfl) rfl rfl rfl ?_
  refine st_bool 18 rfl (fun hb11=>?_) (fun hb11=>?_)
  ·
   have hb11:=eq_of_beq hb11
   refine st_op (ev_move rfl) rfl rfl rfl ?_
   refine st_op (ev_int rfl rfl rfl) rfl rfl rfl ?_
   refine st_op (ev_pickT rfl rfl) rfl rfl rfl ?_
   by_cases hc12:(decide (x9 > 1))=true
   ·
    refine aw_condT hc12 rfl ?_
    have hc12:=of_decide_eq_true hc12
    refine aw_seq ?_
    refine aw_reg ?_
    iterate 3 refine st_op (ev_assign rfl) rfl rfl rfl ?_
    refine aw_ret ?_
    have hres:(Spec.numGet 0 0 b)=(0,0,1):=by first | (rw[hI,List.drop_eq_nil_of_le (by omega)];rfl) | (rw[hI,drop_at hx10,Spec.numGet,if_pos (by omega)];done) | (rw[hI,drop_at hx10,Spec.numGet,if_neg (by omega),if_neg (by omega),if_pos (by omega)];done) | (subst hv;rw[hI,drop_at hx10,Spec.numGet,if_neg (by omega),if_neg (by omega),if_neg (by omega)];have h4:=hg.2.2.2 (by omega);rw[h4] at hg;rw[hg.1] at *;have h5:=Spec.get_end hg.2.1;congr 1;first | exact(h5.1 (by assumption)).symm | exact(h5.2 (by assumption)).symm)
    exact⟨.tuple #[.int .i64 0,.int .i64 0,.int .i64 1],rfl,by first | (rw[hres];done) | rw[← hres],(by exact(Spec.numGet_all b bb).1),(by exact(Spec.numGet_all b bb).2.1),(by exact(Spec.numGet_all b bb).2.2),hxl3⟩
   ·
    rw[Bool.not_eq_true] at hc12;refine aw_condF hc12 rfl ?_
    have hc12:=of_decide_eq_false hc12
    refine aw_skip ?_
    refine aw_seq ?_
    replace hg:=hg (by omega)
    refine aw_reg ?_
    iterate 2 refine st_op (ev_move rfl) rfl rfl rfl ?_
    have hw13:0≤(Go.bits .and .u8 x9 127)∧(Go.bits .and .u8 x9 127)≤255:=bitsU8 _ _ _
    refine st_op (ev_bits rfl rfl rfl) rfl rfl rfl ?_
    refine st_op (ev_convI Try.underlying5 Try.underlying139 rfl (wrU64 (by omega) (by omega))) rfl rfl rfl ?_
    refine st_op (ev_move rfl) rfl rfl rfl ?_
    refine st_op (ev_int64 (c:=7 * (i:Int)) rfl rfl rfl (by omega) (by omega)) rfl rfl rfl ?_
    have hw14:0≤(Spec.shl .u64 (Go.bits .and .u8 x9 127) (7 * (i:Int)))∧(Spec.shl .u64 (Go.bits .and .u8 x9 127) (7 * (i:Int)))≤18446744073709551615:=wrapU64 _
    refine st_op (ev_shlV rfl rfl (by omega)) rfl rfl rfl ?_
    have hw15:0≤(Go.bits .or .u64 v (Spec.shl .u64 (Go.bits .and .u8 x9 127) (7 * (i:Int))))∧(Go.bits .or .u64 v (Spec.shl .u64 (Go.bits .and .u8 x9 127) (7 * (i:Int))))≤18446744073709551615:=bitsU64 _ _ _
    refine st_op (ev_bits rfl rfl rfl) rfl rfl rfl ?_
    refine st_op (ev_assign rfl) rfl rfl rfl ?_
    iterate 2 refine aw_seq ?_
    refine aw_reg ?_
    refine st_op (ev_move rfl) rfl rfl rfl ?_
    refine st_op (ev_int rfl rfl rfl) rfl rfl rfl ?_
    by_cases hc16:(decide (x9 > 127))=true
    ·
     refine aw_condT hc16 rfl ?_
     have hc16:=of_decide_eq_true hc16
     exfalso;omega
    ·
     rw[Bool.not_eq_true] at hc16;refine aw_condF hc16 rfl ?_
     have hc16:=of_decide_eq_false hc16
     refine aw_skip ?_
     iterate 2 refine aw_seq ?_
     refine aw_reg ?_
     refine st_op (ev_move rfl) rfl rfl rfl ?_
     refine st_op (ev_int rfl rfl rfl) rfl rfl rfl ?_
     refine st_op (ev_move rfl) rfl rfl rfl ?_
     refine st_bool 34 rfl (fun hb17=>?_) (fun hb17=>?_)
     ·
      have hb17:=of_decide_eq_true hb17
      refine st_op (ev_move rfl) rfl rfl rfl ?_
      refine st_op (ev_int rfl rfl rfl) rfl rfl rfl ?_
      refine st_op (ev_pickT rfl rfl) rfl rfl rfl ?_
      by_cases hc18:(x9 == 0)=true
      ·
       refine aw_condT hc18 rfl ?_
       have hc18:=eq_of_beq hc18
       refine aw_seq ?_
       refine aw_reg ?_
       iterate 3 refine st_op (ev_assign rfl) rfl rfl rfl ?_
       refine aw_ret ?_
       have hres:(Spec.numGet 0 0 b)=(0,0,1):=by first | (rw[hI,List.drop_eq_nil_of_le (by omega)];rfl) | (rw[hI,drop_at hx10,Spec.numGet,if_pos (by omega)];done) | (rw[hI,drop_at hx10,Spec.numGet,if_neg (by omega),if_neg (by omega),if_pos (by omega)];done) | (subst hv;rw[hI,drop_at hx10,Spec.numGet,if_neg (by omega),if_neg (by omega),if_neg (by omega)];have h4:=hg.2.2.2 (by omega);rw[h4] at hg;rw[hg.1] at *;have h5:=Spec.get_end hg.2.1;congr 1;first | exact(h5.1 (by assumption)).symm | exact(h5.2 (by assumption)).symm)
       exact⟨.tuple #[.int .i64 0,.int .i64 0,.int .i64 1],rfl,by first | (rw[hres];done) | rw[← hres],(by exact(Spec.numGet_all b bb).1),(by exact(Spec.numGet_all b bb).2.1),(by exact(Spec.numGet_all b bb).2.2),hxl3⟩
      ·
       rw[Bool.not_eq_true] at hc18;refine aw_condF hc18 rfl ?_
       have hc18:=ne_of_beq_false hc18
       refine aw_skip ?_
       refine aw_seq ?_
       refine aw_reg ?_
       refine st_op (ev_move rfl) rfl rfl rfl ?_
       refine st_op (ev_shr (a:=(Go.bits .or .u64 v (Spec.shl .u64 (Go.bits .and .u8 x9 127) (7 * (i:Int))))) (c:=2) rfl rfl (by decide) (by decide)) rfl rfl rfl ?_
       refine st_op (ev_convI Try.underlying139 Try.underlying2 rfl (wrI64 (by omega) (by omega))) rfl rfl rfl ?_
       refine st_op (ev_assign rfl) rfl rfl rfl ?_
       iterate 2 refine aw_seq ?_
       refine aw_reg ?_
       refine st_op (ev_move rfl) rfl rfl rfl ?_
       have hw19:0≤(Go.bits .and .u64 (Go.bits .or .u64 v (Spec.shl .u64 (Go.bits .and .u8 x9 127) (7 * (i:Int)))) 1)∧(Go.bits .and .u64 (Go.bits .or .u64 v (Spec.shl .u64 (Go.bits .and .u8 x9 127) (7 * (i:Int)))) 1)≤18446744073709551615:=bitsU64 _ _ _
       refine st_op (ev_bits rfl rfl rfl) rfl rfl rfl ?_
       refine st_op (ev_int rfl rfl rfl) rfl rfl rfl ?_
       by_cases hc20:((Go.bits .and .u64 (Go.bits .or .u64 v (Spec.shl .u64 (Go.bits .and .u8 x9 127) (7 * (i:Int)))) 1) == 1)=true
       ·
        refine aw_condT hc20 rfl ?_
        have hc20:=eq_of_beq hc20
        refine aw_reg ?_
        refine st_op (ev_move rfl) rfl rfl rfl ?_
        have hw21 : -9223372036854775808≤(Go.bits .xor .i64 (-1) ((Go.bits .or .u64 v (Spec.shl .u64 (Go.bits .and .u8 x9 127) (7 * (i:Int)))) / 2))∧(Go.bits .xor .i64 (-1) ((Go.bits .or .u64 v (Spec.shl .u64 (Go.bits .and .u8 x9 127) (7 * (i:Int)))) / 2))≤9223372036854775807:=bitsI64 _ _ _
        refine st_op (ev_comS rfl rfl) rfl rfl rfl ?_
        refine st_op (ev_assign rfl) rfl rfl rfl ?_
        refine aw_seq ?_
        refine aw_reg ?_
        iterate 2 refine st_op (ev_move rfl) rfl rfl rfl ?_
        refine st_op (ev_int64 (c:=(i:Int)+1) rfl rfl rfl (by omega) (by omega)) rfl rfl rfl ?_
        iterate 3 refine st_op (ev_assign rfl) rfl rfl rfl ?_
        refine aw_ret ?_
        have hres:(Spec.numGet 0 0 b)=((Go.bits .xor .i64 (-1) ((Go.bits .or .u64 v (Spec.shl .u64 (Go.bits .and .u8 x9 127) (7 * (i:Int)))) / 2)),(i:Int)+1,0):=by first | (rw[hI,List.drop_eq_nil_of_le (by omega)];rfl) | (rw[hI,drop_at hx10,Spec.numGet,if_pos (by omega)];done) | (rw[hI,drop_at hx10,Spec.numGet,if_neg (by omega),if_neg (by omega),if_pos (by omega)];done) | (subst hv;rw[hI,drop_at hx10,Spec.numGet,if_neg (by omega),if_neg (by omega),if_neg (by omega)];have h4:=hg.2.2.2 (by omega);rw[h4] at hg;rw[hg.1] at *;have h5:=Spec.get_end hg.2.1;congr 1;first | exact(h5.1 (by assumption)).symm | exact(h5.2 (by assumption)).symm)
        exact⟨.tuple #[.int .i64 (Go.bits .xor .i64 (-1) ((Go.bits .or .u64 v (Spec.shl .u64 (Go.bits .and .u8 x9 127) (7 * (i:Int)))) / 2)),.int .i64 ((i:Int)+1),.int .i64 0],rfl,by first | (rw[hres];done) | rw[← hres],(by exact(Spec.numGet_all b bb).1),(by exact(Spec.numGet_all b bb).2.1),(by exact(Spec.numGet_all b bb).2.2),hxl3⟩
       ·
        rw[Bool.not_eq_true] at hc20;refine aw_condF hc20 rfl ?_
        have hc20:=ne_of_beq_false hc20
        refine aw_skip ?_
        refine aw_seq ?_
        refine aw_reg ?_
        iterate 2 refine st_op (ev_move rfl) rfl rfl rfl ?_
        refine st_op (ev_int64 (c:=(i:Int)+1) rfl rfl rfl (by omega) (by omega)) rfl rfl rfl ?_
        iterate 3 refine st_op (ev_assign rfl) rfl rfl rfl ?_
        refine aw_ret ?_
        have hres:(Spec.numGet 0 0 b)=(((Go.bits .or .u64 v (Spec.shl .u64 (Go.bits .and .u8 x9 127) (7 * (i:Int)))) / 2),(i:Int)+1,0):=by first | (rw[hI,List.drop_eq_nil_of_le (by omega)];rfl) | (rw[hI,drop_at hx10,Spec.numGet,if_pos (by omega)];done) | (rw[hI,drop_at hx10,Spec.numGet,if_neg (by omega),if_neg (by omega),if_pos (by omega)];done) | (subst hv;rw[hI,drop_at hx10,Spec.numGet,if_neg (by omega),if_neg (by omega),if_neg (by omega)];have h4:=hg.2.2.2 (by omega);rw[h4] at hg;rw[hg.1] at *;have h5:=Spec.get_end hg.2.1;congr 1;first | exact(h5.1 (by assumption)).symm | exact(h5.2 (by assumption)).symm)
        exact⟨.tuple #[.int .i64 ((Go.bits .or .u64 v (Spec.shl .u64 (Go.bits .and .u8 x9 127) (7 * (i:Int)))) / 2),.int .i64 ((i:Int)+1),.int .i64 0],rfl,by first | (rw[hres];done) | rw[← hres],(by exact(Spec.numGet_all b bb).1),(by exact(Spec.numGet_all b bb).2.1),(by exact(Spec.numGet_all b bb).2.2),hxl3⟩
     ·
      have hb17:=of_decide_eq_false hb17
      exfalso;omega
  ·
   have hb11:=ne_of_beq_false hb11
   iterate 2 refine st_skip rfl rfl rfl ?_
   refine st_op (ev_pickF rfl rfl) rfl rfl rfl ?_
   refine aw_cond (t:=false) rfl ?_
   refine aw_skip ?_
   refine aw_seq ?_
   replace hg:=hg (by omega)
   refine aw_reg ?_
   iterate 2 refine st_op (ev_move rfl) rfl rfl rfl ?_
   have hw22:0≤(Go.bits .and .u8 x9 127)∧(Go.bits .and .u8 x9 127)≤255:=bitsU8 _ _ _
   refine st_op (ev_bits rfl rfl rfl) rfl rfl rfl ?_
   refine st_op (ev_convI Try.underlying5 Try.underlying139 rfl (wrU64 (by omega) (by omega))) rfl rfl rfl ?_
   refine st_op (ev_move rfl) rfl rfl rfl ?_
   refine st_op (ev_int64 (c:=7 * (i:Int)) rfl rfl rfl (by omega) (by omega)) rfl rfl rfl ?_
   have hw23:0≤(Spec.shl .u64 (Go.bits .and .u8 x9 127) (7 * (i:Int)))∧(Spec.shl .u64 (Go.bits .and .u8 x9 127) (7 * (i:Int)))≤18446744073709551615:=wrapU64 _
   refine st_op (ev_shlV rfl rfl (by omega)) rfl rfl rfl ?_
   have hw24:0≤(Go.bits .or .u64 v (Spec.shl .u64 (Go.bits .and .u8 x9 127) (7 * (i:Int))))∧(Go.bits .or .u64 v (Spec.shl .u64 (Go.bits .and .u8 x9 127) (7 * (i:Int))))≤18446744073709551615:=bitsU64 _ _ _
   refine st_op (ev_bits rfl rfl rfl) rfl rfl rfl ?_
   refine st_op (ev_assign rfl) rfl rfl rfl ?_
   iterate 2 refine aw_seq ?_
   refine aw_reg ?_
   refine st_op (ev_move rfl) rfl rfl rfl ?_
   refine st_op (ev_int rfl rfl rfl) rfl rfl rfl ?_
   by_cases hc25:(decide (x9 > 127))=true
   ·
    refine aw_condT hc25 rfl ?_
    have hc25:=of_decide_eq_true hc25
    refine aw_exit ?_
    refine aw_reg ?_
    refine st_op (ev_int64 (c:=(i:Int)+1) rfl rfl rfl (by omega) (by omega)) rfl rfl rfl ?_
    refine st_op (ev_move rfl) rfl rfl rfl ?_
    refine aw_keep [5,9,10,11] (l':=(.cons 5 (.int .u64 (Go.bits .or .u64 v (Spec.shl .u64 (Go.bits .and .u8 x9 127) (7 * (i:Int))))) (.cons 9 (.slice bA b.length bc) (.cons 10 (.int .i64 (b.length:Int)) (.cons 11 (.int .i64 ((i:Int)+1)) .nil))))) (by repeat (first | exact Up.done | refine Up.then ?_ | refine Up.inBlock ?_)) rfl ?_
    exact ih4 (i+1,(Go.bits .or .u64 v (Spec.shl .u64 (Go.bits .and .u8 x9 127) (7 * (i:Int)))),(u+(x9 % 128).toNat * 2 ^ (7 * i)),Hl1) ⟨(show(i+1)≤b.length from(by omega)),(show(i+1)≤9 from(by omega)),(show(Go.bits .or .u64 v (Spec.shl .u64 (Go.bits .and .u8 x9 127) (7 * (i:Int))))=((u+(x9 % 128).toNat * 2 ^ (7 * i)):Int) from(by subst hv;exact hg.1)),(show(u+(x9 % 128).toNat * 2 ^ (7 * i))<2 ^ (7 * (i+1)) from(hg.2.2.1 (by omega))),(show Spec.numGet 0 0 b=Spec.numGet (i+1) (u+(x9 % 128).toNat * 2 ^ (7 * i)) (b.drop (i+1)) from(by rw[hI,drop_at hx10,Spec.numGet,if_neg (by omega),if_pos (by omega)])),(show 0≤(Go.bits .or .u64 v (Spec.shl .u64 (Go.bits .and .u8 x9 127) (7 * (i:Int))))∧(Go.bits .or .u64 v (Spec.shl .u64 (Go.bits .and .u8 x9 127) (7 * (i:Int))))≤18446744073709551615 from⟨by omega,by omega⟩),(show Ext H Hl1 from hxl3)⟩ (by simp only;omega)
   ·
    rw[Bool.not_eq_true] at hc25;refine aw_condF hc25 rfl ?_
    have hc25:=of_decide_eq_false hc25
    refine aw_skip ?_
    iterate 2 refine aw_seq ?_
    refine aw_reg ?_
    refine st_op (ev_move rfl) rfl rfl rfl ?_
    refine st_op (ev_int rfl rfl rfl) rfl rfl rfl ?_
    refine st_op (ev_move rfl) rfl rfl rfl ?_
    refine st_bool 34 rfl (fun hb26=>?_) (fun hb26=>?_)
    ·
     have hb26:=of_decide_eq_true hb26
     refine st_op (ev_move rfl) rfl rfl rfl ?_
     refine st_op (ev_int rfl rfl rfl) rfl rfl rfl ?_
     refine st_op (ev_pickT rfl rfl) rfl rfl rfl ?_
     by_cases hc27:(x9 == 0)=true
     ·
      refine aw_condT hc27 rfl ?_
      have hc27:=eq_of_beq hc27
      refine aw_seq ?_
      refine aw_reg ?_
      iterate 3 refine st_op (ev_assign rfl) rfl rfl rfl ?_
      refine aw_ret ?_
      have hres:(Spec.numGet 0 0 b)=(0,0,1):=by first | (rw[hI,List.drop_eq_nil_of_le (by omega)];rfl) | (rw[hI,drop_at hx10,Spec.numGet,if_pos (by omega)];done) | (rw[hI,drop_at hx10,Spec.numGet,if_neg (by omega),if_neg (by omega),if_pos (by omega)];done) | (subst hv;rw[hI,drop_at hx10,Spec.numGet,if_neg (by omega),if_neg (by omega),if_neg (by omega)];have h4:=hg.2.2.2 (by omega);rw[h4] at hg;rw[hg.1] at *;have h5:=Spec.get_end hg.2.1;congr 1;first | exact(h5.1 (by assumption)).symm | exact(h5.2 (by assumption)).symm)
      exact⟨.tuple #[.int .i64 0,.int .i64 0,.int .i64 1],rfl,by first | (rw[hres];done) | rw[← hres],(by exact(Spec.numGet_all b bb).1),(by exact(Spec.numGet_all b bb).2.1),(by exact(Spec.numGet_all b bb).2.2),hxl3⟩
     ·
      rw[Bool.not_eq_true] at hc27;refine aw_condF hc27 rfl ?_
      have hc27:=ne_of_beq_false hc27
      refine aw_skip ?_
      refine aw_seq ?_
      refine aw_reg ?_
      refine st_op (ev_move rfl) rfl rfl rfl ?_
      refine st_op (ev_shr (a:=(Go.bits .or .u64 v (Spec.shl .u64 (Go.bits .and .u8 x9 127) (7 * (i:Int))))) (c:=2) rfl rfl (by decide) (by decide)) rfl rfl rfl ?_
      refine st_op (ev_convI Try.underlying139 Try.underlying2 rfl (wrI64 (by omega) (by omega))) rfl rfl rfl ?_
      refine st_op (ev_assign rfl) rfl rfl rfl ?_
      iterate 2 refine aw_seq ?_
      refine aw_reg ?_
      refine st_op (ev_move rfl) rfl rfl rfl ?_
      have hw28:0≤(Go.bits .and .u64 (Go.bits .or .u64 v (Spec.shl .u64 (Go.bits .and .u8 x9 127) (7 * (i:Int)))) 1)∧(Go.bits .and .u64 (Go.bits .or .u64 v (Spec.shl .u64 (Go.bits .and .u8 x9 127) (7 * (i:Int)))) 1)≤18446744073709551615:=bitsU64 _ _ _
      refine st_op (ev_bits rfl rfl rfl) rfl rfl rfl ?_
      refine st_op (ev_int rfl rfl rfl) rfl rfl rfl ?_
      by_cases hc29:((Go.bits .and .u64 (Go.bits .or .u64 v (Spec.shl .u64 (Go.bits .and .u8 x9 127) (7 * (i:Int)))) 1) == 1)=true
      ·
       refine aw_condT hc29 rfl ?_
       have hc29:=eq_of_beq hc29
       refine aw_reg ?_
       refine st_op (ev_move rfl) rfl rfl rfl ?_
       have hw30 : -9223372036854775808≤(Go.bits .xor .i64 (-1) ((Go.bits .or .u64 v (Spec.shl .u64 (Go.bits .and .u8 x9 127) (7 * (i:Int)))) / 2))∧(Go.bits .xor .i64 (-1) ((Go.bits .or .u64 v (Spec.shl .u64 (Go.bits .and .u8 x9 127) (7 * (i:Int)))) / 2))≤9223372036854775807:=bitsI64 _ _ _
       refine st_op (ev_comS rfl rfl) rfl rfl rfl ?_
       refine st_op (ev_assign rfl) rfl rfl rfl ?_
       refine aw_seq ?_
       refine aw_reg ?_
       iterate 2 refine st_op (ev_move rfl) rfl rfl rfl ?_
       refine st_op (ev_int64 (c:=(i:Int)+1) rfl rfl rfl (by omega) (by omega)) rfl rfl rfl ?_
       iterate 3 refine st_op (ev_assign rfl) rfl rfl rfl ?_
       refine aw_ret ?_
       have hres:(Spec.numGet 0 0 b)=((Go.bits .xor .i64 (-1) ((Go.bits .or .u64 v (Spec.shl .u64 (Go.bits .and .u8 x9 127) (7 * (i:Int)))) / 2)),(i:Int)+1,0):=by first | (rw[hI,List.drop_eq_nil_of_le (by omega)];rfl) | (rw[hI,drop_at hx10,Spec.numGet,if_pos (by omega)];done) | (rw[hI,drop_at hx10,Spec.numGet,if_neg (by omega),if_neg (by omega),if_pos (by omega)];done) | (subst hv;rw[hI,drop_at hx10,Spec.numGet,if_neg (by omega),if_neg (by omega),if_neg (by omega)];have h4:=hg.2.2.2 (by omega);rw[h4] at hg;rw[hg.1] at *;have h5:=Spec.get_end hg.2.1;congr 1;first | exact(h5.1 (by assumption)).symm | exact(h5.2 (by assumption)).symm)
       exact⟨.tuple #[.int .i64 (Go.bits .xor .i64 (-1) ((Go.bits .or .u64 v (Spec.shl .u64 (Go.bits .and .u8 x9 127) (7 * (i:Int)))) / 2)),.int .i64 ((i:Int)+1),.int .i64 0],rfl,by first | (rw[hres];done) | rw[← hres],(by exact(Spec.numGet_all b bb).1),(by exact(Spec.numGet_all b bb).2.1),(by exact(Spec.numGet_all b bb).2.2),hxl3⟩
      ·
       rw[Bool.not_eq_true] at hc29;refine aw_condF hc29 rfl ?_
       have hc29:=ne_of_beq_false hc29
       refine aw_skip ?_
       refine aw_seq ?_
       refine aw_reg ?_
       iterate 2 refine st_op (ev_move rfl) rfl rfl rfl ?_
       refine st_op (ev_int64 (c:=(i:Int)+1) rfl rfl rfl (by omega) (by omega)) rfl rfl rfl ?_
       iterate 3 refine st_op (ev_assign rfl) rfl rfl rfl ?_
       refine aw_ret ?_
       have hres:(Spec.numGet 0 0 b)=(((Go.bits .or .u64 v (Spec.shl .u64 (Go.bits .and .u8 x9 127) (7 * (i:Int)))) / 2),(i:Int)+1,0):=by first | (rw[hI,List.drop_eq_nil_of_le (by omega)];rfl) | (rw[hI,drop_at hx10,Spec.numGet,if_pos (by omega)];done) | (rw[hI,drop_at hx10,Spec.numGet,if_neg (by omega),if_neg (by omega),if_pos (by omega)];done) | (subst hv;rw[hI,drop_at hx10,Spec.numGet,if_neg (by omega),if_neg (by omega),if_neg (by omega)];have h4:=hg.2.2.2 (by omega);rw[h4] at hg;rw[hg.1] at *;have h5:=Spec.get_end hg.2.1;congr 1;first | exact(h5.1 (by assumption)).symm | exact(h5.2 (by assumption)).symm)
       exact⟨.tuple #[.int .i64 ((Go.bits .or .u64 v (Spec.shl .u64 (Go.bits .and .u8 x9 127) (7 * (i:Int)))) / 2),.int .i64 ((i:Int)+1),.int .i64 0],rfl,by first | (rw[hres];done) | rw[← hres],(by exact(Spec.numGet_all b bb).1),(by exact(Spec.numGet_all b bb).2.1),(by exact(Spec.numGet_all b bb).2.2),hxl3⟩
    ·
     have hb26:=of_decide_eq_false hb26
     iterate 2 refine st_skip rfl rfl rfl ?_
     refine st_op (ev_pickF rfl rfl) rfl rfl rfl ?_
     refine aw_cond (t:=false) rfl ?_
     refine aw_skip ?_
     refine aw_seq ?_
     refine aw_reg ?_
     refine st_op (ev_move rfl) rfl rfl rfl ?_
     refine st_op (ev_shr (a:=(Go.bits .or .u64 v (Spec.shl .u64 (Go.bits .and .u8 x9 127) (7 * (i:Int))))) (c:=2) rfl rfl (by decide) (by decide)) rfl rfl rfl ?_
     refine st_op (ev_convI Try.underlying139 Try.underlying2 rfl (wrI64 (by omega) (by omega))) rfl rfl rfl ?_
     refine st_op (ev_assign rfl) rfl rfl rfl ?_
     iterate 2 refine aw_seq ?_
     refine aw_reg ?_
     refine st_op (ev_move rfl) rfl rfl rfl ?_
     have hw31:0≤(Go.bits .and .u64 (Go.bits .or .u64 v (Spec.shl .u64 (Go.bits .and .u8 x9 127) (7 * (i:Int)))) 1)∧(Go.bits .and .u64 (Go.bits .or .u64 v (Spec.shl .u64 (Go.bits .and .u8 x9 127) (7 * (i:Int)))) 1)≤18446744073709551615:=bitsU64 _ _ _
     refine st_op (ev_bits rfl rfl rfl) rfl rfl rfl ?_
     refine st_op (ev_int rfl rfl rfl) rfl rfl rfl ?_
     by_cases hc32:((Go.bits .and .u64 (Go.bits .or .u64 v (Spec.shl .u64 (Go.bits .and .u8 x9 127) (7 * (i:Int)))) 1) == 1)=true
     ·
      refine aw_condT hc32 rfl ?_
      have hc32:=eq_of_beq hc32
      refine aw_reg ?_
      refine st_op (ev_move rfl) rfl rfl rfl ?_
      have hw33 : -9223372036854775808≤(Go.bits .xor .i64 (-1) ((Go.bits .or .u64 v (Spec.shl .u64 (Go.bits .and .u8 x9 127) (7 * (i:Int)))) / 2))∧(Go.bits .xor .i64 (-1) ((Go.bits .or .u64 v (Spec.shl .u64 (Go.bits .and .u8 x9 127) (7 * (i:Int)))) / 2))≤9223372036854775807:=bitsI64 _ _ _
      refine st_op (ev_comS rfl rfl) rfl rfl rfl ?_
      refine st_op (ev_assign rfl) rfl rfl rfl ?_
      refine aw_seq ?_
      refine aw_reg ?_
      iterate 2 refine st_op (ev_move rfl) rfl rfl rfl ?_
      refine st_op (ev_int64 (c:=(i:Int)+1) rfl rfl rfl (by omega) (by omega)) rfl rfl rfl ?_
      iterate 3 refine st_op (ev_assign rfl) rfl rfl rfl ?_
      refine aw_ret ?_
      have hres:(Spec.numGet 0 0 b)=((Go.bits .xor .i64 (-1) ((Go.bits .or .u64 v (Spec.shl .u64 (Go.bits .and .u8 x9 127) (7 * (i:Int)))) / 2)),(i:Int)+1,0):=by first | (rw[hI,List.drop_eq_nil_of_le (by omega)];rfl) | (rw[hI,drop_at hx10,Spec.numGet,if_pos (by omega)];done) | (rw[hI,drop_at hx10,Spec.numGet,if_neg (by omega),if_neg (by omega),if_pos (by omega)];done) | (subst hv;rw[hI,drop_at hx10,Spec.numGet,if_neg (by omega),if_neg (by omega),if_neg (by omega)];have h4:=hg.2.2.2 (by omega);rw[h4] at hg;rw[hg.1] at *;have h5:=Spec.get_end hg.2.1;congr 1;first | exact(h5.1 (by assumption)).symm | exact(h5.2 (by assumption)).symm)
      exact⟨.tuple #[.int .i64 (Go.bits .xor .i64 (-1) ((Go.bits .or .u64 v (Spec.shl .u64 (Go.bits .and .u8 x9 127) (7 * (i:Int)))) / 2)),.int .i64 ((i:Int)+1),.int .i64 0],rfl,by first | (rw[hres];done) | rw[← hres],(by exact(Spec.numGet_all b bb).1),(by exact(Spec.numGet_all b bb).2.1),(by exact(Spec.numGet_all b bb).2.2),hxl3⟩
     ·
      rw[Bool.not_eq_true] at hc32;refine aw_condF hc32 rfl ?_
      have hc32:=ne_of_beq_false hc32
      refine aw_skip ?_
      refine aw_seq ?_
      refine aw_reg ?_
      iterate 2 refine st_op (ev_move rfl) rfl rfl rfl ?_
      refine st_op (ev_int64 (c:=(i:Int)+1) rfl rfl rfl (by omega) (by omega)) rfl rfl rfl ?_
      iterate 3 refine st_op (ev_assign rfl) rfl rfl rfl ?_
      refine aw_ret ?_
      have hres:(Spec.numGet 0 0 b)=(((Go.bits .or .u64 v (Spec.shl .u64 (Go.bits .and .u8 x9 127) (7 * (i:Int)))) / 2),(i:Int)+1,0):=by first | (rw[hI,List.drop_eq_nil_of_le (by omega)];rfl) | (rw[hI,drop_at hx10,Spec.numGet,if_pos (by omega)];done) | (rw[hI,drop_at hx10,Spec.numGet,if_neg (by omega),if_neg (by omega),if_pos (by omega)];done) | (subst hv;rw[hI,drop_at hx10,Spec.numGet,if_neg (by omega),if_neg (by omega),if_neg (by omega)];have h4:=hg.2.2.2 (by omega);rw[h4] at hg;rw[hg.1] at *;have h5:=Spec.get_end hg.2.1;congr 1;first | exact(h5.1 (by assumption)).symm | exact(h5.2 (by assumption)).symm)
      exact⟨.tuple #[.int .i64 ((Go.bits .or .u64 v (Spec.shl .u64 (Go.bits .and .u8 x9 127) (7 * (i:Int)))) / 2),.int .i64 ((i:Int)+1),.int .i64 0],rfl,by first | (rw[hres];done) | rw[← hres],(by exact(Spec.numGet_all b bb).1),(by exact(Spec.numGet_all b bb).2.1),(by exact(Spec.numGet_all b bb).2.2),hxl3⟩
 ·
  rw[Bool.not_eq_true] at hc5;refine aw_condF hc5 rfl ?_
  have hc5:=of_decide_eq_false hc5
  refine aw_exit ?_
  refine aw_seq ?_
  refine aw_reg ?_
  iterate 3 refine st_op (ev_assign rfl) rfl rfl rfl ?_
  refine aw_ret ?_
  have hres:(Spec.numGet 0 0 b)=(0,0,2):=by first | (rw[hI,List.drop_eq_nil_of_le (by omega)];rfl) | (rw[hI,drop_at hx10,Spec.numGet,if_pos (by omega)];done) | (rw[hI,drop_at hx10,Spec.numGet,if_neg (by omega),if_neg (by omega),if_pos (by omega)];done) | (subst hv;rw[hI,drop_at hx10,Spec.numGet,if_neg (by omega),if_neg (by omega),if_neg (by omega)];have h4:=hg.2.2.2 (by omega);rw[h4] at hg;rw[hg.1] at *;have h5:=Spec.get_end hg.2.1;congr 1;first | exact(h5.1 (by assumption)).symm | exact(h5.2 (by assumption)).symm)
  exact⟨.tuple #[.int .i64 0,.int .i64 0,.int .i64 2],rfl,by first | (rw[hres];done) | rw[← hres],(by exact(Spec.numGet_all b bb).1),(by exact(Spec.numGet_all b bb).2.1),(by exact(Spec.numGet_all b bb).2.2),hxl3⟩
theorem frame_Open_spec (H:Heap) (bA:Option Addr) (b:List Int) (bc:Nat) (hb:Row H bA bc 1 (b.map u8c)) (cb:b.length≤bc) (lb:b.length≤1099511627776) (bb:Spec.Bytes b):∃ v H',Spec Try.prog 55 [.slice bA b.length bc] H v H'∧(∃ rA1 rc1,(v = .tuple #[.int .i64 ((Spec.openF b).1),.slice rA1 (((Spec.openF b).2.1).length) rc1,.int .i64 ((Spec.openF b).2.2.1),.int .i64 ((Spec.openF b).2.2.2)])∧(My H H' rA1 rc1 1 (((Spec.openF b).2.1).map u8c))∧((Spec.openF b).2.2.2=0→1≤(Spec.openF b).1∧(Spec.openF b).1≤255∧(Spec.openF b).2.1.length≤4000∧6≤(Spec.openF b).2.2.1∧(Spec.openF b).2.2.1≤b.length∧(Spec.openF b).2.2.1≤4020)∧(0≤(Spec.openF b).2.2.2∧(Spec.openF b).2.2.2≤3)∧((Spec.openF b).2.2.2≠0→(Spec.openF b).1=0∧(Spec.openF b).2.1 = []∧(Spec.openF b).2.2.1=0)∧(Spec.Bytes (Spec.openF b).2.1)∧(Ext H H')):=by
 refine spec_go1 E0_ok 84 (f:=55) Try.func55 rfl rfl rfl ?_
 refine aw_seq ?_
 refine aw_reg ?_
 iterate 4 refine st_op (ev_assign rfl) rfl rfl rfl ?_
 refine aw_seq ?_
 refine aw_block ?_
 refine aw_seq ?_
 refine aw_reg ?_
 refine st_op (ev_move rfl) rfl rfl rfl ?_
 refine st_op (ev_lenSl rfl Try.underlying26) rfl rfl rfl ?_
 refine st_op (ev_int rfl rfl rfl) rfl rfl rfl ?_
 refine st_op (ev_assign rfl) rfl rfl rfl ?_
 by_cases hc1:((b.length:Int) == 0)=true
 ·
  refine aw_condT hc1 rfl ?_
  have hc1:=eq_of_beq hc1
  refine aw_seq ?_
  refine aw_reg ?_
  iterate 4 refine st_op (ev_assign rfl) rfl rfl rfl ?_
  refine aw_ret ?_
  have hm2:My H H none 0 1 (([]:List Int).map u8c) := .nil
  have hres:(Spec.openF b)=(0,([]:List Int),0,2):=by rw[show b = [] from List.eq_nil_of_length_eq_zero (by omega)];rfl
  exact⟨.tuple #[.int .i64 0,.slice none 0 0,.int .i64 0,.int .i64 2],rfl,none,0,by first | (rw[hres];first | done | rfl | simp;done) | rfl,(by first | exact hm2 | (rw[hres];exact hm2)),(by exact(Spec.open_all bb).1),(by exact(Spec.open_all bb).2.1),(by exact(Spec.open_all bb).2.2.1),(by exact(Spec.open_all bb).2.2.2),(Ext.refl H)⟩
 ·
  rw[Bool.not_eq_true] at hc1;refine aw_condF hc1 rfl ?_
  have hc1:=ne_of_beq_false hc1
  refine aw_seq ?_
  refine aw_reg ?_
  refine st_op (ev_move rfl) rfl rfl rfl ?_
  have hi3:0≤(0:Int):=by omega
  have hi4:(0:Int)<((b.length:Nat):Int):=by omega
  obtain⟨x5,hx6⟩:∃ e,b[0]?=some e:=⟨_,List.getElem?_eq_getElem (by omega)⟩
  have x5b:0≤x5∧x5<256:=((by assumption):Spec.Bytes b) _ (List.mem_of_getElem? hx6)
  refine st_op (ev_at rfl rfl hb (getMap u8c hx6) (by first | rfl | omega | simp) hi3 hi4 el26) rfl rfl rfl ?_
  refine st_op (ev_atL rfl hb (getMap u8c hx6) one5 rfl) rfl rfl rfl ?_
  refine st_op (ev_int rfl rfl rfl) rfl rfl rfl ?_
  refine st_op (ev_assign rfl) rfl rfl rfl ?_
  by_cases hc7:(x5 == 0)=true
  ·
   refine aw_condT hc7 rfl ?_
   have hc7:=eq_of_beq hc7
   refine aw_seq ?_
   refine aw_reg ?_
   iterate 4 refine st_op (ev_assign rfl) rfl rfl rfl ?_
   refine aw_ret ?_
   have hm8:My H H none 0 1 (([]:List Int).map u8c) := .nil
   have hres:(Spec.openF b)=(0,([]:List Int),0,3):=by exact Spec.openF_0 (by rw[hx6];congr 1)
   exact⟨.tuple #[.int .i64 0,.slice none 0 0,.int .i64 0,.int .i64 3],rfl,none,0,by first | (rw[hres];first | done | rfl | simp;done) | rfl,(by first | exact hm8 | (rw[hres];exact hm8)),(by exact(Spec.open_all bb).1),(by exact(Spec.open_all bb).2.1),(by exact(Spec.open_all bb).2.2.1),(by exact(Spec.open_all bb).2.2.2),(Ext.refl H)⟩
  ·
   rw[Bool.not_eq_true] at hc7;refine aw_condF hc7 rfl ?_
   have hc7:=ne_of_beq_false hc7
   refine aw_skip ?_
   refine aw_seq ?_
   refine aw_reg ?_
   refine st_op (ev_move rfl) rfl rfl rfl ?_
   obtain⟨A9,c10,L11,hL12,hl13,hs14,hr15,hc16⟩:=sliceA_typed u8c el26 (by decide) hb cb (lo:=some (.int .i64 1)) (hi:=none) (l:=1) (h:=b.length) rfl (bound_int (by omega) (by omega) (by first | rfl | omega)) (by omega) (by omega)
   refine st_op (ev_slice rfl rfl rfl rfl hs14) rfl rfl rfl ?_
   have hL12b:Spec.Bytes L11:=by rw[hL12];exact Spec.Bytes.take (Spec.Bytes.drop (by assumption) _) _
   refine st_call rfl rfl rfl ent70 rfl rfl rfl ?_
   obtain⟨_,H18,hs17,hs17v,hq20,hq21,hq22,hx19⟩:=num_Get_spec H A9 L11 c10 hr15 hc16 (by omega) (by assumption)
   rw[hs17v] at hs17;clear hs17v
   generalize hR24:(Spec.numGet 0 0 L11)=r23 at hs17 hq20 hq21 hq22
   obtain⟨z25,z26,z27⟩:=r23
   dsimp only at hs17 hq20 hq21 hq22
   refine⟨_,H18,hs17,?_⟩
   have H18n:H.next≤H18.next:=hx19.1
   refine st_op (ev_move rfl) rfl rfl rfl ?_
   iterate 3 refine st_op (ev_extract rfl rfl) rfl rfl rfl ?_
   iterate 3 refine st_op (ev_assign rfl) rfl rfl rfl ?_
   refine aw_seq ?_
   refine aw_block ?_
   refine aw_seq ?_
   refine aw_reg ?_
   refine st_op (ev_move rfl) rfl rfl rfl ?_
   refine st_op (ev_int rfl rfl rfl) rfl rfl rfl ?_
   refine st_op (ev_move rfl) rfl rfl rfl ?_
   refine st_bool 31 rfl (fun hb28=>?_) (fun hb28=>?_)
   ·
    have hb28:=eq_of_beq hb28
    refine st_op (ev_move rfl) rfl rfl rfl ?_
    refine st_op (ev_lenSl rfl Try.underlying26) rfl rfl rfl ?_
    refine st_op (ev_int rfl rfl rfl) rfl rfl rfl ?_
    refine st_op (ev_pickT rfl rfl) rfl rfl rfl ?_
    refine st_op (ev_assign rfl) rfl rfl rfl ?_
    by_cases hc29:(decide ((b.length:Int)≤2))=true
    ·
     refine aw_condT hc29 rfl ?_
     have hc29:=of_decide_eq_true hc29
     refine aw_seq ?_
     refine aw_reg ?_
     iterate 4 refine st_op (ev_assign rfl) rfl rfl rfl ?_
     refine aw_ret ?_
     have hm30:My H18 H18 none 0 1 (([]:List Int).map u8c) := .nil
     have hres:(Spec.openF b)=(0,([]:List Int),0,2):=by first | (exfalso;omega) | (rw[Spec.openF_ne hx6 hL12 hR24];(repeat (first | rfl | rw[if_neg (by omega)] | rw[if_pos (by omega)])))
     exact⟨.tuple #[.int .i64 0,.slice none 0 0,.int .i64 0,.int .i64 2],rfl,none,0,by first | (rw[hres];first | done | rfl | simp;done) | rfl,(by first | exact(My.older hm30 (by omega)) | (rw[hres];exact(My.older hm30 (by omega)))),(by exact(Spec.open_all bb).1),(by exact(Spec.open_all bb).2.1),(by exact(Spec.open_all bb).2.2.1),(by exact(Spec.open_all bb).2.2.2),hx19⟩
    ·
     rw[Bool.not_eq_true] at hc29;refine aw_condF hc29 rfl ?_
     have hc29:=of_decide_eq_false hc29
     refine aw_seq ?_
     refine aw_reg ?_
     refine st_op (ev_move rfl) rfl rfl rfl ?_
     refine st_op (ev_int rfl rfl rfl) rfl rfl rfl ?_
     refine st_op (ev_move rfl) rfl rfl rfl ?_
     refine st_bool 39 rfl (fun hb31=>?_) (fun hb31=>?_)
     ·
      have hb31:¬ (z27=0):=by simpa using hb31
      iterate 2 refine st_skip rfl rfl rfl ?_
      refine st_op (ev_pickT rfl rfl) rfl rfl rfl ?_
      refine st_op (ev_move rfl) rfl rfl rfl ?_
      iterate 2 refine st_skip rfl rfl rfl ?_
      refine st_op (ev_pickT rfl rfl) rfl rfl rfl ?_
      refine st_op (ev_assign rfl) rfl rfl rfl ?_
      refine aw_cond (t:=true) rfl ?_
      refine aw_seq ?_
      refine aw_reg ?_
      iterate 4 refine st_op (ev_assign rfl) rfl rfl rfl ?_
      refine aw_ret ?_
      have hm32:My H18 H18 none 0 1 (([]:List Int).map u8c) := .nil
      have hres:(Spec.openF b)=(0,([]:List Int),0,3):=by first | (exfalso;omega) | (rw[Spec.openF_ne hx6 hL12 hR24];(repeat (first | rfl | rw[if_neg (by omega)] | rw[if_pos (by omega)])))
      exact⟨.tuple #[.int .i64 0,.slice none 0 0,.int .i64 0,.int .i64 3],rfl,none,0,by first | (rw[hres];first | done | rfl | simp;done) | rfl,(by first | exact(My.older hm32 (by omega)) | (rw[hres];exact(My.older hm32 (by omega)))),(by exact(Spec.open_all bb).1),(by exact(Spec.open_all bb).2.1),(by exact(Spec.open_all bb).2.2.1),(by exact(Spec.open_all bb).2.2.2),hx19⟩
     ·
      have hb31:(z27=0):=by simpa using hb31
      exfalso;omega
   ·
    have hb28:=ne_of_beq_false hb28
    iterate 3 refine st_skip rfl rfl rfl ?_
    refine st_op (ev_pickF rfl rfl) rfl rfl rfl ?_
    refine st_op (ev_assign rfl) rfl rfl rfl ?_
    refine aw_cond (t:=false) rfl ?_
    refine aw_seq ?_
    refine aw_reg ?_
    refine st_op (ev_move rfl) rfl rfl rfl ?_
    refine st_op (ev_int rfl rfl rfl) rfl rfl rfl ?_
    refine st_op (ev_move rfl) rfl rfl rfl ?_
    refine st_bool 39 rfl (fun hb33=>?_) (fun hb33=>?_)
    ·
     have hb33:¬ (z27=0):=by simpa using hb33
     iterate 2 refine st_skip rfl rfl rfl ?_
     refine st_op (ev_pickT rfl rfl) rfl rfl rfl ?_
     refine st_op (ev_move rfl) rfl rfl rfl ?_
     iterate 2 refine st_skip rfl rfl rfl ?_
     refine st_op (ev_pickT rfl rfl) rfl rfl rfl ?_
     refine st_op (ev_assign rfl) rfl rfl rfl ?_
     refine aw_cond (t:=true) rfl ?_
     refine aw_seq ?_
     refine aw_reg ?_
     iterate 4 refine st_op (ev_assign rfl) rfl rfl rfl ?_
     refine aw_ret ?_
     have hm34:My H18 H18 none 0 1 (([]:List Int).map u8c) := .nil
     have hres:(Spec.openF b)=(0,([]:List Int),0,3):=by first | (exfalso;omega) | (rw[Spec.openF_ne hx6 hL12 hR24];(repeat (first | rfl | rw[if_neg (by omega)] | rw[if_pos (by omega)])))
     exact⟨.tuple #[.int .i64 0,.slice none 0 0,.int .i64 0,.int .i64 3],rfl,none,0,by first | (rw[hres];first | done | rfl | simp;done) | rfl,(by first | exact(My.older hm34 (by omega)) | (rw[hres];exact(My.older hm34 (by omega)))),(by exact(Spec.open_all bb).1),(by exact(Spec.open_all bb).2.1),(by exact(Spec.open_all bb).2.2.1),(by exact(Spec.open_all bb).2.2.2),hx19⟩
    ·
     have hb33:(z27=0):=by simpa using hb33
     refine st_op (ev_move rfl) rfl rfl rfl ?_
     refine st_op (ev_int rfl rfl rfl) rfl rfl rfl ?_
     refine st_op (ev_pickF rfl rfl) rfl rfl rfl ?_
     refine st_op (ev_move rfl) rfl rfl rfl ?_
     refine st_bool 43 rfl (fun hb35=>?_) (fun hb35=>?_)
     ·
      have hb35:=of_decide_eq_true hb35
      iterate 2 refine st_skip rfl rfl rfl ?_
      refine st_op (ev_pickT rfl rfl) rfl rfl rfl ?_
      refine st_op (ev_assign rfl) rfl rfl rfl ?_
      refine aw_cond (t:=true) rfl ?_
      refine aw_seq ?_
      refine aw_reg ?_
      iterate 4 refine st_op (ev_assign rfl) rfl rfl rfl ?_
      refine aw_ret ?_
      have hm36:My H18 H18 none 0 1 (([]:List Int).map u8c) := .nil
      have hres:(Spec.openF b)=(0,([]:List Int),0,3):=by first | (exfalso;omega) | (rw[Spec.openF_ne hx6 hL12 hR24];(repeat (first | rfl | rw[if_neg (by omega)] | rw[if_pos (by omega)])))
      exact⟨.tuple #[.int .i64 0,.slice none 0 0,.int .i64 0,.int .i64 3],rfl,none,0,by first | (rw[hres];first | done | rfl | simp;done) | rfl,(by first | exact(My.older hm36 (by omega)) | (rw[hres];exact(My.older hm36 (by omega)))),(by exact(Spec.open_all bb).1),(by exact(Spec.open_all bb).2.1),(by exact(Spec.open_all bb).2.2.1),(by exact(Spec.open_all bb).2.2.2),hx19⟩
     ·
      have hb35:=of_decide_eq_false hb35
      refine st_op (ev_move rfl) rfl rfl rfl ?_
      refine st_op (ev_int rfl rfl rfl) rfl rfl rfl ?_
      refine st_op (ev_pickF rfl rfl) rfl rfl rfl ?_
      refine st_op (ev_assign rfl) rfl rfl rfl ?_
      by_cases hc37:(decide (z25 > 4000))=true
      ·
       refine aw_condT hc37 rfl ?_
       have hc37:=of_decide_eq_true hc37
       refine aw_seq ?_
       refine aw_reg ?_
       iterate 4 refine st_op (ev_assign rfl) rfl rfl rfl ?_
       refine aw_ret ?_
       have hm38:My H18 H18 none 0 1 (([]:List Int).map u8c) := .nil
       have hres:(Spec.openF b)=(0,([]:List Int),0,3):=by first | (exfalso;omega) | (rw[Spec.openF_ne hx6 hL12 hR24];(repeat (first | rfl | rw[if_neg (by omega)] | rw[if_pos (by omega)])))
       exact⟨.tuple #[.int .i64 0,.slice none 0 0,.int .i64 0,.int .i64 3],rfl,none,0,by first | (rw[hres];first | done | rfl | simp;done) | rfl,(by first | exact(My.older hm38 (by omega)) | (rw[hres];exact(My.older hm38 (by omega)))),(by exact(Spec.open_all bb).1),(by exact(Spec.open_all bb).2.1),(by exact(Spec.open_all bb).2.2.1),(by exact(Spec.open_all bb).2.2.2),hx19⟩
      ·
       rw[Bool.not_eq_true] at hc37;refine aw_condF hc37 rfl ?_
       have hc37:=of_decide_eq_false hc37
       refine aw_skip ?_
       refine aw_seq ?_
       refine aw_reg ?_
       refine st_op (ev_move rfl) rfl rfl rfl ?_
       refine st_op (ev_int64 (c:=1+z26) rfl rfl rfl (by omega) (by omega)) rfl rfl rfl ?_
       refine st_op (ev_assign rfl) rfl rfl rfl ?_
       refine aw_seq ?_
       refine aw_reg ?_
       refine st_op (ev_move rfl) rfl rfl rfl ?_
       refine st_op (ev_int64 (c:=(1+z26)+4) rfl rfl rfl (by omega) (by omega)) rfl rfl rfl ?_
       refine st_op (ev_move rfl) rfl rfl rfl ?_
       refine st_op (ev_int64 (c:=((1+z26)+4)+z25) rfl rfl rfl (by omega) (by omega)) rfl rfl rfl ?_
       refine st_op (ev_assign rfl) rfl rfl rfl ?_
       iterate 2 refine aw_seq ?_
       refine aw_reg ?_
       refine st_op (ev_move rfl) rfl rfl rfl ?_
       refine st_op (ev_lenSl rfl Try.underlying26) rfl rfl rfl ?_
       refine st_op (ev_move rfl) rfl rfl rfl ?_
       refine st_op (ev_int rfl rfl rfl) rfl rfl rfl ?_
       by_cases hc39:(decide ((b.length:Int)<((1+z26)+4)+z25))=true
       ·
        refine aw_condT hc39 rfl ?_
        have hc39:=of_decide_eq_true hc39
        refine aw_seq ?_
        refine aw_reg ?_
        iterate 4 refine st_op (ev_assign rfl) rfl rfl rfl ?_
        refine aw_ret ?_
        have hm40:My H18 H18 none 0 1 (([]:List Int).map u8c) := .nil
        have hres:(Spec.openF b)=(0,([]:List Int),0,2):=by first | (exfalso;omega) | (rw[Spec.openF_ne hx6 hL12 hR24];(repeat (first | rfl | rw[if_neg (by omega)] | rw[if_pos (by omega)])))
        exact⟨.tuple #[.int .i64 0,.slice none 0 0,.int .i64 0,.int .i64 2],rfl,none,0,by first | (rw[hres];first | done | rfl | simp;done) | rfl,(by first | exact(My.older hm40 (by omega)) | (rw[hres];exact(My.older hm40 (by omega)))),(by exact(Spec.open_all bb).1),(by exact(Spec.open_all bb).2.1),(by exact(Spec.open_all bb).2.2.1),(by exact(Spec.open_all bb).2.2.2),hx19⟩
       ·
        rw[Bool.not_eq_true] at hc39;refine aw_condF hc39 rfl ?_
        have hc39:=of_decide_eq_false hc39
        refine aw_skip ?_
        refine aw_seq ?_
        refine aw_reg ?_
        iterate 2 refine st_op (ev_move rfl) rfl rfl rfl ?_
        refine st_op (ev_int64 (c:=(1+z26)+4) rfl rfl rfl (by omega) (by omega)) rfl rfl rfl ?_
        refine st_op (ev_move rfl) rfl rfl rfl ?_
        have h49:=Row.ext hb hx19
        obtain⟨A41,c42,L43,hL44,hl45,hs46,hr47,hc48⟩:=sliceA_typed u8c el26 (by decide) h49 cb (lo:=some (.int .i64 ((1+z26)+4))) (hi:=some (.int .i64 (((1+z26)+4)+z25))) (l:=(((1+z26)+4)).toNat) (h:=((((1+z26)+4)+z25)).toNat) (by rw[Option.isSome_some,if_pos rfl];exact bound_int (by omega) (by omega) (by first | rfl | omega)) (bound_int (by omega) (by omega) (by first | rfl | omega)) (by omega) (by omega)
        refine st_op (ev_slice rfl rfl rfl rfl hs46) rfl rfl rfl ?_
        have hL44b:Spec.Bytes L43:=by rw[hL44];exact Spec.Bytes.take (Spec.Bytes.drop (by assumption) _) _
        refine st_op (ev_assign rfl) rfl rfl rfl ?_
        iterate 2 refine aw_seq ?_
        refine aw_marks (fun b=>b<H18.next) [(false,false),(false,false),(false,false),(false,true),(false,false),(false,true),(false,true),(false,false),(false,false),(false,false),(false,false),(false,false),(true,false),(true,false),(false,false)] mixed (by kernel_rfl) (by kernel_rfl) ?_
        iterate 2 refine sm_op (ev_move rfl) rfl rfl rfl ?_
        obtain⟨A50,c51,L52,hL53,hl54,hs55,hr56,hc57⟩:=sliceA_typed u8c el26 (by decide) h49 cb (lo:=none) (hi:=some (.int .i64 (1+z26))) (l:=0) (h:=((1+z26)).toNat) (by rw[Option.isSome_some,if_pos rfl];exact bound_int (by omega) (by omega) (by first | rfl | omega)) rfl (by omega) (by omega)
        refine sm_op (ev_slice rfl rfl rfl rfl hs55) rfl rfl rfl ?_
        have hL53b:Spec.Bytes L52:=by rw[hL53];exact Spec.Bytes.take (Spec.Bytes.drop (by assumption) _) _
        refine sm_call rfl rfl rfl ent73 rfl rfl rfl ?_
        obtain⟨_,H59,hs58,hs58v,hq61,hx60⟩:=crc_Sum_spec H18 A50 L52 c51 hr56 hc57 (by omega) (by assumption)
        rw[hs58v] at hs58;clear hs58v
        refine⟨_,H59,hs58,(fun _ b hb=>hx60.2 b (by omega)),?_⟩
        have H59n:H18.next≤H59.next:=hx60.1
        refine sm_op (ev_move rfl) rfl rfl rfl ?_
        refine sm_call rfl rfl rfl ent72 rfl rfl rfl ?_
        have h62:=Row.ext hr47 hx60
        obtain⟨_,H64,hs63,hs63v,hq66,hx65⟩:=crc_More_spec H59 ((Spec.crcMore 0 L52:Nat):Int) ⟨by omega,by omega⟩ A41 L43 c42 h62 hc48 (by omega) (by assumption)
        rw[hs63v] at hs63;clear hs63v
        refine⟨_,H64,hs63,(fun _ b hb=>hx65.2 b (by omega)),?_⟩
        have H64n:H59.next≤H64.next:=hx65.1
        refine sm_call rfl rfl rfl ent71 rfl rfl rfl ?_
        obtain⟨_,H68,hs67,A70,c71,hs67v,hm72,hq73,hx69⟩:=num_Four_spec H64 ((Spec.crcMore ((Spec.crcMore 0 L52:Nat):Int).toNat L43:Nat):Int) ⟨by omega,by omega⟩
        rw[hs67v] at hs67;clear hs67v
        refine⟨_,H68,hs67,(fun _ b hb=>hx69.2 b (by omega)),?_⟩
        have H68n:H64.next≤H68.next:=hx69.1
        refine sm_op (ev_strOf (l:=(Spec.four ((Spec.crcMore ((Spec.crcMore 0 L52:Nat):Int).toNat L43:Nat):Int).toNat)) (A:=A70) (c:=c71) slu8_26 isstr_9 rfl (My.anil hm72) (My.row hm72)) rfl rfl rfl ?_
        iterate 3 refine sm_op (ev_move rfl) rfl rfl rfl ?_
        refine sm_op (ev_int64 (c:=(1+z26)+4) rfl rfl rfl (by omega) (by omega)) rfl rfl rfl ?_
        have hx83:Ext H18 H68:=(Ext.trans (Ext.trans hx60 hx65) hx69)
        have h82:=Row.ext h49 hx83
        obtain⟨A74,c75,L76,hL77,hl78,hs79,hr80,hc81⟩:=sliceA_typed u8c el26 (by decide) h82 cb (lo:=some (.int .i64 (1+z26))) (hi:=some (.int .i64 ((1+z26)+4))) (l:=((1+z26)).toNat) (h:=(((1+z26)+4)).toNat) (by rw[Option.isSome_some,if_pos rfl];exact bound_int (by first | omega | (simp only [List.length_append,List.length_cons,List.length_nil,List.length_map,List.length_set,List.length_replicate,Spec.bytesOf_length];omega) | (simp;omega)) (by first | omega | (simp only [List.length_append,List.length_cons,List.length_nil,List.length_map,List.length_set,List.length_replicate,Spec.bytesOf_length];omega) | (simp;omega)) (by first | rfl | omega)) (bound_int (by first | omega | (simp only [List.length_append,List.length_cons,List.length_nil,List.length_map,List.length_set,List.length_replicate,Spec.bytesOf_length];omega) | (simp;omega)) (by first | omega | (simp only [List.length_append,List.length_cons,List.length_nil,List.length_map,List.length_set,List.length_replicate,Spec.bytesOf_length];omega) | (simp;omega)) (by first | rfl | omega)) (by first | omega | (simp only [List.length_append,List.length_cons,List.length_nil,List.length_map,List.length_set,List.length_replicate,Spec.bytesOf_length];omega) | (simp;omega)) (by first | omega | (simp only [List.length_append,List.length_cons,List.length_nil,List.length_map,List.length_set,List.length_replicate,Spec.bytesOf_length];omega) | (simp;omega))
        refine sm_read (ev_slice rfl rfl rfl rfl hs79) rfl rfl rfl (fun q hq=>Nat.lt_of_lt_of_le (rd_slice rfl rfl h49 hq) (by omega)) ?_
        have hL77b:Spec.Bytes L76:=by rw[hL77];exact Spec.Bytes.take (Spec.Bytes.drop (by assumption) _) _
        refine sm_read (ev_strOf (l:=L76) (A:=A74) (c:=c75) slu8_26 isstr_9 rfl (fun h=>sliceA_none el26 (h ▸ hs79)) hr80) rfl rfl rfl (fun q hq=>Nat.lt_of_lt_of_le (rd_conv2 rfl rfl el26 hs79 h49 (by first | omega | (simp only [List.length_append,List.length_cons,List.length_nil,List.length_map,List.length_set,List.length_replicate,Spec.bytesOf_length];omega) | (simp;omega)) hq) (by omega)) ?_
        refine sm_op (ev_str rfl rfl rfl) rfl rfl rfl ?_
        by_cases hc84:(!(((strOfNums (Spec.four ((Spec.crcMore ((Spec.crcMore 0 L52:Nat):Int).toNat L43:Nat):Int).toNat))).toList == ((strOfNums L76)).toList))=true
        ·
         refine aw_condT hc84 rfl ?_
         replace hc84:(((strOfNums (Spec.four ((Spec.crcMore ((Spec.crcMore 0 L52:Nat):Int).toNat L43:Nat):Int).toNat))).toList == ((strOfNums L76)).toList)=false:=by rw[Bool.not_eq_true'] at hc84;exact hc84
         have hc84:=ne_of_beq_false hc84
         refine aw_seq ?_
         refine aw_reg ?_
         iterate 4 refine st_op (ev_assign rfl) rfl rfl rfl ?_
         refine aw_ret ?_
         have hm85:My H68 H68 none 0 1 (([]:List Int).map u8c) := .nil
         have hx86:Ext H H68:=(Ext.trans (Ext.trans (Ext.trans hx19 hx60) hx65) hx69)
         have hres:(Spec.openF b)=(0,([]:List Int),0,3):=by first | (exfalso;omega) | exact(Spec.open_end bb hx6 hL12 (by rw[hR24];congr 2 <;> omega) (by omega) (by omega) (by omega) (by omega) hL44 hL53 hL77).2 (by assumption) | exact(Spec.open_end bb hx6 hL12 (by rw[hR24];congr 2 <;> omega) (by omega) (by omega) (by omega) (by omega) hL44 hL53 hL77).1 (by assumption)
         exact⟨.tuple #[.int .i64 0,.slice none 0 0,.int .i64 0,.int .i64 3],rfl,none,0,by first | (rw[hres];first | done | rfl | simp;done) | rfl,(by first | exact(My.older hm85 (by omega)) | (rw[hres];exact(My.older hm85 (by omega)))),(by exact(Spec.open_all bb).1),(by exact(Spec.open_all bb).2.1),(by exact(Spec.open_all bb).2.2.1),(by exact(Spec.open_all bb).2.2.2),hx86⟩
        ·
         rw[Bool.not_eq_true] at hc84;refine aw_condF hc84 rfl ?_
         replace hc84:(((strOfNums (Spec.four ((Spec.crcMore ((Spec.crcMore 0 L52:Nat):Int).toNat L43:Nat):Int).toNat))).toList == ((strOfNums L76)).toList)=true:=by rw[Bool.not_eq_false'] at hc84;exact hc84
         have hc84:=eq_of_beq hc84
         refine aw_skip ?_
         refine aw_seq ?_
         refine aw_marks (fun b=>b<H68.next) [(false,false),(false,false),(true,false),(false,false),(false,false),(false,true),(false,false),(false,false),(false,false),(false,false),(false,false)] mixed (by kernel_rfl) (by kernel_rfl) ?_
         refine sm_op (ev_move rfl) rfl rfl rfl ?_
         have hi87:0≤(0:Int):=by omega
         have hi88:(0:Int)<((b.length:Nat):Int):=by first | omega | (simp only [List.length_append,List.length_cons,List.length_nil,List.length_map,List.length_set,List.length_replicate,Spec.bytesOf_length];omega) | (simp;omega)
         refine sm_op (ev_at rfl rfl h82 (getMap u8c hx6) (by first | rfl | omega | simp) hi87 hi88 el26) rfl rfl rfl ?_
         refine sm_read (ev_atL rfl h82 (getMap u8c hx6) one5 rfl) rfl rfl rfl (fun q hq=>Nat.lt_of_lt_of_le (rd_at rfl rfl h82 (getMap u8c hx6) hq) (by omega)) ?_
         refine sm_op (ev_convI Try.underlying5 Try.underlying3 rfl (wrI64 (by omega) (by omega))) rfl rfl rfl ?_
         refine sm_op (ev_move rfl) rfl rfl rfl ?_
         have hm89:My H68 H68 none 0 1 (([]:List Int).map u8c) := .nil
         have hx91:Ext H59 H68:=(Ext.trans hx65 hx69)
         have h90:=Row.ext h62 hx91
         obtain⟨A92,c93,H94,W95,he96,hm97,hf98⟩:=mem_append (f:=u8c) (old:=([]:List Int)) (new:=L43) (m:=0) (mx:=L43.length) (c:=0) (by first | rfl | simp) (by first | rfl | simp) eok26 (by decide) hm89 hm89 (by omega) ((h90).srcF (by decide) (by first | rfl | simp)) rfl u8c_len u8c_one (by first | omega | (simp only [List.length_append,List.length_cons,List.length_nil,List.length_map,List.length_set,List.length_replicate,Spec.bytesOf_length];omega) | (simp;omega)) (by first | omega | (simp only [List.length_append,List.length_cons,List.length_nil,List.length_map,List.length_set,List.length_replicate,Spec.bytesOf_length];omega) | (simp;omega))
         refine sm_act (he96 _ _ _ _ _ _ _ _ _ _ rfl rfl isrow26) rfl rfl rfl (fun q hq=>hf98.2 q (by omega) (fun e=>by omega)) ?_
         have H94n:H68.next≤H94.next:=hf98.1
         rw[List.nil_append] at hm97
         refine sm_op (ev_move rfl) rfl rfl rfl ?_
         iterate 4 refine sm_op (ev_assign rfl) rfl rfl rfl ?_
         refine aw_ret ?_
         have hx99:Ext H H94:=(Ext.then (Ext.trans (Ext.trans (Ext.trans hx19 hx60) hx65) hx69) hf98 (fun q hq e=>by omega))
         have hres:(Spec.openF b)=(x5,L43,((1+z26)+4)+z25,0):=by first | (exfalso;omega) | exact(Spec.open_end bb hx6 hL12 (by rw[hR24];congr 2 <;> omega) (by omega) (by omega) (by omega) (by omega) hL44 hL53 hL77).2 (by assumption) | exact(Spec.open_end bb hx6 hL12 (by rw[hR24];congr 2 <;> omega) (by omega) (by omega) (by omega) (by omega) hL44 hL53 hL77).1 (by assumption)
         exact⟨.tuple #[.int .i64 x5,.slice A92 L43.length c93,.int .i64 (((1+z26)+4)+z25),.int .i64 0],rfl,A92,c93,by first | (rw[hres];first | done | rfl | simp;done) | rfl,(by first | exact(My.older hm97 (by omega)) | (rw[hres];exact(My.older hm97 (by omega)))),(by exact(Spec.open_all bb).1),(by exact(Spec.open_all bb).2.1),(by exact(Spec.open_all bb).2.2.1),(by exact(Spec.open_all bb).2.2.2),hx99⟩
theorem wal_rnum_spec (H:Heap) (lA:Option Addr) (l:List Int) (lc:Nat) (hl:Row H lA lc 1 (l.map u8c)) (cl:l.length≤lc) (ll:l.length≤1099511627776) (bl:Spec.Bytes l) (bad:Bool) (p:Nat) (hp:p<H.next) (Bp:H.blk p=some ⟨[.slice lA l.length lc,.bool bad],0,false,false⟩):∃ v H',Spec Try.prog 56 [.pointer (some ⟨p,0,none⟩)] H v H'∧(∃ rA1 rc1,(v = .int .i64 ((Spec.rdN l bad).1))∧(Row H' rA1 rc1 1 (((Spec.rdN l bad).2.1).map u8c))∧(((Spec.rdN l bad).2.1).length≤rc1)∧(H'.blk p=some ⟨[.slice rA1 (((Spec.rdN l bad).2.1).length) rc1,.bool ((Spec.rdN l bad).2.2)],0,false,false⟩)∧(Spec.Bytes (Spec.rdN l bad).2.1)∧((Spec.rdN l bad).2.1.length≤l.length)∧(-9223372036854775808≤(Spec.rdN l bad).1∧(Spec.rdN l bad).1≤9223372036854775807)∧(Fr (fun q=>q=p) H H')):=by
 refine spec_go1 E0_ok 41 (f:=56) Try.func56 rfl rfl rfl ?_
 refine aw_seq ?_
 refine aw_reg ?_
 refine st_op (ev_assign rfl) rfl rfl rfl ?_
 refine aw_seq ?_
 refine aw_reg ?_
 refine st_op (ev_move rfl) rfl rfl rfl ?_
 refine st_op (ev_nilCheck rfl) rfl rfl rfl ?_
 refine st_op (ev_fieldAddr rfl fa115_0 (o':=0) rfl) rfl rfl rfl ?_
 refine st_op (ev_load rfl (lvar_one one26 Bp rfl)) rfl rfl rfl ?_
 refine st_call rfl rfl rfl ent70 rfl rfl rfl ?_
 obtain⟨_,H2,hs1,hs1v,hq4,hq5,hq6,hx3⟩:=num_Get_spec H lA l lc hl cl (by omega) (by assumption)
 rw[hs1v] at hs1;clear hs1v
 generalize hR8:(Spec.numGet 0 0 l)=r7 at hs1 hq4 hq5 hq6
 obtain⟨z9,z10,z11⟩:=r7
 dsimp only at hs1 hq4 hq5 hq6
 refine⟨_,H2,hs1,?_⟩
 have H2n:H.next≤H2.next:=hx3.1
 refine st_op (ev_move rfl) rfl rfl rfl ?_
 iterate 3 refine st_op (ev_extract rfl rfl) rfl rfl rfl ?_
 iterate 3 refine st_op (ev_assign rfl) rfl rfl rfl ?_
 iterate 2 refine aw_seq ?_
 refine aw_reg ?_
 iterate 2 refine st_op (ev_move rfl) rfl rfl rfl ?_
 refine st_op (ev_nilCheck rfl) rfl rfl rfl ?_
 refine st_op (ev_fieldAddr rfl fa115_1 (o':=1) rfl) rfl rfl rfl ?_
 have h12:=Ext.blk hx3 (by omega) Bp
 refine st_op (ev_load rfl (lvar_one one4 h12 rfl)) rfl rfl rfl ?_
 refine st_op (ev_move rfl) rfl rfl rfl ?_
 refine st_bool 20 rfl (fun hb13=>?_) (fun hb13=>?_)
 ·
  iterate 2 refine st_skip rfl rfl rfl ?_
  refine st_op (ev_pickT rfl rfl) rfl rfl rfl ?_
  refine st_op (ev_nilCheck rfl) rfl rfl rfl ?_
  refine st_op (ev_fieldAddr rfl fa115_1 (o':=1) rfl) rfl rfl rfl ?_
  obtain⟨H14,he15,H14n_,hB16,f17⟩:=mem_store (v := .bool true) (o:=1) (cs' := [.slice lA l.length lc,.bool true]) 1 rfl rfl size4 h12 rfl rfl rfl
  refine st_op0 (he15 _ _ _ _ _ _ _ _ _ rfl rfl) rfl rfl ?_
  have hf18:Fr (fun q=>q=p) H2 H14:=Fr.write H14n_ f17
  have H14n:H2.next≤H14.next:=hf18.1
  refine aw_seq ?_
  refine aw_reg ?_
  refine st_op (ev_move rfl) rfl rfl rfl ?_
  refine st_op (ev_nilCheck rfl) rfl rfl rfl ?_
  refine st_op (ev_fieldAddr rfl fa115_1 (o':=1) rfl) rfl rfl rfl ?_
  refine st_op (ev_load rfl (lvar_one one4 hB16 rfl)) rfl rfl rfl ?_
  refine st_op (ev_not rfl) rfl rfl rfl ?_
  refine aw_cond (t:=false) rfl ?_
  refine aw_skip ?_
  refine aw_seq ?_
  refine aw_reg ?_
  refine st_op (ev_move rfl) rfl rfl rfl ?_
  refine st_op (ev_assign rfl) rfl rfl rfl ?_
  refine aw_ret ?_
  have h19:=Row.ext hl hx3
  have h20:=Row.fr h19 hf18 (fun q hq e=>⟨_,e ▸ h12,show(0:Nat)≠1 by decide⟩)
  have hres:(Spec.rdN l bad)=(z9,l,true):=by unfold Spec.rdN;simp only [hR8];by_cases hz:z11=0 <;> simp_all
  exact⟨.int .i64 z9,rfl,lA,lc,by first | (rw[hres];first | done | rfl | simp;done) | rfl,(by rw[hres];exact h20),(by rw[hres];exact cl),(by rw[hres];exact hB16),(by exact Spec.rdN_bytes bl bad),(by exact Spec.rdN_len bad),(by exact Spec.rdN_rng bl bad),(Fr.transG (Fr.trans (Fr.refl (fun q=>q=p) H) (hx3.fr fun _=>False) (fun q hq (e:False)=>e.elim)) hf18 (fun q hq hE e=>(e)))⟩
 ·
  refine st_op (ev_move rfl) rfl rfl rfl ?_
  refine st_op (ev_int rfl rfl rfl) rfl rfl rfl ?_
  refine st_op (ev_pickF rfl rfl) rfl rfl rfl ?_
  refine st_op (ev_nilCheck rfl) rfl rfl rfl ?_
  refine st_op (ev_fieldAddr rfl fa115_1 (o':=1) rfl) rfl rfl rfl ?_
  obtain⟨H21,he22,H21n_,hB23,f24⟩:=mem_store (v := .bool (z11 != 0)) (o:=1) (cs' := [.slice lA l.length lc,.bool (z11 != 0)]) 1 rfl rfl size4 h12 rfl rfl rfl
  refine st_op0 (he22 _ _ _ _ _ _ _ _ _ rfl rfl) rfl rfl ?_
  have hf25:Fr (fun q=>q=p) H2 H21:=Fr.write H21n_ f24
  have H21n:H2.next≤H21.next:=hf25.1
  refine aw_seq ?_
  refine aw_reg ?_
  refine st_op (ev_move rfl) rfl rfl rfl ?_
  refine st_op (ev_nilCheck rfl) rfl rfl rfl ?_
  refine st_op (ev_fieldAddr rfl fa115_1 (o':=1) rfl) rfl rfl rfl ?_
  refine st_op (ev_load rfl (lvar_one one4 hB23 rfl)) rfl rfl rfl ?_
  refine st_op (ev_not rfl) rfl rfl rfl ?_
  by_cases hc26:(!(z11 != 0))=true
  ·
   refine aw_condT hc26 rfl ?_
   replace hc26:(z11 != 0)=false:=by rw[Bool.not_eq_true'] at hc26;exact hc26
   have hc26:(z11=0):=by simpa using hc26
   refine aw_reg ?_
   iterate 2 refine st_op (ev_move rfl) rfl rfl rfl ?_
   refine st_op (ev_nilCheck rfl) rfl rfl rfl ?_
   refine st_op (ev_fieldAddr rfl fa115_0 (o':=0) rfl) rfl rfl rfl ?_
   refine st_op (ev_load rfl (lvar_one one26 hB23 rfl)) rfl rfl rfl ?_
   refine st_op (ev_move rfl) rfl rfl rfl ?_
   have h35:=Row.ext hl hx3
   have h36:=Row.fr h35 hf25 (fun q hq e=>⟨_,e ▸ h12,show(0:Nat)≠1 by decide⟩)
   obtain⟨A27,c28,L29,hL30,hl31,hs32,hr33,hc34⟩:=sliceA_typed u8c el26 (by decide) h36 cl (lo:=some (.int .i64 z10)) (hi:=none) (l:=(z10).toNat) (h:=l.length) rfl (bound_int (by omega) (by omega) (by first | rfl | omega)) (by omega) (by omega)
   refine st_op (ev_slice rfl rfl rfl rfl hs32) rfl rfl rfl ?_
   have hL30b:Spec.Bytes L29:=by rw[hL30];exact Spec.Bytes.take (Spec.Bytes.drop (by assumption) _) _
   refine st_op (ev_nilCheck rfl) rfl rfl rfl ?_
   refine st_op (ev_fieldAddr rfl fa115_0 (o':=0) rfl) rfl rfl rfl ?_
   obtain⟨H37,he38,H37n_,hB39,f40⟩:=mem_store (v := .slice A27 L29.length c28) (o:=0) (cs' := [.slice A27 L29.length c28,.bool (z11 != 0)]) 1 rfl rfl size26 hB23 rfl rfl rfl
   refine st_op0 (he38 _ _ _ _ _ _ _ _ _ rfl rfl) rfl rfl ?_
   have hf41:Fr (fun q=>q=p) H21 H37:=Fr.write H37n_ f40
   have H37n:H21.next≤H37.next:=hf41.1
   refine aw_seq ?_
   refine aw_reg ?_
   refine st_op (ev_move rfl) rfl rfl rfl ?_
   refine st_op (ev_assign rfl) rfl rfl rfl ?_
   refine aw_ret ?_
   have h42:=Row.fr hr33 hf41 (fun q hq e=>⟨_,e ▸ hB23,show(0:Nat)≠1 by decide⟩)
   have hres:(Spec.rdN l bad)=(z9,L29,(z11 != 0)):=by unfold Spec.rdN;simp only [hR8];rw[Spec.drop_all] at hL30;by_cases hz:z11=0 <;> simp_all
   exact⟨.int .i64 z9,rfl,A27,c28,by first | (rw[hres];first | done | rfl | simp;done) | rfl,(by rw[hres];exact h42),(by rw[hres];exact hc34),(by rw[hres];exact hB39),(by exact Spec.rdN_bytes bl bad),(by exact Spec.rdN_len bad),(by exact Spec.rdN_rng bl bad),(Fr.transG (Fr.transG (Fr.trans (Fr.refl (fun q=>q=p) H) (hx3.fr fun _=>False) (fun q hq (e:False)=>e.elim)) hf25 (fun q hq hE e=>(e))) hf41 (fun q hq hE e=>(e)))⟩
  ·
   rw[Bool.not_eq_true] at hc26;refine aw_condF hc26 rfl ?_
   replace hc26:(z11 != 0)=true:=by rw[Bool.not_eq_false'] at hc26;exact hc26
   have hc26:¬ (z11=0):=by simpa using hc26
   refine aw_skip ?_
   refine aw_seq ?_
   refine aw_reg ?_
   refine st_op (ev_move rfl) rfl rfl rfl ?_
   refine st_op (ev_assign rfl) rfl rfl rfl ?_
   refine aw_ret ?_
   have h43:=Row.ext hl hx3
   have h44:=Row.fr h43 hf25 (fun q hq e=>⟨_,e ▸ h12,show(0:Nat)≠1 by decide⟩)
   have hres:(Spec.rdN l bad)=(z9,l,(z11 != 0)):=by unfold Spec.rdN;simp only [hR8];by_cases hz:z11=0 <;> simp_all
   exact⟨.int .i64 z9,rfl,lA,lc,by first | (rw[hres];first | done | rfl | simp;done) | rfl,(by rw[hres];exact h44),(by rw[hres];exact cl),(by rw[hres];exact hB23),(by exact Spec.rdN_bytes bl bad),(by exact Spec.rdN_len bad),(by exact Spec.rdN_rng bl bad),(Fr.transG (Fr.trans (Fr.refl (fun q=>q=p) H) (hx3.fr fun _=>False) (fun q hq (e:False)=>e.elim)) hf25 (fun q hq hE e=>(e)))⟩
theorem num_GetText_spec (H:Heap) (bA:Option Addr) (b:List Int) (bc:Nat) (hb:Row H bA bc 1 (b.map u8c)) (cb:b.length≤bc) (lb:b.length≤1099511627776) (bb:Spec.Bytes b):∃ v H',Spec Try.prog 74 [.slice bA b.length bc] H v H'∧((v = .tuple #[.string ((Spec.getText b).1),.int .i64 ((Spec.getText b).2.1),.int .i64 ((Spec.getText b).2.2)])∧((Spec.getText b).2.2=0→(Spec.getText b).1.size≤1048576∧1≤(Spec.getText b).2.1∧(Spec.getText b).2.1≤b.length)∧(0≤(Spec.getText b).2.2∧(Spec.getText b).2.2≤2)∧((Spec.getText b).2.2≠0→(Spec.getText b).2.1=0)∧((Spec.getText b).1.size≤1048576)∧(0≤(Spec.getText b).2.1∧(Spec.getText b).2.1≤b.length)∧(Ext H H')):=by
 refine spec_go1 E0_ok 42 (f:=74) Try.func74 rfl rfl rfl ?_
 refine aw_seq ?_
 refine aw_reg ?_
 iterate 3 refine st_op (ev_assign rfl) rfl rfl rfl ?_
 refine aw_seq ?_
 refine aw_reg ?_
 refine st_op (ev_move rfl) rfl rfl rfl ?_
 refine st_call rfl rfl rfl ent70 rfl rfl rfl ?_
 obtain⟨_,H2,hs1,hs1v,hq4,hq5,hq6,hx3⟩:=num_Get_spec H bA b bc hb cb (by omega) (by assumption)
 rw[hs1v] at hs1;clear hs1v
 generalize hR8:(Spec.numGet 0 0 b)=r7 at hs1 hq4 hq5 hq6
 obtain⟨z9,z10,z11⟩:=r7
 dsimp only at hs1 hq4 hq5 hq6
 refine⟨_,H2,hs1,?_⟩
 have H2n:H.next≤H2.next:=hx3.1
 refine st_op (ev_move rfl) rfl rfl rfl ?_
 iterate 3 refine st_op (ev_extract rfl rfl) rfl rfl rfl ?_
 iterate 3 refine st_op (ev_assign rfl) rfl rfl rfl ?_
 refine aw_seq ?_
 refine aw_block ?_
 refine aw_seq ?_
 refine aw_reg ?_
 refine st_op (ev_move rfl) rfl rfl rfl ?_
 refine st_op (ev_int rfl rfl rfl) rfl rfl rfl ?_
 refine st_op (ev_assign rfl) rfl rfl rfl ?_
 by_cases hc12:(z11 != 0)=true
 ·
  refine aw_condT hc12 rfl ?_
  have hc12:¬ (z11=0):=by simpa using hc12
  refine aw_seq ?_
  refine aw_reg ?_
  refine st_op (ev_move rfl) rfl rfl rfl ?_
  iterate 3 refine st_op (ev_assign rfl) rfl rfl rfl ?_
  refine aw_ret ?_
  have hres:(Spec.getText b)=((⟨#[]⟩:ByteArray),0,z11):=by unfold Spec.getText;(try simp only [hR8]);(repeat (first | rfl | rw[if_pos (by first | omega | (simp_all;done) | (simp_all;omega))] | rw[if_neg (by first | omega | (simp_all;done) | (simp_all;omega))]))
  exact⟨.tuple #[.string (⟨#[]⟩),.int .i64 0,.int .i64 z11],rfl,by first | (rw[hres];done) | rw[← hres],(by rw[hres];first | omega | (refine⟨?_,?_,?_⟩ <;> simp [strOfNums_size] <;> omega) | (simp [strOfNums_size];omega) | (intro h;simp at h;done) | (simp;done) | (refine⟨?_,?_⟩ <;> (simp;try omega)) | (intro _;rfl) | (show(0:Nat)≤_;omega)),(by rw[hres];first | omega | (refine⟨?_,?_,?_⟩ <;> simp [strOfNums_size] <;> omega) | (simp [strOfNums_size];omega) | (intro h;simp at h;done) | (simp;done) | (refine⟨?_,?_⟩ <;> (simp;try omega)) | (intro _;rfl) | (show(0:Nat)≤_;omega)),(by rw[hres];first | omega | (refine⟨?_,?_,?_⟩ <;> simp [strOfNums_size] <;> omega) | (simp [strOfNums_size];omega) | (intro h;simp at h;done) | (simp;done) | (refine⟨?_,?_⟩ <;> (simp;try omega)) | (intro _;rfl) | (show(0:Nat)≤_;omega)),(by rw[hres];first | omega | (refine⟨?_,?_,?_⟩ <;> simp [strOfNums_size] <;> omega) | (simp [strOfNums_size];omega) | (intro h;simp at h;done) | (simp;done) | (refine⟨?_,?_⟩ <;> (simp;try omega)) | (intro _;rfl) | (show(0:Nat)≤_;omega)),(by rw[hres];first | omega | (refine⟨?_,?_,?_⟩ <;> simp [strOfNums_size] <;> omega) | (simp [strOfNums_size];omega) | (intro h;simp at h;done) | (simp;done) | (refine⟨?_,?_⟩ <;> (simp;try omega)) | (intro _;rfl) | (show(0:Nat)≤_;omega)),hx3⟩
 ·
  rw[Bool.not_eq_true] at hc12;refine aw_condF hc12 rfl ?_
  have hc12:(z11=0):=by simpa using hc12
  refine aw_seq ?_
  refine aw_reg ?_
  refine st_op (ev_move rfl) rfl rfl rfl ?_
  refine st_op (ev_int rfl rfl rfl) rfl rfl rfl ?_
  refine st_op (ev_move rfl) rfl rfl rfl ?_
  refine st_bool 21 rfl (fun hb13=>?_) (fun hb13=>?_)
  ·
   have hb13:=of_decide_eq_true hb13
   iterate 2 refine st_skip rfl rfl rfl ?_
   refine st_op (ev_pickT rfl rfl) rfl rfl rfl ?_
   refine st_op (ev_assign rfl) rfl rfl rfl ?_
   refine aw_cond (t:=true) rfl ?_
   refine aw_seq ?_
   refine aw_reg ?_
   iterate 3 refine st_op (ev_assign rfl) rfl rfl rfl ?_
   refine aw_ret ?_
   have hres:(Spec.getText b)=((⟨#[]⟩:ByteArray),0,1):=by unfold Spec.getText;(try simp only [hR8]);(repeat (first | rfl | rw[if_pos (by first | omega | (simp_all;done) | (simp_all;omega))] | rw[if_neg (by first | omega | (simp_all;done) | (simp_all;omega))]))
   exact⟨.tuple #[.string (⟨#[]⟩),.int .i64 0,.int .i64 1],rfl,by first | (rw[hres];done) | rw[← hres],(by rw[hres];first | omega | (refine⟨?_,?_,?_⟩ <;> simp [strOfNums_size] <;> omega) | (simp [strOfNums_size];omega) | (intro h;simp at h;done) | (simp;done) | (refine⟨?_,?_⟩ <;> (simp;try omega)) | (intro _;rfl) | (show(0:Nat)≤_;omega)),(by rw[hres];first | omega | (refine⟨?_,?_,?_⟩ <;> simp [strOfNums_size] <;> omega) | (simp [strOfNums_size];omega) | (intro h;simp at h;done) | (simp;done) | (refine⟨?_,?_⟩ <;> (simp;try omega)) | (intro _;rfl) | (show(0:Nat)≤_;omega)),(by rw[hres];first | omega | (refine⟨?_,?_,?_⟩ <;> simp [strOfNums_size] <;> omega) | (simp [strOfNums_size];omega) | (intro h;simp at h;done) | (simp;done) | (refine⟨?_,?_⟩ <;> (simp;try omega)) | (intro _;rfl) | (show(0:Nat)≤_;omega)),(by rw[hres];first | omega | (refine⟨?_,?_,?_⟩ <;> simp [strOfNums_size] <;> omega) | (simp [strOfNums_size];omega) | (intro h;simp at h;done) | (simp;done) | (refine⟨?_,?_⟩ <;> (simp;try omega)) | (intro _;rfl) | (show(0:Nat)≤_;omega)),(by rw[hres];first | omega | (refine⟨?_,?_,?_⟩ <;> simp [strOfNums_size] <;> omega) | (simp [strOfNums_size];omega) | (intro h;simp at h;done) | (simp;done) | (refine⟨?_,?_⟩ <;> (simp;try omega)) | (intro _;rfl) | (show(0:Nat)≤_;omega)),hx3⟩
  ·
   have hb13:=of_decide_eq_false hb13
   refine st_op (ev_move rfl) rfl rfl rfl ?_
   refine st_op (ev_int rfl rfl rfl) rfl rfl rfl ?_
   refine st_op (ev_pickF rfl rfl) rfl rfl rfl ?_
   refine st_op (ev_assign rfl) rfl rfl rfl ?_
   by_cases hc14:(decide (z9 > 1048576))=true
   ·
    refine aw_condT hc14 rfl ?_
    have hc14:=of_decide_eq_true hc14
    refine aw_seq ?_
    refine aw_reg ?_
    iterate 3 refine st_op (ev_assign rfl) rfl rfl rfl ?_
    refine aw_ret ?_
    have hres:(Spec.getText b)=((⟨#[]⟩:ByteArray),0,1):=by unfold Spec.getText;(try simp only [hR8]);(repeat (first | rfl | rw[if_pos (by first | omega | (simp_all;done) | (simp_all;omega))] | rw[if_neg (by first | omega | (simp_all;done) | (simp_all;omega))]))
    exact⟨.tuple #[.string (⟨#[]⟩),.int .i64 0,.int .i64 1],rfl,by first | (rw[hres];done) | rw[← hres],(by rw[hres];first | omega | (refine⟨?_,?_,?_⟩ <;> simp [strOfNums_size] <;> omega) | (simp [strOfNums_size];omega) | (intro h;simp at h;done) | (simp;done) | (refine⟨?_,?_⟩ <;> (simp;try omega)) | (intro _;rfl) | (show(0:Nat)≤_;omega)),(by rw[hres];first | omega | (refine⟨?_,?_,?_⟩ <;> simp [strOfNums_size] <;> omega) | (simp [strOfNums_size];omega) | (intro h;simp at h;done) | (simp;done) | (refine⟨?_,?_⟩ <;> (simp;try omega)) | (intro _;rfl) | (show(0:Nat)≤_;omega)),(by rw[hres];first | omega | (refine⟨?_,?_,?_⟩ <;> simp [strOfNums_size] <;> omega) | (simp [strOfNums_size];omega) | (intro h;simp at h;done) | (simp;done) | (refine⟨?_,?_⟩ <;> (simp;try omega)) | (intro _;rfl) | (show(0:Nat)≤_;omega)),(by rw[hres];first | omega | (refine⟨?_,?_,?_⟩ <;> simp [strOfNums_size] <;> omega) | (simp [strOfNums_size];omega) | (intro h;simp at h;done) | (simp;done) | (refine⟨?_,?_⟩ <;> (simp;try omega)) | (intro _;rfl) | (show(0:Nat)≤_;omega)),(by rw[hres];first | omega | (refine⟨?_,?_,?_⟩ <;> simp [strOfNums_size] <;> omega) | (simp [strOfNums_size];omega) | (intro h;simp at h;done) | (simp;done) | (refine⟨?_,?_⟩ <;> (simp;try omega)) | (intro _;rfl) | (show(0:Nat)≤_;omega)),hx3⟩
   ·
    rw[Bool.not_eq_true] at hc14;refine aw_condF hc14 rfl ?_
    have hc14:=of_decide_eq_false hc14
    refine aw_seq ?_
    refine aw_reg ?_
    iterate 2 refine st_op (ev_move rfl) rfl rfl rfl ?_
    refine st_op (ev_lenSl rfl Try.underlying26) rfl rfl rfl ?_
    refine st_op (ev_move rfl) rfl rfl rfl ?_
    refine st_op (ev_int64 (c:=(b.length:Int) - z10) rfl rfl rfl (by omega) (by omega)) rfl rfl rfl ?_
    refine st_op (ev_int rfl rfl rfl) rfl rfl rfl ?_
    refine st_op (ev_assign rfl) rfl rfl rfl ?_
    by_cases hc15:(decide (z9 > (b.length:Int) - z10))=true
    ·
     refine aw_condT hc15 rfl ?_
     have hc15:=of_decide_eq_true hc15
     refine aw_seq ?_
     refine aw_reg ?_
     iterate 3 refine st_op (ev_assign rfl) rfl rfl rfl ?_
     refine aw_ret ?_
     have hres:(Spec.getText b)=((⟨#[]⟩:ByteArray),0,2):=by unfold Spec.getText;(try simp only [hR8]);(repeat (first | rfl | rw[if_pos (by first | omega | (simp_all;done) | (simp_all;omega))] | rw[if_neg (by first | omega | (simp_all;done) | (simp_all;omega))]))
     exact⟨.tuple #[.string (⟨#[]⟩),.int .i64 0,.int .i64 2],rfl,by first | (rw[hres];done) | rw[← hres],(by rw[hres];first | omega | (refine⟨?_,?_,?_⟩ <;> simp [strOfNums_size] <;> omega) | (simp [strOfNums_size];omega) | (intro h;simp at h;done) | (simp;done) | (refine⟨?_,?_⟩ <;> (simp;try omega)) | (intro _;rfl) | (show(0:Nat)≤_;omega)),(by rw[hres];first | omega | (refine⟨?_,?_,?_⟩ <;> simp [strOfNums_size] <;> omega) | (simp [strOfNums_size];omega) | (intro h;simp at h;done) | (simp;done) | (refine⟨?_,?_⟩ <;> (simp;try omega)) | (intro _;rfl) | (show(0:Nat)≤_;omega)),(by rw[hres];first | omega | (refine⟨?_,?_,?_⟩ <;> simp [strOfNums_size] <;> omega) | (simp [strOfNums_size];omega) | (intro h;simp at h;done) | (simp;done) | (refine⟨?_,?_⟩ <;> (simp;try omega)) | (intro _;rfl) | (show(0:Nat)≤_;omega)),(by rw[hres];first | omega | (refine⟨?_,?_,?_⟩ <;> simp [strOfNums_size] <;> omega) | (simp [strOfNums_size];omega) | (intro h;simp at h;done) | (simp;done) | (refine⟨?_,?_⟩ <;> (simp;try omega)) | (intro _;rfl) | (show(0:Nat)≤_;omega)),(by rw[hres];first | omega | (refine⟨?_,?_,?_⟩ <;> simp [strOfNums_size] <;> omega) | (simp [strOfNums_size];omega) | (intro h;simp at h;done) | (simp;done) | (refine⟨?_,?_⟩ <;> (simp;try omega)) | (intro _;rfl) | (show(0:Nat)≤_;omega)),hx3⟩
    ·
     rw[Bool.not_eq_true] at hc15;refine aw_condF hc15 rfl ?_
     have hc15:=of_decide_eq_false hc15
     refine aw_skip ?_
     refine aw_seq ?_
     refine aw_reg ?_
     iterate 4 refine st_op (ev_move rfl) rfl rfl rfl ?_
     refine st_op (ev_int64 (c:=z10+z9) rfl rfl rfl (by omega) (by omega)) rfl rfl rfl ?_
     have h24:=Row.ext hb hx3
     obtain⟨A16,c17,L18,hL19,hl20,hs21,hr22,hc23⟩:=sliceA_typed u8c el26 (by decide) h24 cb (lo:=some (.int .i64 z10)) (hi:=some (.int .i64 (z10+z9))) (l:=(z10).toNat) (h:=((z10+z9)).toNat) (by rw[Option.isSome_some,if_pos rfl];exact bound_int (by omega) (by omega) (by first | rfl | omega)) (bound_int (by omega) (by omega) (by first | rfl | omega)) (by omega) (by omega)
     refine st_op (ev_slice rfl rfl rfl rfl hs21) rfl rfl rfl ?_
     have hL19b:Spec.Bytes L18:=by rw[hL19];exact Spec.Bytes.take (Spec.Bytes.drop (by assumption) _) _
     refine st_op (ev_strOf (l:=L18) (A:=A16) (c:=c17) slu8_26 isstr_9 rfl (fun h=>sliceA_none el26 (h ▸ hs21)) hr22) rfl rfl rfl ?_
     iterate 2 refine st_op (ev_move rfl) rfl rfl rfl ?_
     refine st_op (ev_int64 (c:=z10+z9) rfl rfl rfl (by omega) (by omega)) rfl rfl rfl ?_
     iterate 3 refine st_op (ev_assign rfl) rfl rfl rfl ?_
     refine aw_ret ?_
     have hres:(Spec.getText b)=((strOfNums L18),z10+z9,0):=by unfold Spec.getText;(try simp only [hR8]);(repeat (first | rfl | rw[if_pos (by first | omega | (simp_all;done) | (simp_all;omega))] | rw[if_neg (by first | omega | (simp_all;done) | (simp_all;omega))]));rw[hL19,show(z10+z9).toNat - z10.toNat=z9.toNat by omega]
     exact⟨.tuple #[.string (strOfNums L18),.int .i64 (z10+z9),.int .i64 0],rfl,by first | (rw[hres];done) | rw[← hres],(by rw[hres];first | omega | (refine⟨?_,?_,?_⟩ <;> simp [strOfNums_size] <;> omega) | (simp [strOfNums_size];omega) | (intro h;simp at h;done) | (simp;done) | (refine⟨?_,?_⟩ <;> (simp;try omega)) | (intro _;rfl) | (show(0:Nat)≤_;omega)),(by rw[hres];first | omega | (refine⟨?_,?_,?_⟩ <;> simp [strOfNums_size] <;> omega) | (simp [strOfNums_size];omega) | (intro h;simp at h;done) | (simp;done) | (refine⟨?_,?_⟩ <;> (simp;try omega)) | (intro _;rfl) | (show(0:Nat)≤_;omega)),(by rw[hres];first | omega | (refine⟨?_,?_,?_⟩ <;> simp [strOfNums_size] <;> omega) | (simp [strOfNums_size];omega) | (intro h;simp at h;done) | (simp;done) | (refine⟨?_,?_⟩ <;> (simp;try omega)) | (intro _;rfl) | (show(0:Nat)≤_;omega)),(by rw[hres];first | omega | (refine⟨?_,?_,?_⟩ <;> simp [strOfNums_size] <;> omega) | (simp [strOfNums_size];omega) | (intro h;simp at h;done) | (simp;done) | (refine⟨?_,?_⟩ <;> (simp;try omega)) | (intro _;rfl) | (show(0:Nat)≤_;omega)),(by rw[hres];first | omega | (refine⟨?_,?_,?_⟩ <;> simp [strOfNums_size] <;> omega) | (simp [strOfNums_size];omega) | (intro h;simp at h;done) | (simp;done) | (refine⟨?_,?_⟩ <;> (simp;try omega)) | (intro _;rfl) | (show(0:Nat)≤_;omega)),hx3⟩
theorem wal_rtext_spec (H:Heap) (lA:Option Addr) (l:List Int) (lc:Nat) (hl:Row H lA lc 1 (l.map u8c)) (cl:l.length≤lc) (ll:l.length≤1099511627776) (bl:Spec.Bytes l) (bad:Bool) (p:Nat) (hp:p<H.next) (Bp:H.blk p=some ⟨[.slice lA l.length lc,.bool bad],0,false,false⟩):∃ v H',Spec Try.prog 57 [.pointer (some ⟨p,0,none⟩)] H v H'∧(∃ rA1 rc1,(v = .string ((Spec.rdT l bad).1))∧(Row H' rA1 rc1 1 (((Spec.rdT l bad).2.1).map u8c))∧(((Spec.rdT l bad).2.1).length≤rc1)∧(H'.blk p=some ⟨[.slice rA1 (((Spec.rdT l bad).2.1).length) rc1,.bool ((Spec.rdT l bad).2.2)],0,false,false⟩)∧(Spec.Bytes (Spec.rdT l bad).2.1)∧((Spec.rdT l bad).2.1.length≤l.length)∧((Spec.rdT l bad).1.size≤1048576)∧(Fr (fun q=>q=p) H H')):=by
 refine spec_go1 E0_ok 41 (f:=57) Try.func57 rfl rfl rfl ?_
 refine aw_seq ?_
 refine aw_reg ?_
 refine st_op (ev_assign rfl) rfl rfl rfl ?_
 refine aw_seq ?_
 refine aw_reg ?_
 refine st_op (ev_move rfl) rfl rfl rfl ?_
 refine st_op (ev_nilCheck rfl) rfl rfl rfl ?_
 refine st_op (ev_fieldAddr rfl fa115_0 (o':=0) rfl) rfl rfl rfl ?_
 refine st_op (ev_load rfl (lvar_one one26 Bp rfl)) rfl rfl rfl ?_
 refine st_call rfl rfl rfl ent74 rfl rfl rfl ?_
 obtain⟨_,H2,hs1,hs1v,hq4,hq5,hq6,hq7,hq8,hx3⟩:=num_GetText_spec H lA l lc hl cl (by omega) (by assumption)
 rw[hs1v] at hs1;clear hs1v
 generalize hR10:(Spec.getText l)=r9 at hs1 hq4 hq5 hq6 hq7 hq8
 obtain⟨z11,z12,z13⟩:=r9
 dsimp only at hs1 hq4 hq5 hq6 hq7 hq8
 refine⟨_,H2,hs1,?_⟩
 have H2n:H.next≤H2.next:=hx3.1
 refine st_op (ev_move rfl) rfl rfl rfl ?_
 iterate 3 refine st_op (ev_extract rfl rfl) rfl rfl rfl ?_
 iterate 3 refine st_op (ev_assign rfl) rfl rfl rfl ?_
 iterate 2 refine aw_seq ?_
 refine aw_reg ?_
 iterate 2 refine st_op (ev_move rfl) rfl rfl rfl ?_
 refine st_op (ev_nilCheck rfl) rfl rfl rfl ?_
 refine st_op (ev_fieldAddr rfl fa115_1 (o':=1) rfl) rfl rfl rfl ?_
 have h14:=Ext.blk hx3 (by omega) Bp
 refine st_op (ev_load rfl (lvar_one one4 h14 rfl)) rfl rfl rfl ?_
 refine st_op (ev_move rfl) rfl rfl rfl ?_
 refine st_bool 20 rfl (fun hb15=>?_) (fun hb15=>?_)
 ·
  iterate 2 refine st_skip rfl rfl rfl ?_
  refine st_op (ev_pickT rfl rfl) rfl rfl rfl ?_
  refine st_op (ev_nilCheck rfl) rfl rfl rfl ?_
  refine st_op (ev_fieldAddr rfl fa115_1 (o':=1) rfl) rfl rfl rfl ?_
  obtain⟨H16,he17,H16n_,hB18,f19⟩:=mem_store (v := .bool true) (o:=1) (cs' := [.slice lA l.length lc,.bool true]) 1 rfl rfl size4 h14 rfl rfl rfl
  refine st_op0 (he17 _ _ _ _ _ _ _ _ _ rfl rfl) rfl rfl ?_
  have hf20:Fr (fun q=>q=p) H2 H16:=Fr.write H16n_ f19
  have H16n:H2.next≤H16.next:=hf20.1
  refine aw_seq ?_
  refine aw_reg ?_
  refine st_op (ev_move rfl) rfl rfl rfl ?_
  refine st_op (ev_nilCheck rfl) rfl rfl rfl ?_
  refine st_op (ev_fieldAddr rfl fa115_1 (o':=1) rfl) rfl rfl rfl ?_
  refine st_op (ev_load rfl (lvar_one one4 hB18 rfl)) rfl rfl rfl ?_
  refine st_op (ev_not rfl) rfl rfl rfl ?_
  refine aw_cond (t:=false) rfl ?_
  refine aw_skip ?_
  refine aw_seq ?_
  refine aw_reg ?_
  refine st_op (ev_move rfl) rfl rfl rfl ?_
  refine st_op (ev_assign rfl) rfl rfl rfl ?_
  refine aw_ret ?_
  have h21:=Row.ext hl hx3
  have h22:=Row.fr h21 hf20 (fun q hq e=>⟨_,e ▸ h14,show(0:Nat)≠1 by decide⟩)
  have hres:(Spec.rdT l bad)=(z11,l,true):=by unfold Spec.rdT;simp only [hR10];by_cases hz:z13=0 <;> simp_all
  exact⟨.string z11,rfl,lA,lc,by first | (rw[hres];first | done | rfl | simp;done) | rfl,(by rw[hres];exact h22),(by rw[hres];exact cl),(by rw[hres];exact hB18),(by exact Spec.rdT_bytes bl bad),(by exact Spec.rdT_len bad),(by exact Spec.rdT_size bl bad),(Fr.transG (Fr.trans (Fr.refl (fun q=>q=p) H) (hx3.fr fun _=>False) (fun q hq (e:False)=>e.elim)) hf20 (fun q hq hE e=>(e)))⟩
 ·
  refine st_op (ev_move rfl) rfl rfl rfl ?_
  refine st_op (ev_int rfl rfl rfl) rfl rfl rfl ?_
  refine st_op (ev_pickF rfl rfl) rfl rfl rfl ?_
  refine st_op (ev_nilCheck rfl) rfl rfl rfl ?_
  refine st_op (ev_fieldAddr rfl fa115_1 (o':=1) rfl) rfl rfl rfl ?_
  obtain⟨H23,he24,H23n_,hB25,f26⟩:=mem_store (v := .bool (z13 != 0)) (o:=1) (cs' := [.slice lA l.length lc,.bool (z13 != 0)]) 1 rfl rfl size4 h14 rfl rfl rfl
  refine st_op0 (he24 _ _ _ _ _ _ _ _ _ rfl rfl) rfl rfl ?_
  have hf27:Fr (fun q=>q=p) H2 H23:=Fr.write H23n_ f26
  have H23n:H2.next≤H23.next:=hf27.1
  refine aw_seq ?_
  refine aw_reg ?_
  refine st_op (ev_move rfl) rfl rfl rfl ?_
  refine st_op (ev_nilCheck rfl) rfl rfl rfl ?_
  refine st_op (ev_fieldAddr rfl fa115_1 (o':=1) rfl) rfl rfl rfl ?_
  refine st_op (ev_load rfl (lvar_one one4 hB25 rfl)) rfl rfl rfl ?_
  refine st_op (ev_not rfl) rfl rfl rfl ?_
  by_cases hc28:(!(z13 != 0))=true
  ·
   refine aw_condT hc28 rfl ?_
   replace hc28:(z13 != 0)=false:=by rw[Bool.not_eq_true'] at hc28;exact hc28
   have hc28:(z13=0):=by simpa using hc28
   refine aw_reg ?_
   iterate 2 refine st_op (ev_move rfl) rfl rfl rfl ?_
   refine st_op (ev_nilCheck rfl) rfl rfl rfl ?_
   refine st_op (ev_fieldAddr rfl fa115_0 (o':=0) rfl) rfl rfl rfl ?_
   refine st_op (ev_load rfl (lvar_one one26 hB25 rfl)) rfl rfl rfl ?_
   refine st_op (ev_move rfl) rfl rfl rfl ?_
   have h37:=Row.ext hl hx3
   have h38:=Row.fr h37 hf27 (fun q hq e=>⟨_,e ▸ h14,show(0:Nat)≠1 by decide⟩)
   obtain⟨A29,c30,L31,hL32,hl33,hs34,hr35,hc36⟩:=sliceA_typed u8c el26 (by decide) h38 cl (lo:=some (.int .i64 z12)) (hi:=none) (l:=(z12).toNat) (h:=l.length) rfl (bound_int (by omega) (by omega) (by first | rfl | omega)) (by omega) (by omega)
   refine st_op (ev_slice rfl rfl rfl rfl hs34) rfl rfl rfl ?_
   have hL32b:Spec.Bytes L31:=by rw[hL32];exact Spec.Bytes.take (Spec.Bytes.drop (by assumption) _) _
   refine st_op (ev_nilCheck rfl) rfl rfl rfl ?_
   refine st_op (ev_fieldAddr rfl fa115_0 (o':=0) rfl) rfl rfl rfl ?_
   obtain⟨H39,he40,H39n_,hB41,f42⟩:=mem_store (v := .slice A29 L31.length c30) (o:=0) (cs' := [.slice A29 L31.length c30,.bool (z13 != 0)]) 1 rfl rfl size26 hB25 rfl rfl rfl
   refine st_op0 (he40 _ _ _ _ _ _ _ _ _ rfl rfl) rfl rfl ?_
   have hf43:Fr (fun q=>q=p) H23 H39:=Fr.write H39n_ f42
   have H39n:H23.next≤H39.next:=hf43.1
   refine aw_seq ?_
   refine aw_reg ?_
   refine st_op (ev_move rfl) rfl rfl rfl ?_
   refine st_op (ev_assign rfl) rfl rfl rfl ?_
   refine aw_ret ?_
   have h44:=Row.fr hr35 hf43 (fun q hq e=>⟨_,e ▸ hB25,show(0:Nat)≠1 by decide⟩)
   have hres:(Spec.rdT l bad)=(z11,L31,(z13 != 0)):=by unfold Spec.rdT;simp only [hR10];rw[Spec.drop_all] at hL32;by_cases hz:z13=0 <;> simp_all
   exact⟨.string z11,rfl,A29,c30,by first | (rw[hres];first | done | rfl | simp;done) | rfl,(by rw[hres];exact h44),(by rw[hres];exact hc36),(by rw[hres];exact hB41),(by exact Spec.rdT_bytes bl bad),(by exact Spec.rdT_len bad),(by exact Spec.rdT_size bl bad),(Fr.transG (Fr.transG (Fr.trans (Fr.refl (fun q=>q=p) H) (hx3.fr fun _=>False) (fun q hq (e:False)=>e.elim)) hf27 (fun q hq hE e=>(e))) hf43 (fun q hq hE e=>(e)))⟩
  ·
   rw[Bool.not_eq_true] at hc28;refine aw_condF hc28 rfl ?_
   replace hc28:(z13 != 0)=true:=by rw[Bool.not_eq_false'] at hc28;exact hc28
   have hc28:¬ (z13=0):=by simpa using hc28
   refine aw_skip ?_
   refine aw_seq ?_
   refine aw_reg ?_
   refine st_op (ev_move rfl) rfl rfl rfl ?_
   refine st_op (ev_assign rfl) rfl rfl rfl ?_
   refine aw_ret ?_
   have h45:=Row.ext hl hx3
   have h46:=Row.fr h45 hf27 (fun q hq e=>⟨_,e ▸ h14,show(0:Nat)≠1 by decide⟩)
   have hres:(Spec.rdT l bad)=(z11,l,(z13 != 0)):=by unfold Spec.rdT;simp only [hR10];by_cases hz:z13=0 <;> simp_all
   exact⟨.string z11,rfl,lA,lc,by first | (rw[hres];first | done | rfl | simp;done) | rfl,(by rw[hres];exact h46),(by rw[hres];exact cl),(by rw[hres];exact hB25),(by exact Spec.rdT_bytes bl bad),(by exact Spec.rdT_len bad),(by exact Spec.rdT_size bl bad),(Fr.transG (Fr.trans (Fr.refl (fun q=>q=p) H) (hx3.fr fun _=>False) (fun q hq (e:False)=>e.elim)) hf27 (fun q hq hE e=>(e)))⟩
theorem wal_rdone_spec (H:Heap) (lA:Option Addr) (l:List Int) (lc:Nat) (hl:Row H lA lc 1 (l.map u8c)) (cl:l.length≤lc) (ll:l.length≤1099511627776) (bl:Spec.Bytes l) (bad:Bool) (p:Nat) (hp:p<H.next) (Bp:H.blk p=some ⟨[.slice lA l.length lc,.bool bad],0,false,false⟩):∃ v H',Spec Try.prog 58 [.pointer (some ⟨p,0,none⟩)] H v H'∧((v = .bool (!bad && l.isEmpty))∧(Ext H H')):=by
 refine spec_go1 E0_ok 16 (f:=58) Try.func58 rfl rfl rfl ?_
 refine aw_seq ?_
 refine aw_reg ?_
 refine st_op (ev_assign rfl) rfl rfl rfl ?_
 refine aw_seq ?_
 refine aw_reg ?_
 refine st_op (ev_move rfl) rfl rfl rfl ?_
 refine st_op (ev_nilCheck rfl) rfl rfl rfl ?_
 refine st_op (ev_fieldAddr rfl fa115_1 (o':=1) rfl) rfl rfl rfl ?_
 refine st_op (ev_load rfl (lvar_one one4 Bp rfl)) rfl rfl rfl ?_
 refine st_op (ev_not rfl) rfl rfl rfl ?_
 refine st_op (ev_move rfl) rfl rfl rfl ?_
 refine st_bool 8 rfl (fun hb1=>?_) (fun hb1=>?_)
 ·
  replace hb1:bad=false:=by rw[Bool.not_eq_true'] at hb1;exact hb1
  refine st_op (ev_move rfl) rfl rfl rfl ?_
  refine st_op (ev_nilCheck rfl) rfl rfl rfl ?_
  refine st_op (ev_fieldAddr rfl fa115_0 (o':=0) rfl) rfl rfl rfl ?_
  refine st_op (ev_load rfl (lvar_one one26 Bp rfl)) rfl rfl rfl ?_
  refine st_op (ev_lenSl rfl Try.underlying26) rfl rfl rfl ?_
  refine st_op (ev_int rfl rfl rfl) rfl rfl rfl ?_
  refine st_op (ev_pickT rfl rfl) rfl rfl rfl ?_
  refine st_op (ev_assign rfl) rfl rfl rfl ?_
  refine aw_ret ?_
  have hres:(!bad && l.isEmpty)=((l.length:Int) == 0):=by cases l <;> simp_all <;> omega
  exact⟨.bool ((l.length:Int) == 0),rfl,by first | (rw[hres];done) | rw[← hres],(Ext.refl H)⟩
 ·
  replace hb1:bad=true:=by rw[Bool.not_eq_false'] at hb1;exact hb1
  iterate 6 refine st_skip rfl rfl rfl ?_
  refine st_op (ev_pickF rfl rfl) rfl rfl rfl ?_
  refine st_op (ev_assign rfl) rfl rfl rfl ?_
  refine aw_ret ?_
  have hres:(!bad && l.isEmpty)=false:=by cases l <;> simp_all <;> omega
  exact⟨.bool false,rfl,by first | (rw[hres];done) | rw[← hres],(Ext.refl H)⟩
theorem wal_GetSnap_spec (H:Heap) (bA:Option Addr) (b:List Int) (bc:Nat) (hb:Row H bA bc 1 (b.map u8c)) (cb:b.length≤bc) (lb:b.length≤274877906944) (bb:Spec.Bytes b):∃ v H',Spec Try.prog 36 [.slice bA b.length bc] H v H'∧((v = .tuple #[.agg #[.int .i64 ((Spec.getSnapF b).1),.int .i64 ((Spec.getSnapF b).2.1),.string ((Spec.getSnapF b).2.2.1),.string ((Spec.getSnapF b).2.2.2.1)],.int .i64 ((Spec.getSnapF b).2.2.2.2.1),.int .i64 ((Spec.getSnapF b).2.2.2.2.2)])∧(0≤(Spec.getSnapF b).2.2.2.2.2∧(Spec.getSnapF b).2.2.2.2.2≤3)∧(0≤(Spec.getSnapF b).2.2.2.2.1∧(Spec.getSnapF b).2.2.2.2.1≤b.length)∧((Spec.getSnapF b).2.2.1.size≤1048576∧(Spec.getSnapF b).2.2.2.1.size≤1048576)∧(Ext H H')):=by
 refine spec_go1 E0_ok 101 (f:=36) Try.func36 rfl rfl rfl ?_
 refine aw_seq ?_
 refine aw_reg ?_
 obtain⟨b1,H2,he3,b1e,H2n_,hB5,f4⟩:=mem_alloc H zero46
 refine st_op (he3 _ _ _ _ _ _ _) rfl rfl rfl ?_
 have hx6:Ext H H2:=Ext.new (by omega) H2n_ f4
 have H2n:H.next≤H2.next:=hx6.1
 iterate 2 refine st_op (ev_assign rfl) rfl rfl rfl ?_
 refine aw_seq ?_
 refine aw_reg ?_
 refine st_op (ev_move rfl) rfl rfl rfl ?_
 refine st_call rfl rfl rfl ent55 rfl rfl rfl ?_
 have h7:=Row.ext hb hx6
 obtain⟨_,H9,hs8,A11,c12,hs8v,hm13,hq14,hq15,hq16,hq17,hx10⟩:=frame_Open_spec H2 bA b bc h7 cb (by omega) (by assumption)
 rw[hs8v] at hs8;clear hs8v
 generalize hR19:(Spec.openF b)=r18 at hs8 hm13 hq14 hq15 hq16 hq17
 obtain⟨z20,z21,z22,z23⟩:=r18
 dsimp only at hs8 hm13 hq14 hq15 hq16 hq17
 refine⟨_,H9,hs8,?_⟩
 have H9n:H2.next≤H9.next:=hx10.1
 refine st_op (ev_move rfl) rfl rfl rfl ?_
 iterate 4 refine st_op (ev_extract rfl rfl) rfl rfl rfl ?_
 iterate 4 refine st_op (ev_assign rfl) rfl rfl rfl ?_
 iterate 2 refine aw_seq ?_
 refine aw_reg ?_
 refine st_op (ev_move rfl) rfl rfl rfl ?_
 refine st_op (ev_int rfl rfl rfl) rfl rfl rfl ?_
 by_cases hc24:(z23 != 0)=true
 ·
  refine aw_condT hc24 rfl ?_
  have hc24:¬ (z23=0):=by simpa using hc24
  refine aw_seq ?_
  refine aw_reg ?_
  refine st_op (ev_build zero46 pl46 (parts := []) rfl (cs := [.int .i64 0,.int .i64 0,.string (⟨#[]⟩),.string (⟨#[]⟩)]) rfl) rfl rfl rfl ?_
  refine st_op (ev_move rfl) rfl rfl rfl ?_
  have h25:=Ext.blk hx10 (by omega) hB5
  obtain⟨H26,he27,H26n_,hB28,f29⟩:=mem_store (v := .agg #[.int .i64 0,.int .i64 0,.string (⟨#[]⟩),.string (⟨#[]⟩)]) (o:=0) (cs' := [.int .i64 0,.int .i64 0,.string (⟨#[]⟩),.string (⟨#[]⟩)]) 4 rfl rfl size46 h25 rfl rfl rfl
  refine st_op0 (he27 _ _ _ _ _ _ _ _ _ rfl rfl) rfl rfl ?_
  have hf30:Fr (fun q=>q=b1) H9 H26:=Fr.write H26n_ f29
  have H26n:H9.next≤H26.next:=hf30.1
  iterate 2 refine st_op (ev_assign rfl) rfl rfl rfl ?_
  refine aw_ret ?_
  have hx31:Ext H H26:=(Ext.then (Ext.trans hx6 hx10) hf30 (fun q hq e=>by omega))
  have hres:(Spec.getSnapF b)=(0,0,(⟨#[]⟩:ByteArray),(⟨#[]⟩:ByteArray),0,z23):=by simp only [Spec.getSnapF,hR19];simp_all [Spec.snapBad]
  exact⟨.tuple #[.agg #[.int .i64 0,.int .i64 0,.string (⟨#[]⟩),.string (⟨#[]⟩)],.int .i64 0,.int .i64 z23],(resA_of (resL_cell rfl (lvar_part (l := [.int .i64 0,.int .i64 0,.string (⟨#[]⟩),.string (⟨#[]⟩)]) many46 hB28 rfl rfl (by decide)) (resL_tmp rfl (resL_tmp rfl resL_nil))) rfl),by first | (rw[hres];done) | rw[← hres],(by exact(Spec.getSnap_ok bb).1),(by exact(Spec.getSnap_ok bb).2),(by exact(Spec.getSnap_size bb)),hx31⟩
 ·
  rw[Bool.not_eq_true] at hc24;refine aw_condF hc24 rfl ?_
  have hc24:(z23=0):=by simpa using hc24
  refine aw_skip ?_
  refine aw_seq ?_
  refine aw_reg ?_
  refine st_op (ev_move rfl) rfl rfl rfl ?_
  refine st_op (ev_build zero115 pl115 (parts := [(0,.slice A11 z21.length c12)]) rfl (cs := [.slice A11 z21.length c12,.bool false]) rfl) rfl rfl rfl ?_
  obtain⟨b32,H33,he34,b32e,H33n_,hB36,f35⟩:=mem_box (P:=Try.prog) H9 (v := .agg #[.slice A11 z21.length c12,.bool false]) (cs := [.slice A11 z21.length c12,.bool false]) rfl rfl
  refine st_op (he34 _ _ _ _ _ _ _ _ _ rfl) rfl rfl rfl ?_
  have hx37:Ext H9 H33:=Ext.new (by omega) H33n_ f35
  have H33n:H9.next≤H33.next:=hx37.1
  refine st_op (ev_assign rfl) rfl rfl rfl ?_
  refine aw_seq ?_
  refine aw_reg ?_
  refine st_op (ev_move rfl) rfl rfl rfl ?_
  refine st_call rfl rfl rfl ent56 rfl rfl rfl ?_
  have h38:=My.ext hm13 hx37
  obtain⟨_,H40,hs39,A42,c43,hs39v,hm44,hk48,hB49,hq45,hq46,hq47,hx41⟩:=wal_rnum_spec H33 A11 z21 c12 (My.row h38) (My.capF h38 (by omega)) (by omega) (by assumption) false b32 (by omega) hB36
  rw[hs39v] at hs39;clear hs39v
  generalize hR51:(Spec.rdN z21 false)=r50 at hs39 hm44 hk48 hB49 hq45 hq46 hq47
  obtain⟨z52,z53,z54⟩:=r50
  dsimp only at hs39 hm44 hk48 hB49 hq45 hq46 hq47
  refine⟨_,H40,hs39,?_⟩
  have H40n:H33.next≤H40.next:=hx41.1
  refine st_op (ev_build zero46 pl46 (parts := [(0,.int .i64 z52)]) rfl (cs := [.int .i64 z52,.int .i64 0,.string (⟨#[]⟩),.string (⟨#[]⟩)]) rfl) rfl rfl rfl ?_
  obtain⟨b55,H56,he57,b55e,H56n_,hB59,f58⟩:=mem_alloc H40 zero46
  refine st_op (he57 _ _ _ _ _ _ _) rfl rfl rfl ?_
  have hx60:Ext H40 H56:=Ext.new (by omega) H56n_ f58
  have H56n:H40.next≤H56.next:=hx60.1
  obtain⟨H61,he62,H61n_,hB63,f64⟩:=mem_store (v := .agg #[.int .i64 z52,.int .i64 0,.string (⟨#[]⟩),.string (⟨#[]⟩)]) (o:=0) (cs' := [.int .i64 z52,.int .i64 0,.string (⟨#[]⟩),.string (⟨#[]⟩)]) 4 rfl rfl size46 hB59 rfl rfl rfl
  refine st_op0 (he62 _ _ _ _ _ _ _ _ _ rfl rfl) rfl rfl ?_
  have hf65:Fr (fun q=>q=b55) H56 H61:=Fr.write H61n_ f64
  have H61n:H56.next≤H61.next:=hf65.1
  refine aw_seq ?_
  refine aw_reg ?_
  refine st_op (ev_move rfl) rfl rfl rfl ?_
  refine st_call rfl rfl rfl ent56 rfl rfl rfl ?_
  have hx67:Ext H40 H61:=(Ext.then hx60 hf65 (fun q hq e=>by omega))
  have h66:=Row.ext hm44 hx67
  have h68:=Ext.blk hx67 (by omega) hB49
  obtain⟨_,H70,hs69,A72,c73,hs69v,hm74,hk78,hB79,hq75,hq76,hq77,hx71⟩:=wal_rnum_spec H61 A42 z53 c43 h66 hk48 (by omega) (by assumption) z54 b32 (by omega) h68
  rw[hs69v] at hs69;clear hs69v
  generalize hR81:(Spec.rdN z53 z54)=r80 at hs69 hm74 hk78 hB79 hq75 hq76 hq77
  obtain⟨z82,z83,z84⟩:=r80
  dsimp only at hs69 hm74 hk78 hB79 hq75 hq76 hq77
  refine⟨_,H70,hs69,?_⟩
  have H70n:H61.next≤H70.next:=hx71.1
  refine st_op (ev_fieldAddr rfl fa46_1 (o':=1) rfl) rfl rfl rfl ?_
  have h85:=Fr.blk hx71 (by omega) (fun e=>(by omega)) hB63
  obtain⟨H86,he87,H86n_,hB88,f89⟩:=mem_store (v := .int .i64 z82) (o:=1) (cs' := [.int .i64 z52,.int .i64 z82,.string (⟨#[]⟩),.string (⟨#[]⟩)]) 1 rfl rfl size2 h85 rfl rfl rfl
  refine st_op0 (he87 _ _ _ _ _ _ _ _ _ rfl rfl) rfl rfl ?_
  have hf90:Fr (fun q=>q=b55) H70 H86:=Fr.write H86n_ f89
  have H86n:H70.next≤H86.next:=hf90.1
  refine aw_seq ?_
  refine aw_reg ?_
  refine st_op (ev_move rfl) rfl rfl rfl ?_
  refine st_call rfl rfl rfl ent57 rfl rfl rfl ?_
  have h91:=Row.fr hm74 hf90 (fun q hq e=>⟨_,e ▸ h85,show(0:Nat)≠1 by decide⟩)
  have h92:=Fr.blk hf90 (by omega) (fun e=>(by omega)) hB79
  obtain⟨_,H94,hs93,A96,c97,hs93v,hm98,hk102,hB103,hq99,hq100,hq101,hx95⟩:=wal_rtext_spec H86 A72 z83 c73 h91 hk78 (by omega) (by assumption) z84 b32 (by omega) h92
  rw[hs93v] at hs93;clear hs93v
  generalize hR105:(Spec.rdT z83 z84)=r104 at hs93 hm98 hk102 hB103 hq99 hq100 hq101
  obtain⟨z106,z107,z108⟩:=r104
  dsimp only at hs93 hm98 hk102 hB103 hq99 hq100 hq101
  refine⟨_,H94,hs93,?_⟩
  have H94n:H86.next≤H94.next:=hx95.1
  refine st_op (ev_fieldAddr rfl fa46_2 (o':=2) rfl) rfl rfl rfl ?_
  have h109:=Fr.blk hx95 (by omega) (fun e=>(by omega)) hB88
  obtain⟨H110,he111,H110n_,hB112,f113⟩:=mem_store (v := .string z106) (o:=2) (cs' := [.int .i64 z52,.int .i64 z82,.string z106,.string (⟨#[]⟩)]) 1 rfl rfl size9 h109 rfl rfl rfl
  refine st_op0 (he111 _ _ _ _ _ _ _ _ _ rfl rfl) rfl rfl ?_
  have hf114:Fr (fun q=>q=b55) H94 H110:=Fr.write H110n_ f113
  have H110n:H94.next≤H110.next:=hf114.1
  refine aw_seq ?_
  refine aw_reg ?_
  refine st_op (ev_move rfl) rfl rfl rfl ?_
  refine st_call rfl rfl rfl ent56 rfl rfl rfl ?_
  have h115:=Row.fr hm98 hf114 (fun q hq e=>⟨_,e ▸ h109,show(0:Nat)≠1 by decide⟩)
  have h116:=Fr.blk hf114 (by omega) (fun e=>(by omega)) hB103
  obtain⟨_,H118,hs117,A120,c121,hs117v,hm122,hk126,hB127,hq123,hq124,hq125,hx119⟩:=wal_rnum_spec H110 A96 z107 c97 h115 hk102 (by omega) (by assumption) z108 b32 (by omega) h116
  rw[hs117v] at hs117;clear hs117v
  generalize hR129:(Spec.rdN z107 z108)=r128 at hs117 hm122 hk126 hB127 hq123 hq124 hq125
  obtain⟨z130,z131,z132⟩:=r128
  dsimp only at hs117 hm122 hk126 hB127 hq123 hq124 hq125
  refine⟨_,H118,hs117,?_⟩
  have H118n:H110.next≤H118.next:=hx119.1
  refine st_op (ev_assign rfl) rfl rfl rfl ?_
  iterate 2 refine aw_seq ?_
  refine aw_reg ?_
  refine st_op (ev_move rfl) rfl rfl rfl ?_
  refine st_op (ev_int rfl rfl rfl) rfl rfl rfl ?_
  refine st_op (ev_move rfl) rfl rfl rfl ?_
  refine st_bool 44 rfl (fun hb133=>?_) (fun hb133=>?_)
  ·
   have hb133:¬ (z20=3):=by simpa using hb133
   iterate 3 refine st_skip rfl rfl rfl ?_
   refine st_op (ev_pickT rfl rfl) rfl rfl rfl ?_
   refine st_op (ev_move rfl) rfl rfl rfl ?_
   iterate 3 refine st_skip rfl rfl rfl ?_
   refine st_op (ev_pickT rfl rfl) rfl rfl rfl ?_
   refine st_op (ev_move rfl) rfl rfl rfl ?_
   iterate 4 refine st_skip rfl rfl rfl ?_
   refine st_op (ev_pickT rfl rfl) rfl rfl rfl ?_
   refine aw_cond (t:=true) rfl ?_
   refine aw_seq ?_
   refine aw_reg ?_
   refine st_op (ev_build zero46 pl46 (parts := []) rfl (cs := [.int .i64 0,.int .i64 0,.string (⟨#[]⟩),.string (⟨#[]⟩)]) rfl) rfl rfl rfl ?_
   have hx135:Ext H2 H118:=(Ext.then (Ext.then (Ext.then (Ext.then (Ext.then (Ext.then (Ext.trans (Ext.then (Ext.trans hx10 hx37) hx41 (fun q hq e=>by omega)) hx60) hf65 (fun q hq e=>by omega)) hx71 (fun q hq e=>by omega)) hf90 (fun q hq e=>by omega)) hx95 (fun q hq e=>by omega)) hf114 (fun q hq e=>by omega)) hx119 (fun q hq e=>by omega))
   have h134:=Ext.blk hx135 (by omega) hB5
   obtain⟨H136,he137,H136n_,hB138,f139⟩:=mem_store (v := .agg #[.int .i64 0,.int .i64 0,.string (⟨#[]⟩),.string (⟨#[]⟩)]) (o:=0) (cs' := [.int .i64 0,.int .i64 0,.string (⟨#[]⟩),.string (⟨#[]⟩)]) 4 rfl rfl size46 h134 rfl rfl rfl
   refine st_op0 (he137 _ _ _ _ _ _ _ _ _ rfl rfl) rfl rfl ?_
   have hf140:Fr (fun q=>q=b1) H118 H136:=Fr.write H136n_ f139
   have H136n:H118.next≤H136.next:=hf140.1
   iterate 2 refine st_op (ev_assign rfl) rfl rfl rfl ?_
   refine aw_ret ?_
   have hx141:Ext H H136:=(Ext.then (Ext.then (Ext.then (Ext.then (Ext.then (Ext.then (Ext.then (Ext.trans (Ext.then (Ext.trans (Ext.trans hx6 hx10) hx37) hx41 (fun q hq e=>by omega)) hx60) hf65 (fun q hq e=>by omega)) hx71 (fun q hq e=>by omega)) hf90 (fun q hq e=>by omega)) hx95 (fun q hq e=>by omega)) hf114 (fun q hq e=>by omega)) hx119 (fun q hq e=>by omega)) hf140 (fun q hq e=>by omega))
   have hres:(Spec.getSnapF b)=(0,0,(⟨#[]⟩:ByteArray),(⟨#[]⟩:ByteArray),0,3):=by simp only [Spec.getSnapF,hR19,hR51,hR81,hR105,hR129];simp_all [Spec.snapBad]
   exact⟨.tuple #[.agg #[.int .i64 0,.int .i64 0,.string (⟨#[]⟩),.string (⟨#[]⟩)],.int .i64 0,.int .i64 3],(resA_of (resL_cell rfl (lvar_part (l := [.int .i64 0,.int .i64 0,.string (⟨#[]⟩),.string (⟨#[]⟩)]) many46 hB138 rfl rfl (by decide)) (resL_tmp rfl (resL_tmp rfl resL_nil))) rfl),by first | (rw[hres];done) | rw[← hres],(by exact(Spec.getSnap_ok bb).1),(by exact(Spec.getSnap_ok bb).2),(by exact(Spec.getSnap_size bb)),hx141⟩
  ·
   have hb133:(z20=3):=by simpa using hb133
   refine st_op (ev_move rfl) rfl rfl rfl ?_
   refine st_call rfl rfl rfl ent58 rfl rfl rfl ?_
   obtain⟨_,H143,hs142,hs142v,hx144⟩:=wal_rdone_spec H118 A120 z131 c121 hm122 hk126 (by omega) (by assumption) z132 b32 (by omega) hB127
   rw[hs142v] at hs142;clear hs142v
   refine⟨_,H143,hs142,?_⟩
   have H143n:H118.next≤H143.next:=hx144.1
   refine st_op (ev_not rfl) rfl rfl rfl ?_
   refine st_op (ev_pickF rfl rfl) rfl rfl rfl ?_
   refine st_op (ev_move rfl) rfl rfl rfl ?_
   refine st_bool 49 rfl (fun hb145=>?_) (fun hb145=>?_)
   ·
    replace hb145:(!z132 && z131.isEmpty)=false:=by rw[Bool.not_eq_true'] at hb145;exact hb145
    iterate 3 refine st_skip rfl rfl rfl ?_
    refine st_op (ev_pickT rfl rfl) rfl rfl rfl ?_
    refine st_op (ev_move rfl) rfl rfl rfl ?_
    iterate 4 refine st_skip rfl rfl rfl ?_
    refine st_op (ev_pickT rfl rfl) rfl rfl rfl ?_
    refine aw_cond (t:=true) rfl ?_
    refine aw_seq ?_
    refine aw_reg ?_
    refine st_op (ev_build zero46 pl46 (parts := []) rfl (cs := [.int .i64 0,.int .i64 0,.string (⟨#[]⟩),.string (⟨#[]⟩)]) rfl) rfl rfl rfl ?_
    have hx147:Ext H2 H143:=(Ext.trans (Ext.then (Ext.then (Ext.then (Ext.then (Ext.then (Ext.then (Ext.trans (Ext.then (Ext.trans hx10 hx37) hx41 (fun q hq e=>by omega)) hx60) hf65 (fun q hq e=>by omega)) hx71 (fun q hq e=>by omega)) hf90 (fun q hq e=>by omega)) hx95 (fun q hq e=>by omega)) hf114 (fun q hq e=>by omega)) hx119 (fun q hq e=>by omega)) hx144)
    have h146:=Ext.blk hx147 (by omega) hB5
    obtain⟨H148,he149,H148n_,hB150,f151⟩:=mem_store (v := .agg #[.int .i64 0,.int .i64 0,.string (⟨#[]⟩),.string (⟨#[]⟩)]) (o:=0) (cs' := [.int .i64 0,.int .i64 0,.string (⟨#[]⟩),.string (⟨#[]⟩)]) 4 rfl rfl size46 h146 rfl rfl rfl
    refine st_op0 (he149 _ _ _ _ _ _ _ _ _ rfl rfl) rfl rfl ?_
    have hf152:Fr (fun q=>q=b1) H143 H148:=Fr.write H148n_ f151
    have H148n:H143.next≤H148.next:=hf152.1
    iterate 2 refine st_op (ev_assign rfl) rfl rfl rfl ?_
    refine aw_ret ?_
    have hx153:Ext H H148:=(Ext.then (Ext.trans (Ext.then (Ext.then (Ext.then (Ext.then (Ext.then (Ext.then (Ext.trans (Ext.then (Ext.trans (Ext.trans hx6 hx10) hx37) hx41 (fun q hq e=>by omega)) hx60) hf65 (fun q hq e=>by omega)) hx71 (fun q hq e=>by omega)) hf90 (fun q hq e=>by omega)) hx95 (fun q hq e=>by omega)) hf114 (fun q hq e=>by omega)) hx119 (fun q hq e=>by omega)) hx144) hf152 (fun q hq e=>by omega))
    have hres:(Spec.getSnapF b)=(0,0,(⟨#[]⟩:ByteArray),(⟨#[]⟩:ByteArray),0,3):=by simp only [Spec.getSnapF,hR19,hR51,hR81,hR105,hR129];simp_all [Spec.snapBad]
    exact⟨.tuple #[.agg #[.int .i64 0,.int .i64 0,.string (⟨#[]⟩),.string (⟨#[]⟩)],.int .i64 0,.int .i64 3],(resA_of (resL_cell rfl (lvar_part (l := [.int .i64 0,.int .i64 0,.string (⟨#[]⟩),.string (⟨#[]⟩)]) many46 hB150 rfl rfl (by decide)) (resL_tmp rfl (resL_tmp rfl resL_nil))) rfl),by first | (rw[hres];done) | rw[← hres],(by exact(Spec.getSnap_ok bb).1),(by exact(Spec.getSnap_ok bb).2),(by exact(Spec.getSnap_size bb)),hx153⟩
   ·
    replace hb145:(!z132 && z131.isEmpty)=true:=by rw[Bool.not_eq_false'] at hb145;exact hb145
    have h154:=Fr.blk hx119 (by omega) (fun e=>(by omega)) hB112
    have h155:=Ext.blk hx144 (by omega) h154
    refine st_op (ev_load rfl (lvar_part (l := [.int .i64 z52,.int .i64 z82,.string z106,.string (⟨#[]⟩)]) many46 h155 rfl rfl (by decide))) rfl rfl rfl ?_
    refine st_call rfl rfl rfl ent59 rfl rfl rfl ?_
    obtain⟨_,H157,hs156,hs156v,hx158⟩:=wal_may_spec H143 z52 z82 z106 (⟨#[]⟩:ByteArray)
    rw[hs156v] at hs156;clear hs156v
    refine⟨_,H157,hs156,?_⟩
    have H157n:H143.next≤H157.next:=hx158.1
    refine st_op (ev_not rfl) rfl rfl rfl ?_
    refine st_op (ev_pickF rfl rfl) rfl rfl rfl ?_
    refine st_op (ev_move rfl) rfl rfl rfl ?_
    refine st_bool 54 rfl (fun hb159=>?_) (fun hb159=>?_)
    ·
     replace hb159:(Spec.mayS z52 z82 z106 (⟨#[]⟩:ByteArray))=false:=by rw[Bool.not_eq_true'] at hb159;exact hb159
     iterate 4 refine st_skip rfl rfl rfl ?_
     refine st_op (ev_pickT rfl rfl) rfl rfl rfl ?_
     refine aw_cond (t:=true) rfl ?_
     refine aw_seq ?_
     refine aw_reg ?_
     refine st_op (ev_build zero46 pl46 (parts := []) rfl (cs := [.int .i64 0,.int .i64 0,.string (⟨#[]⟩),.string (⟨#[]⟩)]) rfl) rfl rfl rfl ?_
     have hx161:Ext H2 H157:=(Ext.trans (Ext.trans (Ext.then (Ext.then (Ext.then (Ext.then (Ext.then (Ext.then (Ext.trans (Ext.then (Ext.trans hx10 hx37) hx41 (fun q hq e=>by omega)) hx60) hf65 (fun q hq e=>by omega)) hx71 (fun q hq e=>by omega)) hf90 (fun q hq e=>by omega)) hx95 (fun q hq e=>by omega)) hf114 (fun q hq e=>by omega)) hx119 (fun q hq e=>by omega)) hx144) hx158)
     have h160:=Ext.blk hx161 (by omega) hB5
     obtain⟨H162,he163,H162n_,hB164,f165⟩:=mem_store (v := .agg #[.int .i64 0,.int .i64 0,.string (⟨#[]⟩),.string (⟨#[]⟩)]) (o:=0) (cs' := [.int .i64 0,.int .i64 0,.string (⟨#[]⟩),.string (⟨#[]⟩)]) 4 rfl rfl size46 h160 rfl rfl rfl
     refine st_op0 (he163 _ _ _ _ _ _ _ _ _ rfl rfl) rfl rfl ?_
     have hf166:Fr (fun q=>q=b1) H157 H162:=Fr.write H162n_ f165
     have H162n:H157.next≤H162.next:=hf166.1
     iterate 2 refine st_op (ev_assign rfl) rfl rfl rfl ?_
     refine aw_ret ?_
     have hx167:Ext H H162:=(Ext.then (Ext.trans (Ext.trans (Ext.then (Ext.then (Ext.then (Ext.then (Ext.then (Ext.then (Ext.trans (Ext.then (Ext.trans (Ext.trans hx6 hx10) hx37) hx41 (fun q hq e=>by omega)) hx60) hf65 (fun q hq e=>by omega)) hx71 (fun q hq e=>by omega)) hf90 (fun q hq e=>by omega)) hx95 (fun q hq e=>by omega)) hf114 (fun q hq e=>by omega)) hx119 (fun q hq e=>by omega)) hx144) hx158) hf166 (fun q hq e=>by omega))
     have hres:(Spec.getSnapF b)=(0,0,(⟨#[]⟩:ByteArray),(⟨#[]⟩:ByteArray),0,3):=by simp only [Spec.getSnapF,hR19,hR51,hR81,hR105,hR129];simp_all [Spec.snapBad]
     exact⟨.tuple #[.agg #[.int .i64 0,.int .i64 0,.string (⟨#[]⟩),.string (⟨#[]⟩)],.int .i64 0,.int .i64 3],(resA_of (resL_cell rfl (lvar_part (l := [.int .i64 0,.int .i64 0,.string (⟨#[]⟩),.string (⟨#[]⟩)]) many46 hB164 rfl rfl (by decide)) (resL_tmp rfl (resL_tmp rfl resL_nil))) rfl),by first | (rw[hres];done) | rw[← hres],(by exact(Spec.getSnap_ok bb).1),(by exact(Spec.getSnap_ok bb).2),(by exact(Spec.getSnap_size bb)),hx167⟩
    ·
     replace hb159:(Spec.mayS z52 z82 z106 (⟨#[]⟩:ByteArray))=true:=by rw[Bool.not_eq_false'] at hb159;exact hb159
     have hb159m:=Spec.mayS_says hb159
     refine st_op (ev_move rfl) rfl rfl rfl ?_
     obtain⟨b168,H169,he170,b168e,H169n_,hm172,f171⟩:=mem_lit H157 (xs:=([.int .i64 z130]:List Value)) (m:=1) (rows := [[.int .i64 z130]]) rfl eok138 (by decide) (by decide) zf2 rfl (allLen rfl) rfl
     replace hm172:My H157 H169 (some ⟨b168,0,none⟩) 1 1 ([z130].map i64c):=hm172
     refine st_op (he170 _ _ _ _ _ _ _ _ rfl) rfl rfl rfl ?_
     have hx173:Ext H157 H169:=Ext.new (by omega) H169n_ f171
     have H169n:H157.next≤H169.next:=hx173.1
     refine st_call rfl rfl rfl ent60 rfl rfl rfl ?_
     obtain⟨_,H175,hs174,hs174v,hx176⟩:=wal_in_spec H169 0 (by decide) 200000 (by decide) (some ⟨b168,0,none⟩) ([z130]) 1 (My.row hm172) (My.capF hm172 (by first | omega | (simp only [List.length_append,List.length_cons,List.length_nil,List.length_map,List.length_set,List.length_replicate,Spec.bytesOf_length];omega) | (simp;omega))) (by first | omega | (simp only [List.length_append,List.length_cons,List.length_nil,List.length_map,List.length_set,List.length_replicate,Spec.bytesOf_length];omega) | (simp;omega))
     rw[hs174v] at hs174;clear hs174v
     refine⟨_,H175,hs174,?_⟩
     have H175n:H169.next≤H175.next:=hx176.1
     refine st_op (ev_not rfl) rfl rfl rfl ?_
     refine st_op (ev_pickF rfl rfl) rfl rfl rfl ?_
     by_cases hc177:(!(Spec.inF (0:Int) (200000:Int) ([z130])))=true
     ·
      refine aw_condT hc177 rfl ?_
      replace hc177:(Spec.inF (0:Int) (200000:Int) ([z130]))=false:=by rw[Bool.not_eq_true'] at hc177;exact hc177
      have hc177m:=Spec.inF_oneN hc177
      refine aw_seq ?_
      refine aw_reg ?_
      refine st_op (ev_build zero46 pl46 (parts := []) rfl (cs := [.int .i64 0,.int .i64 0,.string (⟨#[]⟩),.string (⟨#[]⟩)]) rfl) rfl rfl rfl ?_
      have hx179:Ext H2 H175:=(Ext.trans (Ext.trans (Ext.trans (Ext.trans (Ext.then (Ext.then (Ext.then (Ext.then (Ext.then (Ext.then (Ext.trans (Ext.then (Ext.trans hx10 hx37) hx41 (fun q hq e=>by omega)) hx60) hf65 (fun q hq e=>by omega)) hx71 (fun q hq e=>by omega)) hf90 (fun q hq e=>by omega)) hx95 (fun q hq e=>by omega)) hf114 (fun q hq e=>by omega)) hx119 (fun q hq e=>by omega)) hx144) hx158) hx173) hx176)
      have h178:=Ext.blk hx179 (by omega) hB5
      obtain⟨H180,he181,H180n_,hB182,f183⟩:=mem_store (v := .agg #[.int .i64 0,.int .i64 0,.string (⟨#[]⟩),.string (⟨#[]⟩)]) (o:=0) (cs' := [.int .i64 0,.int .i64 0,.string (⟨#[]⟩),.string (⟨#[]⟩)]) 4 rfl rfl size46 h178 rfl rfl rfl
      refine st_op0 (he181 _ _ _ _ _ _ _ _ _ rfl rfl) rfl rfl ?_
      have hf184:Fr (fun q=>q=b1) H175 H180:=Fr.write H180n_ f183
      have H180n:H175.next≤H180.next:=hf184.1
      iterate 2 refine st_op (ev_assign rfl) rfl rfl rfl ?_
      refine aw_ret ?_
      have hx185:Ext H H180:=(Ext.then (Ext.trans (Ext.trans (Ext.trans (Ext.trans (Ext.then (Ext.then (Ext.then (Ext.then (Ext.then (Ext.then (Ext.trans (Ext.then (Ext.trans (Ext.trans hx6 hx10) hx37) hx41 (fun q hq e=>by omega)) hx60) hf65 (fun q hq e=>by omega)) hx71 (fun q hq e=>by omega)) hf90 (fun q hq e=>by omega)) hx95 (fun q hq e=>by omega)) hf114 (fun q hq e=>by omega)) hx119 (fun q hq e=>by omega)) hx144) hx158) hx173) hx176) hf184 (fun q hq e=>by omega))
      have hres:(Spec.getSnapF b)=(0,0,(⟨#[]⟩:ByteArray),(⟨#[]⟩:ByteArray),0,3):=by simp only [Spec.getSnapF,hR19,hR51,hR81,hR105,hR129];simp_all [Spec.snapBad]
      exact⟨.tuple #[.agg #[.int .i64 0,.int .i64 0,.string (⟨#[]⟩),.string (⟨#[]⟩)],.int .i64 0,.int .i64 3],(resA_of (resL_cell rfl (lvar_part (l := [.int .i64 0,.int .i64 0,.string (⟨#[]⟩),.string (⟨#[]⟩)]) many46 hB182 rfl rfl (by decide)) (resL_tmp rfl (resL_tmp rfl resL_nil))) rfl),by first | (rw[hres];done) | rw[← hres],(by exact(Spec.getSnap_ok bb).1),(by exact(Spec.getSnap_ok bb).2),(by exact(Spec.getSnap_size bb)),hx185⟩
     ·
      rw[Bool.not_eq_true] at hc177;refine aw_condF hc177 rfl ?_
      replace hc177:(Spec.inF (0:Int) (200000:Int) ([z130]))=true:=by rw[Bool.not_eq_false'] at hc177;exact hc177
      have hc177m:=Spec.inF_one hc177
      refine aw_skip ?_
      refine aw_seq ?_
      refine aw_reg ?_
      refine st_op (ev_assign rfl) rfl rfl rfl ?_
      refine aw_seq ?_
      refine aw_block ?_
      have hm189:My H175 H175 none 0 1 (([]:List Int).map u8c) := .nil
      refine aw_keep [0,2,7,10,11,12] (l':=(.cons 0 (.slice bA b.length bc) (.cons 2 (.pointer (some ⟨b1,0,none⟩)) (.cons 7 (.int .i64 z22) (.cons 10 (.pointer (some ⟨b55,0,none⟩)) (.cons 11 (.int .i64 z130) (.cons 12 (.slice none 0 0) .nil))))))) (by repeat (first | exact Up.done | refine Up.then ?_ | refine Up.inBlock ?_)) rfl ?_
      refine aw_iter (α:=Int×Int×Option Addr×Nat×List Int×Nat×Heap) (fun a=>a.2.1.toNat) (fun a=>(.cons 0 (.slice bA b.length bc) (.cons 2 (.pointer (some ⟨b1,0,none⟩)) (.cons 7 (.int .i64 a.1) (.cons 10 (.pointer (some ⟨b55,0,none⟩)) (.cons 11 (.int .i64 a.2.1) (.cons 12 (.slice a.2.2.1 a.2.2.2.2.1.length a.2.2.2.1) .nil))))))) (fun a=>a.2.2.2.2.2.2) (fun a=>(a.1=(a.2.2.2.2.2.1:Int))∧(a.2.2.2.2.2.1≤b.length)∧((a.2.2.2.2.1.length:Int)+a.2.1≤200000)∧(Spec.partsR (b.drop z22.toNat) z130=(a.2.2.2.2.1++(Spec.partsR (b.drop a.2.2.2.2.2.1) a.2.1).1,(a.2.2.2.2.2.1:Int) - z22+(Spec.partsR (b.drop a.2.2.2.2.2.1) a.2.1).2.1,(Spec.partsR (b.drop a.2.2.2.2.2.1) a.2.1).2.2))∧(0≤a.1∧a.1≤1099511627776)∧(0≤a.2.1∧a.2.1≤200000)∧(My H175 a.2.2.2.2.2.2 a.2.2.1 a.2.2.2.1 1 (a.2.2.2.2.1.map u8c))∧(Ext H175 a.2.2.2.2.2.2)) (z22,z130,none,0,([]:List Int),z22.toNat,H175) ⟨(show z22=(z22.toNat:Int) from(by omega)),(show z22.toNat≤b.length from(by omega)),(show(([]:List Int).length:Int)+z130≤200000 from(by simp;omega)),(show Spec.partsR (b.drop z22.toNat) z130=(([]:List Int)++(Spec.partsR (b.drop z22.toNat) z130).1,(z22.toNat:Int) - z22+(Spec.partsR (b.drop z22.toNat) z130).2.1,(Spec.partsR (b.drop z22.toNat) z130).2.2) from(by rw[show(((z22).toNat:Nat):Int)=z22 by omega];simp)),(show 0≤z22∧z22≤1099511627776 from⟨by omega,by omega⟩),(show 0≤z130∧z130≤200000 from⟨by omega,by omega⟩),(show My H175 H175 none 0 1 (([]:List Int).map u8c) from hm189),(show Ext H175 H175 from(Ext.refl H175))⟩ ?_
      rintro⟨at_,left,A,cp,all,p,Hl186⟩ ⟨hp,hpl,hal,hS,hn187,hn188,hm190,hxl191⟩ ih192
      replace hp:at_=(p:Int):=hp
      replace hpl:p≤b.length:=hpl
      replace hal:(all.length:Int)+left≤200000:=hal
      replace hS:Spec.partsR (b.drop z22.toNat) z130=(all++(Spec.partsR (b.drop p) left).1,(p:Int) - z22+(Spec.partsR (b.drop p) left).2.1,(Spec.partsR (b.drop p) left).2.2):=hS
      replace hn187:0≤at_∧at_≤1099511627776:=hn187
      replace hn188:0≤left∧left≤200000:=hn188
      replace hm190:My H175 Hl186 A cp 1 (all.map u8c):=hm190
      replace hxl191:Ext H175 Hl186:=hxl191
      show aw _ _ _ (RL _ (.cons 0 (.slice bA b.length bc) (.cons 2 (.pointer (some ⟨b1,0,none⟩)) (.cons 7 (.int .i64 at_) (.cons 10 (.pointer (some ⟨b55,0,none⟩)) (.cons 11 (.int .i64 left) (.cons 12 (.slice A all.length cp) .nil))))))) Hl186 _
      have Hl186n:H175.next≤Hl186.next:=hxl191.1
      iterate 2 refine aw_seq ?_
      refine aw_reg ?_
      refine st_op (ev_move rfl) rfl rfl rfl ?_
      refine st_op (ev_int rfl rfl rfl) rfl rfl rfl ?_
      by_cases hc193:(decide (left > 0))=true
      ·
       refine aw_condT hc193 rfl ?_
       have hc193:=of_decide_eq_true hc193
       refine aw_skip ?_
       refine aw_block ?_
       refine aw_seq ?_
       refine aw_reg ?_
       iterate 2 refine st_op (ev_move rfl) rfl rfl rfl ?_
       have hx203:Ext H2 Hl186:=(Ext.trans (Ext.trans (Ext.trans (Ext.trans (Ext.trans (Ext.then (Ext.then (Ext.then (Ext.then (Ext.then (Ext.then (Ext.trans (Ext.then (Ext.trans hx10 hx37) hx41 (fun q hq e=>by omega)) hx60) hf65 (fun q hq e=>by omega)) hx71 (fun q hq e=>by omega)) hf90 (fun q hq e=>by omega)) hx95 (fun q hq e=>by omega)) hf114 (fun q hq e=>by omega)) hx119 (fun q hq e=>by omega)) hx144) hx158) hx173) hx176) hxl191)
       have h202:=Row.ext h7 hx203
       obtain⟨A194,c195,L196,hL197,hl198,hs199,hr200,hc201⟩:=sliceA_typed u8c el26 (by decide) h202 cb (lo:=some (.int .i64 at_)) (hi:=none) (l:=(at_).toNat) (h:=b.length) rfl (bound_int (by first | omega | (simp only [List.length_append,List.length_cons,List.length_nil,List.length_map,List.length_set,List.length_replicate,Spec.bytesOf_length];omega) | (simp;omega)) (by first | omega | (simp only [List.length_append,List.length_cons,List.length_nil,List.length_map,List.length_set,List.length_replicate,Spec.bytesOf_length];omega) | (simp;omega)) (by first | rfl | omega)) (by first | omega | (simp only [List.length_append,List.length_cons,List.length_nil,List.length_map,List.length_set,List.length_replicate,Spec.bytesOf_length];omega) | (simp;omega)) (by first | omega | (simp only [List.length_append,List.length_cons,List.length_nil,List.length_map,List.length_set,List.length_replicate,Spec.bytesOf_length];omega) | (simp;omega))
       refine st_op (ev_slice rfl rfl rfl rfl hs199) rfl rfl rfl ?_
       have hL197b:Spec.Bytes L196:=by rw[hL197];exact Spec.Bytes.take (Spec.Bytes.drop (by assumption) _) _
       refine st_call rfl rfl rfl ent55 rfl rfl rfl ?_
       obtain⟨_,H205,hs204,A207,c208,hs204v,hm209,hq210,hq211,hq212,hq213,hx206⟩:=frame_Open_spec Hl186 A194 L196 c195 hr200 hc201 (by first | omega | (simp only [List.length_append,List.length_cons,List.length_nil,List.length_map,List.length_set,List.length_replicate,Spec.bytesOf_length];omega) | (simp;omega)) (by assumption)
       rw[hs204v] at hs204;clear hs204v
       generalize hR215:(Spec.openF L196)=r214 at hs204 hm209 hq210 hq211 hq212 hq213
       obtain⟨z216,z217,z218,z219⟩:=r214
       dsimp only at hs204 hm209 hq210 hq211 hq212 hq213
       refine⟨_,H205,hs204,?_⟩
       have H205n:Hl186.next≤H205.next:=hx206.1
       refine st_op (ev_move rfl) rfl rfl rfl ?_
       iterate 4 refine st_op (ev_extract rfl rfl) rfl rfl rfl ?_
       iterate 4 refine st_op (ev_assign rfl) rfl rfl rfl ?_
       iterate 2 refine aw_seq ?_
       refine aw_reg ?_
       refine st_op (ev_move rfl) rfl rfl rfl ?_
       refine st_op (ev_int rfl rfl rfl) rfl rfl rfl ?_
       by_cases hc220:(z219 != 0)=true
       ·
        refine aw_condT hc220 rfl ?_
        have hc220:¬ (z219=0):=by simpa using hc220
        refine aw_seq ?_
        refine aw_reg ?_
        refine st_op (ev_build zero46 pl46 (parts := []) rfl (cs := [.int .i64 0,.int .i64 0,.string (⟨#[]⟩),.string (⟨#[]⟩)]) rfl) rfl rfl rfl ?_
        refine st_op (ev_move rfl) rfl rfl rfl ?_
        have hx222:Ext H2 H205:=(Ext.trans hx203 hx206)
        have h221:=Ext.blk hx222 (by omega) hB5
        obtain⟨H223,he224,H223n_,hB225,f226⟩:=mem_store (v := .agg #[.int .i64 0,.int .i64 0,.string (⟨#[]⟩),.string (⟨#[]⟩)]) (o:=0) (cs' := [.int .i64 0,.int .i64 0,.string (⟨#[]⟩),.string (⟨#[]⟩)]) 4 rfl rfl size46 h221 rfl rfl rfl
        refine st_op0 (he224 _ _ _ _ _ _ _ _ _ rfl rfl) rfl rfl ?_
        have hf227:Fr (fun q=>q=b1) H205 H223:=Fr.write H223n_ f226
        have H223n:H205.next≤H223.next:=hf227.1
        iterate 2 refine st_op (ev_assign rfl) rfl rfl rfl ?_
        refine aw_ret ?_
        have hx228:Ext H H223:=(Ext.then (Ext.trans (Ext.trans (Ext.trans (Ext.trans (Ext.trans (Ext.trans (Ext.then (Ext.then (Ext.then (Ext.then (Ext.then (Ext.then (Ext.trans (Ext.then (Ext.trans (Ext.trans hx6 hx10) hx37) hx41 (fun q hq e=>by omega)) hx60) hf65 (fun q hq e=>by omega)) hx71 (fun q hq e=>by omega)) hf90 (fun q hq e=>by omega)) hx95 (fun q hq e=>by omega)) hf114 (fun q hq e=>by omega)) hx119 (fun q hq e=>by omega)) hx144) hx158) hx173) hx176) hxl191) hx206) hf227 (fun q hq e=>by omega))
        have hres:(Spec.getSnapF b)=(0,0,(⟨#[]⟩:ByteArray),(⟨#[]⟩:ByteArray),0,z219):=by first | (have hE:=Spec.partsR_err (l:=b.drop p) (left:=left) (by omega) ((congrArg Spec.openF (Spec.drop_at hp hL197).symm).trans hR215) (by omega);simp only [Spec.getSnapF,hR19,hR51,hR81,hR105,hR129];rw[if_neg (by omega),if_neg (fun q=>q.elim (fun h=>h (by omega)) fun q=>q.elim (fun h=>Bool.noConfusion (h.symm.trans hb145)) fun q=>q.elim (fun h=>Bool.noConfusion (h.symm.trans hb159)) fun h=>Bool.noConfusion (h.symm.trans hc177)),hS,hE];simp only [List.append_nil,ne_eq];rw[if_pos (by omega)];rfl) | (have hE:=Spec.partsR_bad (l:=b.drop p) (left:=left) (by omega) ((congrArg Spec.openF (Spec.drop_at hp hL197).symm).trans hR215) (by omega) (by omega);simp only [Spec.getSnapF,hR19,hR51,hR81,hR105,hR129];rw[if_neg (by omega),if_neg (fun q=>q.elim (fun h=>h (by omega)) fun q=>q.elim (fun h=>Bool.noConfusion (h.symm.trans hb145)) fun q=>q.elim (fun h=>Bool.noConfusion (h.symm.trans hb159)) fun h=>Bool.noConfusion (h.symm.trans hc177)),hS,hE];simp only [List.append_nil,ne_eq];rw[if_pos (by decide)];rfl)
        exact⟨.tuple #[.agg #[.int .i64 0,.int .i64 0,.string (⟨#[]⟩),.string (⟨#[]⟩)],.int .i64 0,.int .i64 z219],(resA_of (resL_cell rfl (lvar_part (l := [.int .i64 0,.int .i64 0,.string (⟨#[]⟩),.string (⟨#[]⟩)]) many46 hB225 rfl rfl (by decide)) (resL_tmp rfl (resL_tmp rfl resL_nil))) rfl),by first | (rw[hres];done) | rw[← hres],(by exact(Spec.getSnap_ok bb).1),(by exact(Spec.getSnap_ok bb).2),(by exact(Spec.getSnap_size bb)),hx228⟩
       ·
        rw[Bool.not_eq_true] at hc220;refine aw_condF hc220 rfl ?_
        have hc220:(z219=0):=by simpa using hc220
        refine aw_skip ?_
        iterate 2 refine aw_seq ?_
        refine aw_reg ?_
        refine st_op (ev_move rfl) rfl rfl rfl ?_
        refine st_op (ev_int rfl rfl rfl) rfl rfl rfl ?_
        refine st_op (ev_move rfl) rfl rfl rfl ?_
        refine st_bool 78 rfl (fun hb229=>?_) (fun hb229=>?_)
        ·
         have hb229:¬ (z216=4):=by simpa using hb229
         iterate 5 refine st_skip rfl rfl rfl ?_
         refine st_op (ev_pickT rfl rfl) rfl rfl rfl ?_
         refine aw_cond (t:=true) rfl ?_
         refine aw_seq ?_
         refine aw_reg ?_
         refine st_op (ev_build zero46 pl46 (parts := []) rfl (cs := [.int .i64 0,.int .i64 0,.string (⟨#[]⟩),.string (⟨#[]⟩)]) rfl) rfl rfl rfl ?_
         have hx231:Ext H2 H205:=(Ext.trans hx203 hx206)
         have h230:=Ext.blk hx231 (by omega) hB5
         obtain⟨H232,he233,H232n_,hB234,f235⟩:=mem_store (v := .agg #[.int .i64 0,.int .i64 0,.string (⟨#[]⟩),.string (⟨#[]⟩)]) (o:=0) (cs' := [.int .i64 0,.int .i64 0,.string (⟨#[]⟩),.string (⟨#[]⟩)]) 4 rfl rfl size46 h230 rfl rfl rfl
         refine st_op0 (he233 _ _ _ _ _ _ _ _ _ rfl rfl) rfl rfl ?_
         have hf236:Fr (fun q=>q=b1) H205 H232:=Fr.write H232n_ f235
         have H232n:H205.next≤H232.next:=hf236.1
         iterate 2 refine st_op (ev_assign rfl) rfl rfl rfl ?_
         refine aw_ret ?_
         have hx237:Ext H H232:=(Ext.then (Ext.trans (Ext.trans (Ext.trans (Ext.trans (Ext.trans (Ext.trans (Ext.then (Ext.then (Ext.then (Ext.then (Ext.then (Ext.then (Ext.trans (Ext.then (Ext.trans (Ext.trans hx6 hx10) hx37) hx41 (fun q hq e=>by omega)) hx60) hf65 (fun q hq e=>by omega)) hx71 (fun q hq e=>by omega)) hf90 (fun q hq e=>by omega)) hx95 (fun q hq e=>by omega)) hf114 (fun q hq e=>by omega)) hx119 (fun q hq e=>by omega)) hx144) hx158) hx173) hx176) hxl191) hx206) hf236 (fun q hq e=>by omega))
         have hres:(Spec.getSnapF b)=(0,0,(⟨#[]⟩:ByteArray),(⟨#[]⟩:ByteArray),0,3):=by first | (have hE:=Spec.partsR_err (l:=b.drop p) (left:=left) (by omega) ((congrArg Spec.openF (Spec.drop_at hp hL197).symm).trans hR215) (by omega);simp only [Spec.getSnapF,hR19,hR51,hR81,hR105,hR129];rw[if_neg (by omega),if_neg (fun q=>q.elim (fun h=>h (by omega)) fun q=>q.elim (fun h=>Bool.noConfusion (h.symm.trans hb145)) fun q=>q.elim (fun h=>Bool.noConfusion (h.symm.trans hb159)) fun h=>Bool.noConfusion (h.symm.trans hc177)),hS,hE];simp only [List.append_nil,ne_eq];rw[if_pos (by omega)];rfl) | (have hE:=Spec.partsR_bad (l:=b.drop p) (left:=left) (by omega) ((congrArg Spec.openF (Spec.drop_at hp hL197).symm).trans hR215) (by omega) (by omega);simp only [Spec.getSnapF,hR19,hR51,hR81,hR105,hR129];rw[if_neg (by omega),if_neg (fun q=>q.elim (fun h=>h (by omega)) fun q=>q.elim (fun h=>Bool.noConfusion (h.symm.trans hb145)) fun q=>q.elim (fun h=>Bool.noConfusion (h.symm.trans hb159)) fun h=>Bool.noConfusion (h.symm.trans hc177)),hS,hE];simp only [List.append_nil,ne_eq];rw[if_pos (by decide)];rfl)
         exact⟨.tuple #[.agg #[.int .i64 0,.int .i64 0,.string (⟨#[]⟩),.string (⟨#[]⟩)],.int .i64 0,.int .i64 3],(resA_of (resL_cell rfl (lvar_part (l := [.int .i64 0,.int .i64 0,.string (⟨#[]⟩),.string (⟨#[]⟩)]) many46 hB234 rfl rfl (by decide)) (resL_tmp rfl (resL_tmp rfl resL_nil))) rfl),by first | (rw[hres];done) | rw[← hres],(by exact(Spec.getSnap_ok bb).1),(by exact(Spec.getSnap_ok bb).2),(by exact(Spec.getSnap_size bb)),hx237⟩
        ·
         have hb229:(z216=4):=by simpa using hb229
         refine st_op (ev_move rfl) rfl rfl rfl ?_
         refine st_op (ev_lenSl rfl Try.underlying26) rfl rfl rfl ?_
         refine st_op (ev_move rfl) rfl rfl rfl ?_
         obtain⟨z238,hz239,hz240⟩:∃ z,(if 3000<left then 3000 else left)=z∧(left ≥ z∧3000 ≥ z∧(z=left∨z=3000)):=⟨_,rfl,by split <;> omega⟩
         refine st_op (ev_minE hz239 rfl rfl) rfl rfl rfl ?_
         refine st_op (ev_int rfl rfl rfl) rfl rfl rfl ?_
         refine st_op (ev_pickF rfl rfl) rfl rfl rfl ?_
         by_cases hc241:((z217.length:Int) != z238)=true
         ·
          refine aw_condT hc241 rfl ?_
          have hc241:¬ ((z217.length:Int)=z238):=by simpa using hc241
          refine aw_seq ?_
          refine aw_reg ?_
          refine st_op (ev_build zero46 pl46 (parts := []) rfl (cs := [.int .i64 0,.int .i64 0,.string (⟨#[]⟩),.string (⟨#[]⟩)]) rfl) rfl rfl rfl ?_
          have hx243:Ext H2 H205:=(Ext.trans hx203 hx206)
          have h242:=Ext.blk hx243 (by omega) hB5
          obtain⟨H244,he245,H244n_,hB246,f247⟩:=mem_store (v := .agg #[.int .i64 0,.int .i64 0,.string (⟨#[]⟩),.string (⟨#[]⟩)]) (o:=0) (cs' := [.int .i64 0,.int .i64 0,.string (⟨#[]⟩),.string (⟨#[]⟩)]) 4 rfl rfl size46 h242 rfl rfl rfl
          refine st_op0 (he245 _ _ _ _ _ _ _ _ _ rfl rfl) rfl rfl ?_
          have hf248:Fr (fun q=>q=b1) H205 H244:=Fr.write H244n_ f247
          have H244n:H205.next≤H244.next:=hf248.1
          iterate 2 refine st_op (ev_assign rfl) rfl rfl rfl ?_
          refine aw_ret ?_
          have hx249:Ext H H244:=(Ext.then (Ext.trans (Ext.trans (Ext.trans (Ext.trans (Ext.trans (Ext.trans (Ext.then (Ext.then (Ext.then (Ext.then (Ext.then (Ext.then (Ext.trans (Ext.then (Ext.trans (Ext.trans hx6 hx10) hx37) hx41 (fun q hq e=>by omega)) hx60) hf65 (fun q hq e=>by omega)) hx71 (fun q hq e=>by omega)) hf90 (fun q hq e=>by omega)) hx95 (fun q hq e=>by omega)) hf114 (fun q hq e=>by omega)) hx119 (fun q hq e=>by omega)) hx144) hx158) hx173) hx176) hxl191) hx206) hf248 (fun q hq e=>by omega))
          have hres:(Spec.getSnapF b)=(0,0,(⟨#[]⟩:ByteArray),(⟨#[]⟩:ByteArray),0,3):=by first | (have hE:=Spec.partsR_err (l:=b.drop p) (left:=left) (by omega) ((congrArg Spec.openF (Spec.drop_at hp hL197).symm).trans hR215) (by omega);simp only [Spec.getSnapF,hR19,hR51,hR81,hR105,hR129];rw[if_neg (by omega),if_neg (fun q=>q.elim (fun h=>h (by omega)) fun q=>q.elim (fun h=>Bool.noConfusion (h.symm.trans hb145)) fun q=>q.elim (fun h=>Bool.noConfusion (h.symm.trans hb159)) fun h=>Bool.noConfusion (h.symm.trans hc177)),hS,hE];simp only [List.append_nil,ne_eq];rw[if_pos (by omega)];rfl) | (have hE:=Spec.partsR_bad (l:=b.drop p) (left:=left) (by omega) ((congrArg Spec.openF (Spec.drop_at hp hL197).symm).trans hR215) (by omega) (by omega);simp only [Spec.getSnapF,hR19,hR51,hR81,hR105,hR129];rw[if_neg (by omega),if_neg (fun q=>q.elim (fun h=>h (by omega)) fun q=>q.elim (fun h=>Bool.noConfusion (h.symm.trans hb145)) fun q=>q.elim (fun h=>Bool.noConfusion (h.symm.trans hb159)) fun h=>Bool.noConfusion (h.symm.trans hc177)),hS,hE];simp only [List.append_nil,ne_eq];rw[if_pos (by decide)];rfl)
          exact⟨.tuple #[.agg #[.int .i64 0,.int .i64 0,.string (⟨#[]⟩),.string (⟨#[]⟩)],.int .i64 0,.int .i64 3],(resA_of (resL_cell rfl (lvar_part (l := [.int .i64 0,.int .i64 0,.string (⟨#[]⟩),.string (⟨#[]⟩)]) many46 hB246 rfl rfl (by decide)) (resL_tmp rfl (resL_tmp rfl resL_nil))) rfl),by first | (rw[hres];done) | rw[← hres],(by exact(Spec.getSnap_ok bb).1),(by exact(Spec.getSnap_ok bb).2),(by exact(Spec.getSnap_size bb)),hx249⟩
         ·
          rw[Bool.not_eq_true] at hc241;refine aw_condF hc241 rfl ?_
          have hc241:((z217.length:Int)=z238):=by simpa using hc241
          refine aw_skip ?_
          refine aw_seq ?_
          refine aw_reg ?_
          iterate 2 refine st_op (ev_move rfl) rfl rfl rfl ?_
          have h250:=My.ext hm190 hx206
          obtain⟨A251,c252,H253,W254,he255,hm256,hf257⟩:=mem_append (f:=u8c) (old:=all) (new:=z217) (m:=all.length) (mx:=z217.length) (c:=cp) (by first | rfl | simp) (by first | rfl | simp) eok26 (by decide) hm190 h250 (by omega) (((My.row hm209)).srcF (by decide) (by first | rfl | simp)) rfl u8c_len u8c_one (by first | omega | (simp only [List.length_append,List.length_cons,List.length_nil,List.length_map,List.length_set,List.length_replicate,Spec.bytesOf_length];omega) | (simp;omega)) (by first | omega | (simp only [List.length_append,List.length_cons,List.length_nil,List.length_map,List.length_set,List.length_replicate,Spec.bytesOf_length];omega) | (simp;omega))
          refine st_op (he255 _ _ _ _ _ _ _ _ _ _ rfl rfl isrow26) rfl rfl rfl ?_
          have H253n:H205.next≤H253.next:=hf257.1
          refine st_op (ev_assign rfl) rfl rfl rfl ?_
          refine aw_seq ?_
          refine aw_reg ?_
          iterate 2 refine st_op (ev_move rfl) rfl rfl rfl ?_
          refine st_op (ev_lenSl rfl Try.underlying26) rfl rfl rfl ?_
          refine st_op (ev_int64 (c:=left - (z217.length:Int)) rfl rfl rfl (by omega) (by omega)) rfl rfl rfl ?_
          refine st_op (ev_assign rfl) rfl rfl rfl ?_
          refine aw_reg ?_
          iterate 2 refine st_op (ev_move rfl) rfl rfl rfl ?_
          refine st_op (ev_int64 (c:=at_+z218) rfl rfl rfl (by omega) (by omega)) rfl rfl rfl ?_
          refine st_op (ev_assign rfl) rfl rfl rfl ?_
          have hx258:Ext H175 H253:=(Ext.then (Ext.trans hxl191 hx206) hf257 (fun q hq e=>by omega))
          refine aw_keep [0,2,7,10,11,12] (l':=(.cons 0 (.slice bA b.length bc) (.cons 2 (.pointer (some ⟨b1,0,none⟩)) (.cons 7 (.int .i64 (at_+z218)) (.cons 10 (.pointer (some ⟨b55,0,none⟩)) (.cons 11 (.int .i64 (left - (z217.length:Int))) (.cons 12 (.slice A251 ((all++z217).length) c252) .nil))))))) (by repeat (first | exact Up.done | refine Up.then ?_ | refine Up.inBlock ?_)) rfl ?_
          exact ih192 (at_+z218,left - (z217.length:Int),A251,c252,(all++z217),(p+z218.toNat),H253) ⟨(show(at_+z218)=((p+z218.toNat):Int) from(by omega)),(show(p+z218.toNat)≤b.length from(by omega)),(show((all++z217).length:Int)+(left - (z217.length:Int))≤200000 from(by rw[List.length_append];omega)),(show Spec.partsR (b.drop z22.toNat) z130=((all++z217)++(Spec.partsR (b.drop (p+z218.toNat)) (left - (z217.length:Int))).1,((p+z218.toNat):Int) - z22+(Spec.partsR (b.drop (p+z218.toNat)) (left - (z217.length:Int))).2.1,(Spec.partsR (b.drop (p+z218.toNat)) (left - (z217.length:Int))).2.2) from(by rw[hS,Spec.partsR_step (l:=b.drop p) (by omega) ((congrArg Spec.openF (Spec.drop_at hp hL197).symm).trans hR215) (by omega) (by omega) (by omega),List.drop_drop];simp only [List.append_assoc,Prod.mk.injEq,true_and];refine⟨?_,trivial⟩;omega)),(show 0≤(at_+z218)∧(at_+z218)≤1099511627776 from⟨by omega,by omega⟩),(show 0≤(left - (z217.length:Int))∧(left - (z217.length:Int))≤200000 from⟨by omega,by omega⟩),(show My H175 H253 A251 c252 1 ((all++z217).map u8c) from hm256),(show Ext H175 H253 from hx258)⟩ (by simp only;omega)
      ·
       rw[Bool.not_eq_true] at hc193;refine aw_condF hc193 rfl ?_
       have hc193:=of_decide_eq_false hc193
       refine aw_exit ?_
       refine aw_seq ?_
       refine aw_reg ?_
       refine st_op (ev_move rfl) rfl rfl rfl ?_
       refine st_op (ev_strOf (l:=all) (A:=A) (c:=cp) slu8_26 isstr_9 rfl (My.anil hm190) (My.row hm190)) rfl rfl rfl ?_
       refine st_op (ev_fieldAddr rfl fa46_3 (o':=3) rfl) rfl rfl rfl ?_
       have hx260:Ext H143 Hl186:=(Ext.trans (Ext.trans (Ext.trans hx158 hx173) hx176) hxl191)
       have h259:=Ext.blk hx260 (by omega) h155
       obtain⟨H261,he262,H261n_,hB263,f264⟩:=mem_store (v := .string (strOfNums all)) (o:=3) (cs' := [.int .i64 z52,.int .i64 z82,.string z106,.string (strOfNums all)]) 1 rfl rfl size9 h259 rfl rfl rfl
       refine st_op0 (he262 _ _ _ _ _ _ _ _ _ rfl rfl) rfl rfl ?_
       have hf265:Fr (fun q=>q=b55) Hl186 H261:=Fr.write H261n_ f264
       have H261n:Hl186.next≤H261.next:=hf265.1
       refine aw_seq ?_
       refine aw_reg ?_
       refine st_op (ev_load rfl (lvar_part (l := [.int .i64 z52,.int .i64 z82,.string z106,.string (strOfNums all)]) many46 hB263 rfl rfl (by decide))) rfl rfl rfl ?_
       refine st_op (ev_move rfl) rfl rfl rfl ?_
       have hx267:Ext H2 H261:=(Ext.then (Ext.trans (Ext.trans (Ext.trans (Ext.trans (Ext.trans (Ext.then (Ext.then (Ext.then (Ext.then (Ext.then (Ext.then (Ext.trans (Ext.then (Ext.trans hx10 hx37) hx41 (fun q hq e=>by omega)) hx60) hf65 (fun q hq e=>by omega)) hx71 (fun q hq e=>by omega)) hf90 (fun q hq e=>by omega)) hx95 (fun q hq e=>by omega)) hf114 (fun q hq e=>by omega)) hx119 (fun q hq e=>by omega)) hx144) hx158) hx173) hx176) hxl191) hf265 (fun q hq e=>by omega))
       have h266:=Ext.blk hx267 (by omega) hB5
       obtain⟨H268,he269,H268n_,hB270,f271⟩:=mem_store (v := .agg #[.int .i64 z52,.int .i64 z82,.string z106,.string (strOfNums all)]) (o:=0) (cs' := [.int .i64 z52,.int .i64 z82,.string z106,.string (strOfNums all)]) 4 rfl rfl size46 h266 rfl rfl rfl
       refine st_op0 (he269 _ _ _ _ _ _ _ _ _ rfl rfl) rfl rfl ?_
       have hf272:Fr (fun q=>q=b1) H261 H268:=Fr.write H268n_ f271
       have H268n:H261.next≤H268.next:=hf272.1
       iterate 2 refine st_op (ev_assign rfl) rfl rfl rfl ?_
       refine aw_ret ?_
       have hx273:Ext H H268:=(Ext.then (Ext.then (Ext.trans (Ext.trans (Ext.trans (Ext.trans (Ext.trans (Ext.then (Ext.then (Ext.then (Ext.then (Ext.then (Ext.then (Ext.trans (Ext.then (Ext.trans (Ext.trans hx6 hx10) hx37) hx41 (fun q hq e=>by omega)) hx60) hf65 (fun q hq e=>by omega)) hx71 (fun q hq e=>by omega)) hf90 (fun q hq e=>by omega)) hx95 (fun q hq e=>by omega)) hf114 (fun q hq e=>by omega)) hx119 (fun q hq e=>by omega)) hx144) hx158) hx173) hx176) hxl191) hf265 (fun q hq e=>by omega)) hf272 (fun q hq e=>by omega))
       have hres:(Spec.getSnapF b)=(z52,z82,z106,(strOfNums all),at_,0):=by have hE:=Spec.partsR_done (l:=b.drop p) (left:=left) (by omega);simp only [Spec.getSnapF,hR19,hR51,hR81,hR105,hR129];rw[if_neg (by omega),if_neg (fun q=>q.elim (fun h=>h (by omega)) fun q=>q.elim (fun h=>Bool.noConfusion (h.symm.trans hb145)) fun q=>q.elim (fun h=>Bool.noConfusion (h.symm.trans hb159)) fun h=>Bool.noConfusion (h.symm.trans hc177)),hS,hE];simp only [List.append_nil,ne_eq];rw[if_neg (by decide)];congr 5;omega
       exact⟨.tuple #[.agg #[.int .i64 z52,.int .i64 z82,.string z106,.string (strOfNums all)],.int .i64 at_,.int .i64 0],(resA_of (resL_cell rfl (lvar_part (l := [.int .i64 z52,.int .i64 z82,.string z106,.string (strOfNums all)]) many46 hB270 rfl rfl (by decide)) (resL_tmp rfl (resL_tmp rfl resL_nil))) rfl),by first | (rw[hres];done) | rw[← hres],(by exact(Spec.getSnap_ok bb).1),(by exact(Spec.getSnap_ok bb).2),(by exact(Spec.getSnap_size bb)),hx273⟩
theorem wal_Decode_spec (H:Heap) (bA:Option Addr) (b:List Int) (bc:Nat) (hb:Row H bA bc 1 (b.map u8c)) (cb:b.length≤bc) (lb:b.length≤1099511627776) (bb:Spec.Bytes b):∃ v H',Spec Try.prog 61 [.slice bA b.length bc] H v H'∧((v = .tuple #[.agg #[.bool ((Spec.decF b).1),.int .i64 ((Spec.decF b).2.1),.int .i64 ((Spec.decF b).2.2.1),.int .i64 ((Spec.decF b).2.2.2.1),.int .i64 ((Spec.decF b).2.2.2.2.1),.int .i64 ((Spec.decF b).2.2.2.2.2.1),.string ((Spec.decF b).2.2.2.2.2.2.1)],.int .i64 ((Spec.decF b).2.2.2.2.2.2.2.1),.int .i64 ((Spec.decF b).2.2.2.2.2.2.2.2)])∧((Spec.decF b).2.2.2.2.2.2.2.2=0→Spec.mayF (Spec.decF b).1 (Spec.decF b).2.1 (Spec.decF b).2.2.1 (Spec.decF b).2.2.2.1 (Spec.decF b).2.2.2.2.1 (Spec.decF b).2.2.2.2.2.1 (Spec.decF b).2.2.2.2.2.2.1=true∧6≤(Spec.decF b).2.2.2.2.2.2.2.1∧(Spec.decF b).2.2.2.2.2.2.2.1≤b.length∧(Spec.decF b).2.2.2.2.2.2.2.1≤4020)∧(0≤(Spec.decF b).2.2.2.2.2.2.2.2∧(Spec.decF b).2.2.2.2.2.2.2.2≤3)∧((Spec.decF b).2.2.2.2.2.2.2.2≠0→(Spec.decF b).2.2.2.2.2.2.2.1=0∧(Spec.decF b)=(false,0,0,0,0,0,(⟨#[]⟩:ByteArray),0,(Spec.decF b).2.2.2.2.2.2.2.2))∧(Ext H H')):=by
 refine spec_go1 E0_ok 76 (f:=61) Try.func61 rfl rfl rfl ?_
 refine aw_seq ?_
 refine aw_reg ?_
 obtain⟨b1,H2,he3,b1e,H2n_,hB5,f4⟩:=mem_alloc H zero95
 refine st_op (he3 _ _ _ _ _ _ _) rfl rfl rfl ?_
 have hx6:Ext H H2:=Ext.new (by omega) H2n_ f4
 have H2n:H.next≤H2.next:=hx6.1
 iterate 2 refine st_op (ev_assign rfl) rfl rfl rfl ?_
 refine aw_seq ?_
 refine aw_reg ?_
 refine st_op (ev_move rfl) rfl rfl rfl ?_
 refine st_call rfl rfl rfl ent55 rfl rfl rfl ?_
 have h7:=Row.ext hb hx6
 obtain⟨_,H9,hs8,A11,c12,hs8v,hm13,hq14,hq15,hq16,hq17,hx10⟩:=frame_Open_spec H2 bA b bc h7 cb (by omega) (by assumption)
 rw[hs8v] at hs8;clear hs8v
 generalize hR19:(Spec.openF b)=r18 at hs8 hm13 hq14 hq15 hq16 hq17
 obtain⟨z20,z21,z22,z23⟩:=r18
 dsimp only at hs8 hm13 hq14 hq15 hq16 hq17
 refine⟨_,H9,hs8,?_⟩
 have H9n:H2.next≤H9.next:=hx10.1
 refine st_op (ev_move rfl) rfl rfl rfl ?_
 iterate 4 refine st_op (ev_extract rfl rfl) rfl rfl rfl ?_
 iterate 4 refine st_op (ev_assign rfl) rfl rfl rfl ?_
 iterate 2 refine aw_seq ?_
 refine aw_reg ?_
 refine st_op (ev_move rfl) rfl rfl rfl ?_
 refine st_op (ev_int rfl rfl rfl) rfl rfl rfl ?_
 by_cases hc24:(z23 != 0)=true
 ·
  refine aw_condT hc24 rfl ?_
  have hc24:¬ (z23=0):=by simpa using hc24
  refine aw_seq ?_
  refine aw_reg ?_
  refine st_op (ev_build zero95 pl95 (parts := []) rfl (cs := [.bool false,.int .i64 0,.int .i64 0,.int .i64 0,.int .i64 0,.int .i64 0,.string (⟨#[]⟩)]) rfl) rfl rfl rfl ?_
  refine st_op (ev_move rfl) rfl rfl rfl ?_
  have h25:=Ext.blk hx10 (by omega) hB5
  obtain⟨H26,he27,H26n_,hB28,f29⟩:=mem_store (v := .agg #[.bool false,.int .i64 0,.int .i64 0,.int .i64 0,.int .i64 0,.int .i64 0,.string (⟨#[]⟩)]) (o:=0) (cs' := [.bool false,.int .i64 0,.int .i64 0,.int .i64 0,.int .i64 0,.int .i64 0,.string (⟨#[]⟩)]) 7 rfl rfl size95 h25 rfl rfl rfl
  refine st_op0 (he27 _ _ _ _ _ _ _ _ _ rfl rfl) rfl rfl ?_
  have hf30:Fr (fun q=>q=b1) H9 H26:=Fr.write H26n_ f29
  have H26n:H9.next≤H26.next:=hf30.1
  iterate 2 refine st_op (ev_assign rfl) rfl rfl rfl ?_
  refine aw_ret ?_
  have hx31:Ext H H26:=(Ext.then (Ext.trans hx6 hx10) hf30 (fun q hq e=>by omega))
  have hres:(Spec.decF b)=(false,0,0,0,0,0,(⟨#[]⟩:ByteArray),0,z23):=by simp only [Spec.decF,hR19];simp_all [Spec.decBad]
  exact⟨.tuple #[.agg #[.bool false,.int .i64 0,.int .i64 0,.int .i64 0,.int .i64 0,.int .i64 0,.string (⟨#[]⟩)],.int .i64 0,.int .i64 z23],(resA_of (resL_cell rfl (lvar_part (l := [.bool false,.int .i64 0,.int .i64 0,.int .i64 0,.int .i64 0,.int .i64 0,.string (⟨#[]⟩)]) many95 hB28 rfl rfl (by decide)) (resL_tmp rfl (resL_tmp rfl resL_nil))) rfl),by first | (rw[hres];done) | rw[← hres],(by exact(Spec.decF_all bb).1),(by exact(Spec.decF_all bb).2.1),(by exact(Spec.decF_all bb).2.2),hx31⟩
 ·
  rw[Bool.not_eq_true] at hc24;refine aw_condF hc24 rfl ?_
  have hc24:(z23=0):=by simpa using hc24
  refine aw_skip ?_
  refine aw_seq ?_
  refine aw_reg ?_
  refine st_op (ev_move rfl) rfl rfl rfl ?_
  refine st_op (ev_build zero115 pl115 (parts := [(0,.slice A11 z21.length c12)]) rfl (cs := [.slice A11 z21.length c12,.bool false]) rfl) rfl rfl rfl ?_
  obtain⟨b32,H33,he34,b32e,H33n_,hB36,f35⟩:=mem_box (P:=Try.prog) H9 (v := .agg #[.slice A11 z21.length c12,.bool false]) (cs := [.slice A11 z21.length c12,.bool false]) rfl rfl
  refine st_op (he34 _ _ _ _ _ _ _ _ _ rfl) rfl rfl rfl ?_
  have hx37:Ext H9 H33:=Ext.new (by omega) H33n_ f35
  have H33n:H9.next≤H33.next:=hx37.1
  refine st_op (ev_assign rfl) rfl rfl rfl ?_
  refine aw_seq ?_
  refine aw_reg ?_
  refine st_op (ev_move rfl) rfl rfl rfl ?_
  refine st_op (ev_int rfl rfl rfl) rfl rfl rfl ?_
  refine st_op (ev_build zero95 pl95 (parts := [(0,.bool (z20 == 1))]) rfl (cs := [.bool (z20 == 1),.int .i64 0,.int .i64 0,.int .i64 0,.int .i64 0,.int .i64 0,.string (⟨#[]⟩)]) rfl) rfl rfl rfl ?_
  obtain⟨b38,H39,he40,b38e,H39n_,hB42,f41⟩:=mem_alloc H33 zero95
  refine st_op (he40 _ _ _ _ _ _ _) rfl rfl rfl ?_
  have hx43:Ext H33 H39:=Ext.new (by omega) H39n_ f41
  have H39n:H33.next≤H39.next:=hx43.1
  obtain⟨H44,he45,H44n_,hB46,f47⟩:=mem_store (v := .agg #[.bool (z20 == 1),.int .i64 0,.int .i64 0,.int .i64 0,.int .i64 0,.int .i64 0,.string (⟨#[]⟩)]) (o:=0) (cs' := [.bool (z20 == 1),.int .i64 0,.int .i64 0,.int .i64 0,.int .i64 0,.int .i64 0,.string (⟨#[]⟩)]) 7 rfl rfl size95 hB42 rfl rfl rfl
  refine st_op0 (he45 _ _ _ _ _ _ _ _ _ rfl rfl) rfl rfl ?_
  have hf48:Fr (fun q=>q=b38) H39 H44:=Fr.write H44n_ f47
  have H44n:H39.next≤H44.next:=hf48.1
  iterate 2 refine aw_seq ?_
  refine aw_reg ?_
  refine st_op (ev_move rfl) rfl rfl rfl ?_
  refine aw_block ?_
  refine aw_seq ?_
  refine aw_reg ?_
  refine st_op (ev_int rfl rfl rfl) rfl rfl rfl ?_
  refine st_op (ev_assign rfl) rfl rfl rfl ?_
  by_cases hc49:(z20 == 1)=true
  ·
   refine aw_condT hc49 rfl ?_
   have hc49:=eq_of_beq hc49
   refine aw_seq ?_
   refine aw_reg ?_
   refine st_op (ev_move rfl) rfl rfl rfl ?_
   refine st_call rfl rfl rfl ent56 rfl rfl rfl ?_
   have hx51:Ext H9 H44:=(Ext.then (Ext.trans hx37 hx43) hf48 (fun q hq e=>by omega))
   have h50:=My.ext hm13 hx51
   have hx53:Ext H33 H44:=(Ext.then hx43 hf48 (fun q hq e=>by omega))
   have h52:=Ext.blk hx53 (by omega) hB36
   obtain⟨_,H55,hs54,A57,c58,hs54v,hm59,hk63,hB64,hq60,hq61,hq62,hx56⟩:=wal_rnum_spec H44 A11 z21 c12 (My.row h50) (My.capF h50 (by omega)) (by omega) (by assumption) false b32 (by omega) h52
   rw[hs54v] at hs54;clear hs54v
   generalize hR66:(Spec.rdN z21 false)=r65 at hs54 hm59 hk63 hB64 hq60 hq61 hq62
   obtain⟨z67,z68,z69⟩:=r65
   dsimp only at hs54 hm59 hk63 hB64 hq60 hq61 hq62
   refine⟨_,H55,hs54,?_⟩
   have H55n:H44.next≤H55.next:=hx56.1
   refine st_op (ev_fieldAddr rfl fa95_1 (o':=1) rfl) rfl rfl rfl ?_
   refine st_op (ev_fieldAddr rfl fa41_0 (o':=1) rfl) rfl rfl rfl ?_
   have h70:=Fr.blk hx56 (by omega) (fun e=>(by omega)) hB46
   obtain⟨H71,he72,H71n_,hB73,f74⟩:=mem_store (v := .int .i64 z67) (o:=1) (cs' := [.bool (z20 == 1),.int .i64 z67,.int .i64 0,.int .i64 0,.int .i64 0,.int .i64 0,.string (⟨#[]⟩)]) 1 rfl rfl size2 h70 rfl rfl rfl
   refine st_op0 (he72 _ _ _ _ _ _ _ _ _ rfl rfl) rfl rfl ?_
   have hf75:Fr (fun q=>q=b38) H55 H71:=Fr.write H71n_ f74
   have H71n:H55.next≤H71.next:=hf75.1
   refine aw_reg ?_
   refine st_op (ev_move rfl) rfl rfl rfl ?_
   refine st_call rfl rfl rfl ent56 rfl rfl rfl ?_
   have h76:=Row.fr hm59 hf75 (fun q hq e=>⟨_,e ▸ h70,show(0:Nat)≠1 by decide⟩)
   have h77:=Fr.blk hf75 (by omega) (fun e=>(by omega)) hB64
   obtain⟨_,H79,hs78,A81,c82,hs78v,hm83,hk87,hB88,hq84,hq85,hq86,hx80⟩:=wal_rnum_spec H71 A57 z68 c58 h76 hk63 (by omega) (by assumption) z69 b32 (by omega) h77
   rw[hs78v] at hs78;clear hs78v
   generalize hR90:(Spec.rdN z68 z69)=r89 at hs78 hm83 hk87 hB88 hq84 hq85 hq86
   obtain⟨z91,z92,z93⟩:=r89
   dsimp only at hs78 hm83 hk87 hB88 hq84 hq85 hq86
   refine⟨_,H79,hs78,?_⟩
   have H79n:H71.next≤H79.next:=hx80.1
   refine st_op (ev_fieldAddr rfl fa95_1 (o':=1) rfl) rfl rfl rfl ?_
   refine st_op (ev_fieldAddr rfl fa41_1 (o':=2) rfl) rfl rfl rfl ?_
   have h94:=Fr.blk hx80 (by omega) (fun e=>(by omega)) hB73
   obtain⟨H95,he96,H95n_,hB97,f98⟩:=mem_store (v := .int .i64 z91) (o:=2) (cs' := [.bool (z20 == 1),.int .i64 z67,.int .i64 z91,.int .i64 0,.int .i64 0,.int .i64 0,.string (⟨#[]⟩)]) 1 rfl rfl size3 h94 rfl rfl rfl
   refine st_op0 (he96 _ _ _ _ _ _ _ _ _ rfl rfl) rfl rfl ?_
   have hf99:Fr (fun q=>q=b38) H79 H95:=Fr.write H95n_ f98
   have H95n:H79.next≤H95.next:=hf99.1
   iterate 2 refine aw_seq ?_
   refine aw_reg ?_
   refine st_op (ev_move rfl) rfl rfl rfl ?_
   refine st_op (ev_int rfl rfl rfl) rfl rfl rfl ?_
   refine st_op (ev_move rfl) rfl rfl rfl ?_
   refine st_bool 59 rfl (fun hb100=>?_) (fun hb100=>?_)
   ·
    have hb100:¬ (z20=1):=by simpa using hb100
    exfalso;omega
   ·
    have hb100:(z20=1):=by simpa using hb100
    iterate 2 refine st_skip rfl rfl rfl ?_
    refine st_op (ev_pickF rfl rfl) rfl rfl rfl ?_
    iterate 2 refine st_op (ev_move rfl) rfl rfl rfl ?_
    refine st_call rfl rfl rfl ent58 rfl rfl rfl ?_
    have h101:=Row.fr hm83 hf99 (fun q hq e=>⟨_,e ▸ h94,show(0:Nat)≠1 by decide⟩)
    have h102:=Fr.blk hf99 (by omega) (fun e=>(by omega)) hB88
    obtain⟨_,H104,hs103,hs103v,hx105⟩:=wal_rdone_spec H95 A81 z92 c82 h101 hk87 (by omega) (by assumption) z93 b32 (by omega) h102
    rw[hs103v] at hs103;clear hs103v
    refine⟨_,H104,hs103,?_⟩
    have H104n:H95.next≤H104.next:=hx105.1
    refine st_op (ev_not rfl) rfl rfl rfl ?_
    refine st_op (ev_pickF rfl rfl) rfl rfl rfl ?_
    refine st_op (ev_move rfl) rfl rfl rfl ?_
    refine st_bool 68 rfl (fun hb106=>?_) (fun hb106=>?_)
    ·
     replace hb106:(!z93 && z92.isEmpty)=false:=by rw[Bool.not_eq_true'] at hb106;exact hb106
     iterate 3 refine st_skip rfl rfl rfl ?_
     refine st_op (ev_pickT rfl rfl) rfl rfl rfl ?_
     refine aw_cond (t:=true) rfl ?_
     refine aw_seq ?_
     refine aw_reg ?_
     refine st_op (ev_build zero95 pl95 (parts := []) rfl (cs := [.bool false,.int .i64 0,.int .i64 0,.int .i64 0,.int .i64 0,.int .i64 0,.string (⟨#[]⟩)]) rfl) rfl rfl rfl ?_
     have hx108:Ext H2 H104:=(Ext.trans (Ext.then (Ext.then (Ext.then (Ext.then (Ext.then (Ext.trans (Ext.trans hx10 hx37) hx43) hf48 (fun q hq e=>by omega)) hx56 (fun q hq e=>by omega)) hf75 (fun q hq e=>by omega)) hx80 (fun q hq e=>by omega)) hf99 (fun q hq e=>by omega)) hx105)
     have h107:=Ext.blk hx108 (by omega) hB5
     obtain⟨H109,he110,H109n_,hB111,f112⟩:=mem_store (v := .agg #[.bool false,.int .i64 0,.int .i64 0,.int .i64 0,.int .i64 0,.int .i64 0,.string (⟨#[]⟩)]) (o:=0) (cs' := [.bool false,.int .i64 0,.int .i64 0,.int .i64 0,.int .i64 0,.int .i64 0,.string (⟨#[]⟩)]) 7 rfl rfl size95 h107 rfl rfl rfl
     refine st_op0 (he110 _ _ _ _ _ _ _ _ _ rfl rfl) rfl rfl ?_
     have hf113:Fr (fun q=>q=b1) H104 H109:=Fr.write H109n_ f112
     have H109n:H104.next≤H109.next:=hf113.1
     iterate 2 refine st_op (ev_assign rfl) rfl rfl rfl ?_
     refine aw_ret ?_
     have hx114:Ext H H109:=(Ext.then (Ext.trans (Ext.then (Ext.then (Ext.then (Ext.then (Ext.then (Ext.trans (Ext.trans (Ext.trans hx6 hx10) hx37) hx43) hf48 (fun q hq e=>by omega)) hx56 (fun q hq e=>by omega)) hf75 (fun q hq e=>by omega)) hx80 (fun q hq e=>by omega)) hf99 (fun q hq e=>by omega)) hx105) hf113 (fun q hq e=>by omega))
     have hres:(Spec.decF b)=(false,0,0,0,0,0,(⟨#[]⟩:ByteArray),0,3):=by simp only [Spec.decF,hR19,hR66,hR90];simp_all [Spec.decBad]
     exact⟨.tuple #[.agg #[.bool false,.int .i64 0,.int .i64 0,.int .i64 0,.int .i64 0,.int .i64 0,.string (⟨#[]⟩)],.int .i64 0,.int .i64 3],(resA_of (resL_cell rfl (lvar_part (l := [.bool false,.int .i64 0,.int .i64 0,.int .i64 0,.int .i64 0,.int .i64 0,.string (⟨#[]⟩)]) many95 hB111 rfl rfl (by decide)) (resL_tmp rfl (resL_tmp rfl resL_nil))) rfl),by first | (rw[hres];done) | rw[← hres],(by exact(Spec.decF_all bb).1),(by exact(Spec.decF_all bb).2.1),(by exact(Spec.decF_all bb).2.2),hx114⟩
    ·
     replace hb106:(!z93 && z92.isEmpty)=true:=by rw[Bool.not_eq_false'] at hb106;exact hb106
     have h115:=Ext.blk hx105 (by omega) hB97
     refine st_op (ev_load rfl (lvar_part (l := [.bool (z20 == 1),.int .i64 z67,.int .i64 z91,.int .i64 0,.int .i64 0,.int .i64 0,.string (⟨#[]⟩)]) many95 h115 rfl rfl (by decide))) rfl rfl rfl ?_
     refine st_call rfl rfl rfl ent43 rfl rfl rfl ?_
     obtain⟨_,H117,hs116,hs116v,hx118⟩:=wal_May_spec H104 (z20 == 1) z67 z91 (0:Int) (0:Int) (0:Int) (⟨#[]⟩:ByteArray)
     rw[hs116v] at hs116;clear hs116v
     refine⟨_,H117,hs116,?_⟩
     have H117n:H104.next≤H117.next:=hx118.1
     refine st_op (ev_not rfl) rfl rfl rfl ?_
     refine st_op (ev_pickF rfl rfl) rfl rfl rfl ?_
     by_cases hc119:(!(Spec.mayF (z20 == 1) z67 z91 (0:Int) (0:Int) (0:Int) (⟨#[]⟩:ByteArray)))=true
     ·
      refine aw_condT hc119 rfl ?_
      replace hc119:(Spec.mayF (z20 == 1) z67 z91 (0:Int) (0:Int) (0:Int) (⟨#[]⟩:ByteArray))=false:=by rw[Bool.not_eq_true'] at hc119;exact hc119
      refine aw_seq ?_
      refine aw_reg ?_
      refine st_op (ev_build zero95 pl95 (parts := []) rfl (cs := [.bool false,.int .i64 0,.int .i64 0,.int .i64 0,.int .i64 0,.int .i64 0,.string (⟨#[]⟩)]) rfl) rfl rfl rfl ?_
      have hx121:Ext H2 H117:=(Ext.trans (Ext.trans (Ext.then (Ext.then (Ext.then (Ext.then (Ext.then (Ext.trans (Ext.trans hx10 hx37) hx43) hf48 (fun q hq e=>by omega)) hx56 (fun q hq e=>by omega)) hf75 (fun q hq e=>by omega)) hx80 (fun q hq e=>by omega)) hf99 (fun q hq e=>by omega)) hx105) hx118)
      have h120:=Ext.blk hx121 (by omega) hB5
      obtain⟨H122,he123,H122n_,hB124,f125⟩:=mem_store (v := .agg #[.bool false,.int .i64 0,.int .i64 0,.int .i64 0,.int .i64 0,.int .i64 0,.string (⟨#[]⟩)]) (o:=0) (cs' := [.bool false,.int .i64 0,.int .i64 0,.int .i64 0,.int .i64 0,.int .i64 0,.string (⟨#[]⟩)]) 7 rfl rfl size95 h120 rfl rfl rfl
      refine st_op0 (he123 _ _ _ _ _ _ _ _ _ rfl rfl) rfl rfl ?_
      have hf126:Fr (fun q=>q=b1) H117 H122:=Fr.write H122n_ f125
      have H122n:H117.next≤H122.next:=hf126.1
      iterate 2 refine st_op (ev_assign rfl) rfl rfl rfl ?_
      refine aw_ret ?_
      have hx127:Ext H H122:=(Ext.then (Ext.trans (Ext.trans (Ext.then (Ext.then (Ext.then (Ext.then (Ext.then (Ext.trans (Ext.trans (Ext.trans hx6 hx10) hx37) hx43) hf48 (fun q hq e=>by omega)) hx56 (fun q hq e=>by omega)) hf75 (fun q hq e=>by omega)) hx80 (fun q hq e=>by omega)) hf99 (fun q hq e=>by omega)) hx105) hx118) hf126 (fun q hq e=>by omega))
      have hres:(Spec.decF b)=(false,0,0,0,0,0,(⟨#[]⟩:ByteArray),0,3):=by simp only [Spec.decF,hR19,hR66,hR90];simp_all [Spec.decBad]
      exact⟨.tuple #[.agg #[.bool false,.int .i64 0,.int .i64 0,.int .i64 0,.int .i64 0,.int .i64 0,.string (⟨#[]⟩)],.int .i64 0,.int .i64 3],(resA_of (resL_cell rfl (lvar_part (l := [.bool false,.int .i64 0,.int .i64 0,.int .i64 0,.int .i64 0,.int .i64 0,.string (⟨#[]⟩)]) many95 hB124 rfl rfl (by decide)) (resL_tmp rfl (resL_tmp rfl resL_nil))) rfl),by first | (rw[hres];done) | rw[← hres],(by exact(Spec.decF_all bb).1),(by exact(Spec.decF_all bb).2.1),(by exact(Spec.decF_all bb).2.2),hx127⟩
     ·
      rw[Bool.not_eq_true] at hc119;refine aw_condF hc119 rfl ?_
      replace hc119:(Spec.mayF (z20 == 1) z67 z91 (0:Int) (0:Int) (0:Int) (⟨#[]⟩:ByteArray))=true:=by rw[Bool.not_eq_false'] at hc119;exact hc119
      refine aw_skip ?_
      refine aw_seq ?_
      refine aw_reg ?_
      have h128:=Ext.blk hx118 (by omega) h115
      refine st_op (ev_load rfl (lvar_part (l := [.bool (z20 == 1),.int .i64 z67,.int .i64 z91,.int .i64 0,.int .i64 0,.int .i64 0,.string (⟨#[]⟩)]) many95 h128 rfl rfl (by decide))) rfl rfl rfl ?_
      refine st_op (ev_move rfl) rfl rfl rfl ?_
      have hx130:Ext H2 H117:=(Ext.trans (Ext.trans (Ext.then (Ext.then (Ext.then (Ext.then (Ext.then (Ext.trans (Ext.trans hx10 hx37) hx43) hf48 (fun q hq e=>by omega)) hx56 (fun q hq e=>by omega)) hf75 (fun q hq e=>by omega)) hx80 (fun q hq e=>by omega)) hf99 (fun q hq e=>by omega)) hx105) hx118)
      have h129:=Ext.blk hx130 (by omega) hB5
      obtain⟨H131,he132,H131n_,hB133,f134⟩:=mem_store (v := .agg #[.bool (z20 == 1),.int .i64 z67,.int .i64 z91,.int .i64 0,.int .i64 0,.int .i64 0,.string (⟨#[]⟩)]) (o:=0) (cs' := [.bool (z20 == 1),.int .i64 z67,.int .i64 z91,.int .i64 0,.int .i64 0,.int .i64 0,.string (⟨#[]⟩)]) 7 rfl rfl size95 h129 rfl rfl rfl
      refine st_op0 (he132 _ _ _ _ _ _ _ _ _ rfl rfl) rfl rfl ?_
      have hf135:Fr (fun q=>q=b1) H117 H131:=Fr.write H131n_ f134
      have H131n:H117.next≤H131.next:=hf135.1
      iterate 2 refine st_op (ev_assign rfl) rfl rfl rfl ?_
      refine aw_ret ?_
      have hx136:Ext H H131:=(Ext.then (Ext.trans (Ext.trans (Ext.then (Ext.then (Ext.then (Ext.then (Ext.then (Ext.trans (Ext.trans (Ext.trans hx6 hx10) hx37) hx43) hf48 (fun q hq e=>by omega)) hx56 (fun q hq e=>by omega)) hf75 (fun q hq e=>by omega)) hx80 (fun q hq e=>by omega)) hf99 (fun q hq e=>by omega)) hx105) hx118) hf135 (fun q hq e=>by omega))
      have hres:(Spec.decF b)=((z20 == 1),z67,z91,0,0,0,(⟨#[]⟩:ByteArray),z22,0):=by simp only [Spec.decF,hR19,hR66,hR90];simp_all [Spec.decBad]
      exact⟨.tuple #[.agg #[.bool (z20 == 1),.int .i64 z67,.int .i64 z91,.int .i64 0,.int .i64 0,.int .i64 0,.string (⟨#[]⟩)],.int .i64 z22,.int .i64 0],(resA_of (resL_cell rfl (lvar_part (l := [.bool (z20 == 1),.int .i64 z67,.int .i64 z91,.int .i64 0,.int .i64 0,.int .i64 0,.string (⟨#[]⟩)]) many95 hB133 rfl rfl (by decide)) (resL_tmp rfl (resL_tmp rfl resL_nil))) rfl),by first | (rw[hres];done) | rw[← hres],(by exact(Spec.decF_all bb).1),(by exact(Spec.decF_all bb).2.1),(by exact(Spec.decF_all bb).2.2),hx136⟩
  ·
   rw[Bool.not_eq_true] at hc49;refine aw_condF hc49 rfl ?_
   have hc49:=ne_of_beq_false hc49
   refine aw_seq ?_
   refine aw_reg ?_
   refine st_op (ev_int rfl rfl rfl) rfl rfl rfl ?_
   refine st_op (ev_assign rfl) rfl rfl rfl ?_
   by_cases hc137:(z20 == 2)=true
   ·
    refine aw_condT hc137 rfl ?_
    have hc137:=eq_of_beq hc137
    refine aw_seq ?_
    refine aw_reg ?_
    refine st_op (ev_move rfl) rfl rfl rfl ?_
    refine st_call rfl rfl rfl ent56 rfl rfl rfl ?_
    have hx139:Ext H9 H44:=(Ext.then (Ext.trans hx37 hx43) hf48 (fun q hq e=>by omega))
    have h138:=My.ext hm13 hx139
    have hx141:Ext H33 H44:=(Ext.then hx43 hf48 (fun q hq e=>by omega))
    have h140:=Ext.blk hx141 (by omega) hB36
    obtain⟨_,H143,hs142,A145,c146,hs142v,hm147,hk151,hB152,hq148,hq149,hq150,hx144⟩:=wal_rnum_spec H44 A11 z21 c12 (My.row h138) (My.capF h138 (by omega)) (by omega) (by assumption) false b32 (by omega) h140
    rw[hs142v] at hs142;clear hs142v
    generalize hR154:(Spec.rdN z21 false)=r153 at hs142 hm147 hk151 hB152 hq148 hq149 hq150
    obtain⟨z155,z156,z157⟩:=r153
    dsimp only at hs142 hm147 hk151 hB152 hq148 hq149 hq150
    refine⟨_,H143,hs142,?_⟩
    have H143n:H44.next≤H143.next:=hx144.1
    refine st_op (ev_fieldAddr rfl fa95_2 (o':=3) rfl) rfl rfl rfl ?_
    refine st_op (ev_fieldAddr rfl fa54_0 (o':=3) rfl) rfl rfl rfl ?_
    have h158:=Fr.blk hx144 (by omega) (fun e=>(by omega)) hB46
    obtain⟨H159,he160,H159n_,hB161,f162⟩:=mem_store (v := .int .i64 z155) (o:=3) (cs' := [.bool (z20 == 1),.int .i64 0,.int .i64 0,.int .i64 z155,.int .i64 0,.int .i64 0,.string (⟨#[]⟩)]) 1 rfl rfl size2 h158 rfl rfl rfl
    refine st_op0 (he160 _ _ _ _ _ _ _ _ _ rfl rfl) rfl rfl ?_
    have hf163:Fr (fun q=>q=b38) H143 H159:=Fr.write H159n_ f162
    have H159n:H143.next≤H159.next:=hf163.1
    refine aw_seq ?_
    refine aw_reg ?_
    refine st_op (ev_move rfl) rfl rfl rfl ?_
    refine st_call rfl rfl rfl ent56 rfl rfl rfl ?_
    have h164:=Row.fr hm147 hf163 (fun q hq e=>⟨_,e ▸ h158,show(0:Nat)≠1 by decide⟩)
    have h165:=Fr.blk hf163 (by omega) (fun e=>(by omega)) hB152
    obtain⟨_,H167,hs166,A169,c170,hs166v,hm171,hk175,hB176,hq172,hq173,hq174,hx168⟩:=wal_rnum_spec H159 A145 z156 c146 h164 hk151 (by omega) (by assumption) z157 b32 (by omega) h165
    rw[hs166v] at hs166;clear hs166v
    generalize hR178:(Spec.rdN z156 z157)=r177 at hs166 hm171 hk175 hB176 hq172 hq173 hq174
    obtain⟨z179,z180,z181⟩:=r177
    dsimp only at hs166 hm171 hk175 hB176 hq172 hq173 hq174
    refine⟨_,H167,hs166,?_⟩
    have H167n:H159.next≤H167.next:=hx168.1
    refine st_op (ev_fieldAddr rfl fa95_2 (o':=3) rfl) rfl rfl rfl ?_
    refine st_op (ev_fieldAddr rfl fa54_1 (o':=4) rfl) rfl rfl rfl ?_
    have h182:=Fr.blk hx168 (by omega) (fun e=>(by omega)) hB161
    obtain⟨H183,he184,H183n_,hB185,f186⟩:=mem_store (v := .int .i64 z179) (o:=4) (cs' := [.bool (z20 == 1),.int .i64 0,.int .i64 0,.int .i64 z155,.int .i64 z179,.int .i64 0,.string (⟨#[]⟩)]) 1 rfl rfl size2 h182 rfl rfl rfl
    refine st_op0 (he184 _ _ _ _ _ _ _ _ _ rfl rfl) rfl rfl ?_
    have hf187:Fr (fun q=>q=b38) H167 H183:=Fr.write H183n_ f186
    have H183n:H167.next≤H183.next:=hf187.1
    refine aw_seq ?_
    refine aw_reg ?_
    refine st_op (ev_move rfl) rfl rfl rfl ?_
    refine st_call rfl rfl rfl ent56 rfl rfl rfl ?_
    have h188:=Row.fr hm171 hf187 (fun q hq e=>⟨_,e ▸ h182,show(0:Nat)≠1 by decide⟩)
    have h189:=Fr.blk hf187 (by omega) (fun e=>(by omega)) hB176
    obtain⟨_,H191,hs190,A193,c194,hs190v,hm195,hk199,hB200,hq196,hq197,hq198,hx192⟩:=wal_rnum_spec H183 A169 z180 c170 h188 hk175 (by omega) (by assumption) z181 b32 (by omega) h189
    rw[hs190v] at hs190;clear hs190v
    generalize hR202:(Spec.rdN z180 z181)=r201 at hs190 hm195 hk199 hB200 hq196 hq197 hq198
    obtain⟨z203,z204,z205⟩:=r201
    dsimp only at hs190 hm195 hk199 hB200 hq196 hq197 hq198
    refine⟨_,H191,hs190,?_⟩
    have H191n:H183.next≤H191.next:=hx192.1
    refine st_op (ev_fieldAddr rfl fa95_2 (o':=3) rfl) rfl rfl rfl ?_
    refine st_op (ev_fieldAddr rfl fa54_2 (o':=5) rfl) rfl rfl rfl ?_
    have h206:=Fr.blk hx192 (by omega) (fun e=>(by omega)) hB185
    obtain⟨H207,he208,H207n_,hB209,f210⟩:=mem_store (v := .int .i64 z203) (o:=5) (cs' := [.bool (z20 == 1),.int .i64 0,.int .i64 0,.int .i64 z155,.int .i64 z179,.int .i64 z203,.string (⟨#[]⟩)]) 1 rfl rfl size3 h206 rfl rfl rfl
    refine st_op0 (he208 _ _ _ _ _ _ _ _ _ rfl rfl) rfl rfl ?_
    have hf211:Fr (fun q=>q=b38) H191 H207:=Fr.write H207n_ f210
    have H207n:H191.next≤H207.next:=hf211.1
    refine aw_reg ?_
    refine st_op (ev_move rfl) rfl rfl rfl ?_
    refine st_call rfl rfl rfl ent57 rfl rfl rfl ?_
    have h212:=Row.fr hm195 hf211 (fun q hq e=>⟨_,e ▸ h206,show(0:Nat)≠1 by decide⟩)
    have h213:=Fr.blk hf211 (by omega) (fun e=>(by omega)) hB200
    obtain⟨_,H215,hs214,A217,c218,hs214v,hm219,hk223,hB224,hq220,hq221,hq222,hx216⟩:=wal_rtext_spec H207 A193 z204 c194 h212 hk199 (by omega) (by assumption) z205 b32 (by omega) h213
    rw[hs214v] at hs214;clear hs214v
    generalize hR226:(Spec.rdT z204 z205)=r225 at hs214 hm219 hk223 hB224 hq220 hq221 hq222
    obtain⟨z227,z228,z229⟩:=r225
    dsimp only at hs214 hm219 hk223 hB224 hq220 hq221 hq222
    refine⟨_,H215,hs214,?_⟩
    have H215n:H207.next≤H215.next:=hx216.1
    refine st_op (ev_fieldAddr rfl fa95_2 (o':=3) rfl) rfl rfl rfl ?_
    refine st_op (ev_fieldAddr rfl fa54_3 (o':=6) rfl) rfl rfl rfl ?_
    have h230:=Fr.blk hx216 (by omega) (fun e=>(by omega)) hB209
    obtain⟨H231,he232,H231n_,hB233,f234⟩:=mem_store (v := .string z227) (o:=6) (cs' := [.bool (z20 == 1),.int .i64 0,.int .i64 0,.int .i64 z155,.int .i64 z179,.int .i64 z203,.string z227]) 1 rfl rfl size9 h230 rfl rfl rfl
    refine st_op0 (he232 _ _ _ _ _ _ _ _ _ rfl rfl) rfl rfl ?_
    have hf235:Fr (fun q=>q=b38) H215 H231:=Fr.write H231n_ f234
    have H231n:H215.next≤H231.next:=hf235.1
    iterate 2 refine aw_seq ?_
    refine aw_reg ?_
    refine st_op (ev_move rfl) rfl rfl rfl ?_
    refine st_op (ev_int rfl rfl rfl) rfl rfl rfl ?_
    refine st_op (ev_move rfl) rfl rfl rfl ?_
    refine st_bool 59 rfl (fun hb236=>?_) (fun hb236=>?_)
    ·
     have hb236:¬ (z20=1):=by simpa using hb236
     refine st_op (ev_move rfl) rfl rfl rfl ?_
     refine st_op (ev_int rfl rfl rfl) rfl rfl rfl ?_
     refine st_op (ev_pickT rfl rfl) rfl rfl rfl ?_
     refine st_op (ev_move rfl) rfl rfl rfl ?_
     refine st_bool 63 rfl (fun hb237=>?_) (fun hb237=>?_)
     ·
      have hb237:¬ (z20=2):=by simpa using hb237
      exfalso;omega
     ·
      have hb237:(z20=2):=by simpa using hb237
      refine st_op (ev_move rfl) rfl rfl rfl ?_
      refine st_call rfl rfl rfl ent58 rfl rfl rfl ?_
      have h238:=Row.fr hm219 hf235 (fun q hq e=>⟨_,e ▸ h230,show(0:Nat)≠1 by decide⟩)
      have h239:=Fr.blk hf235 (by omega) (fun e=>(by omega)) hB224
      obtain⟨_,H241,hs240,hs240v,hx242⟩:=wal_rdone_spec H231 A217 z228 c218 h238 hk223 (by omega) (by assumption) z229 b32 (by omega) h239
      rw[hs240v] at hs240;clear hs240v
      refine⟨_,H241,hs240,?_⟩
      have H241n:H231.next≤H241.next:=hx242.1
      refine st_op (ev_not rfl) rfl rfl rfl ?_
      refine st_op (ev_pickF rfl rfl) rfl rfl rfl ?_
      refine st_op (ev_move rfl) rfl rfl rfl ?_
      refine st_bool 68 rfl (fun hb243=>?_) (fun hb243=>?_)
      ·
       replace hb243:(!z229 && z228.isEmpty)=false:=by rw[Bool.not_eq_true'] at hb243;exact hb243
       iterate 3 refine st_skip rfl rfl rfl ?_
       refine st_op (ev_pickT rfl rfl) rfl rfl rfl ?_
       refine aw_cond (t:=true) rfl ?_
       refine aw_seq ?_
       refine aw_reg ?_
       refine st_op (ev_build zero95 pl95 (parts := []) rfl (cs := [.bool false,.int .i64 0,.int .i64 0,.int .i64 0,.int .i64 0,.int .i64 0,.string (⟨#[]⟩)]) rfl) rfl rfl rfl ?_
       have hx245:Ext H2 H241:=(Ext.trans (Ext.then (Ext.then (Ext.then (Ext.then (Ext.then (Ext.then (Ext.then (Ext.then (Ext.then (Ext.trans (Ext.trans hx10 hx37) hx43) hf48 (fun q hq e=>by omega)) hx144 (fun q hq e=>by omega)) hf163 (fun q hq e=>by omega)) hx168 (fun q hq e=>by omega)) hf187 (fun q hq e=>by omega)) hx192 (fun q hq e=>by omega)) hf211 (fun q hq e=>by omega)) hx216 (fun q hq e=>by omega)) hf235 (fun q hq e=>by omega)) hx242)
       have h244:=Ext.blk hx245 (by omega) hB5
       obtain⟨H246,he247,H246n_,hB248,f249⟩:=mem_store (v := .agg #[.bool false,.int .i64 0,.int .i64 0,.int .i64 0,.int .i64 0,.int .i64 0,.string (⟨#[]⟩)]) (o:=0) (cs' := [.bool false,.int .i64 0,.int .i64 0,.int .i64 0,.int .i64 0,.int .i64 0,.string (⟨#[]⟩)]) 7 rfl rfl size95 h244 rfl rfl rfl
       refine st_op0 (he247 _ _ _ _ _ _ _ _ _ rfl rfl) rfl rfl ?_
       have hf250:Fr (fun q=>q=b1) H241 H246:=Fr.write H246n_ f249
       have H246n:H241.next≤H246.next:=hf250.1
       iterate 2 refine st_op (ev_assign rfl) rfl rfl rfl ?_
       refine aw_ret ?_
       have hx251:Ext H H246:=(Ext.then (Ext.trans (Ext.then (Ext.then (Ext.then (Ext.then (Ext.then (Ext.then (Ext.then (Ext.then (Ext.then (Ext.trans (Ext.trans (Ext.trans hx6 hx10) hx37) hx43) hf48 (fun q hq e=>by omega)) hx144 (fun q hq e=>by omega)) hf163 (fun q hq e=>by omega)) hx168 (fun q hq e=>by omega)) hf187 (fun q hq e=>by omega)) hx192 (fun q hq e=>by omega)) hf211 (fun q hq e=>by omega)) hx216 (fun q hq e=>by omega)) hf235 (fun q hq e=>by omega)) hx242) hf250 (fun q hq e=>by omega))
       have hres:(Spec.decF b)=(false,0,0,0,0,0,(⟨#[]⟩:ByteArray),0,3):=by simp only [Spec.decF,hR19,hR154,hR178,hR202,hR226];simp_all [Spec.decBad]
       exact⟨.tuple #[.agg #[.bool false,.int .i64 0,.int .i64 0,.int .i64 0,.int .i64 0,.int .i64 0,.string (⟨#[]⟩)],.int .i64 0,.int .i64 3],(resA_of (resL_cell rfl (lvar_part (l := [.bool false,.int .i64 0,.int .i64 0,.int .i64 0,.int .i64 0,.int .i64 0,.string (⟨#[]⟩)]) many95 hB248 rfl rfl (by decide)) (resL_tmp rfl (resL_tmp rfl resL_nil))) rfl),by first | (rw[hres];done) | rw[← hres],(by exact(Spec.decF_all bb).1),(by exact(Spec.decF_all bb).2.1),(by exact(Spec.decF_all bb).2.2),hx251⟩
      ·
       replace hb243:(!z229 && z228.isEmpty)=true:=by rw[Bool.not_eq_false'] at hb243;exact hb243
       have h252:=Ext.blk hx242 (by omega) hB233
       refine st_op (ev_load rfl (lvar_part (l := [.bool (z20 == 1),.int .i64 0,.int .i64 0,.int .i64 z155,.int .i64 z179,.int .i64 z203,.string z227]) many95 h252 rfl rfl (by decide))) rfl rfl rfl ?_
       refine st_call rfl rfl rfl ent43 rfl rfl rfl ?_
       obtain⟨_,H254,hs253,hs253v,hx255⟩:=wal_May_spec H241 (z20 == 1) (0:Int) (0:Int) z155 z179 z203 z227
       rw[hs253v] at hs253;clear hs253v
       refine⟨_,H254,hs253,?_⟩
       have H254n:H241.next≤H254.next:=hx255.1
       refine st_op (ev_not rfl) rfl rfl rfl ?_
       refine st_op (ev_pickF rfl rfl) rfl rfl rfl ?_
       by_cases hc256:(!(Spec.mayF (z20 == 1) (0:Int) (0:Int) z155 z179 z203 z227))=true
       ·
        refine aw_condT hc256 rfl ?_
        replace hc256:(Spec.mayF (z20 == 1) (0:Int) (0:Int) z155 z179 z203 z227)=false:=by rw[Bool.not_eq_true'] at hc256;exact hc256
        refine aw_seq ?_
        refine aw_reg ?_
        refine st_op (ev_build zero95 pl95 (parts := []) rfl (cs := [.bool false,.int .i64 0,.int .i64 0,.int .i64 0,.int .i64 0,.int .i64 0,.string (⟨#[]⟩)]) rfl) rfl rfl rfl ?_
        have hx258:Ext H2 H254:=(Ext.trans (Ext.trans (Ext.then (Ext.then (Ext.then (Ext.then (Ext.then (Ext.then (Ext.then (Ext.then (Ext.then (Ext.trans (Ext.trans hx10 hx37) hx43) hf48 (fun q hq e=>by omega)) hx144 (fun q hq e=>by omega)) hf163 (fun q hq e=>by omega)) hx168 (fun q hq e=>by omega)) hf187 (fun q hq e=>by omega)) hx192 (fun q hq e=>by omega)) hf211 (fun q hq e=>by omega)) hx216 (fun q hq e=>by omega)) hf235 (fun q hq e=>by omega)) hx242) hx255)
        have h257:=Ext.blk hx258 (by omega) hB5
        obtain⟨H259,he260,H259n_,hB261,f262⟩:=mem_store (v := .agg #[.bool false,.int .i64 0,.int .i64 0,.int .i64 0,.int .i64 0,.int .i64 0,.string (⟨#[]⟩)]) (o:=0) (cs' := [.bool false,.int .i64 0,.int .i64 0,.int .i64 0,.int .i64 0,.int .i64 0,.string (⟨#[]⟩)]) 7 rfl rfl size95 h257 rfl rfl rfl
        refine st_op0 (he260 _ _ _ _ _ _ _ _ _ rfl rfl) rfl rfl ?_
        have hf263:Fr (fun q=>q=b1) H254 H259:=Fr.write H259n_ f262
        have H259n:H254.next≤H259.next:=hf263.1
        iterate 2 refine st_op (ev_assign rfl) rfl rfl rfl ?_
        refine aw_ret ?_
        have hx264:Ext H H259:=(Ext.then (Ext.trans (Ext.trans (Ext.then (Ext.then (Ext.then (Ext.then (Ext.then (Ext.then (Ext.then (Ext.then (Ext.then (Ext.trans (Ext.trans (Ext.trans hx6 hx10) hx37) hx43) hf48 (fun q hq e=>by omega)) hx144 (fun q hq e=>by omega)) hf163 (fun q hq e=>by omega)) hx168 (fun q hq e=>by omega)) hf187 (fun q hq e=>by omega)) hx192 (fun q hq e=>by omega)) hf211 (fun q hq e=>by omega)) hx216 (fun q hq e=>by omega)) hf235 (fun q hq e=>by omega)) hx242) hx255) hf263 (fun q hq e=>by omega))
        have hres:(Spec.decF b)=(false,0,0,0,0,0,(⟨#[]⟩:ByteArray),0,3):=by simp only [Spec.decF,hR19,hR154,hR178,hR202,hR226];simp_all [Spec.decBad]
        exact⟨.tuple #[.agg #[.bool false,.int .i64 0,.int .i64 0,.int .i64 0,.int .i64 0,.int .i64 0,.string (⟨#[]⟩)],.int .i64 0,.int .i64 3],(resA_of (resL_cell rfl (lvar_part (l := [.bool false,.int .i64 0,.int .i64 0,.int .i64 0,.int .i64 0,.int .i64 0,.string (⟨#[]⟩)]) many95 hB261 rfl rfl (by decide)) (resL_tmp rfl (resL_tmp rfl resL_nil))) rfl),by first | (rw[hres];done) | rw[← hres],(by exact(Spec.decF_all bb).1),(by exact(Spec.decF_all bb).2.1),(by exact(Spec.decF_all bb).2.2),hx264⟩
       ·
        rw[Bool.not_eq_true] at hc256;refine aw_condF hc256 rfl ?_
        replace hc256:(Spec.mayF (z20 == 1) (0:Int) (0:Int) z155 z179 z203 z227)=true:=by rw[Bool.not_eq_false'] at hc256;exact hc256
        refine aw_skip ?_
        refine aw_seq ?_
        refine aw_reg ?_
        have h265:=Ext.blk hx255 (by omega) h252
        refine st_op (ev_load rfl (lvar_part (l := [.bool (z20 == 1),.int .i64 0,.int .i64 0,.int .i64 z155,.int .i64 z179,.int .i64 z203,.string z227]) many95 h265 rfl rfl (by decide))) rfl rfl rfl ?_
        refine st_op (ev_move rfl) rfl rfl rfl ?_
        have hx267:Ext H2 H254:=(Ext.trans (Ext.trans (Ext.then (Ext.then (Ext.then (Ext.then (Ext.then (Ext.then (Ext.then (Ext.then (Ext.then (Ext.trans (Ext.trans hx10 hx37) hx43) hf48 (fun q hq e=>by omega)) hx144 (fun q hq e=>by omega)) hf163 (fun q hq e=>by omega)) hx168 (fun q hq e=>by omega)) hf187 (fun q hq e=>by omega)) hx192 (fun q hq e=>by omega)) hf211 (fun q hq e=>by omega)) hx216 (fun q hq e=>by omega)) hf235 (fun q hq e=>by omega)) hx242) hx255)
        have h266:=Ext.blk hx267 (by omega) hB5
        obtain⟨H268,he269,H268n_,hB270,f271⟩:=mem_store (v := .agg #[.bool (z20 == 1),.int .i64 0,.int .i64 0,.int .i64 z155,.int .i64 z179,.int .i64 z203,.string z227]) (o:=0) (cs' := [.bool (z20 == 1),.int .i64 0,.int .i64 0,.int .i64 z155,.int .i64 z179,.int .i64 z203,.string z227]) 7 rfl rfl size95 h266 rfl rfl rfl
        refine st_op0 (he269 _ _ _ _ _ _ _ _ _ rfl rfl) rfl rfl ?_
        have hf272:Fr (fun q=>q=b1) H254 H268:=Fr.write H268n_ f271
        have H268n:H254.next≤H268.next:=hf272.1
        iterate 2 refine st_op (ev_assign rfl) rfl rfl rfl ?_
        refine aw_ret ?_
        have hx273:Ext H H268:=(Ext.then (Ext.trans (Ext.trans (Ext.then (Ext.then (Ext.then (Ext.then (Ext.then (Ext.then (Ext.then (Ext.then (Ext.then (Ext.trans (Ext.trans (Ext.trans hx6 hx10) hx37) hx43) hf48 (fun q hq e=>by omega)) hx144 (fun q hq e=>by omega)) hf163 (fun q hq e=>by omega)) hx168 (fun q hq e=>by omega)) hf187 (fun q hq e=>by omega)) hx192 (fun q hq e=>by omega)) hf211 (fun q hq e=>by omega)) hx216 (fun q hq e=>by omega)) hf235 (fun q hq e=>by omega)) hx242) hx255) hf272 (fun q hq e=>by omega))
        have hres:(Spec.decF b)=((z20 == 1),0,0,z155,z179,z203,z227,z22,0):=by simp only [Spec.decF,hR19,hR154,hR178,hR202,hR226];simp_all [Spec.decBad]
        exact⟨.tuple #[.agg #[.bool (z20 == 1),.int .i64 0,.int .i64 0,.int .i64 z155,.int .i64 z179,.int .i64 z203,.string z227],.int .i64 z22,.int .i64 0],(resA_of (resL_cell rfl (lvar_part (l := [.bool (z20 == 1),.int .i64 0,.int .i64 0,.int .i64 z155,.int .i64 z179,.int .i64 z203,.string z227]) many95 hB270 rfl rfl (by decide)) (resL_tmp rfl (resL_tmp rfl resL_nil))) rfl),by first | (rw[hres];done) | rw[← hres],(by exact(Spec.decF_all bb).1),(by exact(Spec.decF_all bb).2.1),(by exact(Spec.decF_all bb).2.2),hx273⟩
    ·
     have hb236:(z20=1):=by simpa using hb236
     exfalso;omega
   ·
    rw[Bool.not_eq_true] at hc137;refine aw_condF hc137 rfl ?_
    have hc137:=ne_of_beq_false hc137
    refine aw_skip ?_
    iterate 2 refine aw_seq ?_
    refine aw_reg ?_
    refine st_op (ev_move rfl) rfl rfl rfl ?_
    refine st_op (ev_int rfl rfl rfl) rfl rfl rfl ?_
    refine st_op (ev_move rfl) rfl rfl rfl ?_
    refine st_bool 59 rfl (fun hb274=>?_) (fun hb274=>?_)
    ·
     have hb274:¬ (z20=1):=by simpa using hb274
     refine st_op (ev_move rfl) rfl rfl rfl ?_
     refine st_op (ev_int rfl rfl rfl) rfl rfl rfl ?_
     refine st_op (ev_pickT rfl rfl) rfl rfl rfl ?_
     refine st_op (ev_move rfl) rfl rfl rfl ?_
     refine st_bool 63 rfl (fun hb275=>?_) (fun hb275=>?_)
     ·
      have hb275:¬ (z20=2):=by simpa using hb275
      iterate 3 refine st_skip rfl rfl rfl ?_
      refine st_op (ev_pickT rfl rfl) rfl rfl rfl ?_
      refine st_op (ev_move rfl) rfl rfl rfl ?_
      iterate 3 refine st_skip rfl rfl rfl ?_
      refine st_op (ev_pickT rfl rfl) rfl rfl rfl ?_
      refine aw_cond (t:=true) rfl ?_
      refine aw_seq ?_
      refine aw_reg ?_
      refine st_op (ev_build zero95 pl95 (parts := []) rfl (cs := [.bool false,.int .i64 0,.int .i64 0,.int .i64 0,.int .i64 0,.int .i64 0,.string (⟨#[]⟩)]) rfl) rfl rfl rfl ?_
      have hx277:Ext H2 H44:=(Ext.then (Ext.trans (Ext.trans hx10 hx37) hx43) hf48 (fun q hq e=>by omega))
      have h276:=Ext.blk hx277 (by omega) hB5
      obtain⟨H278,he279,H278n_,hB280,f281⟩:=mem_store (v := .agg #[.bool false,.int .i64 0,.int .i64 0,.int .i64 0,.int .i64 0,.int .i64 0,.string (⟨#[]⟩)]) (o:=0) (cs' := [.bool false,.int .i64 0,.int .i64 0,.int .i64 0,.int .i64 0,.int .i64 0,.string (⟨#[]⟩)]) 7 rfl rfl size95 h276 rfl rfl rfl
      refine st_op0 (he279 _ _ _ _ _ _ _ _ _ rfl rfl) rfl rfl ?_
      have hf282:Fr (fun q=>q=b1) H44 H278:=Fr.write H278n_ f281
      have H278n:H44.next≤H278.next:=hf282.1
      iterate 2 refine st_op (ev_assign rfl) rfl rfl rfl ?_
      refine aw_ret ?_
      have hx283:Ext H H278:=(Ext.then (Ext.then (Ext.trans (Ext.trans (Ext.trans hx6 hx10) hx37) hx43) hf48 (fun q hq e=>by omega)) hf282 (fun q hq e=>by omega))
      have hres:(Spec.decF b)=(false,0,0,0,0,0,(⟨#[]⟩:ByteArray),0,3):=by simp only [Spec.decF,hR19];simp_all [Spec.decBad]
      exact⟨.tuple #[.agg #[.bool false,.int .i64 0,.int .i64 0,.int .i64 0,.int .i64 0,.int .i64 0,.string (⟨#[]⟩)],.int .i64 0,.int .i64 3],(resA_of (resL_cell rfl (lvar_part (l := [.bool false,.int .i64 0,.int .i64 0,.int .i64 0,.int .i64 0,.int .i64 0,.string (⟨#[]⟩)]) many95 hB280 rfl rfl (by decide)) (resL_tmp rfl (resL_tmp rfl resL_nil))) rfl),by first | (rw[hres];done) | rw[← hres],(by exact(Spec.decF_all bb).1),(by exact(Spec.decF_all bb).2.1),(by exact(Spec.decF_all bb).2.2),hx283⟩
     ·
      have hb275:(z20=2):=by simpa using hb275
      refine st_op (ev_move rfl) rfl rfl rfl ?_
      refine st_call rfl rfl rfl ent58 rfl rfl rfl ?_
      have hx285:Ext H9 H44:=(Ext.then (Ext.trans hx37 hx43) hf48 (fun q hq e=>by omega))
      have h284:=My.ext hm13 hx285
      have hx287:Ext H33 H44:=(Ext.then hx43 hf48 (fun q hq e=>by omega))
      have h286:=Ext.blk hx287 (by omega) hB36
      obtain⟨_,H289,hs288,hs288v,hx290⟩:=wal_rdone_spec H44 A11 z21 c12 (My.row h284) (My.capF h284 (by omega)) (by omega) (by assumption) false b32 (by omega) h286
      rw[hs288v] at hs288;clear hs288v
      refine⟨_,H289,hs288,?_⟩
      have H289n:H44.next≤H289.next:=hx290.1
      refine st_op (ev_not rfl) rfl rfl rfl ?_
      refine st_op (ev_pickF rfl rfl) rfl rfl rfl ?_
      refine st_op (ev_move rfl) rfl rfl rfl ?_
      refine st_bool 68 rfl (fun hb291=>?_) (fun hb291=>?_)
      ·
       replace hb291:(!false && z21.isEmpty)=false:=by rw[Bool.not_eq_true'] at hb291;exact hb291
       iterate 3 refine st_skip rfl rfl rfl ?_
       refine st_op (ev_pickT rfl rfl) rfl rfl rfl ?_
       refine aw_cond (t:=true) rfl ?_
       refine aw_seq ?_
       refine aw_reg ?_
       refine st_op (ev_build zero95 pl95 (parts := []) rfl (cs := [.bool false,.int .i64 0,.int .i64 0,.int .i64 0,.int .i64 0,.int .i64 0,.string (⟨#[]⟩)]) rfl) rfl rfl rfl ?_
       have hx293:Ext H2 H289:=(Ext.trans (Ext.then (Ext.trans (Ext.trans hx10 hx37) hx43) hf48 (fun q hq e=>by omega)) hx290)
       have h292:=Ext.blk hx293 (by omega) hB5
       obtain⟨H294,he295,H294n_,hB296,f297⟩:=mem_store (v := .agg #[.bool false,.int .i64 0,.int .i64 0,.int .i64 0,.int .i64 0,.int .i64 0,.string (⟨#[]⟩)]) (o:=0) (cs' := [.bool false,.int .i64 0,.int .i64 0,.int .i64 0,.int .i64 0,.int .i64 0,.string (⟨#[]⟩)]) 7 rfl rfl size95 h292 rfl rfl rfl
       refine st_op0 (he295 _ _ _ _ _ _ _ _ _ rfl rfl) rfl rfl ?_
       have hf298:Fr (fun q=>q=b1) H289 H294:=Fr.write H294n_ f297
       have H294n:H289.next≤H294.next:=hf298.1
       iterate 2 refine st_op (ev_assign rfl) rfl rfl rfl ?_
       refine aw_ret ?_
       have hx299:Ext H H294:=(Ext.then (Ext.trans (Ext.then (Ext.trans (Ext.trans (Ext.trans hx6 hx10) hx37) hx43) hf48 (fun q hq e=>by omega)) hx290) hf298 (fun q hq e=>by omega))
       have hres:(Spec.decF b)=(false,0,0,0,0,0,(⟨#[]⟩:ByteArray),0,3):=by simp only [Spec.decF,hR19];simp_all [Spec.decBad]
       exact⟨.tuple #[.agg #[.bool false,.int .i64 0,.int .i64 0,.int .i64 0,.int .i64 0,.int .i64 0,.string (⟨#[]⟩)],.int .i64 0,.int .i64 3],(resA_of (resL_cell rfl (lvar_part (l := [.bool false,.int .i64 0,.int .i64 0,.int .i64 0,.int .i64 0,.int .i64 0,.string (⟨#[]⟩)]) many95 hB296 rfl rfl (by decide)) (resL_tmp rfl (resL_tmp rfl resL_nil))) rfl),by first | (rw[hres];done) | rw[← hres],(by exact(Spec.decF_all bb).1),(by exact(Spec.decF_all bb).2.1),(by exact(Spec.decF_all bb).2.2),hx299⟩
      ·
       replace hb291:(!false && z21.isEmpty)=true:=by rw[Bool.not_eq_false'] at hb291;exact hb291
       have h300:=Ext.blk hx290 (by omega) hB46
       refine st_op (ev_load rfl (lvar_part (l := [.bool (z20 == 1),.int .i64 0,.int .i64 0,.int .i64 0,.int .i64 0,.int .i64 0,.string (⟨#[]⟩)]) many95 h300 rfl rfl (by decide))) rfl rfl rfl ?_
       refine st_call rfl rfl rfl ent43 rfl rfl rfl ?_
       obtain⟨_,H302,hs301,hs301v,hx303⟩:=wal_May_spec H289 (z20 == 1) (0:Int) (0:Int) (0:Int) (0:Int) (0:Int) (⟨#[]⟩:ByteArray)
       rw[hs301v] at hs301;clear hs301v
       refine⟨_,H302,hs301,?_⟩
       have H302n:H289.next≤H302.next:=hx303.1
       refine st_op (ev_not rfl) rfl rfl rfl ?_
       refine st_op (ev_pickF rfl rfl) rfl rfl rfl ?_
       by_cases hc304:(!(Spec.mayF (z20 == 1) (0:Int) (0:Int) (0:Int) (0:Int) (0:Int) (⟨#[]⟩:ByteArray)))=true
       ·
        refine aw_condT hc304 rfl ?_
        replace hc304:(Spec.mayF (z20 == 1) (0:Int) (0:Int) (0:Int) (0:Int) (0:Int) (⟨#[]⟩:ByteArray))=false:=by rw[Bool.not_eq_true'] at hc304;exact hc304
        refine aw_seq ?_
        refine aw_reg ?_
        refine st_op (ev_build zero95 pl95 (parts := []) rfl (cs := [.bool false,.int .i64 0,.int .i64 0,.int .i64 0,.int .i64 0,.int .i64 0,.string (⟨#[]⟩)]) rfl) rfl rfl rfl ?_
        have hx306:Ext H2 H302:=(Ext.trans (Ext.trans (Ext.then (Ext.trans (Ext.trans hx10 hx37) hx43) hf48 (fun q hq e=>by omega)) hx290) hx303)
        have h305:=Ext.blk hx306 (by omega) hB5
        obtain⟨H307,he308,H307n_,hB309,f310⟩:=mem_store (v := .agg #[.bool false,.int .i64 0,.int .i64 0,.int .i64 0,.int .i64 0,.int .i64 0,.string (⟨#[]⟩)]) (o:=0) (cs' := [.bool false,.int .i64 0,.int .i64 0,.int .i64 0,.int .i64 0,.int .i64 0,.string (⟨#[]⟩)]) 7 rfl rfl size95 h305 rfl rfl rfl
        refine st_op0 (he308 _ _ _ _ _ _ _ _ _ rfl rfl) rfl rfl ?_
        have hf311:Fr (fun q=>q=b1) H302 H307:=Fr.write H307n_ f310
        have H307n:H302.next≤H307.next:=hf311.1
        iterate 2 refine st_op (ev_assign rfl) rfl rfl rfl ?_
        refine aw_ret ?_
        have hx312:Ext H H307:=(Ext.then (Ext.trans (Ext.trans (Ext.then (Ext.trans (Ext.trans (Ext.trans hx6 hx10) hx37) hx43) hf48 (fun q hq e=>by omega)) hx290) hx303) hf311 (fun q hq e=>by omega))
        have hres:(Spec.decF b)=(false,0,0,0,0,0,(⟨#[]⟩:ByteArray),0,3):=by simp only [Spec.decF,hR19];simp_all [Spec.decBad]
        exact⟨.tuple #[.agg #[.bool false,.int .i64 0,.int .i64 0,.int .i64 0,.int .i64 0,.int .i64 0,.string (⟨#[]⟩)],.int .i64 0,.int .i64 3],(resA_of (resL_cell rfl (lvar_part (l := [.bool false,.int .i64 0,.int .i64 0,.int .i64 0,.int .i64 0,.int .i64 0,.string (⟨#[]⟩)]) many95 hB309 rfl rfl (by decide)) (resL_tmp rfl (resL_tmp rfl resL_nil))) rfl),by first | (rw[hres];done) | rw[← hres],(by exact(Spec.decF_all bb).1),(by exact(Spec.decF_all bb).2.1),(by exact(Spec.decF_all bb).2.2),hx312⟩
       ·
        rw[Bool.not_eq_true] at hc304;refine aw_condF hc304 rfl ?_
        replace hc304:(Spec.mayF (z20 == 1) (0:Int) (0:Int) (0:Int) (0:Int) (0:Int) (⟨#[]⟩:ByteArray))=true:=by rw[Bool.not_eq_false'] at hc304;exact hc304
        refine aw_skip ?_
        refine aw_seq ?_
        refine aw_reg ?_
        have h313:=Ext.blk hx303 (by omega) h300
        refine st_op (ev_load rfl (lvar_part (l := [.bool (z20 == 1),.int .i64 0,.int .i64 0,.int .i64 0,.int .i64 0,.int .i64 0,.string (⟨#[]⟩)]) many95 h313 rfl rfl (by decide))) rfl rfl rfl ?_
        refine st_op (ev_move rfl) rfl rfl rfl ?_
        have hx315:Ext H2 H302:=(Ext.trans (Ext.trans (Ext.then (Ext.trans (Ext.trans hx10 hx37) hx43) hf48 (fun q hq e=>by omega)) hx290) hx303)
        have h314:=Ext.blk hx315 (by omega) hB5
        obtain⟨H316,he317,H316n_,hB318,f319⟩:=mem_store (v := .agg #[.bool (z20 == 1),.int .i64 0,.int .i64 0,.int .i64 0,.int .i64 0,.int .i64 0,.string (⟨#[]⟩)]) (o:=0) (cs' := [.bool (z20 == 1),.int .i64 0,.int .i64 0,.int .i64 0,.int .i64 0,.int .i64 0,.string (⟨#[]⟩)]) 7 rfl rfl size95 h314 rfl rfl rfl
        refine st_op0 (he317 _ _ _ _ _ _ _ _ _ rfl rfl) rfl rfl ?_
        have hf320:Fr (fun q=>q=b1) H302 H316:=Fr.write H316n_ f319
        have H316n:H302.next≤H316.next:=hf320.1
        iterate 2 refine st_op (ev_assign rfl) rfl rfl rfl ?_
        refine aw_ret ?_
        have hx321:Ext H H316:=(Ext.then (Ext.trans (Ext.trans (Ext.then (Ext.trans (Ext.trans (Ext.trans hx6 hx10) hx37) hx43) hf48 (fun q hq e=>by omega)) hx290) hx303) hf320 (fun q hq e=>by omega))
        have hres:(Spec.decF b)=((z20 == 1),0,0,0,0,0,(⟨#[]⟩:ByteArray),z22,0):=by simp only [Spec.decF,hR19];simp_all [Spec.decBad]
        exact⟨.tuple #[.agg #[.bool (z20 == 1),.int .i64 0,.int .i64 0,.int .i64 0,.int .i64 0,.int .i64 0,.string (⟨#[]⟩)],.int .i64 z22,.int .i64 0],(resA_of (resL_cell rfl (lvar_part (l := [.bool (z20 == 1),.int .i64 0,.int .i64 0,.int .i64 0,.int .i64 0,.int .i64 0,.string (⟨#[]⟩)]) many95 hB318 rfl rfl (by decide)) (resL_tmp rfl (resL_tmp rfl resL_nil))) rfl),by first | (rw[hres];done) | rw[← hres],(by exact(Spec.decF_all bb).1),(by exact(Spec.decF_all bb).2.1),(by exact(Spec.decF_all bb).2.2),hx321⟩
    ·
     have hb274:(z20=1):=by simpa using hb274
     iterate 2 refine st_skip rfl rfl rfl ?_
     refine st_op (ev_pickF rfl rfl) rfl rfl rfl ?_
     iterate 2 refine st_op (ev_move rfl) rfl rfl rfl ?_
     refine st_call rfl rfl rfl ent58 rfl rfl rfl ?_
     have hx323:Ext H9 H44:=(Ext.then (Ext.trans hx37 hx43) hf48 (fun q hq e=>by omega))
     have h322:=My.ext hm13 hx323
     have hx325:Ext H33 H44:=(Ext.then hx43 hf48 (fun q hq e=>by omega))
     have h324:=Ext.blk hx325 (by omega) hB36
     obtain⟨_,H327,hs326,hs326v,hx328⟩:=wal_rdone_spec H44 A11 z21 c12 (My.row h322) (My.capF h322 (by omega)) (by omega) (by assumption) false b32 (by omega) h324
     rw[hs326v] at hs326;clear hs326v
     refine⟨_,H327,hs326,?_⟩
     have H327n:H44.next≤H327.next:=hx328.1
     refine st_op (ev_not rfl) rfl rfl rfl ?_
     refine st_op (ev_pickF rfl rfl) rfl rfl rfl ?_
     refine st_op (ev_move rfl) rfl rfl rfl ?_
     refine st_bool 68 rfl (fun hb329=>?_) (fun hb329=>?_)
     ·
      replace hb329:(!false && z21.isEmpty)=false:=by rw[Bool.not_eq_true'] at hb329;exact hb329
      iterate 3 refine st_skip rfl rfl rfl ?_
      refine st_op (ev_pickT rfl rfl) rfl rfl rfl ?_
      refine aw_cond (t:=true) rfl ?_
      refine aw_seq ?_
      refine aw_reg ?_
      refine st_op (ev_build zero95 pl95 (parts := []) rfl (cs := [.bool false,.int .i64 0,.int .i64 0,.int .i64 0,.int .i64 0,.int .i64 0,.string (⟨#[]⟩)]) rfl) rfl rfl rfl ?_
      have hx331:Ext H2 H327:=(Ext.trans (Ext.then (Ext.trans (Ext.trans hx10 hx37) hx43) hf48 (fun q hq e=>by omega)) hx328)
      have h330:=Ext.blk hx331 (by omega) hB5
      obtain⟨H332,he333,H332n_,hB334,f335⟩:=mem_store (v := .agg #[.bool false,.int .i64 0,.int .i64 0,.int .i64 0,.int .i64 0,.int .i64 0,.string (⟨#[]⟩)]) (o:=0) (cs' := [.bool false,.int .i64 0,.int .i64 0,.int .i64 0,.int .i64 0,.int .i64 0,.string (⟨#[]⟩)]) 7 rfl rfl size95 h330 rfl rfl rfl
      refine st_op0 (he333 _ _ _ _ _ _ _ _ _ rfl rfl) rfl rfl ?_
      have hf336:Fr (fun q=>q=b1) H327 H332:=Fr.write H332n_ f335
      have H332n:H327.next≤H332.next:=hf336.1
      iterate 2 refine st_op (ev_assign rfl) rfl rfl rfl ?_
      refine aw_ret ?_
      have hx337:Ext H H332:=(Ext.then (Ext.trans (Ext.then (Ext.trans (Ext.trans (Ext.trans hx6 hx10) hx37) hx43) hf48 (fun q hq e=>by omega)) hx328) hf336 (fun q hq e=>by omega))
      have hres:(Spec.decF b)=(false,0,0,0,0,0,(⟨#[]⟩:ByteArray),0,3):=by simp only [Spec.decF,hR19];simp_all [Spec.decBad]
      exact⟨.tuple #[.agg #[.bool false,.int .i64 0,.int .i64 0,.int .i64 0,.int .i64 0,.int .i64 0,.string (⟨#[]⟩)],.int .i64 0,.int .i64 3],(resA_of (resL_cell rfl (lvar_part (l := [.bool false,.int .i64 0,.int .i64 0,.int .i64 0,.int .i64 0,.int .i64 0,.string (⟨#[]⟩)]) many95 hB334 rfl rfl (by decide)) (resL_tmp rfl (resL_tmp rfl resL_nil))) rfl),by first | (rw[hres];done) | rw[← hres],(by exact(Spec.decF_all bb).1),(by exact(Spec.decF_all bb).2.1),(by exact(Spec.decF_all bb).2.2),hx337⟩
     ·
      replace hb329:(!false && z21.isEmpty)=true:=by rw[Bool.not_eq_false'] at hb329;exact hb329
      have h338:=Ext.blk hx328 (by omega) hB46
      refine st_op (ev_load rfl (lvar_part (l := [.bool (z20 == 1),.int .i64 0,.int .i64 0,.int .i64 0,.int .i64 0,.int .i64 0,.string (⟨#[]⟩)]) many95 h338 rfl rfl (by decide))) rfl rfl rfl ?_
      refine st_call rfl rfl rfl ent43 rfl rfl rfl ?_
      obtain⟨_,H340,hs339,hs339v,hx341⟩:=wal_May_spec H327 (z20 == 1) (0:Int) (0:Int) (0:Int) (0:Int) (0:Int) (⟨#[]⟩:ByteArray)
      rw[hs339v] at hs339;clear hs339v
      refine⟨_,H340,hs339,?_⟩
      have H340n:H327.next≤H340.next:=hx341.1
      refine st_op (ev_not rfl) rfl rfl rfl ?_
      refine st_op (ev_pickF rfl rfl) rfl rfl rfl ?_
      by_cases hc342:(!(Spec.mayF (z20 == 1) (0:Int) (0:Int) (0:Int) (0:Int) (0:Int) (⟨#[]⟩:ByteArray)))=true
      ·
       refine aw_condT hc342 rfl ?_
       replace hc342:(Spec.mayF (z20 == 1) (0:Int) (0:Int) (0:Int) (0:Int) (0:Int) (⟨#[]⟩:ByteArray))=false:=by rw[Bool.not_eq_true'] at hc342;exact hc342
       refine aw_seq ?_
       refine aw_reg ?_
       refine st_op (ev_build zero95 pl95 (parts := []) rfl (cs := [.bool false,.int .i64 0,.int .i64 0,.int .i64 0,.int .i64 0,.int .i64 0,.string (⟨#[]⟩)]) rfl) rfl rfl rfl ?_
       have hx344:Ext H2 H340:=(Ext.trans (Ext.trans (Ext.then (Ext.trans (Ext.trans hx10 hx37) hx43) hf48 (fun q hq e=>by omega)) hx328) hx341)
       have h343:=Ext.blk hx344 (by omega) hB5
       obtain⟨H345,he346,H345n_,hB347,f348⟩:=mem_store (v := .agg #[.bool false,.int .i64 0,.int .i64 0,.int .i64 0,.int .i64 0,.int .i64 0,.string (⟨#[]⟩)]) (o:=0) (cs' := [.bool false,.int .i64 0,.int .i64 0,.int .i64 0,.int .i64 0,.int .i64 0,.string (⟨#[]⟩)]) 7 rfl rfl size95 h343 rfl rfl rfl
       refine st_op0 (he346 _ _ _ _ _ _ _ _ _ rfl rfl) rfl rfl ?_
       have hf349:Fr (fun q=>q=b1) H340 H345:=Fr.write H345n_ f348
       have H345n:H340.next≤H345.next:=hf349.1
       iterate 2 refine st_op (ev_assign rfl) rfl rfl rfl ?_
       refine aw_ret ?_
       have hx350:Ext H H345:=(Ext.then (Ext.trans (Ext.trans (Ext.then (Ext.trans (Ext.trans (Ext.trans hx6 hx10) hx37) hx43) hf48 (fun q hq e=>by omega)) hx328) hx341) hf349 (fun q hq e=>by omega))
       have hres:(Spec.decF b)=(false,0,0,0,0,0,(⟨#[]⟩:ByteArray),0,3):=by simp only [Spec.decF,hR19];simp_all [Spec.decBad]
       exact⟨.tuple #[.agg #[.bool false,.int .i64 0,.int .i64 0,.int .i64 0,.int .i64 0,.int .i64 0,.string (⟨#[]⟩)],.int .i64 0,.int .i64 3],(resA_of (resL_cell rfl (lvar_part (l := [.bool false,.int .i64 0,.int .i64 0,.int .i64 0,.int .i64 0,.int .i64 0,.string (⟨#[]⟩)]) many95 hB347 rfl rfl (by decide)) (resL_tmp rfl (resL_tmp rfl resL_nil))) rfl),by first | (rw[hres];done) | rw[← hres],(by exact(Spec.decF_all bb).1),(by exact(Spec.decF_all bb).2.1),(by exact(Spec.decF_all bb).2.2),hx350⟩
      ·
       rw[Bool.not_eq_true] at hc342;refine aw_condF hc342 rfl ?_
       replace hc342:(Spec.mayF (z20 == 1) (0:Int) (0:Int) (0:Int) (0:Int) (0:Int) (⟨#[]⟩:ByteArray))=true:=by rw[Bool.not_eq_false'] at hc342;exact hc342
       refine aw_skip ?_
       refine aw_seq ?_
       refine aw_reg ?_
       have h351:=Ext.blk hx341 (by omega) h338
       refine st_op (ev_load rfl (lvar_part (l := [.bool (z20 == 1),.int .i64 0,.int .i64 0,.int .i64 0,.int .i64 0,.int .i64 0,.string (⟨#[]⟩)]) many95 h351 rfl rfl (by decide))) rfl rfl rfl ?_
       refine st_op (ev_move rfl) rfl rfl rfl ?_
       have hx353:Ext H2 H340:=(Ext.trans (Ext.trans (Ext.then (Ext.trans (Ext.trans hx10 hx37) hx43) hf48 (fun q hq e=>by omega)) hx328) hx341)
       have h352:=Ext.blk hx353 (by omega) hB5
       obtain⟨H354,he355,H354n_,hB356,f357⟩:=mem_store (v := .agg #[.bool (z20 == 1),.int .i64 0,.int .i64 0,.int .i64 0,.int .i64 0,.int .i64 0,.string (⟨#[]⟩)]) (o:=0) (cs' := [.bool (z20 == 1),.int .i64 0,.int .i64 0,.int .i64 0,.int .i64 0,.int .i64 0,.string (⟨#[]⟩)]) 7 rfl rfl size95 h352 rfl rfl rfl
       refine st_op0 (he355 _ _ _ _ _ _ _ _ _ rfl rfl) rfl rfl ?_
       have hf358:Fr (fun q=>q=b1) H340 H354:=Fr.write H354n_ f357
       have H354n:H340.next≤H354.next:=hf358.1
       iterate 2 refine st_op (ev_assign rfl) rfl rfl rfl ?_
       refine aw_ret ?_
       have hx359:Ext H H354:=(Ext.then (Ext.trans (Ext.trans (Ext.then (Ext.trans (Ext.trans (Ext.trans hx6 hx10) hx37) hx43) hf48 (fun q hq e=>by omega)) hx328) hx341) hf358 (fun q hq e=>by omega))
       have hres:(Spec.decF b)=((z20 == 1),0,0,0,0,0,(⟨#[]⟩:ByteArray),z22,0):=by simp only [Spec.decF,hR19];simp_all [Spec.decBad]
       exact⟨.tuple #[.agg #[.bool (z20 == 1),.int .i64 0,.int .i64 0,.int .i64 0,.int .i64 0,.int .i64 0,.string (⟨#[]⟩)],.int .i64 z22,.int .i64 0],(resA_of (resL_cell rfl (lvar_part (l := [.bool (z20 == 1),.int .i64 0,.int .i64 0,.int .i64 0,.int .i64 0,.int .i64 0,.string (⟨#[]⟩)]) many95 hB356 rfl rfl (by decide)) (resL_tmp rfl (resL_tmp rfl resL_nil))) rfl),by first | (rw[hres];done) | rw[← hres],(by exact(Spec.decF_all bb).1),(by exact(Spec.decF_all bb).2.1),(by exact(Spec.decF_all bb).2.2),hx359⟩
theorem wal_Scan_spec (H:Heap) (bA:Option Addr) (b:List Int) (bc:Nat) (hb:Row H bA bc 1 (b.map u8c)) (cb:b.length≤bc) (lb:b.length≤1073741824) (bb:Spec.Bytes b):∃ v H',Spec Try.prog 37 [.slice bA b.length bc] H v H'∧(∃ rA0 rc0,(v = .tuple #[.slice rA0 (((Spec.scanW b).1).length) rc0,.int .i64 ((Spec.scanW b).2.1),.bool ((Spec.scanW b).2.2)])∧(My H H' rA0 rc0 7 (((Spec.scanW b).1).map Rec.cells))∧(Ext H H')):=by
 refine spec_go1 E0_ok 37 (f:=37) Try.func37 rfl rfl rfl ?_
 refine aw_seq ?_
 refine aw_reg ?_
 iterate 3 refine st_op (ev_assign rfl) rfl rfl rfl ?_
 refine aw_seq ?_
 refine aw_reg ?_
 refine st_op (ev_assign rfl) rfl rfl rfl ?_
 refine aw_seq ?_
 refine aw_reg ?_
 refine st_op (ev_assign rfl) rfl rfl rfl ?_
 refine aw_seq ?_
 refine aw_block ?_
 have hm3:My H H none 0 7 (([]:List Rec).map Rec.cells) := .nil
 refine aw_keep [0,5,6] (l':=(.cons 0 (.slice bA b.length bc) (.cons 5 (.slice none 0 0) (.cons 6 (.int .i64 0) .nil)))) (by repeat (first | exact Up.done | refine Up.then ?_ | refine Up.inBlock ?_)) rfl ?_
 refine aw_iter (α:=Int×Option Addr×Nat×List Rec×Nat×Heap) (fun a=>b.length - a.2.2.2.2.1) (fun a=>(.cons 0 (.slice bA b.length bc) (.cons 5 (.slice a.2.1 a.2.2.2.1.length a.2.2.1) (.cons 6 (.int .i64 a.1) .nil)))) (fun a=>a.2.2.2.2.2) (fun a=>(a.1=(a.2.2.2.2.1:Int))∧(a.2.2.2.2.1≤b.length)∧(a.2.2.2.1.length≤a.2.2.2.2.1)∧(Spec.scanW b=(a.2.2.2.1++(Spec.scanW (b.drop a.2.2.2.2.1)).1,(a.2.2.2.2.1:Int)+(Spec.scanW (b.drop a.2.2.2.2.1)).2.1,(Spec.scanW (b.drop a.2.2.2.2.1)).2.2))∧(0≤a.1∧a.1≤1073741824)∧(My H a.2.2.2.2.2 a.2.1 a.2.2.1 7 (a.2.2.2.1.map Rec.cells))∧(Ext H a.2.2.2.2.2)) ((0:Int),none,0,([]:List Rec),0,H) ⟨(show(0:Int)=(0:Int) from rfl),(show 0≤b.length from Nat.zero_le _),(show([]:List Rec).length≤0 from Nat.le_refl _),(show Spec.scanW b=(([]:List Rec)++(Spec.scanW (b.drop 0)).1,(0:Int)+(Spec.scanW (b.drop 0)).2.1,(Spec.scanW (b.drop 0)).2.2) from(by simp)),(show 0≤(0:Int)∧(0:Int)≤1073741824 from⟨by omega,by omega⟩),(show My H H none 0 7 (([]:List Rec).map Rec.cells) from hm3),(show Ext H H from(Ext.refl H))⟩ ?_
 rintro⟨at_,A,cp,l,p,Hl1⟩ ⟨hp,hpl,hll,hS,hn2,hm4,hxl5⟩ ih6
 replace hp:at_=(p:Int):=hp
 replace hpl:p≤b.length:=hpl
 replace hll:l.length≤p:=hll
 replace hS:Spec.scanW b=(l++(Spec.scanW (b.drop p)).1,(p:Int)+(Spec.scanW (b.drop p)).2.1,(Spec.scanW (b.drop p)).2.2):=hS
 replace hn2:0≤at_∧at_≤1073741824:=hn2
 replace hm4:My H Hl1 A cp 7 (l.map Rec.cells):=hm4
 replace hxl5:Ext H Hl1:=hxl5
 show aw _ _ _ (RL _ (.cons 0 (.slice bA b.length bc) (.cons 5 (.slice A l.length cp) (.cons 6 (.int .i64 at_) .nil)))) Hl1 _
 have Hl1n:H.next≤Hl1.next:=hxl5.1
 iterate 2 refine aw_seq ?_
 refine aw_reg ?_
 iterate 2 refine st_op (ev_move rfl) rfl rfl rfl ?_
 refine st_op (ev_lenSl rfl Try.underlying26) rfl rfl rfl ?_
 refine st_op (ev_int rfl rfl rfl) rfl rfl rfl ?_
 by_cases hc7:(decide (at_<(b.length:Int)))=true
 ·
  refine aw_condT hc7 rfl ?_
  have hc7:=of_decide_eq_true hc7
  refine aw_skip ?_
  refine aw_block ?_
  refine aw_seq ?_
  refine aw_reg ?_
  iterate 2 refine st_op (ev_move rfl) rfl rfl rfl ?_
  have h16:=Row.ext hb hxl5
  obtain⟨A8,c9,L10,hL11,hl12,hs13,hr14,hc15⟩:=sliceA_typed u8c el26 (by decide) h16 cb (lo:=some (.int .i64 at_)) (hi:=none) (l:=(at_).toNat) (h:=b.length) rfl (bound_int (by omega) (by omega) (by first | rfl | omega)) (by omega) (by omega)
  refine st_op (ev_slice rfl rfl rfl rfl hs13) rfl rfl rfl ?_
  have hL11b:Spec.Bytes L10:=by rw[hL11];exact Spec.Bytes.take (Spec.Bytes.drop (by assumption) _) _
  refine st_call rfl rfl rfl ent61 rfl rfl rfl ?_
  obtain⟨_,H18,hs17,hs17v,hq20,hq21,hq22,hx19⟩:=wal_Decode_spec Hl1 A8 L10 c9 hr14 hc15 (by omega) (by assumption)
  rw[hs17v] at hs17;clear hs17v
  generalize hR24:(Spec.decF L10)=r23 at hs17 hq20 hq21 hq22
  obtain⟨z25,z26,z27,z28,z29,z30,z31,z32,z33⟩:=r23
  dsimp only at hs17 hq20 hq21 hq22
  refine⟨_,H18,hs17,?_⟩
  have H18n:Hl1.next≤H18.next:=hx19.1
  refine st_op (ev_move rfl) rfl rfl rfl ?_
  iterate 3 refine st_op (ev_extract rfl rfl) rfl rfl rfl ?_
  obtain⟨b34,H35,he36,b34e,H35n_,hB38,f37⟩:=mem_alloc H18 zero95
  refine st_op (he36 _ _ _ _ _ _ _) rfl rfl rfl ?_
  have hx39:Ext H18 H35:=Ext.new (by omega) H35n_ f37
  have H35n:H18.next≤H35.next:=hx39.1
  obtain⟨H40,he41,H40n_,hB42,f43⟩:=mem_store (v := .agg #[.bool z25,.int .i64 z26,.int .i64 z27,.int .i64 z28,.int .i64 z29,.int .i64 z30,.string z31]) (o:=0) (cs' := [.bool z25,.int .i64 z26,.int .i64 z27,.int .i64 z28,.int .i64 z29,.int .i64 z30,.string z31]) 7 rfl rfl size95 hB38 rfl rfl rfl
  refine st_op0 (he41 _ _ _ _ _ _ _ _ _ rfl rfl) rfl rfl ?_
  have hf44:Fr (fun q=>q=b34) H35 H40:=Fr.write H40n_ f43
  have H40n:H35.next≤H40.next:=hf44.1
  iterate 2 refine st_op (ev_assign rfl) rfl rfl rfl ?_
  iterate 2 refine aw_seq ?_
  refine aw_reg ?_
  refine st_op (ev_move rfl) rfl rfl rfl ?_
  refine st_op (ev_int rfl rfl rfl) rfl rfl rfl ?_
  by_cases hc45:(z33 != 0)=true
  ·
   refine aw_condT hc45 rfl ?_
   have hc45:¬ (z33=0):=by simpa using hc45
   refine aw_seq ?_
   refine aw_reg ?_
   iterate 3 refine st_op (ev_move rfl) rfl rfl rfl ?_
   refine st_op (ev_int rfl rfl rfl) rfl rfl rfl ?_
   iterate 3 refine st_op (ev_assign rfl) rfl rfl rfl ?_
   refine aw_ret ?_
   have hx47:Ext Hl1 H40:=(Ext.then (Ext.trans hx19 hx39) hf44 (fun q hq e=>by omega))
   have h46:=My.ext hm4 hx47
   have hx48:Ext H H40:=(Ext.then (Ext.trans (Ext.trans hxl5 hx19) hx39) hf44 (fun q hq e=>by omega))
   have hres:(Spec.scanW b)=(l,at_,(z33 == 2)):=by rw[hS,Spec.scanW_bad (l:=b.drop p) (by intro h;rw[List.drop_eq_nil_iff] at h;omega) ((congrArg Spec.decF (Spec.drop_at hp hL11).symm).trans hR24) (by omega)];simp [hp]
   exact⟨.tuple #[.slice A l.length cp,.int .i64 at_,.bool (z33 == 2)],rfl,A,cp,by first | (rw[hres];first | done | rfl | simp;done) | rfl,(by first | exact h46 | (rw[hres];exact h46)),hx48⟩
  ·
   rw[Bool.not_eq_true] at hc45;refine aw_condF hc45 rfl ?_
   have hc45:(z33=0):=by simpa using hc45
   refine aw_skip ?_
   refine aw_seq ?_
   refine aw_reg ?_
   refine st_op (ev_move rfl) rfl rfl rfl ?_
   refine st_op (ev_load rfl (lvar_part (l := [.bool z25,.int .i64 z26,.int .i64 z27,.int .i64 z28,.int .i64 z29,.int .i64 z30,.string z31]) many95 hB42 rfl rfl (by decide))) rfl rfl rfl ?_
   obtain⟨b49,H50,he51,b49e,H50n_,hm53,f52⟩:=mem_lit H40 (xs:=([.agg #[.bool z25,.int .i64 z26,.int .i64 z27,.int .i64 z28,.int .i64 z29,.int .i64 z30,.string z31]]:List Value)) (m:=1) (rows := [[.bool z25,.int .i64 z26,.int .i64 z27,.int .i64 z28,.int .i64 z29,.int .i64 z30,.string z31]]) rfl eok91 (by decide) (by decide) zf95 rfl (allLen rfl) rfl
   replace hm53:My H40 H50 (some ⟨b49,0,none⟩) 1 7 ([(⟨z25,(⟨z26,z27⟩:Hard),(⟨z28,z29,z30,z31⟩:Entry)⟩:Rec)].map Rec.cells):=hm53
   refine st_op (he51 _ _ _ _ _ _ _ _ rfl) rfl rfl rfl ?_
   have hx54:Ext H40 H50:=Ext.new (by omega) H50n_ f52
   have H50n:H40.next≤H50.next:=hx54.1
   have hx56:Ext Hl1 H50:=(Ext.trans (Ext.then (Ext.trans hx19 hx39) hf44 (fun q hq e=>by omega)) hx54)
   have h55:=My.ext hm4 hx56
   obtain⟨A57,c58,H59,W60,he61,hm62,hf63⟩:=mem_append (f:=Rec.cells) (old:=l) (new := [(⟨z25,(⟨z26,z27⟩:Hard),(⟨z28,z29,z30,z31⟩:Entry)⟩:Rec)]) (m:=l.length) (mx:=1) (c:=cp) (by first | rfl | simp) (by first | rfl | simp) eok91 (by decide) hm4 h55 (by omega) (((My.row hm53)).srcF (by decide) (by first | rfl | simp)) rfl Rec.cells_len Rec.cells_one (by first | omega | (simp only [List.length_append,List.length_cons,List.length_nil,List.length_map,List.length_set,List.length_replicate,Spec.bytesOf_length];omega) | (simp;omega)) (by first | omega | (simp only [List.length_append,List.length_cons,List.length_nil,List.length_map,List.length_set,List.length_replicate,Spec.bytesOf_length];omega) | (simp;omega))
   refine st_op (he61 _ _ _ _ _ _ _ _ _ _ rfl rfl isrow91) rfl rfl rfl ?_
   have H59n:H50.next≤H59.next:=hf63.1
   refine st_op (ev_assign rfl) rfl rfl rfl ?_
   refine aw_reg ?_
   iterate 2 refine st_op (ev_move rfl) rfl rfl rfl ?_
   refine st_op (ev_int64 (c:=at_+z32) rfl rfl rfl (by omega) (by omega)) rfl rfl rfl ?_
   refine st_op (ev_assign rfl) rfl rfl rfl ?_
   have hx64:Ext H H59:=(Ext.then (Ext.trans (Ext.then (Ext.trans (Ext.trans hxl5 hx19) hx39) hf44 (fun q hq e=>by omega)) hx54) hf63 (fun q hq e=>by omega))
   refine aw_keep [0,5,6] (l':=(.cons 0 (.slice bA b.length bc) (.cons 5 (.slice A57 ((l ++ [(⟨z25,(⟨z26,z27⟩:Hard),(⟨z28,z29,z30,z31⟩:Entry)⟩:Rec)]).length) c58) (.cons 6 (.int .i64 (at_+z32)) .nil)))) (by repeat (first | exact Up.done | refine Up.then ?_ | refine Up.inBlock ?_)) rfl ?_
   exact ih6 (at_+z32,A57,c58,(l ++ [(⟨z25,(⟨z26,z27⟩:Hard),(⟨z28,z29,z30,z31⟩:Entry)⟩:Rec)]),(p+z32.toNat),H59) ⟨(show(at_+z32)=((p+z32.toNat):Int) from(by omega)),(show(p+z32.toNat)≤b.length from(by omega)),(show(l ++ [(⟨z25,(⟨z26,z27⟩:Hard),(⟨z28,z29,z30,z31⟩:Entry)⟩:Rec)]).length≤(p+z32.toNat) from(by rw[List.length_append,List.length_singleton];omega)),(show Spec.scanW b=((l ++ [(⟨z25,(⟨z26,z27⟩:Hard),(⟨z28,z29,z30,z31⟩:Entry)⟩:Rec)])++(Spec.scanW (b.drop (p+z32.toNat))).1,((p+z32.toNat):Int)+(Spec.scanW (b.drop (p+z32.toNat))).2.1,(Spec.scanW (b.drop (p+z32.toNat))).2.2) from(by rw[hS,Spec.scanW_step (l:=b.drop p) (by intro h;rw[List.drop_eq_nil_iff] at h;omega) ((congrArg Spec.decF (Spec.drop_at hp hL11).symm).trans hR24) (by omega) (by omega),List.drop_drop];simp [List.append_assoc,Int.add_assoc,show((z32.toNat:Nat):Int)=z32 by omega])),(show 0≤(at_+z32)∧(at_+z32)≤1073741824 from⟨by omega,by omega⟩),(show My H H59 A57 c58 7 ((l ++ [(⟨z25,(⟨z26,z27⟩:Hard),(⟨z28,z29,z30,z31⟩:Entry)⟩:Rec)]).map Rec.cells) from hm62),(show Ext H H59 from hx64)⟩ (by simp only;omega)
 ·
  rw[Bool.not_eq_true] at hc7;refine aw_condF hc7 rfl ?_
  have hc7:=of_decide_eq_false hc7
  refine aw_exit ?_
  refine aw_seq ?_
  refine aw_reg ?_
  iterate 2 refine st_op (ev_move rfl) rfl rfl rfl ?_
  iterate 3 refine st_op (ev_assign rfl) rfl rfl rfl ?_
  refine aw_ret ?_
  have hres:(Spec.scanW b)=(l,at_,true):=by rw[hS,List.drop_eq_nil_of_le (by omega),Spec.scanW_nil];simp [hp]
  exact⟨.tuple #[.slice A l.length cp,.int .i64 at_,.bool true],rfl,A,cp,by first | (rw[hres];first | done | rfl | simp;done) | rfl,(by first | exact hm4 | (rw[hres];exact hm4)),hxl5⟩

end Go.AM
