/- Part of a machine of its own for this claim: the program's code over memory without draws. -/
import Derived.Test.YtodcgppcmahbkabSAmXKeepD3
set_option linter.unusedVariables false
set_option linter.unusedSimpArgs false
set_option linter.unnecessarySimpa false
set_option linter.unusedVariables false
set_option linter.unusedSimpArgs false
set_option linter.unnecessarySimpa false
namespace Go.AM
open Go Go.Proofs
theorem ent18 : enters Try.prog 18=true:=by kernel_rfl
theorem ent20 : enters Try.prog 20=true:=by kernel_rfl
theorem ent21 : enters Try.prog 21=true:=by kernel_rfl
theorem ent24 : enters Try.prog 24=true:=by kernel_rfl
theorem ent25 : enters Try.prog 25=true:=by kernel_rfl
theorem ent28 : enters Try.prog 28=true:=by kernel_rfl
theorem ent39 : enters Try.prog 39=true:=by kernel_rfl
theorem ent40 : enters Try.prog 40=true:=by kernel_rfl
theorem ent41 : enters Try.prog 41=true:=by kernel_rfl
theorem ent42 : enters Try.prog 42=true:=by kernel_rfl
theorem ent46 : enters Try.prog 46=true:=by kernel_rfl
theorem ent48 : enters Try.prog 48=true:=by kernel_rfl
theorem fa48_3 : fieldIs Try.prog 48 3 4=true:=by kernel_rfl
theorem fa48_4 : fieldIs Try.prog 48 4 5=true:=by kernel_rfl
theorem fa51_0 : fieldIs Try.prog 51 0 0=true:=by kernel_rfl
theorem fa51_1 : fieldIs Try.prog 51 1 2=true:=by kernel_rfl
theorem fa51_2 : fieldIs Try.prog 51 2 6=true:=by kernel_rfl
theorem many48 : manyB Try.prog 48 9=true:=by kernel_rfl
theorem many51 : manyB Try.prog 51 7=true:=by kernel_rfl
theorem pl48 : placesOf Try.prog 48=some [(0,1),(1,1),(2,2),(4,1),(5,4)]:=by kernel_rfl
theorem pl51 : placesOf Try.prog 51=some [(0,2),(2,4),(6,1)]:=by kernel_rfl
theorem size48 : sizeIs Try.prog 48 9=true:=by kernel_rfl
theorem size51 : sizeIs Try.prog 51 7=true:=by kernel_rfl
theorem zero48 : ZeroIs Try.prog 48 [.int .i64 0,.int .i64 0,.int .i64 0,.int .i64 0,.slice none 0 0,.int .i64 0,.int .i64 0,.string (⟨#[]⟩),.string (⟨#[]⟩)]:=⟨.agg #[.int .i64 0,.int .i64 0,.int .i64 0,.int .i64 0,.slice none 0 0,.int .i64 0,.int .i64 0,.string (⟨#[]⟩),.string (⟨#[]⟩)],by kernel_rfl,rfl,rfl,rfl⟩
theorem zero51 : ZeroIs Try.prog 51 [.int .i64 0,.int .i64 0,.int .i64 0,.int .i64 0,.string (⟨#[]⟩),.string (⟨#[]⟩),.slice none 0 0]:=⟨.agg #[.int .i64 0,.int .i64 0,.int .i64 0,.int .i64 0,.string (⟨#[]⟩),.string (⟨#[]⟩),.slice none 0 0],by kernel_rfl,rfl,rfl,rfl⟩
theorem law1_Cut_spec (H:Heap) (s:ByteArray) (n:Int) (hn:0≤n∧n≤1099511627776):∃ v H',Spec Try.prog 39 [.string s,.int .i64 n] H v H'∧((v = .string (cutB s n))∧((((cutB s n)).size:Int)≤n)∧(Ext H H')):=by
 refine spec_go2 E0_ok 13 (f:=39) Try.func39 rfl rfl rfl ?_
 refine aw_seq ?_
 refine aw_reg ?_
 refine st_op (ev_assign rfl) rfl rfl rfl ?_
 iterate 2 refine aw_seq ?_
 refine aw_reg ?_
 refine st_op (ev_move rfl) rfl rfl rfl ?_
 refine st_op (ev_lenStr rfl Try.underlying9) rfl rfl rfl ?_
 refine st_op (ev_move rfl) rfl rfl rfl ?_
 refine st_op (ev_int rfl rfl rfl) rfl rfl rfl ?_
 by_cases hc1:(decide (((s).size:Int) > n))=true
 ·
  refine aw_condT hc1 rfl ?_
  have hc1:=of_decide_eq_true hc1
  refine aw_seq ?_
  refine aw_reg ?_
  iterate 2 refine st_op (ev_move rfl) rfl rfl rfl ?_
  refine st_op (ev_slStr Try.underlying9 rfl rfl rfl (bound_int (by omega) (by omega) rfl) rfl) rfl rfl rfl ?_
  refine st_op (ev_assign rfl) rfl rfl rfl ?_
  refine aw_ret ?_
  have hres:(cutB s n)=((s).extract 0 ((n).toNat)):=by first | rw[cutB,if_pos (by omega)] | rw[cutB,if_neg (by omega)]
  exact⟨.string ((s).extract 0 ((n).toNat)),rfl,by first | (rw[hres];done) | rw[← hres],(by exact cutB_size hn.1),(Ext.refl H)⟩
 ·
  rw[Bool.not_eq_true] at hc1;refine aw_condF hc1 rfl ?_
  have hc1:=of_decide_eq_false hc1
  refine aw_skip ?_
  refine aw_seq ?_
  refine aw_reg ?_
  refine st_op (ev_move rfl) rfl rfl rfl ?_
  refine st_op (ev_assign rfl) rfl rfl rfl ?_
  refine aw_ret ?_
  have hres:(cutB s n)=s:=by first | rw[cutB,if_pos (by omega)] | rw[cutB,if_neg (by omega)]
  exact⟨.string s,rfl,by first | (rw[hres];done) | rw[← hres],(by exact cutB_size hn.1),(Ext.refl H)⟩
theorem law19_Cut_spec (H:Heap) (okind:Int) (on:Int) (oht:Int) (ohv:Int) (olA:Option Addr) (ol:List Entry) (olc:Nat) (hol:Row H olA olc 4 (ol.map Entry.cells)) (col:ol.length≤olc) (lol:ol.length≤140737488355328) (osi:Int) (ost:Int) (osc:ByteArray) (osd:ByteArray):∃ v H',Spec Try.prog 20 [.agg #[.int .i64 okind,.int .i64 on,.int .i64 oht,.int .i64 ohv,.slice olA ol.length olc,.int .i64 osi,.int .i64 ost,.string osc,.string osd]] H v H'∧(∃ rA4 rc4,(v = .agg #[.int .i64 okind,.int .i64 on,.int .i64 oht,.int .i64 ohv,.slice rA4 ((Spec.cutL ol).length) rc4,.int .i64 osi,.int .i64 ost,.string (cutB osc 60),.string (cutB osd 200)])∧(My H H' rA4 rc4 4 ((Spec.cutL ol).map Entry.cells))∧((Spec.cutL ol).length≤10)∧(Ext H H')):=by
 refine spec_go1 E0_ok 45 (f:=20) Try.func20 rfl rfl rfl ?_
 refine aw_seq ?_
 refine aw_reg ?_
 obtain⟨b1,H2,he3,b1e,H2n_,hB5,f4⟩:=mem_box (P:=Try.prog) H (v := .agg #[.int .i64 okind,.int .i64 on,.int .i64 oht,.int .i64 ohv,.slice olA ol.length olc,.int .i64 osi,.int .i64 ost,.string osc,.string osd]) (cs := [.int .i64 okind,.int .i64 on,.int .i64 oht,.int .i64 ohv,.slice olA ol.length olc,.int .i64 osi,.int .i64 ost,.string osc,.string osd]) rfl rfl
 refine st_op (he3 _ _ _ _ _ _ _ _ _ rfl) rfl rfl rfl ?_
 have hx6:Ext H H2:=Ext.new (by omega) H2n_ f4
 have H2n:H.next≤H2.next:=hx6.1
 obtain⟨b7,H8,he9,b7e,H8n_,hB11,f10⟩:=mem_alloc H2 zero48
 refine st_op (he9 _ _ _ _ _ _ _) rfl rfl rfl ?_
 have hx12:Ext H2 H8:=Ext.new (by omega) H8n_ f10
 have H8n:H2.next≤H8.next:=hx12.1
 refine aw_seq ?_
 refine aw_reg ?_
 refine st_op (ev_assign rfl) rfl rfl rfl ?_
 iterate 2 refine aw_seq ?_
 refine aw_reg ?_
 refine st_op (ev_assign rfl) rfl rfl rfl ?_
 refine aw_block ?_
 have hm14:My H8 H8 none 0 4 (([]:List Entry).map Entry.cells) := .nil
 refine aw_keep [1,2,3,4] (l':=(.cons 1 (.pointer (some ⟨b1,0,none⟩)) (.cons 2 (.pointer (some ⟨b7,0,none⟩)) (.cons 3 (.slice none 0 0) (.cons 4 (.int .i64 0) .nil))))) (by repeat (first | exact Up.done | refine Up.then ?_ | refine Up.inBlock ?_)) rfl ?_
 refine aw_iter (α:=Nat×Option Addr×Nat×List Entry×Heap) (fun a=>10 - a.1) (fun a=>(.cons 1 (.pointer (some ⟨b1,0,none⟩)) (.cons 2 (.pointer (some ⟨b7,0,none⟩)) (.cons 3 (.slice a.2.1 a.2.2.2.1.length a.2.2.1) (.cons 4 (.int .i64 (a.1:Int)) .nil))))) (fun a=>a.2.2.2.2) (fun a=>(a.1≤ol.length∧a.1≤10)∧(a.2.2.2.1=(ol.take a.1).map Spec.cutE)∧(My H8 a.2.2.2.2 a.2.1 a.2.2.1 4 (a.2.2.2.1.map Entry.cells))∧(Ext H8 a.2.2.2.2)) (0,none,0,([]:List Entry),H8) ⟨(show 0≤ol.length∧0≤10 from⟨by omega,by omega⟩),(show([]:List Entry)=(ol.take 0).map Spec.cutE from rfl),(show My H8 H8 none 0 4 (([]:List Entry).map Entry.cells) from hm14),(show Ext H8 H8 from(Ext.refl H8))⟩ ?_
 rintro⟨i,A,cp,l,Hl13⟩ ⟨hi,hl,hm15,hxl16⟩ ih17
 replace hi:i≤ol.length∧i≤10:=hi
 replace hl:l=(ol.take i).map Spec.cutE:=hl
 replace hm15:My H8 Hl13 A cp 4 (l.map Entry.cells):=hm15
 replace hxl16:Ext H8 Hl13:=hxl16
 show aw _ _ _ (RL _ (.cons 1 (.pointer (some ⟨b1,0,none⟩)) (.cons 2 (.pointer (some ⟨b7,0,none⟩)) (.cons 3 (.slice A l.length cp) (.cons 4 (.int .i64 (i:Int)) .nil))))) Hl13 _
 have Hl13n:H8.next≤Hl13.next:=hxl16.1
 have hll:l.length≤10:=by rw[hl,List.length_map,List.length_take];omega
 iterate 2 refine aw_seq ?_
 refine aw_reg ?_
 refine st_op (ev_move rfl) rfl rfl rfl ?_
 refine st_op (ev_fieldAddr rfl fa48_3 (o':=4) rfl) rfl rfl rfl ?_
 have hx19:Ext H2 Hl13:=(Ext.trans hx12 hxl16)
 have h18:=Ext.blk hx19 (by omega) hB5
 refine st_op (ev_load rfl (lvar_one one39 h18 rfl)) rfl rfl rfl ?_
 refine st_op (ev_lenSl rfl Try.underlying39) rfl rfl rfl ?_
 refine st_op (ev_int rfl rfl rfl) rfl rfl rfl ?_
 refine st_op (ev_move rfl) rfl rfl rfl ?_
 refine st_bool 11 rfl (fun hb20=>?_) (fun hb20=>?_)
 ·
  have hb20:=of_decide_eq_true hb20
  refine st_op (ev_move rfl) rfl rfl rfl ?_
  refine st_op (ev_int rfl rfl rfl) rfl rfl rfl ?_
  refine st_op (ev_pickT rfl rfl) rfl rfl rfl ?_
  by_cases hc21:(decide ((i:Int)<10))=true
  ·
   refine aw_condT hc21 rfl ?_
   have hc21:=of_decide_eq_true hc21
   refine aw_skip ?_
   refine aw_seq ?_
   refine aw_block ?_
   refine aw_seq ?_
   refine aw_reg ?_
   refine st_op (ev_fieldAddr rfl fa48_3 (o':=4) rfl) rfl rfl rfl ?_
   refine st_op (ev_load rfl (lvar_one one39 h18 rfl)) rfl rfl rfl ?_
   refine st_op (ev_move rfl) rfl rfl rfl ?_
   have hx23:Ext H Hl13:=(Ext.trans (Ext.trans hx6 hx12) hxl16)
   have h22:=Row.ext hol hx23
   have hi24:0≤((i:Int):Int):=by omega
   have hi25:((i:Int):Int)<((ol.length:Nat):Int):=by omega
   obtain⟨x26,hx27⟩:∃ e,ol[i]?=some e:=⟨_,List.getElem?_eq_getElem (by omega)⟩
   refine st_op (ev_at rfl rfl h22 (getMap Entry.cells hx27) (by first | rfl | omega | simp) hi24 hi25 el39) rfl rfl rfl ?_
   refine st_op (ev_atN (cs := [.int .i64 x26.index,.int .i64 x26.term,.int .i64 x26.kind,.string x26.data]) rfl h22 (getMap Entry.cells hx27) many54 rfl rfl (by decide)) rfl rfl rfl ?_
   obtain⟨b28,H29,he30,b28e,H29n_,hB32,f31⟩:=mem_alloc Hl13 zero54
   refine st_op (he30 _ _ _ _ _ _ _) rfl rfl rfl ?_
   have hx33:Ext Hl13 H29:=Ext.new (by omega) H29n_ f31
   have H29n:Hl13.next≤H29.next:=hx33.1
   obtain⟨H34,he35,H34n_,hB36,f37⟩:=mem_store (v := .agg #[.int .i64 x26.index,.int .i64 x26.term,.int .i64 x26.kind,.string x26.data]) (o:=0) (cs' := [.int .i64 x26.index,.int .i64 x26.term,.int .i64 x26.kind,.string x26.data]) 4 rfl rfl size54 hB32 rfl rfl rfl
   refine st_op0 (he35 _ _ _ _ _ _ _ _ _ rfl rfl) rfl rfl ?_
   have hf38:Fr (fun q=>q=b28) H29 H34:=Fr.write H34n_ f37
   have H34n:H29.next≤H34.next:=hf38.1
   refine aw_seq ?_
   refine aw_reg ?_
   refine st_op (ev_fieldAddr rfl fa54_3 (o':=3) rfl) rfl rfl rfl ?_
   refine st_op (ev_load rfl (lvar_one one9 hB36 rfl)) rfl rfl rfl ?_
   refine st_call rfl rfl rfl ent39 rfl rfl rfl ?_
   obtain⟨_,H40,hs39,hs39v,hq42,hx41⟩:=law1_Cut_spec H34 x26.data 100 (by decide)
   rw[hs39v] at hs39;clear hs39v
   refine⟨_,H40,hs39,?_⟩
   have H40n:H34.next≤H40.next:=hx41.1
   refine st_op (ev_fieldAddr rfl fa54_3 (o':=3) rfl) rfl rfl rfl ?_
   have h43:=Ext.blk hx41 (by omega) hB36
   obtain⟨H44,he45,H44n_,hB46,f47⟩:=mem_store (v := .string (cutB x26.data (100:Int))) (o:=3) (cs' := [.int .i64 x26.index,.int .i64 x26.term,.int .i64 x26.kind,.string (cutB x26.data (100:Int))]) 1 rfl rfl size9 h43 rfl rfl rfl
   refine st_op0 (he45 _ _ _ _ _ _ _ _ _ rfl rfl) rfl rfl ?_
   have hf48:Fr (fun q=>q=b28) H40 H44:=Fr.write H44n_ f47
   have H44n:H40.next≤H44.next:=hf48.1
   refine aw_reg ?_
   refine st_op (ev_move rfl) rfl rfl rfl ?_
   refine st_op (ev_load rfl (lvar_part (l := [.int .i64 x26.index,.int .i64 x26.term,.int .i64 x26.kind,.string (cutB x26.data (100:Int))]) many54 hB46 rfl rfl (by decide))) rfl rfl rfl ?_
   obtain⟨b49,H50,he51,b49e,H50n_,hm53,f52⟩:=mem_lit H44 (xs:=([.agg #[.int .i64 x26.index,.int .i64 x26.term,.int .i64 x26.kind,.string (cutB x26.data (100:Int))]]:List Value)) (m:=1) (rows := [[.int .i64 x26.index,.int .i64 x26.term,.int .i64 x26.kind,.string (cutB x26.data (100:Int))]]) rfl eok39 (by decide) (by decide) zf54 rfl (allLen rfl) rfl
   replace hm53:My H44 H50 (some ⟨b49,0,none⟩) 1 4 ([(⟨x26.index,x26.term,x26.kind,(cutB x26.data (100:Int))⟩:Entry)].map Entry.cells):=hm53
   refine st_op (he51 _ _ _ _ _ _ _ _ rfl) rfl rfl rfl ?_
   have hx54:Ext H44 H50:=Ext.new (by omega) H50n_ f52
   have H50n:H44.next≤H50.next:=hx54.1
   have hx56:Ext Hl13 H50:=(Ext.trans (Ext.then (Ext.trans (Ext.then hx33 hf38 (fun q hq e=>by omega)) hx41) hf48 (fun q hq e=>by omega)) hx54)
   have h55:=My.ext hm15 hx56
   obtain⟨A57,c58,H59,W60,he61,hm62,hf63⟩:=mem_append (f:=Entry.cells) (old:=l) (new := [(⟨x26.index,x26.term,x26.kind,(cutB x26.data (100:Int))⟩:Entry)]) (m:=l.length) (mx:=1) (c:=cp) (by first | rfl | simp) (by first | rfl | simp) eok39 (by decide) hm15 h55 (by omega) (((My.row hm53)).srcF (by decide) (by first | rfl | simp)) rfl Entry.cells_len Entry.cells_one (by first | omega | (simp only [List.length_append,List.length_cons,List.length_nil,List.length_map,List.length_set,List.length_replicate,Spec.bytesOf_length];omega) | (simp;omega)) (by first | omega | (simp only [List.length_append,List.length_cons,List.length_nil,List.length_map,List.length_set,List.length_replicate,Spec.bytesOf_length];omega) | (simp;omega))
   refine st_op (he61 _ _ _ _ _ _ _ _ _ _ rfl rfl isrow39) rfl rfl rfl ?_
   have H59n:H50.next≤H59.next:=hf63.1
   refine st_op (ev_assign rfl) rfl rfl rfl ?_
   refine aw_reg ?_
   refine st_op (ev_move rfl) rfl rfl rfl ?_
   refine st_op (ev_int64 (c:=(i:Int)+1) rfl rfl rfl (by omega) (by omega)) rfl rfl rfl ?_
   refine st_op (ev_assign rfl) rfl rfl rfl ?_
   have hx64:Ext H8 H59:=(Ext.then (Ext.trans (Ext.then (Ext.trans (Ext.then (Ext.trans hxl16 hx33) hf38 (fun q hq e=>by omega)) hx41) hf48 (fun q hq e=>by omega)) hx54) hf63 (fun q hq e=>by omega))
   refine aw_keep [1,2,3,4] (l':=(.cons 1 (.pointer (some ⟨b1,0,none⟩)) (.cons 2 (.pointer (some ⟨b7,0,none⟩)) (.cons 3 (.slice A57 ((l ++ [(⟨x26.index,x26.term,x26.kind,(cutB x26.data (100:Int))⟩:Entry)]).length) c58) (.cons 4 (.int .i64 ((i:Int)+1)) .nil))))) (by repeat (first | exact Up.done | refine Up.then ?_ | refine Up.inBlock ?_)) rfl ?_
   exact ih17 (i+1,A57,c58,(l ++ [(⟨x26.index,x26.term,x26.kind,(cutB x26.data (100:Int))⟩:Entry)]),H59) ⟨(show(i+1)≤ol.length∧(i+1)≤10 from⟨by omega,by omega⟩),(show(l ++ [(⟨x26.index,x26.term,x26.kind,(cutB x26.data (100:Int))⟩:Entry)])=(ol.take (i+1)).map Spec.cutE from(by rw[hl,Spec.cutL_step hx27];rfl)),(show My H8 H59 A57 c58 4 ((l ++ [(⟨x26.index,x26.term,x26.kind,(cutB x26.data (100:Int))⟩:Entry)]).map Entry.cells) from hm62),(show Ext H8 H59 from hx64)⟩ (by simp only;omega)
  ·
   rw[Bool.not_eq_true] at hc21;refine aw_condF hc21 rfl ?_
   have hc21:=of_decide_eq_false hc21
   refine aw_exit ?_
   refine aw_seq ?_
   refine aw_reg ?_
   refine st_op (ev_move rfl) rfl rfl rfl ?_
   refine st_op (ev_fieldAddr rfl fa48_3 (o':=4) rfl) rfl rfl rfl ?_
   obtain⟨H65,he66,H65n_,hB67,f68⟩:=mem_store (v := .slice A l.length cp) (o:=4) (cs' := [.int .i64 okind,.int .i64 on,.int .i64 oht,.int .i64 ohv,.slice A l.length cp,.int .i64 osi,.int .i64 ost,.string osc,.string osd]) 1 rfl rfl size39 h18 rfl rfl rfl
   refine st_op0 (he66 _ _ _ _ _ _ _ _ _ rfl rfl) rfl rfl ?_
   have hf69:Fr (fun q=>q=b1) Hl13 H65:=Fr.write H65n_ f68
   have H65n:Hl13.next≤H65.next:=hf69.1
   refine aw_seq ?_
   refine aw_marks (fun b=>b<H65.next) [(false,false),(false,false),(false,false),(false,true),(false,false),(false,false),(true,false),(false,false),(false,false),(false,false),(false,false),(false,false),(false,false),(false,false)] mixed (by kernel_rfl) (by kernel_rfl) ?_
   refine sm_op (ev_fieldAddr rfl fa48_4 (o':=5) rfl) rfl rfl rfl ?_
   refine sm_op (ev_fieldAddr rfl fa46_2 (o':=7) rfl) rfl rfl rfl ?_
   refine sm_op (ev_load rfl (lvar_one one9 hB67 rfl)) rfl rfl rfl ?_
   refine sm_call rfl rfl rfl ent39 rfl rfl rfl ?_
   obtain⟨_,H71,hs70,hs70v,hq73,hx72⟩:=law1_Cut_spec H65 osc 60 (by decide)
   rw[hs70v] at hs70;clear hs70v
   refine⟨_,H71,hs70,(fun _ b hb=>hx72.2 b (by omega)),?_⟩
   have H71n:H65.next≤H71.next:=hx72.1
   refine sm_op (ev_fieldAddr rfl fa48_4 (o':=5) rfl) rfl rfl rfl ?_
   refine sm_op (ev_fieldAddr rfl fa46_3 (o':=8) rfl) rfl rfl rfl ?_
   have h74:=Ext.blk hx72 (by omega) hB67
   refine sm_read (ev_load rfl (lvar_one one9 h74 rfl)) rfl rfl rfl (fun b hb=>by cases hb;dsimp only <;> omega) ?_
   refine sm_call rfl rfl rfl ent39 rfl rfl rfl ?_
   obtain⟨_,H76,hs75,hs75v,hq78,hx77⟩:=law1_Cut_spec H71 osd 200 (by decide)
   rw[hs75v] at hs75;clear hs75v
   refine⟨_,H76,hs75,(fun h=>nomatch h),?_⟩
   have H76n:H71.next≤H76.next:=hx77.1
   refine sm_op (ev_fieldAddr rfl fa48_4 (o':=5) rfl) rfl rfl rfl ?_
   refine sm_op (ev_fieldAddr rfl fa46_2 (o':=7) rfl) rfl rfl rfl ?_
   have h79:=Ext.blk hx77 (by omega) h74
   obtain⟨H80,he81,H80n_,hB82,f83⟩:=mem_store (v := .string (cutB osc (60:Int))) (o:=7) (cs' := [.int .i64 okind,.int .i64 on,.int .i64 oht,.int .i64 ohv,.slice A l.length cp,.int .i64 osi,.int .i64 ost,.string (cutB osc (60:Int)),.string osd]) 1 rfl rfl size9 h79 rfl rfl rfl
   refine sm_op0 (he81 _ _ _ _ _ _ _ _ _ rfl rfl) rfl rfl ?_
   have hf84:Fr (fun q=>q=b1) H76 H80:=Fr.write H80n_ f83
   have H80n:H76.next≤H80.next:=hf84.1
   refine sm_op (ev_fieldAddr rfl fa48_4 (o':=5) rfl) rfl rfl rfl ?_
   refine sm_op (ev_fieldAddr rfl fa46_3 (o':=8) rfl) rfl rfl rfl ?_
   obtain⟨H85,he86,H85n_,hB87,f88⟩:=mem_store (v := .string (cutB osd (200:Int))) (o:=8) (cs' := [.int .i64 okind,.int .i64 on,.int .i64 oht,.int .i64 ohv,.slice A l.length cp,.int .i64 osi,.int .i64 ost,.string (cutB osc (60:Int)),.string (cutB osd (200:Int))]) 1 rfl rfl size9 hB82 rfl rfl rfl
   refine sm_op0 (he86 _ _ _ _ _ _ _ _ _ rfl rfl) rfl rfl ?_
   have hf89:Fr (fun q=>q=b1) H80 H85:=Fr.write H85n_ f88
   have H85n:H80.next≤H85.next:=hf89.1
   refine aw_seq ?_
   refine aw_reg ?_
   refine st_op (ev_load rfl (lvar_part (l := [.int .i64 okind,.int .i64 on,.int .i64 oht,.int .i64 ohv,.slice A l.length cp,.int .i64 osi,.int .i64 ost,.string (cutB osc (60:Int)),.string (cutB osd (200:Int))]) many48 hB87 rfl rfl (by decide))) rfl rfl rfl ?_
   have h90:=Ext.blk hxl16 (by omega) hB11
   have h91:=Fr.blk hf69 (by omega) (fun e=>(by omega)) h90
   have hx93:Ext H65 H76:=(Ext.trans hx72 hx77)
   have h92:=Ext.blk hx93 (by omega) h91
   have h94:=Fr.blk hf84 (by omega) (fun e=>(by omega)) h92
   have h95:=Fr.blk hf89 (by omega) (fun e=>(by omega)) h94
   obtain⟨H96,he97,H96n_,hB98,f99⟩:=mem_store (v := .agg #[.int .i64 okind,.int .i64 on,.int .i64 oht,.int .i64 ohv,.slice A l.length cp,.int .i64 osi,.int .i64 ost,.string (cutB osc (60:Int)),.string (cutB osd (200:Int))]) (o:=0) (cs' := [.int .i64 okind,.int .i64 on,.int .i64 oht,.int .i64 ohv,.slice A l.length cp,.int .i64 osi,.int .i64 ost,.string (cutB osc (60:Int)),.string (cutB osd (200:Int))]) 9 rfl rfl size48 h95 rfl rfl rfl
   refine st_op0 (he97 _ _ _ _ _ _ _ _ _ rfl rfl) rfl rfl ?_
   have hf100:Fr (fun q=>q=b7) H85 H96:=Fr.write H96n_ f99
   have H96n:H85.next≤H96.next:=hf100.1
   refine aw_ret ?_
   have h101:=My.frS hm15 hf69 (fun q hq e=>⟨_,e ▸ h18,show(0:Nat)≠4 by decide⟩)
   have hx103:Ext H65 H76:=(Ext.trans hx72 hx77)
   have h102:=My.ext h101 hx103
   have h104:=My.frS h102 hf84 (fun q hq e=>⟨_,e ▸ h79,show(0:Nat)≠4 by decide⟩)
   have h105:=My.frS h104 hf89 (fun q hq e=>⟨_,e ▸ hB82,show(0:Nat)≠4 by decide⟩)
   have h106:=My.frS h105 hf100 (fun q hq e=>⟨_,e ▸ h95,show(0:Nat)≠4 by decide⟩)
   have hx107:Ext H H96:=(Ext.then (Ext.then (Ext.then (Ext.trans (Ext.trans (Ext.then (Ext.trans (Ext.trans hx6 hx12) hxl16) hf69 (fun q hq e=>by omega)) hx72) hx77) hf84 (fun q hq e=>by omega)) hf89 (fun q hq e=>by omega)) hf100 (fun q hq e=>by omega))
   have hres:((Spec.cutL ol),(cutB osc 60),(cutB osd 200))=(l,(cutB osc (60:Int)),(cutB osd (200:Int))):=by simp only [Spec.cutL];rw[hl];congr 2;(first | rw[show i=10 by omega] | rw[List.take_of_length_le (by omega),List.take_of_length_le (by omega)])
   have he0:(Spec.cutL ol)=l:=congrArg (fun p=>p.1) hres
   have he1:(cutB osc 60)=(cutB osc (60:Int)):=congrArg (fun p=>p.2.1) hres
   have he2:(cutB osd 200)=(cutB osd (200:Int)):=congrArg (fun p=>p.2.2) hres
   exact⟨.agg #[.int .i64 okind,.int .i64 on,.int .i64 oht,.int .i64 ohv,.slice A l.length cp,.int .i64 osi,.int .i64 ost,.string (cutB osc (60:Int)),.string (cutB osd (200:Int))],(resA_of (resL_cell rfl (lvar_part (l := [.int .i64 okind,.int .i64 on,.int .i64 oht,.int .i64 ohv,.slice A l.length cp,.int .i64 osi,.int .i64 ost,.string (cutB osc (60:Int)),.string (cutB osd (200:Int))]) many48 hB98 rfl rfl (by decide)) resL_nil) rfl),A,cp,by first | rfl | (simp only [he0,he1,he2];done) | (rw[he0];done) | (rw[he1];done) | (rw[he2];done),(by first | exact(My.older h106 (by omega)) | (rw[he0];exact(My.older h106 (by omega))) | (rw[he1];exact(My.older h106 (by omega))) | (rw[he2];exact(My.older h106 (by omega))) | (rw[he0,he1];exact(My.older h106 (by omega))) | (simp only [he0,he1,he2];exact(My.older h106 (by omega)))),(by exact Spec.cutL_len _),hx107⟩
 ·
  have hb20:=of_decide_eq_false hb20
  iterate 2 refine st_skip rfl rfl rfl ?_
  refine st_op (ev_pickF rfl rfl) rfl rfl rfl ?_
  refine aw_cond (t:=false) rfl ?_
  refine aw_exit ?_
  refine aw_seq ?_
  refine aw_reg ?_
  refine st_op (ev_move rfl) rfl rfl rfl ?_
  refine st_op (ev_fieldAddr rfl fa48_3 (o':=4) rfl) rfl rfl rfl ?_
  obtain⟨H108,he109,H108n_,hB110,f111⟩:=mem_store (v := .slice A l.length cp) (o:=4) (cs' := [.int .i64 okind,.int .i64 on,.int .i64 oht,.int .i64 ohv,.slice A l.length cp,.int .i64 osi,.int .i64 ost,.string osc,.string osd]) 1 rfl rfl size39 h18 rfl rfl rfl
  refine st_op0 (he109 _ _ _ _ _ _ _ _ _ rfl rfl) rfl rfl ?_
  have hf112:Fr (fun q=>q=b1) Hl13 H108:=Fr.write H108n_ f111
  have H108n:Hl13.next≤H108.next:=hf112.1
  refine aw_seq ?_
  refine aw_marks (fun b=>b<H108.next) [(false,false),(false,false),(false,false),(false,true),(false,false),(false,false),(true,false),(false,false),(false,false),(false,false),(false,false),(false,false),(false,false),(false,false)] mixed (by kernel_rfl) (by kernel_rfl) ?_
  refine sm_op (ev_fieldAddr rfl fa48_4 (o':=5) rfl) rfl rfl rfl ?_
  refine sm_op (ev_fieldAddr rfl fa46_2 (o':=7) rfl) rfl rfl rfl ?_
  refine sm_op (ev_load rfl (lvar_one one9 hB110 rfl)) rfl rfl rfl ?_
  refine sm_call rfl rfl rfl ent39 rfl rfl rfl ?_
  obtain⟨_,H114,hs113,hs113v,hq116,hx115⟩:=law1_Cut_spec H108 osc 60 (by decide)
  rw[hs113v] at hs113;clear hs113v
  refine⟨_,H114,hs113,(fun _ b hb=>hx115.2 b (by omega)),?_⟩
  have H114n:H108.next≤H114.next:=hx115.1
  refine sm_op (ev_fieldAddr rfl fa48_4 (o':=5) rfl) rfl rfl rfl ?_
  refine sm_op (ev_fieldAddr rfl fa46_3 (o':=8) rfl) rfl rfl rfl ?_
  have h117:=Ext.blk hx115 (by omega) hB110
  refine sm_read (ev_load rfl (lvar_one one9 h117 rfl)) rfl rfl rfl (fun b hb=>by cases hb;dsimp only <;> omega) ?_
  refine sm_call rfl rfl rfl ent39 rfl rfl rfl ?_
  obtain⟨_,H119,hs118,hs118v,hq121,hx120⟩:=law1_Cut_spec H114 osd 200 (by decide)
  rw[hs118v] at hs118;clear hs118v
  refine⟨_,H119,hs118,(fun h=>nomatch h),?_⟩
  have H119n:H114.next≤H119.next:=hx120.1
  refine sm_op (ev_fieldAddr rfl fa48_4 (o':=5) rfl) rfl rfl rfl ?_
  refine sm_op (ev_fieldAddr rfl fa46_2 (o':=7) rfl) rfl rfl rfl ?_
  have h122:=Ext.blk hx120 (by omega) h117
  obtain⟨H123,he124,H123n_,hB125,f126⟩:=mem_store (v := .string (cutB osc (60:Int))) (o:=7) (cs' := [.int .i64 okind,.int .i64 on,.int .i64 oht,.int .i64 ohv,.slice A l.length cp,.int .i64 osi,.int .i64 ost,.string (cutB osc (60:Int)),.string osd]) 1 rfl rfl size9 h122 rfl rfl rfl
  refine sm_op0 (he124 _ _ _ _ _ _ _ _ _ rfl rfl) rfl rfl ?_
  have hf127:Fr (fun q=>q=b1) H119 H123:=Fr.write H123n_ f126
  have H123n:H119.next≤H123.next:=hf127.1
  refine sm_op (ev_fieldAddr rfl fa48_4 (o':=5) rfl) rfl rfl rfl ?_
  refine sm_op (ev_fieldAddr rfl fa46_3 (o':=8) rfl) rfl rfl rfl ?_
  obtain⟨H128,he129,H128n_,hB130,f131⟩:=mem_store (v := .string (cutB osd (200:Int))) (o:=8) (cs' := [.int .i64 okind,.int .i64 on,.int .i64 oht,.int .i64 ohv,.slice A l.length cp,.int .i64 osi,.int .i64 ost,.string (cutB osc (60:Int)),.string (cutB osd (200:Int))]) 1 rfl rfl size9 hB125 rfl rfl rfl
  refine sm_op0 (he129 _ _ _ _ _ _ _ _ _ rfl rfl) rfl rfl ?_
  have hf132:Fr (fun q=>q=b1) H123 H128:=Fr.write H128n_ f131
  have H128n:H123.next≤H128.next:=hf132.1
  refine aw_seq ?_
  refine aw_reg ?_
  refine st_op (ev_load rfl (lvar_part (l := [.int .i64 okind,.int .i64 on,.int .i64 oht,.int .i64 ohv,.slice A l.length cp,.int .i64 osi,.int .i64 ost,.string (cutB osc (60:Int)),.string (cutB osd (200:Int))]) many48 hB130 rfl rfl (by decide))) rfl rfl rfl ?_
  have h133:=Ext.blk hxl16 (by omega) hB11
  have h134:=Fr.blk hf112 (by omega) (fun e=>(by omega)) h133
  have hx136:Ext H108 H119:=(Ext.trans hx115 hx120)
  have h135:=Ext.blk hx136 (by omega) h134
  have h137:=Fr.blk hf127 (by omega) (fun e=>(by omega)) h135
  have h138:=Fr.blk hf132 (by omega) (fun e=>(by omega)) h137
  obtain⟨H139,he140,H139n_,hB141,f142⟩:=mem_store (v := .agg #[.int .i64 okind,.int .i64 on,.int .i64 oht,.int .i64 ohv,.slice A l.length cp,.int .i64 osi,.int .i64 ost,.string (cutB osc (60:Int)),.string (cutB osd (200:Int))]) (o:=0) (cs' := [.int .i64 okind,.int .i64 on,.int .i64 oht,.int .i64 ohv,.slice A l.length cp,.int .i64 osi,.int .i64 ost,.string (cutB osc (60:Int)),.string (cutB osd (200:Int))]) 9 rfl rfl size48 h138 rfl rfl rfl
  refine st_op0 (he140 _ _ _ _ _ _ _ _ _ rfl rfl) rfl rfl ?_
  have hf143:Fr (fun q=>q=b7) H128 H139:=Fr.write H139n_ f142
  have H139n:H128.next≤H139.next:=hf143.1
  refine aw_ret ?_
  have h144:=My.frS hm15 hf112 (fun q hq e=>⟨_,e ▸ h18,show(0:Nat)≠4 by decide⟩)
  have hx146:Ext H108 H119:=(Ext.trans hx115 hx120)
  have h145:=My.ext h144 hx146
  have h147:=My.frS h145 hf127 (fun q hq e=>⟨_,e ▸ h122,show(0:Nat)≠4 by decide⟩)
  have h148:=My.frS h147 hf132 (fun q hq e=>⟨_,e ▸ hB125,show(0:Nat)≠4 by decide⟩)
  have h149:=My.frS h148 hf143 (fun q hq e=>⟨_,e ▸ h138,show(0:Nat)≠4 by decide⟩)
  have hx150:Ext H H139:=(Ext.then (Ext.then (Ext.then (Ext.trans (Ext.trans (Ext.then (Ext.trans (Ext.trans hx6 hx12) hxl16) hf112 (fun q hq e=>by omega)) hx115) hx120) hf127 (fun q hq e=>by omega)) hf132 (fun q hq e=>by omega)) hf143 (fun q hq e=>by omega))
  have hres:((Spec.cutL ol),(cutB osc 60),(cutB osd 200))=(l,(cutB osc (60:Int)),(cutB osd (200:Int))):=by simp only [Spec.cutL];rw[hl];congr 2;(first | rw[show i=10 by omega] | rw[List.take_of_length_le (by omega),List.take_of_length_le (by omega)])
  have he0:(Spec.cutL ol)=l:=congrArg (fun p=>p.1) hres
  have he1:(cutB osc 60)=(cutB osc (60:Int)):=congrArg (fun p=>p.2.1) hres
  have he2:(cutB osd 200)=(cutB osd (200:Int)):=congrArg (fun p=>p.2.2) hres
  exact⟨.agg #[.int .i64 okind,.int .i64 on,.int .i64 oht,.int .i64 ohv,.slice A l.length cp,.int .i64 osi,.int .i64 ost,.string (cutB osc (60:Int)),.string (cutB osd (200:Int))],(resA_of (resL_cell rfl (lvar_part (l := [.int .i64 okind,.int .i64 on,.int .i64 oht,.int .i64 ohv,.slice A l.length cp,.int .i64 osi,.int .i64 ost,.string (cutB osc (60:Int)),.string (cutB osd (200:Int))]) many48 hB141 rfl rfl (by decide)) resL_nil) rfl),A,cp,by first | rfl | (simp only [he0,he1,he2];done) | (rw[he0];done) | (rw[he1];done) | (rw[he2];done),(by first | exact(My.older h149 (by omega)) | (rw[he0];exact(My.older h149 (by omega))) | (rw[he1];exact(My.older h149 (by omega))) | (rw[he2];exact(My.older h149 (by omega))) | (rw[he0,he1];exact(My.older h149 (by omega))) | (simp only [he0,he1,he2];exact(My.older h149 (by omega)))),(by exact Spec.cutL_len _),hx150⟩
theorem ref17_MayEntry_spec (H:Heap) (e_index:Int) (e_term:Int) (e_kind:Int) (e_data:ByteArray):∃ v H',Spec Try.prog 40 [.agg #[.int .i64 e_index,.int .i64 e_term,.int .i64 e_kind,.string e_data]] H v H'∧((v = .bool (Spec.mayF false 0 0 e_index e_term e_kind e_data))∧(Ext H H')):=by
 refine spec_go1 E0_ok 37 (f:=40) Try.func40 rfl rfl rfl ?_
 refine aw_seq ?_
 refine aw_reg ?_
 obtain⟨b1,H2,he3,b1e,H2n_,hB5,f4⟩:=mem_box (P:=Try.prog) H (v := .agg #[.int .i64 e_index,.int .i64 e_term,.int .i64 e_kind,.string e_data]) (cs := [.int .i64 e_index,.int .i64 e_term,.int .i64 e_kind,.string e_data]) rfl rfl
 refine st_op (he3 _ _ _ _ _ _ _ _ _ rfl) rfl rfl rfl ?_
 have hx6:Ext H H2:=Ext.new (by omega) H2n_ f4
 have H2n:H.next≤H2.next:=hx6.1
 refine st_op (ev_assign rfl) rfl rfl rfl ?_
 refine aw_seq ?_
 refine aw_reg ?_
 refine st_op (ev_fieldAddr rfl fa54_0 (o':=0) rfl) rfl rfl rfl ?_
 refine st_op (ev_load rfl (lvar_one one2 hB5 rfl)) rfl rfl rfl ?_
 refine st_op (ev_int rfl rfl rfl) rfl rfl rfl ?_
 refine st_op (ev_move rfl) rfl rfl rfl ?_
 refine st_bool 6 rfl (fun hb7=>?_) (fun hb7=>?_)
 ·
  have hb7:=of_decide_eq_true hb7
  refine st_op (ev_fieldAddr rfl fa54_0 (o':=0) rfl) rfl rfl rfl ?_
  refine st_op (ev_load rfl (lvar_one one2 hB5 rfl)) rfl rfl rfl ?_
  refine st_op (ev_int rfl rfl rfl) rfl rfl rfl ?_
  refine st_op (ev_pickT rfl rfl) rfl rfl rfl ?_
  refine st_op (ev_move rfl) rfl rfl rfl ?_
  refine st_bool 11 rfl (fun hb8=>?_) (fun hb8=>?_)
  ·
   have hb8:=of_decide_eq_true hb8
   refine st_op (ev_fieldAddr rfl fa54_1 (o':=1) rfl) rfl rfl rfl ?_
   refine st_op (ev_load rfl (lvar_one one2 hB5 rfl)) rfl rfl rfl ?_
   refine st_op (ev_int rfl rfl rfl) rfl rfl rfl ?_
   refine st_op (ev_pickT rfl rfl) rfl rfl rfl ?_
   refine st_op (ev_move rfl) rfl rfl rfl ?_
   refine st_bool 16 rfl (fun hb9=>?_) (fun hb9=>?_)
   ·
    have hb9:=of_decide_eq_true hb9
    refine st_op (ev_fieldAddr rfl fa54_1 (o':=1) rfl) rfl rfl rfl ?_
    refine st_op (ev_load rfl (lvar_one one2 hB5 rfl)) rfl rfl rfl ?_
    refine st_op (ev_int rfl rfl rfl) rfl rfl rfl ?_
    refine st_op (ev_pickT rfl rfl) rfl rfl rfl ?_
    refine st_op (ev_move rfl) rfl rfl rfl ?_
    refine st_bool 21 rfl (fun hb10=>?_) (fun hb10=>?_)
    ·
     have hb10:=of_decide_eq_true hb10
     refine st_op (ev_fieldAddr rfl fa54_2 (o':=2) rfl) rfl rfl rfl ?_
     refine st_op (ev_load rfl (lvar_one one3 hB5 rfl)) rfl rfl rfl ?_
     refine st_op (ev_int rfl rfl rfl) rfl rfl rfl ?_
     refine st_op (ev_pickT rfl rfl) rfl rfl rfl ?_
     refine st_op (ev_move rfl) rfl rfl rfl ?_
     refine st_bool 26 rfl (fun hb11=>?_) (fun hb11=>?_)
     ·
      have hb11:=of_decide_eq_true hb11
      refine st_op (ev_fieldAddr rfl fa54_2 (o':=2) rfl) rfl rfl rfl ?_
      refine st_op (ev_load rfl (lvar_one one3 hB5 rfl)) rfl rfl rfl ?_
      refine st_op (ev_int rfl rfl rfl) rfl rfl rfl ?_
      refine st_op (ev_pickT rfl rfl) rfl rfl rfl ?_
      refine st_op (ev_move rfl) rfl rfl rfl ?_
      refine st_bool 31 rfl (fun hb12=>?_) (fun hb12=>?_)
      ·
       have hb12:=of_decide_eq_true hb12
       refine st_op (ev_fieldAddr rfl fa54_3 (o':=3) rfl) rfl rfl rfl ?_
       refine st_op (ev_load rfl (lvar_one one9 hB5 rfl)) rfl rfl rfl ?_
       refine st_op (ev_lenStr rfl Try.underlying9) rfl rfl rfl ?_
       refine st_op (ev_int rfl rfl rfl) rfl rfl rfl ?_
       refine st_op (ev_pickT rfl rfl) rfl rfl rfl ?_
       refine st_op (ev_assign rfl) rfl rfl rfl ?_
       refine aw_ret ?_
       have hres:(Spec.mayF false 0 0 e_index e_term e_kind e_data)=(decide (((e_data).size:Int)≤2500)):=by rw[Spec.mayE_eq,Bool.eq_iff_iff];simp only [decide_eq_true_eq,Bool.false_eq_true,iff_false];omega
       exact⟨.bool (decide (((e_data).size:Int)≤2500)),rfl,by first | (rw[hres];done) | rw[← hres],hx6⟩
      ·
       have hb12:=of_decide_eq_false hb12
       iterate 4 refine st_skip rfl rfl rfl ?_
       refine st_op (ev_pickF rfl rfl) rfl rfl rfl ?_
       refine st_op (ev_assign rfl) rfl rfl rfl ?_
       refine aw_ret ?_
       have hres:(Spec.mayF false 0 0 e_index e_term e_kind e_data)=false:=by rw[Spec.mayE_eq,Bool.eq_iff_iff];simp only [decide_eq_true_eq,Bool.false_eq_true,iff_false];omega
       exact⟨.bool false,rfl,by first | (rw[hres];done) | rw[← hres],hx6⟩
     ·
      have hb11:=of_decide_eq_false hb11
      iterate 3 refine st_skip rfl rfl rfl ?_
      refine st_op (ev_pickF rfl rfl) rfl rfl rfl ?_
      refine st_op (ev_move rfl) rfl rfl rfl ?_
      iterate 4 refine st_skip rfl rfl rfl ?_
      refine st_op (ev_pickF rfl rfl) rfl rfl rfl ?_
      refine st_op (ev_assign rfl) rfl rfl rfl ?_
      refine aw_ret ?_
      have hres:(Spec.mayF false 0 0 e_index e_term e_kind e_data)=false:=by rw[Spec.mayE_eq,Bool.eq_iff_iff];simp only [decide_eq_true_eq,Bool.false_eq_true,iff_false];omega
      exact⟨.bool false,rfl,by first | (rw[hres];done) | rw[← hres],hx6⟩
    ·
     have hb10:=of_decide_eq_false hb10
     iterate 3 refine st_skip rfl rfl rfl ?_
     refine st_op (ev_pickF rfl rfl) rfl rfl rfl ?_
     refine st_op (ev_move rfl) rfl rfl rfl ?_
     iterate 3 refine st_skip rfl rfl rfl ?_
     refine st_op (ev_pickF rfl rfl) rfl rfl rfl ?_
     refine st_op (ev_move rfl) rfl rfl rfl ?_
     iterate 4 refine st_skip rfl rfl rfl ?_
     refine st_op (ev_pickF rfl rfl) rfl rfl rfl ?_
     refine st_op (ev_assign rfl) rfl rfl rfl ?_
     refine aw_ret ?_
     have hres:(Spec.mayF false 0 0 e_index e_term e_kind e_data)=false:=by rw[Spec.mayE_eq,Bool.eq_iff_iff];simp only [decide_eq_true_eq,Bool.false_eq_true,iff_false];omega
     exact⟨.bool false,rfl,by first | (rw[hres];done) | rw[← hres],hx6⟩
   ·
    have hb9:=of_decide_eq_false hb9
    iterate 3 refine st_skip rfl rfl rfl ?_
    refine st_op (ev_pickF rfl rfl) rfl rfl rfl ?_
    refine st_op (ev_move rfl) rfl rfl rfl ?_
    iterate 3 refine st_skip rfl rfl rfl ?_
    refine st_op (ev_pickF rfl rfl) rfl rfl rfl ?_
    refine st_op (ev_move rfl) rfl rfl rfl ?_
    iterate 3 refine st_skip rfl rfl rfl ?_
    refine st_op (ev_pickF rfl rfl) rfl rfl rfl ?_
    refine st_op (ev_move rfl) rfl rfl rfl ?_
    iterate 4 refine st_skip rfl rfl rfl ?_
    refine st_op (ev_pickF rfl rfl) rfl rfl rfl ?_
    refine st_op (ev_assign rfl) rfl rfl rfl ?_
    refine aw_ret ?_
    have hres:(Spec.mayF false 0 0 e_index e_term e_kind e_data)=false:=by rw[Spec.mayE_eq,Bool.eq_iff_iff];simp only [decide_eq_true_eq,Bool.false_eq_true,iff_false];omega
    exact⟨.bool false,rfl,by first | (rw[hres];done) | rw[← hres],hx6⟩
  ·
   have hb8:=of_decide_eq_false hb8
   iterate 3 refine st_skip rfl rfl rfl ?_
   refine st_op (ev_pickF rfl rfl) rfl rfl rfl ?_
   refine st_op (ev_move rfl) rfl rfl rfl ?_
   iterate 3 refine st_skip rfl rfl rfl ?_
   refine st_op (ev_pickF rfl rfl) rfl rfl rfl ?_
   refine st_op (ev_move rfl) rfl rfl rfl ?_
   iterate 3 refine st_skip rfl rfl rfl ?_
   refine st_op (ev_pickF rfl rfl) rfl rfl rfl ?_
   refine st_op (ev_move rfl) rfl rfl rfl ?_
   iterate 3 refine st_skip rfl rfl rfl ?_
   refine st_op (ev_pickF rfl rfl) rfl rfl rfl ?_
   refine st_op (ev_move rfl) rfl rfl rfl ?_
   iterate 4 refine st_skip rfl rfl rfl ?_
   refine st_op (ev_pickF rfl rfl) rfl rfl rfl ?_
   refine st_op (ev_assign rfl) rfl rfl rfl ?_
   refine aw_ret ?_
   have hres:(Spec.mayF false 0 0 e_index e_term e_kind e_data)=false:=by rw[Spec.mayE_eq,Bool.eq_iff_iff];simp only [decide_eq_true_eq,Bool.false_eq_true,iff_false];omega
   exact⟨.bool false,rfl,by first | (rw[hres];done) | rw[← hres],hx6⟩
 ·
  have hb7:=of_decide_eq_false hb7
  iterate 3 refine st_skip rfl rfl rfl ?_
  refine st_op (ev_pickF rfl rfl) rfl rfl rfl ?_
  refine st_op (ev_move rfl) rfl rfl rfl ?_
  iterate 3 refine st_skip rfl rfl rfl ?_
  refine st_op (ev_pickF rfl rfl) rfl rfl rfl ?_
  refine st_op (ev_move rfl) rfl rfl rfl ?_
  iterate 3 refine st_skip rfl rfl rfl ?_
  refine st_op (ev_pickF rfl rfl) rfl rfl rfl ?_
  refine st_op (ev_move rfl) rfl rfl rfl ?_
  iterate 3 refine st_skip rfl rfl rfl ?_
  refine st_op (ev_pickF rfl rfl) rfl rfl rfl ?_
  refine st_op (ev_move rfl) rfl rfl rfl ?_
  iterate 3 refine st_skip rfl rfl rfl ?_
  refine st_op (ev_pickF rfl rfl) rfl rfl rfl ?_
  refine st_op (ev_move rfl) rfl rfl rfl ?_
  iterate 4 refine st_skip rfl rfl rfl ?_
  refine st_op (ev_pickF rfl rfl) rfl rfl rfl ?_
  refine st_op (ev_assign rfl) rfl rfl rfl ?_
  refine aw_ret ?_
  have hres:(Spec.mayF false 0 0 e_index e_term e_kind e_data)=false:=by rw[Spec.mayE_eq,Bool.eq_iff_iff];simp only [decide_eq_true_eq,Bool.false_eq_true,iff_false];omega
  exact⟨.bool false,rfl,by first | (rw[hres];done) | rw[← hres],hx6⟩
theorem ref17_Last_spec (H:Heap) (s_ht:Int) (s_hv:Int) (s_si:Int) (hs_si:0≤s_si∧s_si≤1099511627776) (s_st:Int) (s_sc:ByteArray) (s_sd:ByteArray) (s_lA:Option Addr) (s_l:List Entry) (s_lc:Nat) (hs_l:Row H s_lA s_lc 4 (s_l.map Entry.cells)) (cs_l:s_l.length≤s_lc) (ls_l:s_l.length≤1073741824):∃ v H',Spec Try.prog 41 [.agg #[.int .i64 s_ht,.int .i64 s_hv,.int .i64 s_si,.int .i64 s_st,.string s_sc,.string s_sd,.slice s_lA s_l.length s_lc]] H v H'∧((v = .int .i64 (s_si+(s_l.length:Int)))∧(Ext H H')):=by
 refine spec_go1 E0_ok 10 (f:=41) Try.func41 rfl rfl rfl ?_
 refine aw_seq ?_
 refine aw_reg ?_
 obtain⟨b1,H2,he3,b1e,H2n_,hB5,f4⟩:=mem_box (P:=Try.prog) H (v := .agg #[.int .i64 s_ht,.int .i64 s_hv,.int .i64 s_si,.int .i64 s_st,.string s_sc,.string s_sd,.slice s_lA s_l.length s_lc]) (cs := [.int .i64 s_ht,.int .i64 s_hv,.int .i64 s_si,.int .i64 s_st,.string s_sc,.string s_sd,.slice s_lA s_l.length s_lc]) rfl rfl
 refine st_op (he3 _ _ _ _ _ _ _ _ _ rfl) rfl rfl rfl ?_
 have hx6:Ext H H2:=Ext.new (by omega) H2n_ f4
 have H2n:H.next≤H2.next:=hx6.1
 refine st_op (ev_assign rfl) rfl rfl rfl ?_
 refine aw_seq ?_
 refine aw_reg ?_
 refine st_op (ev_fieldAddr rfl fa51_1 (o':=2) rfl) rfl rfl rfl ?_
 refine st_op (ev_fieldAddr rfl fa46_0 (o':=2) rfl) rfl rfl rfl ?_
 refine st_op (ev_load rfl (lvar_one one2 hB5 rfl)) rfl rfl rfl ?_
 refine st_op (ev_fieldAddr rfl fa51_2 (o':=6) rfl) rfl rfl rfl ?_
 refine st_op (ev_load rfl (lvar_one one39 hB5 rfl)) rfl rfl rfl ?_
 refine st_op (ev_lenSl rfl Try.underlying39) rfl rfl rfl ?_
 refine st_op (ev_int64 (c:=s_si+(s_l.length:Int)) rfl rfl rfl (by omega) (by omega)) rfl rfl rfl ?_
 refine st_op (ev_assign rfl) rfl rfl rfl ?_
 refine aw_ret ?_
 have hres:(s_si+(s_l.length:Int))=s_si+(s_l.length:Int):=by rfl
 exact⟨.int .i64 (s_si+(s_l.length:Int)),rfl,by first | (rw[hres];done) | rw[← hres],hx6⟩
theorem ref17_Put_spec (H:Heap) (s_ht:Int) (s_hv:Int) (s_si:Int) (hs_si:0≤s_si∧s_si≤1099511627776) (s_st:Int) (s_sc:ByteArray) (s_sd:ByteArray) (s_lA:Option Addr) (s_l:List Entry) (s_lc:Nat) (hs_l:Row H s_lA s_lc 4 (s_l.map Entry.cells)) (cs_l:s_l.length≤s_lc) (ls_l:s_l.length≤1073741824) (e_index:Int) (e_term:Int) (e_kind:Int) (e_data:ByteArray) (hp:¬ (e_index≤s_si∨e_index > s_si+(s_l.length:Int)+1)):∃ v H',Spec Try.prog 42 [.agg #[.int .i64 s_ht,.int .i64 s_hv,.int .i64 s_si,.int .i64 s_st,.string s_sc,.string s_sd,.slice s_lA s_l.length s_lc],.agg #[.int .i64 e_index,.int .i64 e_term,.int .i64 e_kind,.string e_data]] H v H'∧(∃ rA6 rc6,(v = .tuple #[.agg #[.int .i64 s_ht,.int .i64 s_hv,.int .i64 s_si,.int .i64 s_st,.string s_sc,.string s_sd,.slice rA6 (((Spec.putR s_si s_l e_index e_term e_kind e_data).2).length) rc6],.bool ((Spec.putR s_si s_l e_index e_term e_kind e_data).1)])∧(My H H' rA6 rc6 4 (((Spec.putR s_si s_l e_index e_term e_kind e_data).2).map Entry.cells))∧((Spec.putR s_si s_l e_index e_term e_kind e_data).2.length≤s_l.length+1)∧(Ext H H')):=by
 refine spec_go2 E0_ok 43 (f:=42) Try.func42 rfl rfl rfl ?_
 refine aw_seq ?_
 refine aw_reg ?_
 obtain⟨b1,H2,he3,b1e,H2n_,hB5,f4⟩:=mem_box (P:=Try.prog) H (v := .agg #[.int .i64 s_ht,.int .i64 s_hv,.int .i64 s_si,.int .i64 s_st,.string s_sc,.string s_sd,.slice s_lA s_l.length s_lc]) (cs := [.int .i64 s_ht,.int .i64 s_hv,.int .i64 s_si,.int .i64 s_st,.string s_sc,.string s_sd,.slice s_lA s_l.length s_lc]) rfl rfl
 refine st_op (he3 _ _ _ _ _ _ _ _ _ rfl) rfl rfl rfl ?_
 have hx6:Ext H H2:=Ext.new (by omega) H2n_ f4
 have H2n:H.next≤H2.next:=hx6.1
 obtain⟨b7,H8,he9,b7e,H8n_,hB11,f10⟩:=mem_box (P:=Try.prog) H2 (v := .agg #[.int .i64 e_index,.int .i64 e_term,.int .i64 e_kind,.string e_data]) (cs := [.int .i64 e_index,.int .i64 e_term,.int .i64 e_kind,.string e_data]) rfl rfl
 refine st_op (he9 _ _ _ _ _ _ _ _ _ rfl) rfl rfl rfl ?_
 have hx12:Ext H2 H8:=Ext.new (by omega) H8n_ f10
 have H8n:H2.next≤H8.next:=hx12.1
 obtain⟨b13,H14,he15,b13e,H14n_,hB17,f16⟩:=mem_alloc H8 zero51
 refine st_op (he15 _ _ _ _ _ _ _) rfl rfl rfl ?_
 have hx18:Ext H8 H14:=Ext.new (by omega) H14n_ f16
 have H14n:H8.next≤H14.next:=hx18.1
 refine st_op (ev_assign rfl) rfl rfl rfl ?_
 iterate 2 refine aw_seq ?_
 refine aw_marks (fun b=>b<H14.next) [(false,false),(false,false),(false,false),(false,false),(false,false),(false,false),(false,false),(false,false),(true,false),(false,false),(false,true),(false,false),(false,false),(false,false)] mixed (by kernel_rfl) (by kernel_rfl) ?_
 refine sm_op (ev_fieldAddr rfl fa54_0 (o':=0) rfl) rfl rfl rfl ?_
 have h19:=Ext.blk hx18 (by omega) hB11
 refine sm_op (ev_load rfl (lvar_one one2 h19 rfl)) rfl rfl rfl ?_
 refine sm_op (ev_fieldAddr rfl fa51_1 (o':=2) rfl) rfl rfl rfl ?_
 refine sm_op (ev_fieldAddr rfl fa46_0 (o':=2) rfl) rfl rfl rfl ?_
 have hx21:Ext H2 H14:=(Ext.trans hx12 hx18)
 have h20:=Ext.blk hx21 (by omega) hB5
 refine sm_op (ev_load rfl (lvar_one one2 h20 rfl)) rfl rfl rfl ?_
 refine sm_op (ev_int rfl rfl rfl) rfl rfl rfl ?_
 refine sm_op (ev_move rfl) rfl rfl rfl ?_
 refine sm_bool 13 rfl (fun hb22=>?_) (fun hb22=>?_)
 ·
  have hb22:=of_decide_eq_true hb22
  iterate 6 refine sm_skip rfl rfl rfl ?_
  refine sm_op (ev_pickT rfl rfl) rfl rfl rfl ?_
  refine aw_cond (t:=true) rfl ?_
  refine aw_seq ?_
  refine aw_reg ?_
  refine st_op (ev_load rfl (lvar_part (l := [.int .i64 s_ht,.int .i64 s_hv,.int .i64 s_si,.int .i64 s_st,.string s_sc,.string s_sd,.slice s_lA s_l.length s_lc]) many51 h20 rfl rfl (by decide))) rfl rfl rfl ?_
  obtain⟨H23,he24,H23n_,hB25,f26⟩:=mem_store (v := .agg #[.int .i64 s_ht,.int .i64 s_hv,.int .i64 s_si,.int .i64 s_st,.string s_sc,.string s_sd,.slice s_lA s_l.length s_lc]) (o:=0) (cs' := [.int .i64 s_ht,.int .i64 s_hv,.int .i64 s_si,.int .i64 s_st,.string s_sc,.string s_sd,.slice s_lA s_l.length s_lc]) 7 rfl rfl size51 hB17 rfl rfl rfl
  refine st_op0 (he24 _ _ _ _ _ _ _ _ _ rfl rfl) rfl rfl ?_
  have hf27:Fr (fun q=>q=b13) H14 H23:=Fr.write H23n_ f26
  have H23n:H14.next≤H23.next:=hf27.1
  refine st_op (ev_assign rfl) rfl rfl rfl ?_
  refine aw_ret ?_
  exfalso;omega
 ·
  have hb22:=of_decide_eq_false hb22
  refine sm_op (ev_fieldAddr rfl fa54_0 (o':=0) rfl) rfl rfl rfl ?_
  refine sm_read (ev_load rfl (lvar_one one2 h19 rfl)) rfl rfl rfl (fun b hb=>by cases hb;dsimp only <;> omega) ?_
  refine sm_op (ev_load rfl (lvar_part (l := [.int .i64 s_ht,.int .i64 s_hv,.int .i64 s_si,.int .i64 s_st,.string s_sc,.string s_sd,.slice s_lA s_l.length s_lc]) many51 h20 rfl rfl (by decide))) rfl rfl rfl ?_
  refine sm_call rfl rfl rfl ent41 rfl rfl rfl ?_
  have hx29:Ext H H14:=(Ext.trans (Ext.trans hx6 hx12) hx18)
  have h28:=Row.ext hs_l hx29
  obtain⟨_,H31,hs30,hs30v,hx32⟩:=ref17_Last_spec H14 s_ht s_hv s_si ⟨by omega,by omega⟩ s_st s_sc s_sd s_lA s_l s_lc h28 cs_l (by omega)
  rw[hs30v] at hs30;clear hs30v
  refine⟨_,H31,hs30,(fun _ b hb=>hx32.2 b (by omega)),?_⟩
  have H31n:H14.next≤H31.next:=hx32.1
  refine sm_op (ev_int64 (c:=(s_si+(s_l.length:Int))+1) rfl rfl rfl (by omega) (by omega)) rfl rfl rfl ?_
  refine sm_op (ev_int rfl rfl rfl) rfl rfl rfl ?_
  refine sm_op (ev_pickF rfl rfl) rfl rfl rfl ?_
  by_cases hc33:(decide (e_index > (s_si+(s_l.length:Int))+1))=true
  ·
   refine aw_condT hc33 rfl ?_
   have hc33:=of_decide_eq_true hc33
   refine aw_seq ?_
   refine aw_reg ?_
   have h34:=Ext.blk hx32 (by omega) h20
   refine st_op (ev_load rfl (lvar_part (l := [.int .i64 s_ht,.int .i64 s_hv,.int .i64 s_si,.int .i64 s_st,.string s_sc,.string s_sd,.slice s_lA s_l.length s_lc]) many51 h34 rfl rfl (by decide))) rfl rfl rfl ?_
   have h35:=Ext.blk hx32 (by omega) hB17
   obtain⟨H36,he37,H36n_,hB38,f39⟩:=mem_store (v := .agg #[.int .i64 s_ht,.int .i64 s_hv,.int .i64 s_si,.int .i64 s_st,.string s_sc,.string s_sd,.slice s_lA s_l.length s_lc]) (o:=0) (cs' := [.int .i64 s_ht,.int .i64 s_hv,.int .i64 s_si,.int .i64 s_st,.string s_sc,.string s_sd,.slice s_lA s_l.length s_lc]) 7 rfl rfl size51 h35 rfl rfl rfl
   refine st_op0 (he37 _ _ _ _ _ _ _ _ _ rfl rfl) rfl rfl ?_
   have hf40:Fr (fun q=>q=b13) H31 H36:=Fr.write H36n_ f39
   have H36n:H31.next≤H36.next:=hf40.1
   refine st_op (ev_assign rfl) rfl rfl rfl ?_
   refine aw_ret ?_
   exfalso;omega
  ·
   rw[Bool.not_eq_true] at hc33;refine aw_condF hc33 rfl ?_
   have hc33:=of_decide_eq_false hc33
   refine aw_skip ?_
   refine aw_seq ?_
   refine aw_reg ?_
   refine st_op (ev_fieldAddr rfl fa54_0 (o':=0) rfl) rfl rfl rfl ?_
   have h41:=Ext.blk hx32 (by omega) h19
   refine st_op (ev_load rfl (lvar_one one2 h41 rfl)) rfl rfl rfl ?_
   refine st_op (ev_fieldAddr rfl fa51_1 (o':=2) rfl) rfl rfl rfl ?_
   refine st_op (ev_fieldAddr rfl fa46_0 (o':=2) rfl) rfl rfl rfl ?_
   have h42:=Ext.blk hx32 (by omega) h20
   refine st_op (ev_load rfl (lvar_one one2 h42 rfl)) rfl rfl rfl ?_
   refine st_op (ev_int64 (c:=e_index - s_si) rfl rfl rfl (by omega) (by omega)) rfl rfl rfl ?_
   refine st_op (ev_int64 (c:=(e_index - s_si) - 1) rfl rfl rfl (by omega) (by omega)) rfl rfl rfl ?_
   refine st_op (ev_assign rfl) rfl rfl rfl ?_
   refine aw_seq ?_
   refine aw_marksN (fun b=>b<H31.next) 10 [false,false,false,false,false,false,true,false,false,false] [(false,false,false),(true,false,false),(false,false,false),(true,false,false),(false,true,false),(true,false,false),(false,true,true),(false,false,false),(false,false,false),(false,false,false)] rfl mixed (by kernel_rfl) (by kernel_rfl) (fun base44 H43 base44e H43n hx45=>?_)
   have H43n:H31.next≤H43.next:=hx45.1
   refine sn_op (ev_fieldAddr rfl fa51_2 (o':=6) rfl) rfl rfl rfl rfl (fun h=>nomatch h) ?_
   have h46:=Ext.blk hx45 (by omega) h42
   refine sn_read 10 rfl (ev_load rfl (lvar_one one39 h46 rfl)) rfl rfl rfl (fun b hb=>by cases hb;dsimp only;exact⟨by omega,by omega⟩) (fun h=>nomatch h) ?_
   refine sn_op (ev_move rfl) rfl rfl rfl rfl (fun h=>nomatch h) ?_
   have hx56:Ext H14 H43:=(Ext.trans hx32 hx45)
   have h55:=Row.ext h28 hx56
   obtain⟨A47,c48,L49,hL50,hl51,hs52,hr53,hc54⟩:=sliceA_typed Entry.cells el39 (by decide) h55 cs_l (lo:=none) (hi:=some (.int .i64 ((e_index - s_si) - 1))) (l:=0) (h:=(((e_index - s_si) - 1)).toNat) (by rw[Option.isSome_some,if_pos rfl];exact bound_int (by omega) (by omega) (by first | rfl | omega)) rfl (by omega) (by omega)
   refine sn_read 10 rfl (ev_slice rfl rfl rfl rfl hs52) rfl rfl rfl (fun q hq=>have h9:q<H31.next:=(fun q hq=>Nat.lt_of_lt_of_le (rd_slice rfl rfl h28 hq) (by omega)) q hq;⟨h9,by omega⟩) (fun h=>nomatch h) ?_
   have hm57:My H43 H43 none 0 4 (([]:List Entry).map Entry.cells) := .nil
   obtain⟨A58,c59,H60,W61,he62,hm63,hf64⟩:=mem_append (f:=Entry.cells) (old:=([]:List Entry)) (new:=L49) (m:=0) (mx:=L49.length) (c:=0) (by first | rfl | simp) (by first | rfl | simp) eok39 (by decide) hm57 hm57 (by omega) ((hr53).srcF (by decide) (by first | rfl | simp)) rfl Entry.cells_len Entry.cells_one (by omega) (by omega)
   refine sn_op (he62 _ _ _ _ _ _ _ _ _ _ rfl rfl isrow39) rfl rfl rfl rfl (fun _=>fun q hq=>hf64.2 q (by omega) (fun e=>by omega)) ?_
   have H60n:H43.next≤H60.next:=hf64.1
   rw[List.nil_append] at hm63
   have hx66:Ext H31 H60:=(Ext.then hx45 hf64 (fun q hq e=>by omega))
   have h65:=Ext.blk hx66 (by omega) h41
   refine sn_read 10 rfl (ev_load rfl (lvar_part (l := [.int .i64 e_index,.int .i64 e_term,.int .i64 e_kind,.string e_data]) many54 h65 rfl rfl (by decide))) rfl rfl rfl (fun b hb=>by cases hb;dsimp only;exact⟨by omega,by omega⟩) (fun h=>nomatch h) ?_
   obtain⟨b67,b67e⟩:∃ b,base44+6=b:=⟨_,rfl⟩
   refine sn_lit (xs:=([.agg #[.int .i64 e_index,.int .i64 e_term,.int .i64 e_kind,.string e_data]]:List Value)) (m:=1) (rows := [[.int .i64 e_index,.int .i64 e_term,.int .i64 e_kind,.string e_data]]) b67 b67e rfl eok39 (by decide) (by decide) zf54 rfl (allLen rfl) rfl rfl rfl rfl rfl rfl (fun _ b (hb:b<H31.next)=>by omega) (fun H68 H68n_ hB70 f69=>?_)
   have hf72:Fr (fun q=>q=b67) H60 H68:=Fr.write H68n_ f69
   have H68n:H60.next≤H68.next:=hf72.1
   have hm71:My H31 H68 (some ⟨b67,0,none⟩) 1 4 ([(⟨e_index,e_term,e_kind,e_data⟩:Entry)].map Entry.cells):=my_make (by omega) (by omega) hB70 (allLen rfl) (.inr ⟨by decide,Nat.le_of_eq rfl,Nat.le_of_eq rfl⟩)
   have h73:=My.fr hm63 hf72 (fun q h1 h2 e=>by omega)
   obtain⟨A74,c75,H76,W77,he78,hm79,hf80⟩:=mem_append (f:=Entry.cells) (old:=L49) (new := [(⟨e_index,e_term,e_kind,e_data⟩:Entry)]) (m:=L49.length) (mx:=1) (c:=c59) (by first | rfl | simp) (by first | rfl | simp) eok39 (by decide) hm63 h73 (by omega) (((My.row hm71)).srcF (by decide) (by first | rfl | simp)) rfl Entry.cells_len Entry.cells_one (by first | omega | (simp only [List.length_append,List.length_cons,List.length_nil,List.length_map,List.length_set,List.length_replicate,Spec.bytesOf_length];omega) | (simp;omega)) (by first | omega | (simp only [List.length_append,List.length_cons,List.length_nil,List.length_map,List.length_set,List.length_replicate,Spec.bytesOf_length];omega) | (simp;omega))
   refine sn_op (he78 _ _ _ _ _ _ _ _ _ _ rfl rfl isrow39) rfl rfl rfl rfl (fun h=>nomatch h) ?_
   have H76n:H68.next≤H76.next:=hf80.1
   refine sn_op (ev_fieldAddr rfl fa51_2 (o':=6) rfl) rfl rfl rfl rfl (fun h=>nomatch h) ?_
   have hx82:Ext H31 H76:=(Ext.then (Ext.then hx66 hf72 (fun q hq e=>by omega)) hf80 (fun q hq e=>by omega))
   have h81:=Ext.blk hx82 (by omega) h42
   obtain⟨H83,he84,H83n_,hB85,f86⟩:=mem_store (v := .slice A74 ((L49 ++ [(⟨e_index,e_term,e_kind,e_data⟩:Entry)]).length) c75) (o:=6) (cs' := [.int .i64 s_ht,.int .i64 s_hv,.int .i64 s_si,.int .i64 s_st,.string s_sc,.string s_sd,.slice A74 ((L49 ++ [(⟨e_index,e_term,e_kind,e_data⟩:Entry)]).length) c75]) 1 rfl rfl size39 h81 rfl rfl rfl
   refine sn_op0 (he84 _ _ _ _ _ _ _ _ _ rfl rfl) rfl rfl rfl (fun h=>nomatch h) ?_
   have hf87:Fr (fun q=>q=b1) H76 H83:=Fr.write H83n_ f86
   have H83n:H76.next≤H83.next:=hf87.1
   refine aw_seq ?_
   refine aw_marks (fun b=>b<H83.next∧b≠b13) [(false,false),(false,false),(true,false),(false,false),(false,false),(false,true),(false,false)] mixed (by kernel_rfl) (by kernel_rfl) ?_
   refine sm_op (ev_load rfl (lvar_part (l := [.int .i64 s_ht,.int .i64 s_hv,.int .i64 s_si,.int .i64 s_st,.string s_sc,.string s_sd,.slice A74 ((L49 ++ [(⟨e_index,e_term,e_kind,e_data⟩:Entry)]).length) c75]) many51 hB85 rfl rfl (by decide))) rfl rfl rfl ?_
   refine sm_op (ev_fieldAddr rfl fa51_2 (o':=6) rfl) rfl rfl rfl ?_
   refine sm_read (ev_load rfl (lvar_one one39 hB85 rfl)) rfl rfl rfl (fun b hb=>by cases hb;dsimp only <;> omega) ?_
   refine sm_op (ev_lenSl rfl Try.underlying39) rfl rfl rfl ?_
   refine sm_op (ev_int rfl rfl rfl) rfl rfl rfl ?_
   have hx89:Ext H14 H76:=(Ext.then (Ext.then (Ext.then hx56 hf64 (fun q hq e=>by omega)) hf72 (fun q hq e=>by omega)) hf80 (fun q hq e=>by omega))
   have h88:=Ext.blk hx89 (by omega) hB17
   have h90:=Fr.blk hf87 (by omega) (fun e=>(by omega)) h88
   obtain⟨H91,he92,H91n_,hB93,f94⟩:=mem_store (v := .agg #[.int .i64 s_ht,.int .i64 s_hv,.int .i64 s_si,.int .i64 s_st,.string s_sc,.string s_sd,.slice A74 ((L49 ++ [(⟨e_index,e_term,e_kind,e_data⟩:Entry)]).length) c75]) (o:=0) (cs' := [.int .i64 s_ht,.int .i64 s_hv,.int .i64 s_si,.int .i64 s_st,.string s_sc,.string s_sd,.slice A74 ((L49 ++ [(⟨e_index,e_term,e_kind,e_data⟩:Entry)]).length) c75]) 7 rfl rfl size51 h90 rfl rfl rfl
   refine sm_act0 (he92 _ _ _ _ _ _ _ _ _ rfl rfl) rfl rfl (fun q hq=>f94 q (by omega)) ?_
   have hf95:Fr (fun q=>q=b13) H83 H91:=Fr.write H91n_ f94
   have H91n:H83.next≤H91.next:=hf95.1
   refine sm_op (ev_assign rfl) rfl rfl rfl ?_
   refine aw_ret ?_
   have h96:=My.frS hm79 hf87 (fun q hq e=>⟨_,e ▸ h81,show(0:Nat)≠4 by decide⟩)
   have h97:=My.frS h96 hf95 (fun q hq e=>⟨_,e ▸ h90,show(0:Nat)≠4 by decide⟩)
   have hx98:Ext H H91:=(Ext.then (Ext.then (Ext.then (Ext.then (Ext.then (Ext.trans (Ext.trans hx29 hx32) hx45) hf64 (fun q hq e=>by omega)) hf72 (fun q hq e=>by omega)) hf80 (fun q hq e=>by omega)) hf87 (fun q hq e=>by omega)) hf95 (fun q hq e=>by omega))
   have hres:((Spec.putR s_si s_l e_index e_term e_kind e_data).2,(Spec.putR s_si s_l e_index e_term e_kind e_data).1)=((L49 ++ [(⟨e_index,e_term,e_kind,e_data⟩:Entry)]),(decide (((L49 ++ [(⟨e_index,e_term,e_kind,e_data⟩:Entry)]).length:Int)≤200))):=by rw[Spec.putR_ok (by omega),hL50];first | (simp;done) | (simp;omega)
   have he0:(Spec.putR s_si s_l e_index e_term e_kind e_data).2=(L49 ++ [(⟨e_index,e_term,e_kind,e_data⟩:Entry)]):=congrArg (fun p=>p.1) hres
   have he1:(Spec.putR s_si s_l e_index e_term e_kind e_data).1=(decide (((L49 ++ [(⟨e_index,e_term,e_kind,e_data⟩:Entry)]).length:Int)≤200)):=congrArg (fun p=>p.2) hres
   exact⟨.tuple #[.agg #[.int .i64 s_ht,.int .i64 s_hv,.int .i64 s_si,.int .i64 s_st,.string s_sc,.string s_sd,.slice A74 ((L49 ++ [(⟨e_index,e_term,e_kind,e_data⟩:Entry)]).length) c75],.bool (decide (((L49 ++ [(⟨e_index,e_term,e_kind,e_data⟩:Entry)]).length:Int)≤200))],(resA_of (resL_cell rfl (lvar_part (l := [.int .i64 s_ht,.int .i64 s_hv,.int .i64 s_si,.int .i64 s_st,.string s_sc,.string s_sd,.slice A74 ((L49 ++ [(⟨e_index,e_term,e_kind,e_data⟩:Entry)]).length) c75]) many51 hB93 rfl rfl (by decide)) (resL_tmp rfl resL_nil)) rfl),A74,c75,by first | rfl | (simp only [he0,he1];done) | (rw[he0];done) | (rw[he1];done),(by first | exact(My.older h97 (by omega)) | (rw[he0];exact(My.older h97 (by omega))) | (rw[he1];exact(My.older h97 (by omega))) | (rw[he0,he1];exact(My.older h97 (by omega)))),(by exact Spec.putR_len),hx98⟩
set_option maxHeartbeats 1600000 in
theorem ref17_Write_spec (H:Heap) (s_ht:Int) (s_hv:Int) (s_si:Int) (hs_si:0≤s_si∧s_si≤1099511627776) (s_st:Int) (s_sc:ByteArray) (s_sd:ByteArray) (s_lA:Option Addr) (s_l:List Entry) (s_lc:Nat) (hs_l:Row H s_lA s_lc 4 (s_l.map Entry.cells)) (cs_l:s_l.length≤s_lc) (ls_l:s_l.length≤1000) (wA:Option Addr) (w:List Entry) (wc:Nat) (hw:Row H wA wc 4 (w.map Entry.cells)) (cw:w.length≤wc) (lw:w.length≤1000):∃ v H',Spec Try.prog 21 [.agg #[.int .i64 s_ht,.int .i64 s_hv,.int .i64 s_si,.int .i64 s_st,.string s_sc,.string s_sd,.slice s_lA s_l.length s_lc],.slice wA w.length wc] H v H'∧(∃ rA6 rc6,(v = .tuple #[.agg #[.int .i64 s_ht,.int .i64 s_hv,.int .i64 s_si,.int .i64 s_st,.string s_sc,.string s_sd,.slice rA6 (((Spec.refW s_si s_l w).2).length) rc6],.int .i64 ((Spec.refW s_si s_l w).1)])∧(Row H' rA6 rc6 4 (((Spec.refW s_si s_l w).2).map Entry.cells))∧(((Spec.refW s_si s_l w).2).length≤rc6)∧(Ext H H')):=by
 refine spec_go2 E0_ok 81 (f:=21) Try.func21 rfl rfl rfl ?_
 refine aw_seq ?_
 refine aw_reg ?_
 obtain⟨b1,H2,he3,b1e,H2n_,hB5,f4⟩:=mem_box (P:=Try.prog) H (v := .agg #[.int .i64 s_ht,.int .i64 s_hv,.int .i64 s_si,.int .i64 s_st,.string s_sc,.string s_sd,.slice s_lA s_l.length s_lc]) (cs := [.int .i64 s_ht,.int .i64 s_hv,.int .i64 s_si,.int .i64 s_st,.string s_sc,.string s_sd,.slice s_lA s_l.length s_lc]) rfl rfl
 refine st_op (he3 _ _ _ _ _ _ _ _ _ rfl) rfl rfl rfl ?_
 have hx6:Ext H H2:=Ext.new (by omega) H2n_ f4
 have H2n:H.next≤H2.next:=hx6.1
 obtain⟨b7,H8,he9,b7e,H8n_,hB11,f10⟩:=mem_alloc H2 zero51
 refine st_op (he9 _ _ _ _ _ _ _) rfl rfl rfl ?_
 have hx12:Ext H2 H8:=Ext.new (by omega) H8n_ f10
 have H8n:H2.next≤H8.next:=hx12.1
 refine st_op (ev_assign rfl) rfl rfl rfl ?_
 refine aw_seq ?_
 refine aw_reg ?_
 have h13:=Ext.blk hx12 (by omega) hB5
 refine st_op (ev_load rfl (lvar_part (l := [.int .i64 s_ht,.int .i64 s_hv,.int .i64 s_si,.int .i64 s_st,.string s_sc,.string s_sd,.slice s_lA s_l.length s_lc]) many51 h13 rfl rfl (by decide))) rfl rfl rfl ?_
 obtain⟨b14,H15,he16,b14e,H15n_,hB18,f17⟩:=mem_alloc H8 zero51
 refine st_op (he16 _ _ _ _ _ _ _) rfl rfl rfl ?_
 have hx19:Ext H8 H15:=Ext.new (by omega) H15n_ f17
 have H15n:H8.next≤H15.next:=hx19.1
 obtain⟨H20,he21,H20n_,hB22,f23⟩:=mem_store (v := .agg #[.int .i64 s_ht,.int .i64 s_hv,.int .i64 s_si,.int .i64 s_st,.string s_sc,.string s_sd,.slice s_lA s_l.length s_lc]) (o:=0) (cs' := [.int .i64 s_ht,.int .i64 s_hv,.int .i64 s_si,.int .i64 s_st,.string s_sc,.string s_sd,.slice s_lA s_l.length s_lc]) 7 rfl rfl size51 hB18 rfl rfl rfl
 refine st_op0 (he21 _ _ _ _ _ _ _ _ _ rfl rfl) rfl rfl ?_
 have hf24:Fr (fun q=>q=b14) H15 H20:=Fr.write H20n_ f23
 have H20n:H15.next≤H20.next:=hf24.1
 iterate 2 refine aw_seq ?_
 refine aw_reg ?_
 refine st_op (ev_assign rfl) rfl rfl rfl ?_
 refine aw_block ?_
 have hx29:Ext H H20:=(Ext.then (Ext.trans (Ext.trans hx6 hx12) hx19) hf24 (fun q hq e=>by omega))
 have h28:=Row.ext hs_l hx29
 refine aw_keep [1,2,4,6,7] (l':=(.cons 1 (.slice wA w.length wc) (.cons 2 (.pointer (some ⟨b1,0,none⟩)) (.cons 4 (.pointer (some ⟨b7,0,none⟩)) (.cons 6 (.pointer (some ⟨b14,0,none⟩)) (.cons 7 (.int .i64 0) .nil)))))) (by repeat (first | exact Up.done | refine Up.then ?_ | refine Up.inBlock ?_)) rfl ?_
 refine aw_iter (α:=Nat×Option Addr×Nat×List Entry×Option Int×Heap) (fun a=>w.length - a.1) (fun a=>(.cons 1 (.slice wA w.length wc) (.cons 2 (.pointer (some ⟨b1,0,none⟩)) (.cons 4 (.pointer (some ⟨b7,0,none⟩)) (.cons 6 (.pointer (some ⟨b14,0,none⟩)) (.cons 7 (.int .i64 (a.1:Int)) .nil)))))) (fun a=>a.2.2.2.2.2) (fun a=>(a.1≤w.length)∧(Spec.refW s_si s_l w=Spec.refGo s_si s_l a.2.2.2.1 a.2.2.2.2.1 (w.drop a.1))∧(a.2.2.2.2.1=Spec.prevO w a.1)∧(∀ e,w[a.1 - 1]?=some e→0=a.1∨(1≤e.index∧e.index≤1099511627776))∧(a.2.2.2.1.length≤1000+a.1)∧(Row a.2.2.2.2.2 a.2.1 a.2.2.1 4 (a.2.2.2.1.map Entry.cells))∧(a.2.2.2.1.length≤a.2.2.1)∧(a.2.2.2.2.2.blk b14=some ⟨[.int .i64 s_ht,.int .i64 s_hv,.int .i64 s_si,.int .i64 s_st,.string s_sc,.string s_sd,.slice a.2.1 a.2.2.2.1.length a.2.2.1],0,false,false⟩)∧(Fr (fun q=>q=b14) H20 a.2.2.2.2.2)) (0,s_lA,s_lc,s_l,none,H20) ⟨(show 0≤w.length from Nat.zero_le _),(show Spec.refW s_si s_l w=Spec.refGo s_si s_l s_l none (w.drop 0) from rfl),(show none=Spec.prevO w 0 from rfl),(show ∀ e,w[0 - 1]?=some e→0=0∨(1≤e.index∧e.index≤1099511627776) from(fun e _ => .inl rfl)),(show s_l.length≤1000+0 from(by omega)),(show Row H20 s_lA s_lc 4 (s_l.map Entry.cells) from h28),(show s_l.length≤s_lc from cs_l),(show H20.blk b14=some ⟨[.int .i64 s_ht,.int .i64 s_hv,.int .i64 s_si,.int .i64 s_st,.string s_sc,.string s_sd,.slice s_lA s_l.length s_lc],0,false,false⟩ from hB22),(show Fr (fun q=>q=b14) H20 H20 from(Fr.refl _ H20))⟩ ?_
 rintro⟨i,xA,xc,xl,pi,Hl25⟩ ⟨hi,hW,hpi,hpv,hxl,hr26,hr27,hB30,hxl31⟩ ih32
 replace hi:i≤w.length:=hi
 replace hW:Spec.refW s_si s_l w=Spec.refGo s_si s_l xl pi (w.drop i):=hW
 replace hpi:pi=Spec.prevO w i:=hpi
 replace hpv:∀ e,w[i - 1]?=some e→0=i∨(1≤e.index∧e.index≤1099511627776):=hpv
 replace hxl:xl.length≤1000+i:=hxl
 replace hr26:Row Hl25 xA xc 4 (xl.map Entry.cells):=hr26
 replace hr27:xl.length≤xc:=hr27
 replace hB30:Hl25.blk b14=some ⟨[.int .i64 s_ht,.int .i64 s_hv,.int .i64 s_si,.int .i64 s_st,.string s_sc,.string s_sd,.slice xA xl.length xc],0,false,false⟩:=hB30
 replace hxl31:Fr (fun q=>q=b14) H20 Hl25:=hxl31
 show aw _ _ _ (RL _ (.cons 1 (.slice wA w.length wc) (.cons 2 (.pointer (some ⟨b1,0,none⟩)) (.cons 4 (.pointer (some ⟨b7,0,none⟩)) (.cons 6 (.pointer (some ⟨b14,0,none⟩)) (.cons 7 (.int .i64 (i:Int)) .nil)))))) Hl25 _
 have Hl25n:H20.next≤Hl25.next:=hxl31.1
 iterate 2 refine aw_seq ?_
 refine aw_reg ?_
 iterate 2 refine st_op (ev_move rfl) rfl rfl rfl ?_
 refine st_op (ev_lenSl rfl Try.underlying39) rfl rfl rfl ?_
 refine st_op (ev_int rfl rfl rfl) rfl rfl rfl ?_
 by_cases hc33:(decide ((i:Int)<(w.length:Int)))=true
 ·
  refine aw_condT hc33 rfl ?_
  have hc33:=of_decide_eq_true hc33
  refine aw_skip ?_
  refine aw_seq ?_
  refine aw_block ?_
  iterate 2 refine aw_seq ?_
  refine aw_marks (fun b=>b<Hl25.next) [(false,false),(false,false),(false,false),(false,false),(false,false),(false,false),(false,false),(false,false),(false,false),(false,false),(false,false),(false,false),(false,false),(false,false),(false,false),(false,false),(false,false),(false,false),(false,false),(false,false),(false,false),(false,false),(false,false),(false,false),(false,false),(false,false),(false,false),(false,false),(false,false),(false,false),(false,false),(false,false),(false,false),(false,false),(false,false),(false,false),(false,false),(false,false),(false,false),(false,false),(false,false),(true,false),(false,false),(false,true),(false,false),(false,false),(false,false)] mixed (by kernel_rfl) (by kernel_rfl) ?_
  iterate 2 refine sm_op (ev_move rfl) rfl rfl rfl ?_
  have hx35:Ext H Hl25:=(Ext.then hx29 hxl31 (fun q hq e=>by omega))
  have h34:=Row.ext hw hx35
  have hi36:0≤((i:Int):Int):=by omega
  have hi37:((i:Int):Int)<((w.length:Nat):Int):=by omega
  obtain⟨x38,hx39⟩:∃ e,w[i]?=some e:=⟨_,List.getElem?_eq_getElem (by omega)⟩
  refine sm_op (ev_at rfl rfl h34 (getMap Entry.cells hx39) (by first | rfl | omega | simp) hi36 hi37 el39) rfl rfl rfl ?_
  refine sm_op (ev_atN (cs := [.int .i64 x38.index,.int .i64 x38.term,.int .i64 x38.kind,.string x38.data]) rfl h34 (getMap Entry.cells hx39) many54 rfl rfl (by decide)) rfl rfl rfl ?_
  refine sm_call rfl rfl rfl ent40 rfl rfl rfl ?_
  obtain⟨_,H41,hs40,hs40v,hx42⟩:=ref17_MayEntry_spec Hl25 x38.index x38.term x38.kind x38.data
  rw[hs40v] at hs40;clear hs40v
  refine⟨_,H41,hs40,(fun h=>nomatch h),?_⟩
  have H41n:Hl25.next≤H41.next:=hx42.1
  refine sm_op (ev_not rfl) rfl rfl rfl ?_
  refine sm_op (ev_move rfl) rfl rfl rfl ?_
  refine sm_bool 23 rfl (fun hb43=>?_) (fun hb43=>?_)
  ·
   replace hb43:(Spec.mayF false 0 0 x38.index x38.term x38.kind x38.data)=false:=by rw[Bool.not_eq_true'] at hb43;exact hb43
   iterate 17 refine sm_skip rfl rfl rfl ?_
   refine sm_op (ev_pickT rfl rfl) rfl rfl rfl ?_
   refine sm_op (ev_move rfl) rfl rfl rfl ?_
   iterate 9 refine sm_skip rfl rfl rfl ?_
   refine sm_op (ev_pickT rfl rfl) rfl rfl rfl ?_
   refine sm_op (ev_move rfl) rfl rfl rfl ?_
   iterate 9 refine sm_skip rfl rfl rfl ?_
   refine sm_op (ev_pickT rfl rfl) rfl rfl rfl ?_
   refine aw_cond (t:=true) rfl ?_
   refine aw_seq ?_
   refine aw_reg ?_
   have hx45:Ext H8 H41:=(Ext.trans (Ext.then (Ext.then hx19 hf24 (fun q hq e=>by omega)) hxl31 (fun q hq e=>by omega)) hx42)
   have h44:=Ext.blk hx45 (by omega) h13
   refine st_op (ev_load rfl (lvar_part (l := [.int .i64 s_ht,.int .i64 s_hv,.int .i64 s_si,.int .i64 s_st,.string s_sc,.string s_sd,.slice s_lA s_l.length s_lc]) many51 h44 rfl rfl (by decide))) rfl rfl rfl ?_
   have h46:=Ext.blk hx45 (by omega) hB11
   obtain⟨H47,he48,H47n_,hB49,f50⟩:=mem_store (v := .agg #[.int .i64 s_ht,.int .i64 s_hv,.int .i64 s_si,.int .i64 s_st,.string s_sc,.string s_sd,.slice s_lA s_l.length s_lc]) (o:=0) (cs' := [.int .i64 s_ht,.int .i64 s_hv,.int .i64 s_si,.int .i64 s_st,.string s_sc,.string s_sd,.slice s_lA s_l.length s_lc]) 7 rfl rfl size51 h46 rfl rfl rfl
   refine st_op0 (he48 _ _ _ _ _ _ _ _ _ rfl rfl) rfl rfl ?_
   have hf51:Fr (fun q=>q=b7) H41 H47:=Fr.write H47n_ f50
   have H47n:H41.next≤H47.next:=hf51.1
   refine st_op (ev_assign rfl) rfl rfl rfl ?_
   refine aw_ret ?_
   have hx53:Ext H H47:=(Ext.then (Ext.trans hx35 hx42) hf51 (fun q hq e=>by omega))
   have h52:=Row.ext hs_l hx53
   have hres:((Spec.refW s_si s_l w).2,(Spec.refW s_si s_l w).1)=(s_l,1):=by rw[hW,Spec.refGo_bad hx39 (.inl hb43)]
   have he0:(Spec.refW s_si s_l w).2=s_l:=congrArg (fun p=>p.1) hres
   have he1:(Spec.refW s_si s_l w).1=1:=congrArg (fun p=>p.2) hres
   exact⟨.tuple #[.agg #[.int .i64 s_ht,.int .i64 s_hv,.int .i64 s_si,.int .i64 s_st,.string s_sc,.string s_sd,.slice s_lA s_l.length s_lc],.int .i64 1],(resA_of (resL_cell rfl (lvar_part (l := [.int .i64 s_ht,.int .i64 s_hv,.int .i64 s_si,.int .i64 s_st,.string s_sc,.string s_sd,.slice s_lA s_l.length s_lc]) many51 hB49 rfl rfl (by decide)) (resL_tmp rfl resL_nil)) rfl),s_lA,s_lc,by first | rfl | (simp only [he0,he1];done) | (rw[he0];done) | (rw[he1];done),(by first | exact h52 | (rw[he0];exact h52) | (rw[he1];exact h52) | (rw[he0,he1];exact h52)),(by first | exact cs_l | (rw[he0];exact cs_l) | (rw[he1];exact cs_l) | (rw[he0,he1];exact cs_l)),hx53⟩
  ·
   replace hb43:(Spec.mayF false 0 0 x38.index x38.term x38.kind x38.data)=true:=by rw[Bool.not_eq_false'] at hb43;exact hb43
   have hb43m:=Spec.may_says hb43
   have hb43r:=Spec.mayE_rng hb43
   refine sm_op (ev_move rfl) rfl rfl rfl ?_
   refine sm_op (ev_int rfl rfl rfl) rfl rfl rfl ?_
   refine sm_op (ev_move rfl) rfl rfl rfl ?_
   refine sm_bool 26 rfl (fun hb54=>?_) (fun hb54=>?_)
   ·
    have hb54:=of_decide_eq_true hb54
    iterate 2 refine sm_op (ev_move rfl) rfl rfl rfl ?_
    have h55:=Row.ext h34 hx42
    have hi56:0≤((i:Int):Int):=by omega
    have hi57:((i:Int):Int)<((w.length:Nat):Int):=by omega
    refine sm_op (ev_at rfl rfl h55 (getMap Entry.cells hx39) (by first | rfl | omega | simp) hi56 hi57 el39) rfl rfl rfl ?_
    refine sm_op (ev_atF rfl h55 (getMap Entry.cells hx39) fa54_0 rfl) rfl rfl rfl ?_
    refine sm_op (ev_atL rfl h55 (getMap Entry.cells hx39) one2 rfl) rfl rfl rfl ?_
    iterate 2 refine sm_op (ev_move rfl) rfl rfl rfl ?_
    refine sm_op (ev_int64 (c:=(i:Int) - 1) rfl rfl rfl (by omega) (by omega)) rfl rfl rfl ?_
    have hi58:0≤((i:Int) - 1:Int):=by omega
    have hi59:((i:Int) - 1:Int)<((w.length:Nat):Int):=by omega
    obtain⟨x60,hx61⟩:∃ e,w[(((i:Int) - 1)).toNat]?=some e:=⟨_,List.getElem?_eq_getElem (by omega)⟩
    have x60p:=hpv x60 (by rw[show i - 1=(((i:Int) - 1)).toNat by omega];exact hx61)
    refine sm_op (ev_at rfl rfl h55 (getMap Entry.cells hx61) (by first | rfl | omega | simp) hi58 hi59 el39) rfl rfl rfl ?_
    refine sm_op (ev_atF rfl h55 (getMap Entry.cells hx61) fa54_0 rfl) rfl rfl rfl ?_
    refine sm_op (ev_atL rfl h55 (getMap Entry.cells hx61) one2 rfl) rfl rfl rfl ?_
    refine sm_op (ev_int64 (c:=x60.index+1) rfl rfl rfl (by omega) (by omega)) rfl rfl rfl ?_
    refine sm_op (ev_int rfl rfl rfl) rfl rfl rfl ?_
    refine sm_op (ev_pickT rfl rfl) rfl rfl rfl ?_
    refine sm_op (ev_pickF rfl rfl) rfl rfl rfl ?_
    refine sm_op (ev_move rfl) rfl rfl rfl ?_
    refine sm_bool 42 rfl (fun hb62=>?_) (fun hb62=>?_)
    ·
     have hb62:¬ (x38.index=x60.index+1):=by simpa using hb62
     iterate 9 refine sm_skip rfl rfl rfl ?_
     refine sm_op (ev_pickT rfl rfl) rfl rfl rfl ?_
     refine sm_op (ev_move rfl) rfl rfl rfl ?_
     iterate 9 refine sm_skip rfl rfl rfl ?_
     refine sm_op (ev_pickT rfl rfl) rfl rfl rfl ?_
     refine aw_cond (t:=true) rfl ?_
     refine aw_seq ?_
     refine aw_reg ?_
     have hx64:Ext H8 H41:=(Ext.trans (Ext.then (Ext.then hx19 hf24 (fun q hq e=>by omega)) hxl31 (fun q hq e=>by omega)) hx42)
     have h63:=Ext.blk hx64 (by omega) h13
     refine st_op (ev_load rfl (lvar_part (l := [.int .i64 s_ht,.int .i64 s_hv,.int .i64 s_si,.int .i64 s_st,.string s_sc,.string s_sd,.slice s_lA s_l.length s_lc]) many51 h63 rfl rfl (by decide))) rfl rfl rfl ?_
     have h65:=Ext.blk hx64 (by omega) hB11
     obtain⟨H66,he67,H66n_,hB68,f69⟩:=mem_store (v := .agg #[.int .i64 s_ht,.int .i64 s_hv,.int .i64 s_si,.int .i64 s_st,.string s_sc,.string s_sd,.slice s_lA s_l.length s_lc]) (o:=0) (cs' := [.int .i64 s_ht,.int .i64 s_hv,.int .i64 s_si,.int .i64 s_st,.string s_sc,.string s_sd,.slice s_lA s_l.length s_lc]) 7 rfl rfl size51 h65 rfl rfl rfl
     refine st_op0 (he67 _ _ _ _ _ _ _ _ _ rfl rfl) rfl rfl ?_
     have hf70:Fr (fun q=>q=b7) H41 H66:=Fr.write H66n_ f69
     have H66n:H41.next≤H66.next:=hf70.1
     refine st_op (ev_assign rfl) rfl rfl rfl ?_
     refine aw_ret ?_
     have hx72:Ext H H66:=(Ext.then (Ext.trans hx35 hx42) hf70 (fun q hq e=>by omega))
     have h71:=Row.ext hs_l hx72
     have hres:((Spec.refW s_si s_l w).2,(Spec.refW s_si s_l w).1)=(s_l,1):=by rw[hW,Spec.refGo_bad hx39 ((by first | exact .inr (.inr (.inl (by omega))) | exact .inr (.inr (.inr (by omega))) | exact .inr (.inl ⟨_,by rw[hpi,Spec.prevO_at hx61 (by omega) (by omega)],by omega⟩)))]
     have he0:(Spec.refW s_si s_l w).2=s_l:=congrArg (fun p=>p.1) hres
     have he1:(Spec.refW s_si s_l w).1=1:=congrArg (fun p=>p.2) hres
     exact⟨.tuple #[.agg #[.int .i64 s_ht,.int .i64 s_hv,.int .i64 s_si,.int .i64 s_st,.string s_sc,.string s_sd,.slice s_lA s_l.length s_lc],.int .i64 1],(resA_of (resL_cell rfl (lvar_part (l := [.int .i64 s_ht,.int .i64 s_hv,.int .i64 s_si,.int .i64 s_st,.string s_sc,.string s_sd,.slice s_lA s_l.length s_lc]) many51 hB68 rfl rfl (by decide)) (resL_tmp rfl resL_nil)) rfl),s_lA,s_lc,by first | rfl | (simp only [he0,he1];done) | (rw[he0];done) | (rw[he1];done),(by first | exact h71 | (rw[he0];exact h71) | (rw[he1];exact h71) | (rw[he0,he1];exact h71)),(by first | exact cs_l | (rw[he0];exact cs_l) | (rw[he1];exact cs_l) | (rw[he0,he1];exact cs_l)),hx72⟩
    ·
     have hb62:(x38.index=x60.index+1):=by simpa using hb62
     iterate 2 refine sm_op (ev_move rfl) rfl rfl rfl ?_
     have hi73:0≤((i:Int):Int):=by omega
     have hi74:((i:Int):Int)<((w.length:Nat):Int):=by omega
     refine sm_op (ev_at rfl rfl h55 (getMap Entry.cells hx39) (by first | rfl | omega | simp) hi73 hi74 el39) rfl rfl rfl ?_
     refine sm_op (ev_atF rfl h55 (getMap Entry.cells hx39) fa54_0 rfl) rfl rfl rfl ?_
     refine sm_op (ev_atL rfl h55 (getMap Entry.cells hx39) one2 rfl) rfl rfl rfl ?_
     refine sm_op (ev_fieldAddr rfl fa51_1 (o':=2) rfl) rfl rfl rfl ?_
     refine sm_op (ev_fieldAddr rfl fa46_0 (o':=2) rfl) rfl rfl rfl ?_
     have h75:=Ext.blk hx42 (by omega) hB30
     refine sm_op (ev_load rfl (lvar_one one2 h75 rfl)) rfl rfl rfl ?_
     refine sm_op (ev_int rfl rfl rfl) rfl rfl rfl ?_
     refine sm_op (ev_pickF rfl rfl) rfl rfl rfl ?_
     refine sm_op (ev_move rfl) rfl rfl rfl ?_
     refine sm_bool 53 rfl (fun hb76=>?_) (fun hb76=>?_)
     ·
      have hb76:=of_decide_eq_true hb76
      iterate 9 refine sm_skip rfl rfl rfl ?_
      refine sm_op (ev_pickT rfl rfl) rfl rfl rfl ?_
      refine aw_cond (t:=true) rfl ?_
      refine aw_seq ?_
      refine aw_reg ?_
      have hx78:Ext H8 H41:=(Ext.trans (Ext.then (Ext.then hx19 hf24 (fun q hq e=>by omega)) hxl31 (fun q hq e=>by omega)) hx42)
      have h77:=Ext.blk hx78 (by omega) h13
      refine st_op (ev_load rfl (lvar_part (l := [.int .i64 s_ht,.int .i64 s_hv,.int .i64 s_si,.int .i64 s_st,.string s_sc,.string s_sd,.slice s_lA s_l.length s_lc]) many51 h77 rfl rfl (by decide))) rfl rfl rfl ?_
      have h79:=Ext.blk hx78 (by omega) hB11
      obtain⟨H80,he81,H80n_,hB82,f83⟩:=mem_store (v := .agg #[.int .i64 s_ht,.int .i64 s_hv,.int .i64 s_si,.int .i64 s_st,.string s_sc,.string s_sd,.slice s_lA s_l.length s_lc]) (o:=0) (cs' := [.int .i64 s_ht,.int .i64 s_hv,.int .i64 s_si,.int .i64 s_st,.string s_sc,.string s_sd,.slice s_lA s_l.length s_lc]) 7 rfl rfl size51 h79 rfl rfl rfl
      refine st_op0 (he81 _ _ _ _ _ _ _ _ _ rfl rfl) rfl rfl ?_
      have hf84:Fr (fun q=>q=b7) H41 H80:=Fr.write H80n_ f83
      have H80n:H41.next≤H80.next:=hf84.1
      refine st_op (ev_assign rfl) rfl rfl rfl ?_
      refine aw_ret ?_
      have hx86:Ext H H80:=(Ext.then (Ext.trans hx35 hx42) hf84 (fun q hq e=>by omega))
      have h85:=Row.ext hs_l hx86
      have hres:((Spec.refW s_si s_l w).2,(Spec.refW s_si s_l w).1)=(s_l,1):=by rw[hW,Spec.refGo_bad hx39 ((by first | exact .inr (.inr (.inl (by omega))) | exact .inr (.inr (.inr (by omega))) | exact .inr (.inl ⟨_,by rw[hpi,Spec.prevO_at hx61 (by omega) (by omega)],by omega⟩)))]
      have he0:(Spec.refW s_si s_l w).2=s_l:=congrArg (fun p=>p.1) hres
      have he1:(Spec.refW s_si s_l w).1=1:=congrArg (fun p=>p.2) hres
      exact⟨.tuple #[.agg #[.int .i64 s_ht,.int .i64 s_hv,.int .i64 s_si,.int .i64 s_st,.string s_sc,.string s_sd,.slice s_lA s_l.length s_lc],.int .i64 1],(resA_of (resL_cell rfl (lvar_part (l := [.int .i64 s_ht,.int .i64 s_hv,.int .i64 s_si,.int .i64 s_st,.string s_sc,.string s_sd,.slice s_lA s_l.length s_lc]) many51 hB82 rfl rfl (by decide)) (resL_tmp rfl resL_nil)) rfl),s_lA,s_lc,by first | rfl | (simp only [he0,he1];done) | (rw[he0];done) | (rw[he1];done),(by first | exact h85 | (rw[he0];exact h85) | (rw[he1];exact h85) | (rw[he0,he1];exact h85)),(by first | exact cs_l | (rw[he0];exact cs_l) | (rw[he1];exact cs_l) | (rw[he0,he1];exact cs_l)),hx86⟩
     ·
      have hb76:=of_decide_eq_false hb76
      iterate 2 refine sm_op (ev_move rfl) rfl rfl rfl ?_
      have hi87:0≤((i:Int):Int):=by omega
      have hi88:((i:Int):Int)<((w.length:Nat):Int):=by omega
      refine sm_op (ev_at rfl rfl h55 (getMap Entry.cells hx39) (by first | rfl | omega | simp) hi87 hi88 el39) rfl rfl rfl ?_
      refine sm_op (ev_atF rfl h55 (getMap Entry.cells hx39) fa54_0 rfl) rfl rfl rfl ?_
      refine sm_read (ev_atL rfl h55 (getMap Entry.cells hx39) one2 rfl) rfl rfl rfl (fun q hq=>Nat.lt_of_lt_of_le (rd_at rfl rfl h34 (getMap Entry.cells hx39) hq) (by omega)) ?_
      refine sm_op (ev_load rfl (lvar_part (l := [.int .i64 s_ht,.int .i64 s_hv,.int .i64 s_si,.int .i64 s_st,.string s_sc,.string s_sd,.slice xA xl.length xc]) many51 h75 rfl rfl (by decide))) rfl rfl rfl ?_
      refine sm_call rfl rfl rfl ent41 rfl rfl rfl ?_
      have h89:=Row.ext hr26 hx42
      obtain⟨_,H91,hs90,hs90v,hx92⟩:=ref17_Last_spec H41 s_ht s_hv s_si ⟨by omega,by omega⟩ s_st s_sc s_sd xA xl xc h89 hr27 (by omega)
      rw[hs90v] at hs90;clear hs90v
      refine⟨_,H91,hs90,(fun _ b hb=>hx92.2 b (by omega)),?_⟩
      have H91n:H41.next≤H91.next:=hx92.1
      refine sm_op (ev_int64 (c:=(s_si+(xl.length:Int))+1) rfl rfl rfl (by omega) (by omega)) rfl rfl rfl ?_
      refine sm_op (ev_int rfl rfl rfl) rfl rfl rfl ?_
      refine sm_op (ev_pickF rfl rfl) rfl rfl rfl ?_
      by_cases hc93:(decide (x38.index > (s_si+(xl.length:Int))+1))=true
      ·
       refine aw_condT hc93 rfl ?_
       have hc93:=of_decide_eq_true hc93
       refine aw_seq ?_
       refine aw_reg ?_
       have hx95:Ext H8 H91:=(Ext.trans (Ext.trans (Ext.then (Ext.then hx19 hf24 (fun q hq e=>by omega)) hxl31 (fun q hq e=>by omega)) hx42) hx92)
       have h94:=Ext.blk hx95 (by omega) h13
       refine st_op (ev_load rfl (lvar_part (l := [.int .i64 s_ht,.int .i64 s_hv,.int .i64 s_si,.int .i64 s_st,.string s_sc,.string s_sd,.slice s_lA s_l.length s_lc]) many51 h94 rfl rfl (by decide))) rfl rfl rfl ?_
       have h96:=Ext.blk hx95 (by omega) hB11
       obtain⟨H97,he98,H97n_,hB99,f100⟩:=mem_store (v := .agg #[.int .i64 s_ht,.int .i64 s_hv,.int .i64 s_si,.int .i64 s_st,.string s_sc,.string s_sd,.slice s_lA s_l.length s_lc]) (o:=0) (cs' := [.int .i64 s_ht,.int .i64 s_hv,.int .i64 s_si,.int .i64 s_st,.string s_sc,.string s_sd,.slice s_lA s_l.length s_lc]) 7 rfl rfl size51 h96 rfl rfl rfl
       refine st_op0 (he98 _ _ _ _ _ _ _ _ _ rfl rfl) rfl rfl ?_
       have hf101:Fr (fun q=>q=b7) H91 H97:=Fr.write H97n_ f100
       have H97n:H91.next≤H97.next:=hf101.1
       refine st_op (ev_assign rfl) rfl rfl rfl ?_
       refine aw_ret ?_
       have hx103:Ext H H97:=(Ext.then (Ext.trans (Ext.trans hx35 hx42) hx92) hf101 (fun q hq e=>by omega))
       have h102:=Row.ext hs_l hx103
       have hres:((Spec.refW s_si s_l w).2,(Spec.refW s_si s_l w).1)=(s_l,1):=by rw[hW,Spec.refGo_bad hx39 ((by first | exact .inr (.inr (.inl (by omega))) | exact .inr (.inr (.inr (by omega))) | exact .inr (.inl ⟨_,by rw[hpi,Spec.prevO_at hx61 (by omega) (by omega)],by omega⟩)))]
       have he0:(Spec.refW s_si s_l w).2=s_l:=congrArg (fun p=>p.1) hres
       have he1:(Spec.refW s_si s_l w).1=1:=congrArg (fun p=>p.2) hres
       exact⟨.tuple #[.agg #[.int .i64 s_ht,.int .i64 s_hv,.int .i64 s_si,.int .i64 s_st,.string s_sc,.string s_sd,.slice s_lA s_l.length s_lc],.int .i64 1],(resA_of (resL_cell rfl (lvar_part (l := [.int .i64 s_ht,.int .i64 s_hv,.int .i64 s_si,.int .i64 s_st,.string s_sc,.string s_sd,.slice s_lA s_l.length s_lc]) many51 hB99 rfl rfl (by decide)) (resL_tmp rfl resL_nil)) rfl),s_lA,s_lc,by first | rfl | (simp only [he0,he1];done) | (rw[he0];done) | (rw[he1];done),(by first | exact h102 | (rw[he0];exact h102) | (rw[he1];exact h102) | (rw[he0,he1];exact h102)),(by first | exact cs_l | (rw[he0];exact cs_l) | (rw[he1];exact cs_l) | (rw[he0,he1];exact cs_l)),hx103⟩
      ·
       rw[Bool.not_eq_true] at hc93;refine aw_condF hc93 rfl ?_
       have hc93:=of_decide_eq_false hc93
       refine aw_skip ?_
       refine aw_seq ?_
       refine aw_marksN (fun b=>b<H91.next) 12 [false,false,false,false,false,false,false,false,false,true,false,false] [(true,false,false),(false,false,false),(false,false,false),(false,false,false),(true,false,false),(false,false,false),(false,false,false),(false,false,false),(false,false,false),(false,true,true),(false,false,false),(false,false,false)] rfl mixed (by kernel_rfl) (by kernel_rfl) (fun base105 H104 base105e H104n hx106=>?_)
       have H104n:H91.next≤H104.next:=hx106.1
       have hx108:Ext H41 H104:=(Ext.trans hx92 hx106)
       have h107:=Ext.blk hx108 (by omega) h75
       refine sn_read 12 rfl (ev_load rfl (lvar_part (l := [.int .i64 s_ht,.int .i64 s_hv,.int .i64 s_si,.int .i64 s_st,.string s_sc,.string s_sd,.slice xA xl.length xc]) many51 h107 rfl rfl (by decide))) rfl rfl rfl (fun b hb=>by cases hb;dsimp only;exact⟨by omega,by omega⟩) (fun h=>nomatch h) ?_
       iterate 2 refine sn_op (ev_move rfl) rfl rfl rfl rfl (fun h=>nomatch h) ?_
       have h109:=Row.ext h55 hx108
       have hi110:0≤((i:Int):Int):=by omega
       have hi111:((i:Int):Int)<((w.length:Nat):Int):=by omega
       refine sn_op (ev_at rfl rfl h109 (getMap Entry.cells hx39) (by first | rfl | omega | simp) hi110 hi111 el39) rfl rfl rfl rfl (fun h=>nomatch h) ?_
       refine sn_read 12 rfl (ev_atN (cs := [.int .i64 x38.index,.int .i64 x38.term,.int .i64 x38.kind,.string x38.data]) rfl h109 (getMap Entry.cells hx39) many54 rfl rfl (by decide)) rfl rfl rfl (fun q hq=>have h9:q<H91.next:=(fun q hq=>Nat.lt_of_lt_of_le (rd_at rfl rfl h55 (getMap Entry.cells hx39) hq) (by omega)) q hq;⟨h9,by omega⟩) (fun h=>nomatch h) ?_
       refine sn_call rfl rfl rfl ent42 rfl rfl rfl ?_
       have h112:=Row.ext h89 hx108
       obtain⟨_,H114,hs113,A116,c117,hs113v,hm118,hq119,hx115⟩:=ref17_Put_spec H104 s_ht s_hv s_si ⟨by omega,by omega⟩ s_st s_sc s_sd xA xl xc h112 hr27 (by omega) x38.index x38.term x38.kind x38.data (by omega)
       rw[hs113v] at hs113;clear hs113v
       refine⟨_,H114,hs113,(fun h=>nomatch h),?_⟩
       have H114n:H104.next≤H114.next:=hx115.1
       refine sn_op (ev_move rfl) rfl rfl rfl rfl (fun h=>nomatch h) ?_
       iterate 2 refine sn_op (ev_extract rfl rfl) rfl rfl rfl rfl (fun h=>nomatch h) ?_
       obtain⟨b120,b120e⟩:∃ b,base105+9=b:=⟨_,rfl⟩
       refine sn_alloc b120 b120e zero51 rfl rfl rfl rfl (fun _ b (hb:b<H91.next)=>by omega) (fun H121 H121n_ hB123 f122=>?_)
       have hf124:Fr (fun q=>q=b120) H114 H121:=Fr.write H121n_ f122
       have H121n:H114.next≤H121.next:=hf124.1
       obtain⟨H125,he126,H125n_,hB127,f128⟩:=mem_store (v := .agg #[.int .i64 s_ht,.int .i64 s_hv,.int .i64 s_si,.int .i64 s_st,.string s_sc,.string s_sd,.slice A116 (((Spec.putR s_si xl x38.index x38.term x38.kind x38.data).2).length) c117]) (o:=0) (cs' := [.int .i64 s_ht,.int .i64 s_hv,.int .i64 s_si,.int .i64 s_st,.string s_sc,.string s_sd,.slice A116 (((Spec.putR s_si xl x38.index x38.term x38.kind x38.data).2).length) c117]) 7 rfl rfl size51 hB123 rfl rfl rfl
       refine sn_op0 (he126 _ _ _ _ _ _ _ _ _ rfl rfl) rfl rfl rfl (fun h=>nomatch h) ?_
       have hf129:Fr (fun q=>q=b120) H121 H125:=Fr.write H125n_ f128
       have H125n:H121.next≤H125.next:=hf129.1
       refine sn_op (ev_assign rfl) rfl rfl rfl rfl (fun h=>nomatch h) ?_
       refine aw_reg ?_
       refine st_op (ev_load rfl (lvar_part (l := [.int .i64 s_ht,.int .i64 s_hv,.int .i64 s_si,.int .i64 s_st,.string s_sc,.string s_sd,.slice A116 (((Spec.putR s_si xl x38.index x38.term x38.kind x38.data).2).length) c117]) many51 hB127 rfl rfl (by decide))) rfl rfl rfl ?_
       have hx131:Ext H41 H125:=(Ext.then (Ext.then (Ext.trans hx108 hx115) hf124 (fun q hq e=>by omega)) hf129 (fun q hq e=>by omega))
       have h130:=Ext.blk hx131 (by omega) h75
       obtain⟨H132,he133,H132n_,hB134,f135⟩:=mem_store (v := .agg #[.int .i64 s_ht,.int .i64 s_hv,.int .i64 s_si,.int .i64 s_st,.string s_sc,.string s_sd,.slice A116 (((Spec.putR s_si xl x38.index x38.term x38.kind x38.data).2).length) c117]) (o:=0) (cs' := [.int .i64 s_ht,.int .i64 s_hv,.int .i64 s_si,.int .i64 s_st,.string s_sc,.string s_sd,.slice A116 (((Spec.putR s_si xl x38.index x38.term x38.kind x38.data).2).length) c117]) 7 rfl rfl size51 h130 rfl rfl rfl
       refine st_op0 (he133 _ _ _ _ _ _ _ _ _ rfl rfl) rfl rfl ?_
       have hf136:Fr (fun q=>q=b14) H125 H132:=Fr.write H132n_ f135
       have H132n:H125.next≤H132.next:=hf136.1
       refine aw_reg ?_
       refine st_op (ev_move rfl) rfl rfl rfl ?_
       refine st_op (ev_int64 (c:=(i:Int)+1) rfl rfl rfl (by omega) (by omega)) rfl rfl rfl ?_
       refine st_op (ev_assign rfl) rfl rfl rfl ?_
       have h137:=My.fr hm118 hf124 (fun q h1 h2 e=>by omega)
       have h138:=My.frS h137 hf129 (fun q hq e=>⟨_,e ▸ hB123,show(0:Nat)≠4 by decide⟩)
       have h139:=My.frS h138 hf136 (fun q hq e=>⟨_,e ▸ h130,show(0:Nat)≠4 by decide⟩)
       refine aw_keep [1,2,4,6,7] (l':=(.cons 1 (.slice wA w.length wc) (.cons 2 (.pointer (some ⟨b1,0,none⟩)) (.cons 4 (.pointer (some ⟨b7,0,none⟩)) (.cons 6 (.pointer (some ⟨b14,0,none⟩)) (.cons 7 (.int .i64 ((i:Int)+1)) .nil)))))) (by repeat (first | exact Up.done | refine Up.then ?_ | refine Up.inBlock ?_)) rfl ?_
       exact ih32 (i+1,A116,c117,((Spec.putR s_si xl x38.index x38.term x38.kind x38.data).2),(some x38.index),H132) ⟨(show(i+1)≤w.length from(by omega)),(show Spec.refW s_si s_l w=Spec.refGo s_si s_l ((Spec.putR s_si xl x38.index x38.term x38.kind x38.data).2) (some x38.index) (w.drop (i+1)) from(by rw[hW,Spec.refGo_ok hx39 (by rintro(q | ⟨q,q1,q2⟩ | q | q);(exact Bool.noConfusion (hb43.symm.trans q));(exact absurd ((fun q q1=>by rw[hpi,Spec.prevO_at hx61 (by omega) (by omega)] at q1;cases q1;omega) q q1) q2);omega;omega),Spec.putR_ok (by omega)])),(show(some x38.index)=Spec.prevO w (i+1) from(Spec.prevO_succ hx39).symm),(show ∀ e,w[(i+1) - 1]?=some e→0=(i+1)∨(1≤e.index∧e.index≤1099511627776) from(fun e he=>by rw[Nat.add_sub_cancel,hx39] at he;cases he;omega)),(show((Spec.putR s_si xl x38.index x38.term x38.kind x38.data).2).length≤1000+(i+1) from(by rw[Spec.putR_ok (by omega)];simp only [List.length_append,List.length_take,List.length_singleton];omega)),(show Row H132 A116 c117 4 (((Spec.putR s_si xl x38.index x38.term x38.kind x38.data).2).map Entry.cells) from(My.row h139)),(show((Spec.putR s_si xl x38.index x38.term x38.kind x38.data).2).length≤c117 from(My.capF h139 (by first | omega | (simp only [List.length_append,List.length_cons,List.length_nil,List.length_map,List.length_set,List.length_replicate,Spec.bytesOf_length];omega) | (simp;omega)))),(show H132.blk b14=some ⟨[.int .i64 s_ht,.int .i64 s_hv,.int .i64 s_si,.int .i64 s_st,.string s_sc,.string s_sd,.slice A116 ((Spec.putR s_si xl x38.index x38.term x38.kind x38.data).2).length c117],0,false,false⟩ from hB134),(show Fr (fun q=>q=b14) H20 H132 from(Fr.transG (Fr.transG (Fr.transG (Fr.trans (Fr.trans (Fr.trans (Fr.trans (Fr.transG (Fr.refl (fun q=>q=b14) H20) hxl31 (fun q hq hE e=>(e))) (hx42.fr fun _=>False) (fun q hq (e:False)=>e.elim)) (hx92.fr fun _=>False) (fun q hq (e:False)=>e.elim)) (hx106.fr fun _=>False) (fun q hq (e:False)=>e.elim)) (hx115.fr fun _=>False) (fun q hq (e:False)=>e.elim)) hf124 (fun q hq hE e=>absurd hq (by omega))) hf129 (fun q hq hE e=>absurd hq (by omega))) hf136 (fun q hq hE e=>(e))))⟩ (by simp only;omega)
   ·
    have hb54:=of_decide_eq_false hb54
    iterate 13 refine sm_skip rfl rfl rfl ?_
    iterate 2 refine sm_op (ev_pickF rfl rfl) rfl rfl rfl ?_
    iterate 3 refine sm_op (ev_move rfl) rfl rfl rfl ?_
    have h140:=Row.ext h34 hx42
    have hi141:0≤((i:Int):Int):=by omega
    have hi142:((i:Int):Int)<((w.length:Nat):Int):=by omega
    refine sm_op (ev_at rfl rfl h140 (getMap Entry.cells hx39) (by first | rfl | omega | simp) hi141 hi142 el39) rfl rfl rfl ?_
    refine sm_op (ev_atF rfl h140 (getMap Entry.cells hx39) fa54_0 rfl) rfl rfl rfl ?_
    refine sm_op (ev_atL rfl h140 (getMap Entry.cells hx39) one2 rfl) rfl rfl rfl ?_
    refine sm_op (ev_fieldAddr rfl fa51_1 (o':=2) rfl) rfl rfl rfl ?_
    refine sm_op (ev_fieldAddr rfl fa46_0 (o':=2) rfl) rfl rfl rfl ?_
    have h143:=Ext.blk hx42 (by omega) hB30
    refine sm_op (ev_load rfl (lvar_one one2 h143 rfl)) rfl rfl rfl ?_
    refine sm_op (ev_int rfl rfl rfl) rfl rfl rfl ?_
    refine sm_op (ev_pickF rfl rfl) rfl rfl rfl ?_
    refine sm_op (ev_move rfl) rfl rfl rfl ?_
    refine sm_bool 53 rfl (fun hb144=>?_) (fun hb144=>?_)
    ·
     have hb144:=of_decide_eq_true hb144
     iterate 9 refine sm_skip rfl rfl rfl ?_
     refine sm_op (ev_pickT rfl rfl) rfl rfl rfl ?_
     refine aw_cond (t:=true) rfl ?_
     refine aw_seq ?_
     refine aw_reg ?_
     have hx146:Ext H8 H41:=(Ext.trans (Ext.then (Ext.then hx19 hf24 (fun q hq e=>by omega)) hxl31 (fun q hq e=>by omega)) hx42)
     have h145:=Ext.blk hx146 (by omega) h13
     refine st_op (ev_load rfl (lvar_part (l := [.int .i64 s_ht,.int .i64 s_hv,.int .i64 s_si,.int .i64 s_st,.string s_sc,.string s_sd,.slice s_lA s_l.length s_lc]) many51 h145 rfl rfl (by decide))) rfl rfl rfl ?_
     have h147:=Ext.blk hx146 (by omega) hB11
     obtain⟨H148,he149,H148n_,hB150,f151⟩:=mem_store (v := .agg #[.int .i64 s_ht,.int .i64 s_hv,.int .i64 s_si,.int .i64 s_st,.string s_sc,.string s_sd,.slice s_lA s_l.length s_lc]) (o:=0) (cs' := [.int .i64 s_ht,.int .i64 s_hv,.int .i64 s_si,.int .i64 s_st,.string s_sc,.string s_sd,.slice s_lA s_l.length s_lc]) 7 rfl rfl size51 h147 rfl rfl rfl
     refine st_op0 (he149 _ _ _ _ _ _ _ _ _ rfl rfl) rfl rfl ?_
     have hf152:Fr (fun q=>q=b7) H41 H148:=Fr.write H148n_ f151
     have H148n:H41.next≤H148.next:=hf152.1
     refine st_op (ev_assign rfl) rfl rfl rfl ?_
     refine aw_ret ?_
     have hx154:Ext H H148:=(Ext.then (Ext.trans hx35 hx42) hf152 (fun q hq e=>by omega))
     have h153:=Row.ext hs_l hx154
     have hres:((Spec.refW s_si s_l w).2,(Spec.refW s_si s_l w).1)=(s_l,1):=by rw[hW,Spec.refGo_bad hx39 ((by first | exact .inr (.inr (.inl (by omega))) | exact .inr (.inr (.inr (by omega)))))]
     have he0:(Spec.refW s_si s_l w).2=s_l:=congrArg (fun p=>p.1) hres
     have he1:(Spec.refW s_si s_l w).1=1:=congrArg (fun p=>p.2) hres
     exact⟨.tuple #[.agg #[.int .i64 s_ht,.int .i64 s_hv,.int .i64 s_si,.int .i64 s_st,.string s_sc,.string s_sd,.slice s_lA s_l.length s_lc],.int .i64 1],(resA_of (resL_cell rfl (lvar_part (l := [.int .i64 s_ht,.int .i64 s_hv,.int .i64 s_si,.int .i64 s_st,.string s_sc,.string s_sd,.slice s_lA s_l.length s_lc]) many51 hB150 rfl rfl (by decide)) (resL_tmp rfl resL_nil)) rfl),s_lA,s_lc,by first | rfl | (simp only [he0,he1];done) | (rw[he0];done) | (rw[he1];done),(by first | exact h153 | (rw[he0];exact h153) | (rw[he1];exact h153) | (rw[he0,he1];exact h153)),(by first | exact cs_l | (rw[he0];exact cs_l) | (rw[he1];exact cs_l) | (rw[he0,he1];exact cs_l)),hx154⟩
    ·
     have hb144:=of_decide_eq_false hb144
     iterate 2 refine sm_op (ev_move rfl) rfl rfl rfl ?_
     have hi155:0≤((i:Int):Int):=by omega
     have hi156:((i:Int):Int)<((w.length:Nat):Int):=by omega
     refine sm_op (ev_at rfl rfl h140 (getMap Entry.cells hx39) (by first | rfl | omega | simp) hi155 hi156 el39) rfl rfl rfl ?_
     refine sm_op (ev_atF rfl h140 (getMap Entry.cells hx39) fa54_0 rfl) rfl rfl rfl ?_
     refine sm_read (ev_atL rfl h140 (getMap Entry.cells hx39) one2 rfl) rfl rfl rfl (fun q hq=>Nat.lt_of_lt_of_le (rd_at rfl rfl h34 (getMap Entry.cells hx39) hq) (by omega)) ?_
     refine sm_op (ev_load rfl (lvar_part (l := [.int .i64 s_ht,.int .i64 s_hv,.int .i64 s_si,.int .i64 s_st,.string s_sc,.string s_sd,.slice xA xl.length xc]) many51 h143 rfl rfl (by decide))) rfl rfl rfl ?_
     refine sm_call rfl rfl rfl ent41 rfl rfl rfl ?_
     have h157:=Row.ext hr26 hx42
     obtain⟨_,H159,hs158,hs158v,hx160⟩:=ref17_Last_spec H41 s_ht s_hv s_si ⟨by omega,by omega⟩ s_st s_sc s_sd xA xl xc h157 hr27 (by omega)
     rw[hs158v] at hs158;clear hs158v
     refine⟨_,H159,hs158,(fun _ b hb=>hx160.2 b (by omega)),?_⟩
     have H159n:H41.next≤H159.next:=hx160.1
     refine sm_op (ev_int64 (c:=(s_si+(xl.length:Int))+1) rfl rfl rfl (by omega) (by omega)) rfl rfl rfl ?_
     refine sm_op (ev_int rfl rfl rfl) rfl rfl rfl ?_
     refine sm_op (ev_pickF rfl rfl) rfl rfl rfl ?_
     by_cases hc161:(decide (x38.index > (s_si+(xl.length:Int))+1))=true
     ·
      refine aw_condT hc161 rfl ?_
      have hc161:=of_decide_eq_true hc161
      refine aw_seq ?_
      refine aw_reg ?_
      have hx163:Ext H8 H159:=(Ext.trans (Ext.trans (Ext.then (Ext.then hx19 hf24 (fun q hq e=>by omega)) hxl31 (fun q hq e=>by omega)) hx42) hx160)
      have h162:=Ext.blk hx163 (by omega) h13
      refine st_op (ev_load rfl (lvar_part (l := [.int .i64 s_ht,.int .i64 s_hv,.int .i64 s_si,.int .i64 s_st,.string s_sc,.string s_sd,.slice s_lA s_l.length s_lc]) many51 h162 rfl rfl (by decide))) rfl rfl rfl ?_
      have h164:=Ext.blk hx163 (by omega) hB11
      obtain⟨H165,he166,H165n_,hB167,f168⟩:=mem_store (v := .agg #[.int .i64 s_ht,.int .i64 s_hv,.int .i64 s_si,.int .i64 s_st,.string s_sc,.string s_sd,.slice s_lA s_l.length s_lc]) (o:=0) (cs' := [.int .i64 s_ht,.int .i64 s_hv,.int .i64 s_si,.int .i64 s_st,.string s_sc,.string s_sd,.slice s_lA s_l.length s_lc]) 7 rfl rfl size51 h164 rfl rfl rfl
      refine st_op0 (he166 _ _ _ _ _ _ _ _ _ rfl rfl) rfl rfl ?_
      have hf169:Fr (fun q=>q=b7) H159 H165:=Fr.write H165n_ f168
      have H165n:H159.next≤H165.next:=hf169.1
      refine st_op (ev_assign rfl) rfl rfl rfl ?_
      refine aw_ret ?_
      have hx171:Ext H H165:=(Ext.then (Ext.trans (Ext.trans hx35 hx42) hx160) hf169 (fun q hq e=>by omega))
      have h170:=Row.ext hs_l hx171
      have hres:((Spec.refW s_si s_l w).2,(Spec.refW s_si s_l w).1)=(s_l,1):=by rw[hW,Spec.refGo_bad hx39 ((by first | exact .inr (.inr (.inl (by omega))) | exact .inr (.inr (.inr (by omega)))))]
      have he0:(Spec.refW s_si s_l w).2=s_l:=congrArg (fun p=>p.1) hres
      have he1:(Spec.refW s_si s_l w).1=1:=congrArg (fun p=>p.2) hres
      exact⟨.tuple #[.agg #[.int .i64 s_ht,.int .i64 s_hv,.int .i64 s_si,.int .i64 s_st,.string s_sc,.string s_sd,.slice s_lA s_l.length s_lc],.int .i64 1],(resA_of (resL_cell rfl (lvar_part (l := [.int .i64 s_ht,.int .i64 s_hv,.int .i64 s_si,.int .i64 s_st,.string s_sc,.string s_sd,.slice s_lA s_l.length s_lc]) many51 hB167 rfl rfl (by decide)) (resL_tmp rfl resL_nil)) rfl),s_lA,s_lc,by first | rfl | (simp only [he0,he1];done) | (rw[he0];done) | (rw[he1];done),(by first | exact h170 | (rw[he0];exact h170) | (rw[he1];exact h170) | (rw[he0,he1];exact h170)),(by first | exact cs_l | (rw[he0];exact cs_l) | (rw[he1];exact cs_l) | (rw[he0,he1];exact cs_l)),hx171⟩
     ·
      rw[Bool.not_eq_true] at hc161;refine aw_condF hc161 rfl ?_
      have hc161:=of_decide_eq_false hc161
      refine aw_skip ?_
      refine aw_seq ?_
      refine aw_marksN (fun b=>b<H159.next) 12 [false,false,false,false,false,false,false,false,false,true,false,false] [(true,false,false),(false,false,false),(false,false,false),(false,false,false),(true,false,false),(false,false,false),(false,false,false),(false,false,false),(false,false,false),(false,true,true),(false,false,false),(false,false,false)] rfl mixed (by kernel_rfl) (by kernel_rfl) (fun base173 H172 base173e H172n hx174=>?_)
      have H172n:H159.next≤H172.next:=hx174.1
      have hx176:Ext H41 H172:=(Ext.trans hx160 hx174)
      have h175:=Ext.blk hx176 (by omega) h143
      refine sn_read 12 rfl (ev_load rfl (lvar_part (l := [.int .i64 s_ht,.int .i64 s_hv,.int .i64 s_si,.int .i64 s_st,.string s_sc,.string s_sd,.slice xA xl.length xc]) many51 h175 rfl rfl (by decide))) rfl rfl rfl (fun b hb=>by cases hb;dsimp only;exact⟨by omega,by omega⟩) (fun h=>nomatch h) ?_
      iterate 2 refine sn_op (ev_move rfl) rfl rfl rfl rfl (fun h=>nomatch h) ?_
      have h177:=Row.ext h140 hx176
      have hi178:0≤((i:Int):Int):=by omega
      have hi179:((i:Int):Int)<((w.length:Nat):Int):=by omega
      refine sn_op (ev_at rfl rfl h177 (getMap Entry.cells hx39) (by first | rfl | omega | simp) hi178 hi179 el39) rfl rfl rfl rfl (fun h=>nomatch h) ?_
      refine sn_read 12 rfl (ev_atN (cs := [.int .i64 x38.index,.int .i64 x38.term,.int .i64 x38.kind,.string x38.data]) rfl h177 (getMap Entry.cells hx39) many54 rfl rfl (by decide)) rfl rfl rfl (fun q hq=>have h9:q<H159.next:=(fun q hq=>Nat.lt_of_lt_of_le (rd_at rfl rfl h140 (getMap Entry.cells hx39) hq) (by omega)) q hq;⟨h9,by omega⟩) (fun h=>nomatch h) ?_
      refine sn_call rfl rfl rfl ent42 rfl rfl rfl ?_
      have h180:=Row.ext h157 hx176
      obtain⟨_,H182,hs181,A184,c185,hs181v,hm186,hq187,hx183⟩:=ref17_Put_spec H172 s_ht s_hv s_si ⟨by omega,by omega⟩ s_st s_sc s_sd xA xl xc h180 hr27 (by omega) x38.index x38.term x38.kind x38.data (by omega)
      rw[hs181v] at hs181;clear hs181v
      refine⟨_,H182,hs181,(fun h=>nomatch h),?_⟩
      have H182n:H172.next≤H182.next:=hx183.1
      refine sn_op (ev_move rfl) rfl rfl rfl rfl (fun h=>nomatch h) ?_
      iterate 2 refine sn_op (ev_extract rfl rfl) rfl rfl rfl rfl (fun h=>nomatch h) ?_
      obtain⟨b188,b188e⟩:∃ b,base173+9=b:=⟨_,rfl⟩
      refine sn_alloc b188 b188e zero51 rfl rfl rfl rfl (fun _ b (hb:b<H159.next)=>by omega) (fun H189 H189n_ hB191 f190=>?_)
      have hf192:Fr (fun q=>q=b188) H182 H189:=Fr.write H189n_ f190
      have H189n:H182.next≤H189.next:=hf192.1
      obtain⟨H193,he194,H193n_,hB195,f196⟩:=mem_store (v := .agg #[.int .i64 s_ht,.int .i64 s_hv,.int .i64 s_si,.int .i64 s_st,.string s_sc,.string s_sd,.slice A184 (((Spec.putR s_si xl x38.index x38.term x38.kind x38.data).2).length) c185]) (o:=0) (cs' := [.int .i64 s_ht,.int .i64 s_hv,.int .i64 s_si,.int .i64 s_st,.string s_sc,.string s_sd,.slice A184 (((Spec.putR s_si xl x38.index x38.term x38.kind x38.data).2).length) c185]) 7 rfl rfl size51 hB191 rfl rfl rfl
      refine sn_op0 (he194 _ _ _ _ _ _ _ _ _ rfl rfl) rfl rfl rfl (fun h=>nomatch h) ?_
      have hf197:Fr (fun q=>q=b188) H189 H193:=Fr.write H193n_ f196
      have H193n:H189.next≤H193.next:=hf197.1
      refine sn_op (ev_assign rfl) rfl rfl rfl rfl (fun h=>nomatch h) ?_
      refine aw_reg ?_
      refine st_op (ev_load rfl (lvar_part (l := [.int .i64 s_ht,.int .i64 s_hv,.int .i64 s_si,.int .i64 s_st,.string s_sc,.string s_sd,.slice A184 (((Spec.putR s_si xl x38.index x38.term x38.kind x38.data).2).length) c185]) many51 hB195 rfl rfl (by decide))) rfl rfl rfl ?_
      have hx199:Ext H41 H193:=(Ext.then (Ext.then (Ext.trans hx176 hx183) hf192 (fun q hq e=>by omega)) hf197 (fun q hq e=>by omega))
      have h198:=Ext.blk hx199 (by omega) h143
      obtain⟨H200,he201,H200n_,hB202,f203⟩:=mem_store (v := .agg #[.int .i64 s_ht,.int .i64 s_hv,.int .i64 s_si,.int .i64 s_st,.string s_sc,.string s_sd,.slice A184 (((Spec.putR s_si xl x38.index x38.term x38.kind x38.data).2).length) c185]) (o:=0) (cs' := [.int .i64 s_ht,.int .i64 s_hv,.int .i64 s_si,.int .i64 s_st,.string s_sc,.string s_sd,.slice A184 (((Spec.putR s_si xl x38.index x38.term x38.kind x38.data).2).length) c185]) 7 rfl rfl size51 h198 rfl rfl rfl
      refine st_op0 (he201 _ _ _ _ _ _ _ _ _ rfl rfl) rfl rfl ?_
      have hf204:Fr (fun q=>q=b14) H193 H200:=Fr.write H200n_ f203
      have H200n:H193.next≤H200.next:=hf204.1
      refine aw_reg ?_
      refine st_op (ev_move rfl) rfl rfl rfl ?_
      refine st_op (ev_int64 (c:=(i:Int)+1) rfl rfl rfl (by omega) (by omega)) rfl rfl rfl ?_
      refine st_op (ev_assign rfl) rfl rfl rfl ?_
      have h205:=My.fr hm186 hf192 (fun q h1 h2 e=>by omega)
      have h206:=My.frS h205 hf197 (fun q hq e=>⟨_,e ▸ hB191,show(0:Nat)≠4 by decide⟩)
      have h207:=My.frS h206 hf204 (fun q hq e=>⟨_,e ▸ h198,show(0:Nat)≠4 by decide⟩)
      refine aw_keep [1,2,4,6,7] (l':=(.cons 1 (.slice wA w.length wc) (.cons 2 (.pointer (some ⟨b1,0,none⟩)) (.cons 4 (.pointer (some ⟨b7,0,none⟩)) (.cons 6 (.pointer (some ⟨b14,0,none⟩)) (.cons 7 (.int .i64 ((i:Int)+1)) .nil)))))) (by repeat (first | exact Up.done | refine Up.then ?_ | refine Up.inBlock ?_)) rfl ?_
      exact ih32 (i+1,A184,c185,((Spec.putR s_si xl x38.index x38.term x38.kind x38.data).2),(some x38.index),H200) ⟨(show(i+1)≤w.length from(by omega)),(show Spec.refW s_si s_l w=Spec.refGo s_si s_l ((Spec.putR s_si xl x38.index x38.term x38.kind x38.data).2) (some x38.index) (w.drop (i+1)) from(by rw[hW,Spec.refGo_ok hx39 (by rintro(q | ⟨q,q1,q2⟩ | q | q);(exact Bool.noConfusion (hb43.symm.trans q));(exact absurd ((fun q q1=>by rw[hpi,show i=0 by omega] at q1;cases q1) q q1) q2);omega;omega),Spec.putR_ok (by omega)])),(show(some x38.index)=Spec.prevO w (i+1) from(Spec.prevO_succ hx39).symm),(show ∀ e,w[(i+1) - 1]?=some e→0=(i+1)∨(1≤e.index∧e.index≤1099511627776) from(fun e he=>by rw[Nat.add_sub_cancel,hx39] at he;cases he;omega)),(show((Spec.putR s_si xl x38.index x38.term x38.kind x38.data).2).length≤1000+(i+1) from(by rw[Spec.putR_ok (by omega)];simp only [List.length_append,List.length_take,List.length_singleton];omega)),(show Row H200 A184 c185 4 (((Spec.putR s_si xl x38.index x38.term x38.kind x38.data).2).map Entry.cells) from(My.row h207)),(show((Spec.putR s_si xl x38.index x38.term x38.kind x38.data).2).length≤c185 from(My.capF h207 (by first | omega | (simp only [List.length_append,List.length_cons,List.length_nil,List.length_map,List.length_set,List.length_replicate,Spec.bytesOf_length];omega) | (simp;omega)))),(show H200.blk b14=some ⟨[.int .i64 s_ht,.int .i64 s_hv,.int .i64 s_si,.int .i64 s_st,.string s_sc,.string s_sd,.slice A184 ((Spec.putR s_si xl x38.index x38.term x38.kind x38.data).2).length c185],0,false,false⟩ from hB202),(show Fr (fun q=>q=b14) H20 H200 from(Fr.transG (Fr.transG (Fr.transG (Fr.trans (Fr.trans (Fr.trans (Fr.trans (Fr.transG (Fr.refl (fun q=>q=b14) H20) hxl31 (fun q hq hE e=>(e))) (hx42.fr fun _=>False) (fun q hq (e:False)=>e.elim)) (hx160.fr fun _=>False) (fun q hq (e:False)=>e.elim)) (hx174.fr fun _=>False) (fun q hq (e:False)=>e.elim)) (hx183.fr fun _=>False) (fun q hq (e:False)=>e.elim)) hf192 (fun q hq hE e=>absurd hq (by omega))) hf197 (fun q hq hE e=>absurd hq (by omega))) hf204 (fun q hq hE e=>(e))))⟩ (by simp only;omega)
 ·
  rw[Bool.not_eq_true] at hc33;refine aw_condF hc33 rfl ?_
  have hc33:=of_decide_eq_false hc33
  refine aw_exit ?_
  iterate 2 refine aw_seq ?_
  refine aw_reg ?_
  refine st_op (ev_fieldAddr rfl fa51_2 (o':=6) rfl) rfl rfl rfl ?_
  refine st_op (ev_load rfl (lvar_one one39 hB30 rfl)) rfl rfl rfl ?_
  refine st_op (ev_lenSl rfl Try.underlying39) rfl rfl rfl ?_
  refine st_op (ev_int rfl rfl rfl) rfl rfl rfl ?_
  by_cases hc208:(decide ((xl.length:Int) > 200))=true
  ·
   refine aw_condT hc208 rfl ?_
   have hc208:=of_decide_eq_true hc208
   refine aw_seq ?_
   refine aw_reg ?_
   have hx210:Ext H8 Hl25:=(Ext.then (Ext.then hx19 hf24 (fun q hq e=>by omega)) hxl31 (fun q hq e=>by omega))
   have h209:=Ext.blk hx210 (by omega) h13
   refine st_op (ev_load rfl (lvar_part (l := [.int .i64 s_ht,.int .i64 s_hv,.int .i64 s_si,.int .i64 s_st,.string s_sc,.string s_sd,.slice s_lA s_l.length s_lc]) many51 h209 rfl rfl (by decide))) rfl rfl rfl ?_
   have h211:=Ext.blk hx210 (by omega) hB11
   obtain⟨H212,he213,H212n_,hB214,f215⟩:=mem_store (v := .agg #[.int .i64 s_ht,.int .i64 s_hv,.int .i64 s_si,.int .i64 s_st,.string s_sc,.string s_sd,.slice s_lA s_l.length s_lc]) (o:=0) (cs' := [.int .i64 s_ht,.int .i64 s_hv,.int .i64 s_si,.int .i64 s_st,.string s_sc,.string s_sd,.slice s_lA s_l.length s_lc]) 7 rfl rfl size51 h211 rfl rfl rfl
   refine st_op0 (he213 _ _ _ _ _ _ _ _ _ rfl rfl) rfl rfl ?_
   have hf216:Fr (fun q=>q=b7) Hl25 H212:=Fr.write H212n_ f215
   have H212n:Hl25.next≤H212.next:=hf216.1
   refine st_op (ev_assign rfl) rfl rfl rfl ?_
   refine aw_ret ?_
   have hx218:Ext H H212:=(Ext.then (Ext.then hx29 hxl31 (fun q hq e=>by omega)) hf216 (fun q hq e=>by omega))
   have h217:=Row.ext hs_l hx218
   have hres:((Spec.refW s_si s_l w).2,(Spec.refW s_si s_l w).1)=(s_l,5):=by rw[hW,List.drop_eq_nil_of_le (by omega),Spec.refGo];first | rw[if_pos (by omega)] | rw[if_neg (by omega)]
   have he0:(Spec.refW s_si s_l w).2=s_l:=congrArg (fun p=>p.1) hres
   have he1:(Spec.refW s_si s_l w).1=5:=congrArg (fun p=>p.2) hres
   exact⟨.tuple #[.agg #[.int .i64 s_ht,.int .i64 s_hv,.int .i64 s_si,.int .i64 s_st,.string s_sc,.string s_sd,.slice s_lA s_l.length s_lc],.int .i64 5],(resA_of (resL_cell rfl (lvar_part (l := [.int .i64 s_ht,.int .i64 s_hv,.int .i64 s_si,.int .i64 s_st,.string s_sc,.string s_sd,.slice s_lA s_l.length s_lc]) many51 hB214 rfl rfl (by decide)) (resL_tmp rfl resL_nil)) rfl),s_lA,s_lc,by first | rfl | (simp only [he0,he1];done) | (rw[he0];done) | (rw[he1];done),(by first | exact h217 | (rw[he0];exact h217) | (rw[he1];exact h217) | (rw[he0,he1];exact h217)),(by first | exact cs_l | (rw[he0];exact cs_l) | (rw[he1];exact cs_l) | (rw[he0,he1];exact cs_l)),hx218⟩
  ·
   rw[Bool.not_eq_true] at hc208;refine aw_condF hc208 rfl ?_
   have hc208:=of_decide_eq_false hc208
   refine aw_skip ?_
   refine aw_seq ?_
   refine aw_reg ?_
   refine st_op (ev_load rfl (lvar_part (l := [.int .i64 s_ht,.int .i64 s_hv,.int .i64 s_si,.int .i64 s_st,.string s_sc,.string s_sd,.slice xA xl.length xc]) many51 hB30 rfl rfl (by decide))) rfl rfl rfl ?_
   have hx220:Ext H8 Hl25:=(Ext.then (Ext.then hx19 hf24 (fun q hq e=>by omega)) hxl31 (fun q hq e=>by omega))
   have h219:=Ext.blk hx220 (by omega) hB11
   obtain⟨H221,he222,H221n_,hB223,f224⟩:=mem_store (v := .agg #[.int .i64 s_ht,.int .i64 s_hv,.int .i64 s_si,.int .i64 s_st,.string s_sc,.string s_sd,.slice xA xl.length xc]) (o:=0) (cs' := [.int .i64 s_ht,.int .i64 s_hv,.int .i64 s_si,.int .i64 s_st,.string s_sc,.string s_sd,.slice xA xl.length xc]) 7 rfl rfl size51 h219 rfl rfl rfl
   refine st_op0 (he222 _ _ _ _ _ _ _ _ _ rfl rfl) rfl rfl ?_
   have hf225:Fr (fun q=>q=b7) Hl25 H221:=Fr.write H221n_ f224
   have H221n:Hl25.next≤H221.next:=hf225.1
   refine st_op (ev_assign rfl) rfl rfl rfl ?_
   refine aw_ret ?_
   have h226:=Row.fr hr26 hf225 (fun q hq e=>⟨_,e ▸ h219,show(0:Nat)≠4 by decide⟩)
   have hx227:Ext H H221:=(Ext.then (Ext.then hx29 hxl31 (fun q hq e=>by omega)) hf225 (fun q hq e=>by omega))
   have hres:((Spec.refW s_si s_l w).2,(Spec.refW s_si s_l w).1)=(xl,0):=by rw[hW,List.drop_eq_nil_of_le (by omega),Spec.refGo];first | rw[if_pos (by omega)] | rw[if_neg (by omega)]
   have he0:(Spec.refW s_si s_l w).2=xl:=congrArg (fun p=>p.1) hres
   have he1:(Spec.refW s_si s_l w).1=0:=congrArg (fun p=>p.2) hres
   exact⟨.tuple #[.agg #[.int .i64 s_ht,.int .i64 s_hv,.int .i64 s_si,.int .i64 s_st,.string s_sc,.string s_sd,.slice xA xl.length xc],.int .i64 0],(resA_of (resL_cell rfl (lvar_part (l := [.int .i64 s_ht,.int .i64 s_hv,.int .i64 s_si,.int .i64 s_st,.string s_sc,.string s_sd,.slice xA xl.length xc]) many51 hB223 rfl rfl (by decide)) (resL_tmp rfl resL_nil)) rfl),xA,xc,by first | rfl | (simp only [he0,he1];done) | (rw[he0];done) | (rw[he1];done),(by first | exact h226 | (rw[he0];exact h226) | (rw[he1];exact h226) | (rw[he0,he1];exact h226)),(by first | exact hr27 | (rw[he0];exact hr27) | (rw[he1];exact hr27) | (rw[he0,he1];exact hr27)),hx227⟩
set_option maxHeartbeats 1600000 in
theorem law19_back_spec (H:Heap) (s_ht:Int) (s_hv:Int) (s_si:Int) (s_st:Int) (s_sc:ByteArray) (s_sd:ByteArray) (s_lA:Option Addr) (s_l:List Entry) (s_lc:Nat) (hs_l:Row H s_lA s_lc 4 (s_l.map Entry.cells)) (cs_l:s_l.length≤s_lc) (ls_l:s_l.length≤200):∃ v H',Spec Try.prog 25 [.agg #[.int .i64 s_ht,.int .i64 s_hv,.int .i64 s_si,.int .i64 s_st,.string s_sc,.string s_sd,.slice s_lA s_l.length s_lc]] H v H'∧((v = .agg #[.int .i64 s_ht,.int .i64 s_hv,.int .i64 s_si,.int .i64 s_st,.string s_sc,.string s_sd,.slice s_lA s_l.length s_lc])∧(Ext H H')):=by
 refine spec_go1 E0_ok 10 (f:=25) Try.func25 rfl rfl rfl ?_
 refine aw_seq ?_
 refine aw_reg ?_
 obtain⟨b1,H2,he3,b1e,H2n_,hB5,f4⟩:=mem_box (P:=Try.prog) H (v := .agg #[.int .i64 s_ht,.int .i64 s_hv,.int .i64 s_si,.int .i64 s_st,.string s_sc,.string s_sd,.slice s_lA s_l.length s_lc]) (cs := [.int .i64 s_ht,.int .i64 s_hv,.int .i64 s_si,.int .i64 s_st,.string s_sc,.string s_sd,.slice s_lA s_l.length s_lc]) rfl rfl
 refine st_op (he3 _ _ _ _ _ _ _ _ _ rfl) rfl rfl rfl ?_
 have hx6:Ext H H2:=Ext.new (by omega) H2n_ f4
 have H2n:H.next≤H2.next:=hx6.1
 obtain⟨b7,H8,he9,b7e,H8n_,hB11,f10⟩:=mem_alloc H2 zero51
 refine st_op (he9 _ _ _ _ _ _ _) rfl rfl rfl ?_
 have hx12:Ext H2 H8:=Ext.new (by omega) H8n_ f10
 have H8n:H2.next≤H8.next:=hx12.1
 refine aw_seq ?_
 refine aw_reg ?_
 refine st_op (ev_fieldAddr rfl fa61_0 (o':=0) rfl) rfl rfl rfl ?_
 have h13:=Ext.blk hx12 (by omega) hB5
 refine st_op (ev_load rfl (lvar_part (l := [.int .i64 s_ht,.int .i64 s_hv]) many41 h13 rfl rfl (by decide))) rfl rfl rfl ?_
 refine st_op (ev_fieldAddr rfl fa61_1 (o':=2) rfl) rfl rfl rfl ?_
 refine st_op (ev_load rfl (lvar_part (l := [.int .i64 s_si,.int .i64 s_st,.string s_sc,.string s_sd]) many46 h13 rfl rfl (by decide))) rfl rfl rfl ?_
 refine st_op (ev_fieldAddr rfl fa61_2 (o':=6) rfl) rfl rfl rfl ?_
 refine st_op (ev_load rfl (lvar_one one39 h13 rfl)) rfl rfl rfl ?_
 refine st_op (ev_build zero51 pl51 (parts := [(0,.agg #[.int .i64 s_ht,.int .i64 s_hv]),(1,.agg #[.int .i64 s_si,.int .i64 s_st,.string s_sc,.string s_sd]),(2,.slice s_lA s_l.length s_lc)]) rfl (cs := [.int .i64 s_ht,.int .i64 s_hv,.int .i64 s_si,.int .i64 s_st,.string s_sc,.string s_sd,.slice s_lA s_l.length s_lc]) rfl) rfl rfl rfl ?_
 obtain⟨H14,he15,H14n_,hB16,f17⟩:=mem_store (v := .agg #[.int .i64 s_ht,.int .i64 s_hv,.int .i64 s_si,.int .i64 s_st,.string s_sc,.string s_sd,.slice s_lA s_l.length s_lc]) (o:=0) (cs' := [.int .i64 s_ht,.int .i64 s_hv,.int .i64 s_si,.int .i64 s_st,.string s_sc,.string s_sd,.slice s_lA s_l.length s_lc]) 7 rfl rfl size51 hB11 rfl rfl rfl
 refine st_op0 (he15 _ _ _ _ _ _ _ _ _ rfl rfl) rfl rfl ?_
 have hf18:Fr (fun q=>q=b7) H8 H14:=Fr.write H14n_ f17
 have H14n:H8.next≤H14.next:=hf18.1
 refine aw_ret ?_
 have hx19:Ext H H14:=(Ext.then (Ext.trans hx6 hx12) hf18 (fun q hq e=>by omega))
 exact⟨.agg #[.int .i64 s_ht,.int .i64 s_hv,.int .i64 s_si,.int .i64 s_st,.string s_sc,.string s_sd,.slice s_lA s_l.length s_lc],(resA_of (resL_cell rfl (lvar_part (l := [.int .i64 s_ht,.int .i64 s_hv,.int .i64 s_si,.int .i64 s_st,.string s_sc,.string s_sd,.slice s_lA s_l.length s_lc]) many51 hB16 rfl rfl (by decide)) resL_nil) rfl),rfl,hx19⟩
theorem ref17_EqSnap_spec (H:Heap) (a_index:Int) (a_term:Int) (a_conf:ByteArray) (a_data:ByteArray) (b_index:Int) (b_term:Int) (b_conf:ByteArray) (b_data:ByteArray):∃ v H',Spec Try.prog 46 [.agg #[.int .i64 a_index,.int .i64 a_term,.string a_conf,.string a_data],.agg #[.int .i64 b_index,.int .i64 b_term,.string b_conf,.string b_data]] H v H'∧((v = .bool (Spec.eqSn a_index a_term a_conf a_data b_index b_term b_conf b_data))∧(Ext H H')):=by
 refine spec_go2 E0_ok 31 (f:=46) Try.func46 rfl rfl rfl ?_
 refine aw_seq ?_
 refine aw_reg ?_
 obtain⟨b1,H2,he3,b1e,H2n_,hB5,f4⟩:=mem_box (P:=Try.prog) H (v := .agg #[.int .i64 a_index,.int .i64 a_term,.string a_conf,.string a_data]) (cs := [.int .i64 a_index,.int .i64 a_term,.string a_conf,.string a_data]) rfl rfl
 refine st_op (he3 _ _ _ _ _ _ _ _ _ rfl) rfl rfl rfl ?_
 have hx6:Ext H H2:=Ext.new (by omega) H2n_ f4
 have H2n:H.next≤H2.next:=hx6.1
 obtain⟨b7,H8,he9,b7e,H8n_,hB11,f10⟩:=mem_box (P:=Try.prog) H2 (v := .agg #[.int .i64 b_index,.int .i64 b_term,.string b_conf,.string b_data]) (cs := [.int .i64 b_index,.int .i64 b_term,.string b_conf,.string b_data]) rfl rfl
 refine st_op (he9 _ _ _ _ _ _ _ _ _ rfl) rfl rfl rfl ?_
 have hx12:Ext H2 H8:=Ext.new (by omega) H8n_ f10
 have H8n:H2.next≤H8.next:=hx12.1
 refine st_op (ev_assign rfl) rfl rfl rfl ?_
 refine aw_seq ?_
 refine aw_reg ?_
 refine st_op (ev_fieldAddr rfl fa46_0 (o':=0) rfl) rfl rfl rfl ?_
 have h13:=Ext.blk hx12 (by omega) hB5
 refine st_op (ev_load rfl (lvar_one one2 h13 rfl)) rfl rfl rfl ?_
 refine st_op (ev_fieldAddr rfl fa46_0 (o':=0) rfl) rfl rfl rfl ?_
 refine st_op (ev_load rfl (lvar_one one2 hB11 rfl)) rfl rfl rfl ?_
 refine st_op (ev_int rfl rfl rfl) rfl rfl rfl ?_
 refine st_op (ev_move rfl) rfl rfl rfl ?_
 refine st_bool 10 rfl (fun hb14=>?_) (fun hb14=>?_)
 ·
  have hb14:=eq_of_beq hb14
  refine st_op (ev_fieldAddr rfl fa46_1 (o':=1) rfl) rfl rfl rfl ?_
  refine st_op (ev_load rfl (lvar_one one2 h13 rfl)) rfl rfl rfl ?_
  refine st_op (ev_fieldAddr rfl fa46_1 (o':=1) rfl) rfl rfl rfl ?_
  refine st_op (ev_load rfl (lvar_one one2 hB11 rfl)) rfl rfl rfl ?_
  refine st_op (ev_int rfl rfl rfl) rfl rfl rfl ?_
  refine st_op (ev_pickT rfl rfl) rfl rfl rfl ?_
  refine st_op (ev_move rfl) rfl rfl rfl ?_
  refine st_bool 17 rfl (fun hb15=>?_) (fun hb15=>?_)
  ·
   have hb15:=eq_of_beq hb15
   refine st_op (ev_fieldAddr rfl fa46_2 (o':=2) rfl) rfl rfl rfl ?_
   refine st_op (ev_load rfl (lvar_one one9 h13 rfl)) rfl rfl rfl ?_
   refine st_op (ev_fieldAddr rfl fa46_2 (o':=2) rfl) rfl rfl rfl ?_
   refine st_op (ev_load rfl (lvar_one one9 hB11 rfl)) rfl rfl rfl ?_
   refine st_op (ev_str rfl rfl rfl) rfl rfl rfl ?_
   refine st_op (ev_pickT rfl rfl) rfl rfl rfl ?_
   refine st_op (ev_move rfl) rfl rfl rfl ?_
   refine st_bool 24 rfl (fun hb16=>?_) (fun hb16=>?_)
   ·
    have hb16:=eq_of_beq hb16
    refine st_op (ev_fieldAddr rfl fa46_3 (o':=3) rfl) rfl rfl rfl ?_
    refine st_op (ev_load rfl (lvar_one one9 h13 rfl)) rfl rfl rfl ?_
    refine st_op (ev_fieldAddr rfl fa46_3 (o':=3) rfl) rfl rfl rfl ?_
    refine st_op (ev_load rfl (lvar_one one9 hB11 rfl)) rfl rfl rfl ?_
    refine st_op (ev_str rfl rfl rfl) rfl rfl rfl ?_
    refine st_op (ev_pickT rfl rfl) rfl rfl rfl ?_
    refine st_op (ev_assign rfl) rfl rfl rfl ?_
    refine aw_ret ?_
    have hx17:Ext H H8:=(Ext.trans hx6 hx12)
    have hres:(Spec.eqSn a_index a_term a_conf a_data b_index b_term b_conf b_data)=((a_data).toList == (b_data).toList):=by simp only [Spec.eqSn];simp_all
    exact⟨.bool ((a_data).toList == (b_data).toList),rfl,by first | (rw[hres];done) | rw[← hres],hx17⟩
   ·
    have hb16:=ne_of_beq_false hb16
    iterate 5 refine st_skip rfl rfl rfl ?_
    refine st_op (ev_pickF rfl rfl) rfl rfl rfl ?_
    refine st_op (ev_assign rfl) rfl rfl rfl ?_
    refine aw_ret ?_
    have hx18:Ext H H8:=(Ext.trans hx6 hx12)
    have hres:(Spec.eqSn a_index a_term a_conf a_data b_index b_term b_conf b_data)=false:=by simp only [Spec.eqSn];simp_all
    exact⟨.bool false,rfl,by first | (rw[hres];done) | rw[← hres],hx18⟩
  ·
   have hb15:=ne_of_beq_false hb15
   iterate 5 refine st_skip rfl rfl rfl ?_
   refine st_op (ev_pickF rfl rfl) rfl rfl rfl ?_
   refine st_op (ev_move rfl) rfl rfl rfl ?_
   iterate 5 refine st_skip rfl rfl rfl ?_
   refine st_op (ev_pickF rfl rfl) rfl rfl rfl ?_
   refine st_op (ev_assign rfl) rfl rfl rfl ?_
   refine aw_ret ?_
   have hx19:Ext H H8:=(Ext.trans hx6 hx12)
   have hres:(Spec.eqSn a_index a_term a_conf a_data b_index b_term b_conf b_data)=false:=by simp only [Spec.eqSn];simp_all
   exact⟨.bool false,rfl,by first | (rw[hres];done) | rw[← hres],hx19⟩
 ·
  have hb14:=ne_of_beq_false hb14
  iterate 5 refine st_skip rfl rfl rfl ?_
  refine st_op (ev_pickF rfl rfl) rfl rfl rfl ?_
  refine st_op (ev_move rfl) rfl rfl rfl ?_
  iterate 5 refine st_skip rfl rfl rfl ?_
  refine st_op (ev_pickF rfl rfl) rfl rfl rfl ?_
  refine st_op (ev_move rfl) rfl rfl rfl ?_
  iterate 5 refine st_skip rfl rfl rfl ?_
  refine st_op (ev_pickF rfl rfl) rfl rfl rfl ?_
  refine st_op (ev_assign rfl) rfl rfl rfl ?_
  refine aw_ret ?_
  have hx20:Ext H H8:=(Ext.trans hx6 hx12)
  have hres:(Spec.eqSn a_index a_term a_conf a_data b_index b_term b_conf b_data)=false:=by simp only [Spec.eqSn];simp_all
  exact⟨.bool false,rfl,by first | (rw[hres];done) | rw[← hres],hx20⟩
theorem ref17_EqEntry_spec (H:Heap) (a_index:Int) (a_term:Int) (a_kind:Int) (a_data:ByteArray) (b_index:Int) (b_term:Int) (b_kind:Int) (b_data:ByteArray):∃ v H',Spec Try.prog 48 [.agg #[.int .i64 a_index,.int .i64 a_term,.int .i64 a_kind,.string a_data],.agg #[.int .i64 b_index,.int .i64 b_term,.int .i64 b_kind,.string b_data]] H v H'∧((v = .bool (decide (a_index=b_index∧a_term=b_term∧a_kind=b_kind∧a_data=b_data)))∧(Ext H H')):=by
 refine spec_go2 E0_ok 31 (f:=48) Try.func48 rfl rfl rfl ?_
 refine aw_seq ?_
 refine aw_reg ?_
 obtain⟨b1,H2,he3,b1e,H2n_,hB5,f4⟩:=mem_box (P:=Try.prog) H (v := .agg #[.int .i64 a_index,.int .i64 a_term,.int .i64 a_kind,.string a_data]) (cs := [.int .i64 a_index,.int .i64 a_term,.int .i64 a_kind,.string a_data]) rfl rfl
 refine st_op (he3 _ _ _ _ _ _ _ _ _ rfl) rfl rfl rfl ?_
 have hx6:Ext H H2:=Ext.new (by omega) H2n_ f4
 have H2n:H.next≤H2.next:=hx6.1
 obtain⟨b7,H8,he9,b7e,H8n_,hB11,f10⟩:=mem_box (P:=Try.prog) H2 (v := .agg #[.int .i64 b_index,.int .i64 b_term,.int .i64 b_kind,.string b_data]) (cs := [.int .i64 b_index,.int .i64 b_term,.int .i64 b_kind,.string b_data]) rfl rfl
 refine st_op (he9 _ _ _ _ _ _ _ _ _ rfl) rfl rfl rfl ?_
 have hx12:Ext H2 H8:=Ext.new (by omega) H8n_ f10
 have H8n:H2.next≤H8.next:=hx12.1
 refine st_op (ev_assign rfl) rfl rfl rfl ?_
 refine aw_seq ?_
 refine aw_reg ?_
 refine st_op (ev_fieldAddr rfl fa54_0 (o':=0) rfl) rfl rfl rfl ?_
 have h13:=Ext.blk hx12 (by omega) hB5
 refine st_op (ev_load rfl (lvar_one one2 h13 rfl)) rfl rfl rfl ?_
 refine st_op (ev_fieldAddr rfl fa54_0 (o':=0) rfl) rfl rfl rfl ?_
 refine st_op (ev_load rfl (lvar_one one2 hB11 rfl)) rfl rfl rfl ?_
 refine st_op (ev_int rfl rfl rfl) rfl rfl rfl ?_
 refine st_op (ev_move rfl) rfl rfl rfl ?_
 refine st_bool 10 rfl (fun hb14=>?_) (fun hb14=>?_)
 ·
  have hb14:=eq_of_beq hb14
  refine st_op (ev_fieldAddr rfl fa54_1 (o':=1) rfl) rfl rfl rfl ?_
  refine st_op (ev_load rfl (lvar_one one2 h13 rfl)) rfl rfl rfl ?_
  refine st_op (ev_fieldAddr rfl fa54_1 (o':=1) rfl) rfl rfl rfl ?_
  refine st_op (ev_load rfl (lvar_one one2 hB11 rfl)) rfl rfl rfl ?_
  refine st_op (ev_int rfl rfl rfl) rfl rfl rfl ?_
  refine st_op (ev_pickT rfl rfl) rfl rfl rfl ?_
  refine st_op (ev_move rfl) rfl rfl rfl ?_
  refine st_bool 17 rfl (fun hb15=>?_) (fun hb15=>?_)
  ·
   have hb15:=eq_of_beq hb15
   refine st_op (ev_fieldAddr rfl fa54_2 (o':=2) rfl) rfl rfl rfl ?_
   refine st_op (ev_load rfl (lvar_one one3 h13 rfl)) rfl rfl rfl ?_
   refine st_op (ev_fieldAddr rfl fa54_2 (o':=2) rfl) rfl rfl rfl ?_
   refine st_op (ev_load rfl (lvar_one one3 hB11 rfl)) rfl rfl rfl ?_
   refine st_op (ev_int rfl rfl rfl) rfl rfl rfl ?_
   refine st_op (ev_pickT rfl rfl) rfl rfl rfl ?_
   refine st_op (ev_move rfl) rfl rfl rfl ?_
   refine st_bool 24 rfl (fun hb16=>?_) (fun hb16=>?_)
   ·
    have hb16:=eq_of_beq hb16
    refine st_op (ev_fieldAddr rfl fa54_3 (o':=3) rfl) rfl rfl rfl ?_
    refine st_op (ev_load rfl (lvar_one one9 h13 rfl)) rfl rfl rfl ?_
    refine st_op (ev_fieldAddr rfl fa54_3 (o':=3) rfl) rfl rfl rfl ?_
    refine st_op (ev_load rfl (lvar_one one9 hB11 rfl)) rfl rfl rfl ?_
    refine st_op (ev_str rfl rfl rfl) rfl rfl rfl ?_
    refine st_op (ev_pickT rfl rfl) rfl rfl rfl ?_
    refine st_op (ev_assign rfl) rfl rfl rfl ?_
    refine aw_ret ?_
    have hx17:Ext H H8:=(Ext.trans hx6 hx12)
    have hres:(decide (a_index=b_index∧a_term=b_term∧a_kind=b_kind∧a_data=b_data))=((a_data).toList == (b_data).toList):=by rw[Bool.eq_iff_iff];simp_all [Spec.ba_iff]
    exact⟨.bool ((a_data).toList == (b_data).toList),rfl,by first | (rw[hres];done) | rw[← hres],hx17⟩
   ·
    have hb16:=ne_of_beq_false hb16
    iterate 5 refine st_skip rfl rfl rfl ?_
    refine st_op (ev_pickF rfl rfl) rfl rfl rfl ?_
    refine st_op (ev_assign rfl) rfl rfl rfl ?_
    refine aw_ret ?_
    have hx18:Ext H H8:=(Ext.trans hx6 hx12)
    have hres:(decide (a_index=b_index∧a_term=b_term∧a_kind=b_kind∧a_data=b_data))=false:=by rw[Bool.eq_iff_iff];simp_all [Spec.ba_iff]
    exact⟨.bool false,rfl,by first | (rw[hres];done) | rw[← hres],hx18⟩
  ·
   have hb15:=ne_of_beq_false hb15
   iterate 5 refine st_skip rfl rfl rfl ?_
   refine st_op (ev_pickF rfl rfl) rfl rfl rfl ?_
   refine st_op (ev_move rfl) rfl rfl rfl ?_
   iterate 5 refine st_skip rfl rfl rfl ?_
   refine st_op (ev_pickF rfl rfl) rfl rfl rfl ?_
   refine st_op (ev_assign rfl) rfl rfl rfl ?_
   refine aw_ret ?_
   have hx19:Ext H H8:=(Ext.trans hx6 hx12)
   have hres:(decide (a_index=b_index∧a_term=b_term∧a_kind=b_kind∧a_data=b_data))=false:=by rw[Bool.eq_iff_iff];simp_all [Spec.ba_iff]
   exact⟨.bool false,rfl,by first | (rw[hres];done) | rw[← hres],hx19⟩
 ·
  have hb14:=ne_of_beq_false hb14
  iterate 5 refine st_skip rfl rfl rfl ?_
  refine st_op (ev_pickF rfl rfl) rfl rfl rfl ?_
  refine st_op (ev_move rfl) rfl rfl rfl ?_
  iterate 5 refine st_skip rfl rfl rfl ?_
  refine st_op (ev_pickF rfl rfl) rfl rfl rfl ?_
  refine st_op (ev_move rfl) rfl rfl rfl ?_
  iterate 5 refine st_skip rfl rfl rfl ?_
  refine st_op (ev_pickF rfl rfl) rfl rfl rfl ?_
  refine st_op (ev_assign rfl) rfl rfl rfl ?_
  refine aw_ret ?_
  have hx20:Ext H H8:=(Ext.trans hx6 hx12)
  have hres:(decide (a_index=b_index∧a_term=b_term∧a_kind=b_kind∧a_data=b_data))=false:=by rw[Bool.eq_iff_iff];simp_all [Spec.ba_iff]
  exact⟨.bool false,rfl,by first | (rw[hres];done) | rw[← hres],hx20⟩
theorem ref17_EqEntries_spec (H:Heap) (uaA:Option Addr) (ua:List Entry) (uac:Nat) (hua:Row H uaA uac 4 (ua.map Entry.cells)) (cua:ua.length≤uac) (lua:ua.length≤140737488355328) (vaA:Option Addr) (va:List Entry) (vac:Nat) (hva:Row H vaA vac 4 (va.map Entry.cells)) (cva:va.length≤vac) (lva:va.length≤140737488355328):∃ v H',Spec Try.prog 28 [.slice uaA ua.length uac,.slice vaA va.length vac] H v H'∧((v = .bool (Spec.eqEs ua va))∧(Ext H H')):=by
 refine spec_go2 E0_ok 27 (f:=28) Try.func28 rfl rfl rfl ?_
 refine aw_seq ?_
 refine aw_reg ?_
 refine st_op (ev_assign rfl) rfl rfl rfl ?_
 iterate 2 refine aw_seq ?_
 refine aw_reg ?_
 refine st_op (ev_move rfl) rfl rfl rfl ?_
 refine st_op (ev_lenSl rfl Try.underlying39) rfl rfl rfl ?_
 refine st_op (ev_move rfl) rfl rfl rfl ?_
 refine st_op (ev_lenSl rfl Try.underlying39) rfl rfl rfl ?_
 refine st_op (ev_int rfl rfl rfl) rfl rfl rfl ?_
 by_cases hc1:((ua.length:Int) != (va.length:Int))=true
 ·
  refine aw_condT hc1 rfl ?_
  have hc1:¬ ((ua.length:Int)=(va.length:Int)):=by simpa using hc1
  refine aw_seq ?_
  refine aw_reg ?_
  refine st_op (ev_assign rfl) rfl rfl rfl ?_
  refine aw_ret ?_
  have hres:(Spec.eqEs ua va)=false:=by exact Spec.eqEs_len (by omega)
  exact⟨.bool false,rfl,by first | (rw[hres];done) | rw[← hres],(Ext.refl H)⟩
 ·
  rw[Bool.not_eq_true] at hc1;refine aw_condF hc1 rfl ?_
  have hc1:((ua.length:Int)=(va.length:Int)):=by simpa using hc1
  refine aw_skip ?_
  iterate 2 refine aw_seq ?_
  refine aw_reg ?_
  refine st_op (ev_assign rfl) rfl rfl rfl ?_
  refine aw_block ?_
  refine aw_keep [0,1,5] (l':=(.cons 0 (.slice uaA ua.length uac) (.cons 1 (.slice vaA va.length vac) (.cons 5 (.int .i64 0) .nil)))) (by repeat (first | exact Up.done | refine Up.then ?_ | refine Up.inBlock ?_)) rfl ?_
  refine aw_iter (α:=Nat×Heap) (fun a=>ua.length - a.1) (fun a=>(.cons 0 (.slice uaA ua.length uac) (.cons 1 (.slice vaA va.length vac) (.cons 5 (.int .i64 (a.1:Int)) .nil)))) (fun a=>a.2) (fun a=>(a.1≤ua.length)∧(Spec.eqEs ua va=Spec.eqEs (ua.drop a.1) (va.drop a.1))∧(Ext H a.2)) (0,H) ⟨(show 0≤ua.length from Nat.zero_le _),(show Spec.eqEs ua va=Spec.eqEs (ua.drop 0) (va.drop 0) from rfl),(show Ext H H from(Ext.refl H))⟩ ?_
  rintro⟨i,Hl2⟩ ⟨hi,hv,hxl3⟩ ih4
  replace hi:i≤ua.length:=hi
  replace hv:Spec.eqEs ua va=Spec.eqEs (ua.drop i) (va.drop i):=hv
  replace hxl3:Ext H Hl2:=hxl3
  show aw _ _ _ (RL _ (.cons 0 (.slice uaA ua.length uac) (.cons 1 (.slice vaA va.length vac) (.cons 5 (.int .i64 (i:Int)) .nil)))) Hl2 _
  have Hl2n:H.next≤Hl2.next:=hxl3.1
  iterate 2 refine aw_seq ?_
  refine aw_reg ?_
  iterate 2 refine st_op (ev_move rfl) rfl rfl rfl ?_
  refine st_op (ev_lenSl rfl Try.underlying39) rfl rfl rfl ?_
  refine st_op (ev_int rfl rfl rfl) rfl rfl rfl ?_
  by_cases hc5:(decide ((i:Int)<(ua.length:Int)))=true
  ·
   refine aw_condT hc5 rfl ?_
   have hc5:=of_decide_eq_true hc5
   refine aw_skip ?_
   refine aw_seq ?_
   refine aw_block ?_
   refine aw_seq ?_
   refine aw_marks (fun b=>b<Hl2.next) [(false,false),(false,false),(false,false),(false,false),(false,false),(false,false),(false,false),(false,false),(false,false),(false,false)] mixed (by kernel_rfl) (by kernel_rfl) ?_
   iterate 2 refine sm_op (ev_move rfl) rfl rfl rfl ?_
   have h6:=Row.ext hua hxl3
   have hi7:0≤((i:Int):Int):=by omega
   have hi8:((i:Int):Int)<((ua.length:Nat):Int):=by omega
   obtain⟨x9,hx10⟩:∃ e,ua[i]?=some e:=⟨_,List.getElem?_eq_getElem (by omega)⟩
   refine sm_op (ev_at rfl rfl h6 (getMap Entry.cells hx10) (by first | rfl | omega | simp) hi7 hi8 el39) rfl rfl rfl ?_
   refine sm_op (ev_atN (cs := [.int .i64 x9.index,.int .i64 x9.term,.int .i64 x9.kind,.string x9.data]) rfl h6 (getMap Entry.cells hx10) many54 rfl rfl (by decide)) rfl rfl rfl ?_
   iterate 2 refine sm_op (ev_move rfl) rfl rfl rfl ?_
   have h11:=Row.ext hva hxl3
   have hi12:0≤((i:Int):Int):=by omega
   have hi13:((i:Int):Int)<((va.length:Nat):Int):=by omega
   obtain⟨x14,hx15⟩:∃ e,va[i]?=some e:=⟨_,List.getElem?_eq_getElem (by omega)⟩
   refine sm_op (ev_at rfl rfl h11 (getMap Entry.cells hx15) (by first | rfl | omega | simp) hi12 hi13 el39) rfl rfl rfl ?_
   refine sm_op (ev_atN (cs := [.int .i64 x14.index,.int .i64 x14.term,.int .i64 x14.kind,.string x14.data]) rfl h11 (getMap Entry.cells hx15) many54 rfl rfl (by decide)) rfl rfl rfl ?_
   refine sm_call rfl rfl rfl ent48 rfl rfl rfl ?_
   obtain⟨_,H17,hs16,hs16v,hx18⟩:=ref17_EqEntry_spec Hl2 x9.index x9.term x9.kind x9.data x14.index x14.term x14.kind x14.data
   rw[hs16v] at hs16;clear hs16v
   refine⟨_,H17,hs16,(fun h=>nomatch h),?_⟩
   have H17n:Hl2.next≤H17.next:=hx18.1
   refine sm_op (ev_not rfl) rfl rfl rfl ?_
   by_cases hc19:(!(decide (x9.index=x14.index∧x9.term=x14.term∧x9.kind=x14.kind∧x9.data=x14.data)))=true
   ·
    refine aw_condT hc19 rfl ?_
    replace hc19:(decide (x9.index=x14.index∧x9.term=x14.term∧x9.kind=x14.kind∧x9.data=x14.data))=false:=by rw[Bool.not_eq_true'] at hc19;exact hc19
    have hc19:=of_decide_eq_false hc19
    refine aw_seq ?_
    refine aw_reg ?_
    refine st_op (ev_assign rfl) rfl rfl rfl ?_
    refine aw_ret ?_
    have hx20:Ext H H17:=(Ext.trans hxl3 hx18)
    have hres:(Spec.eqEs ua va)=false:=by rw[hv];exact Spec.eqEs_fail hx10 hx15 (by assumption)
    exact⟨.bool false,rfl,by first | (rw[hres];done) | rw[← hres],hx20⟩
   ·
    rw[Bool.not_eq_true] at hc19;refine aw_condF hc19 rfl ?_
    replace hc19:(decide (x9.index=x14.index∧x9.term=x14.term∧x9.kind=x14.kind∧x9.data=x14.data))=true:=by rw[Bool.not_eq_false'] at hc19;exact hc19
    have hc19:=of_decide_eq_true hc19
    refine aw_skip ?_
    refine aw_reg ?_
    refine st_op (ev_move rfl) rfl rfl rfl ?_
    refine st_op (ev_int64 (c:=(i:Int)+1) rfl rfl rfl (by omega) (by omega)) rfl rfl rfl ?_
    refine st_op (ev_assign rfl) rfl rfl rfl ?_
    have hx21:Ext H H17:=(Ext.trans hxl3 hx18)
    refine aw_keep [0,1,5] (l':=(.cons 0 (.slice uaA ua.length uac) (.cons 1 (.slice vaA va.length vac) (.cons 5 (.int .i64 ((i:Int)+1)) .nil)))) (by repeat (first | exact Up.done | refine Up.then ?_ | refine Up.inBlock ?_)) rfl ?_
    exact ih4 (i+1,H17) ⟨(show(i+1)≤ua.length from(by omega)),(show Spec.eqEs ua va=Spec.eqEs (ua.drop (i+1)) (va.drop (i+1)) from(by rw[hv];exact Spec.eqEs_step hx10 hx15 (by assumption))),(show Ext H H17 from hx21)⟩ (by simp only;omega)
  ·
   rw[Bool.not_eq_true] at hc5;refine aw_condF hc5 rfl ?_
   have hc5:=of_decide_eq_false hc5
   refine aw_exit ?_
   refine aw_seq ?_
   refine aw_reg ?_
   refine st_op (ev_assign rfl) rfl rfl rfl ?_
   refine aw_ret ?_
   have hres:(Spec.eqEs ua va)=true:=by rw[hv,List.drop_eq_nil_of_le (by omega),List.drop_eq_nil_of_le (by omega)];rfl
   exact⟨.bool true,rfl,by first | (rw[hres];done) | rw[← hres],hxl3⟩
theorem ref17_EqState_spec (H:Heap) (a_ht:Int) (a_hv:Int) (a_si:Int) (a_st:Int) (a_sc:ByteArray) (a_sd:ByteArray) (a_lA:Option Addr) (a_l:List Entry) (a_lc:Nat) (ha_l:Row H a_lA a_lc 4 (a_l.map Entry.cells)) (ca_l:a_l.length≤a_lc) (la_l:a_l.length≤1099511627776) (b_ht:Int) (b_hv:Int) (b_si:Int) (b_st:Int) (b_sc:ByteArray) (b_sd:ByteArray) (b_lA:Option Addr) (b_l:List Entry) (b_lc:Nat) (hb_l:Row H b_lA b_lc 4 (b_l.map Entry.cells)) (cb_l:b_l.length≤b_lc) (lb_l:b_l.length≤1099511627776):∃ v H',Spec Try.prog 24 [.agg #[.int .i64 a_ht,.int .i64 a_hv,.int .i64 a_si,.int .i64 a_st,.string a_sc,.string a_sd,.slice a_lA a_l.length a_lc],.agg #[.int .i64 b_ht,.int .i64 b_hv,.int .i64 b_si,.int .i64 b_st,.string b_sc,.string b_sd,.slice b_lA b_l.length b_lc]] H v H'∧((v = .bool (decide (a_ht=b_ht∧a_hv=b_hv∧Spec.eqSn a_si a_st a_sc a_sd b_si b_st b_sc b_sd=true∧Spec.eqEs a_l b_l=true)))∧(Ext H H')):=by
 refine spec_go2 E0_ok 35 (f:=24) Try.func24 rfl rfl rfl ?_
 refine aw_seq ?_
 refine aw_reg ?_
 obtain⟨b1,H2,he3,b1e,H2n_,hB5,f4⟩:=mem_box (P:=Try.prog) H (v := .agg #[.int .i64 a_ht,.int .i64 a_hv,.int .i64 a_si,.int .i64 a_st,.string a_sc,.string a_sd,.slice a_lA a_l.length a_lc]) (cs := [.int .i64 a_ht,.int .i64 a_hv,.int .i64 a_si,.int .i64 a_st,.string a_sc,.string a_sd,.slice a_lA a_l.length a_lc]) rfl rfl
 refine st_op (he3 _ _ _ _ _ _ _ _ _ rfl) rfl rfl rfl ?_
 have hx6:Ext H H2:=Ext.new (by omega) H2n_ f4
 have H2n:H.next≤H2.next:=hx6.1
 obtain⟨b7,H8,he9,b7e,H8n_,hB11,f10⟩:=mem_box (P:=Try.prog) H2 (v := .agg #[.int .i64 b_ht,.int .i64 b_hv,.int .i64 b_si,.int .i64 b_st,.string b_sc,.string b_sd,.slice b_lA b_l.length b_lc]) (cs := [.int .i64 b_ht,.int .i64 b_hv,.int .i64 b_si,.int .i64 b_st,.string b_sc,.string b_sd,.slice b_lA b_l.length b_lc]) rfl rfl
 refine st_op (he9 _ _ _ _ _ _ _ _ _ rfl) rfl rfl rfl ?_
 have hx12:Ext H2 H8:=Ext.new (by omega) H8n_ f10
 have H8n:H2.next≤H8.next:=hx12.1
 refine st_op (ev_assign rfl) rfl rfl rfl ?_
 refine aw_seq ?_
 refine aw_reg ?_
 refine st_op (ev_fieldAddr rfl fa51_0 (o':=0) rfl) rfl rfl rfl ?_
 refine st_op (ev_fieldAddr rfl fa41_0 (o':=0) rfl) rfl rfl rfl ?_
 have h13:=Ext.blk hx12 (by omega) hB5
 refine st_op (ev_load rfl (lvar_one one2 h13 rfl)) rfl rfl rfl ?_
 refine st_op (ev_fieldAddr rfl fa51_0 (o':=0) rfl) rfl rfl rfl ?_
 refine st_op (ev_fieldAddr rfl fa41_0 (o':=0) rfl) rfl rfl rfl ?_
 refine st_op (ev_load rfl (lvar_one one2 hB11 rfl)) rfl rfl rfl ?_
 refine st_op (ev_int rfl rfl rfl) rfl rfl rfl ?_
 refine st_op (ev_move rfl) rfl rfl rfl ?_
 refine st_bool 12 rfl (fun hb14=>?_) (fun hb14=>?_)
 ·
  have hb14:=eq_of_beq hb14
  refine st_op (ev_fieldAddr rfl fa51_0 (o':=0) rfl) rfl rfl rfl ?_
  refine st_op (ev_fieldAddr rfl fa41_1 (o':=1) rfl) rfl rfl rfl ?_
  refine st_op (ev_load rfl (lvar_one one3 h13 rfl)) rfl rfl rfl ?_
  refine st_op (ev_fieldAddr rfl fa51_0 (o':=0) rfl) rfl rfl rfl ?_
  refine st_op (ev_fieldAddr rfl fa41_1 (o':=1) rfl) rfl rfl rfl ?_
  refine st_op (ev_load rfl (lvar_one one3 hB11 rfl)) rfl rfl rfl ?_
  refine st_op (ev_int rfl rfl rfl) rfl rfl rfl ?_
  refine st_op (ev_pickT rfl rfl) rfl rfl rfl ?_
  refine st_op (ev_move rfl) rfl rfl rfl ?_
  refine st_bool 21 rfl (fun hb15=>?_) (fun hb15=>?_)
  ·
   have hb15:=eq_of_beq hb15
   refine st_op (ev_fieldAddr rfl fa51_1 (o':=2) rfl) rfl rfl rfl ?_
   refine st_op (ev_load rfl (lvar_part (l := [.int .i64 a_si,.int .i64 a_st,.string a_sc,.string a_sd]) many46 h13 rfl rfl (by decide))) rfl rfl rfl ?_
   refine st_op (ev_fieldAddr rfl fa51_1 (o':=2) rfl) rfl rfl rfl ?_
   refine st_op (ev_load rfl (lvar_part (l := [.int .i64 b_si,.int .i64 b_st,.string b_sc,.string b_sd]) many46 hB11 rfl rfl (by decide))) rfl rfl rfl ?_
   refine st_call rfl rfl rfl ent46 rfl rfl rfl ?_
   obtain⟨_,H17,hs16,hs16v,hx18⟩:=ref17_EqSnap_spec H8 a_si a_st a_sc a_sd b_si b_st b_sc b_sd
   rw[hs16v] at hs16;clear hs16v
   refine⟨_,H17,hs16,?_⟩
   have H17n:H8.next≤H17.next:=hx18.1
   refine st_op (ev_pickT rfl rfl) rfl rfl rfl ?_
   refine st_op (ev_move rfl) rfl rfl rfl ?_
   refine st_bool 28 rfl (fun hb19=>?_) (fun hb19=>?_)
   ·
    refine st_op (ev_fieldAddr rfl fa51_2 (o':=6) rfl) rfl rfl rfl ?_
    have h20:=Ext.blk hx18 (by omega) h13
    refine st_op (ev_load rfl (lvar_one one39 h20 rfl)) rfl rfl rfl ?_
    refine st_op (ev_fieldAddr rfl fa51_2 (o':=6) rfl) rfl rfl rfl ?_
    have h21:=Ext.blk hx18 (by omega) hB11
    refine st_op (ev_load rfl (lvar_one one39 h21 rfl)) rfl rfl rfl ?_
    refine st_call rfl rfl rfl ent28 rfl rfl rfl ?_
    have hx23:Ext H H17:=(Ext.trans (Ext.trans hx6 hx12) hx18)
    have h22:=Row.ext ha_l hx23
    have h24:=Row.ext hb_l hx23
    obtain⟨_,H26,hs25,hs25v,hx27⟩:=ref17_EqEntries_spec H17 a_lA a_l a_lc h22 ca_l (by omega) b_lA b_l b_lc h24 cb_l (by omega)
    rw[hs25v] at hs25;clear hs25v
    refine⟨_,H26,hs25,?_⟩
    have H26n:H17.next≤H26.next:=hx27.1
    refine st_op (ev_pickT rfl rfl) rfl rfl rfl ?_
    refine st_op (ev_assign rfl) rfl rfl rfl ?_
    refine aw_ret ?_
    have hx28:Ext H H26:=(Ext.trans hx23 hx27)
    have hres:(decide (a_ht=b_ht∧a_hv=b_hv∧Spec.eqSn a_si a_st a_sc a_sd b_si b_st b_sc b_sd=true∧Spec.eqEs a_l b_l=true))=(Spec.eqEs a_l b_l):=by rw[Bool.eq_iff_iff];simp_all
    exact⟨.bool (Spec.eqEs a_l b_l),rfl,by first | (rw[hres];done) | rw[← hres],hx28⟩
   ·
    iterate 5 refine st_skip rfl rfl rfl ?_
    refine st_op (ev_pickF rfl rfl) rfl rfl rfl ?_
    refine st_op (ev_assign rfl) rfl rfl rfl ?_
    refine aw_ret ?_
    have hx29:Ext H H17:=(Ext.trans (Ext.trans hx6 hx12) hx18)
    have hres:(decide (a_ht=b_ht∧a_hv=b_hv∧Spec.eqSn a_si a_st a_sc a_sd b_si b_st b_sc b_sd=true∧Spec.eqEs a_l b_l=true))=false:=by rw[Bool.eq_iff_iff];simp_all
    exact⟨.bool false,rfl,by first | (rw[hres];done) | rw[← hres],hx29⟩
  ·
   have hb15:=ne_of_beq_false hb15
   iterate 5 refine st_skip rfl rfl rfl ?_
   refine st_op (ev_pickF rfl rfl) rfl rfl rfl ?_
   refine st_op (ev_move rfl) rfl rfl rfl ?_
   iterate 5 refine st_skip rfl rfl rfl ?_
   refine st_op (ev_pickF rfl rfl) rfl rfl rfl ?_
   refine st_op (ev_assign rfl) rfl rfl rfl ?_
   refine aw_ret ?_
   have hx30:Ext H H8:=(Ext.trans hx6 hx12)
   have hres:(decide (a_ht=b_ht∧a_hv=b_hv∧Spec.eqSn a_si a_st a_sc a_sd b_si b_st b_sc b_sd=true∧Spec.eqEs a_l b_l=true))=false:=by rw[Bool.eq_iff_iff];simp_all
   exact⟨.bool false,rfl,by first | (rw[hres];done) | rw[← hres],hx30⟩
 ·
  have hb14:=ne_of_beq_false hb14
  iterate 7 refine st_skip rfl rfl rfl ?_
  refine st_op (ev_pickF rfl rfl) rfl rfl rfl ?_
  refine st_op (ev_move rfl) rfl rfl rfl ?_
  iterate 5 refine st_skip rfl rfl rfl ?_
  refine st_op (ev_pickF rfl rfl) rfl rfl rfl ?_
  refine st_op (ev_move rfl) rfl rfl rfl ?_
  iterate 5 refine st_skip rfl rfl rfl ?_
  refine st_op (ev_pickF rfl rfl) rfl rfl rfl ?_
  refine st_op (ev_assign rfl) rfl rfl rfl ?_
  refine aw_ret ?_
  have hx31:Ext H H8:=(Ext.trans hx6 hx12)
  have hres:(decide (a_ht=b_ht∧a_hv=b_hv∧Spec.eqSn a_si a_st a_sc a_sd b_si b_st b_sc b_sd=true∧Spec.eqEs a_l b_l=true))=false:=by rw[Bool.eq_iff_iff];simp_all
  exact⟨.bool false,rfl,by first | (rw[hres];done) | rw[← hres],hx31⟩
theorem law_KeepOwn_spec (H:Heap) (w0A:Option Addr) (w0:List Entry) (w0c:Nat) (hw0:Row H w0A w0c 4 (w0.map Entry.cells)) (cw0:w0.length≤w0c) (lw0:w0.length≤140737488355328) (bw0:Spec.EntsI w0):∃ v H',Spec Try.prog 7 [.slice w0A w0.length w0c] H v H'∧((v = .bool true)∧(Ext H H')):=by
 refine spec_go1 E0_ok 56 (f:=7) Try.func7 rfl rfl rfl ?_
 refine aw_seq ?_
 refine aw_reg ?_
 refine st_op (ev_assign rfl) rfl rfl rfl ?_
 refine aw_seq ?_
 refine aw_reg ?_
 refine st_call rfl rfl rfl ent18 rfl rfl rfl ?_
 obtain⟨_,H2,hs1,hs1v,hx3⟩:=law19_begun_spec H
 rw[hs1v] at hs1;clear hs1v
 refine⟨_,H2,hs1,?_⟩
 have H2n:H.next≤H2.next:=hx3.1
 refine st_op (ev_assign rfl) rfl rfl rfl ?_
 iterate 2 refine aw_seq ?_
 refine aw_reg ?_
 refine st_op (ev_move rfl) rfl rfl rfl ?_
 refine st_op (ev_not rfl) rfl rfl rfl ?_
 refine aw_cond (t:=false) rfl ?_
 refine aw_skip ?_
 refine aw_seq ?_
 refine aw_reg ?_
 refine st_op (ev_move rfl) rfl rfl rfl ?_
 refine st_op (ev_build zero48 pl48 (parts := [(3,.slice w0A w0.length w0c)]) rfl (cs := [.int .i64 0,.int .i64 0,.int .i64 0,.int .i64 0,.slice w0A w0.length w0c,.int .i64 0,.int .i64 0,.string (⟨#[]⟩),.string (⟨#[]⟩)]) rfl) rfl rfl rfl ?_
 refine st_call rfl rfl rfl ent20 rfl rfl rfl ?_
 have h4:=Row.ext hw0 hx3
 obtain⟨_,H6,hs5,A8,c9,hs5v,hm10,hq11,hx7⟩:=law19_Cut_spec H2 (0:Int) (0:Int) (0:Int) (0:Int) w0A w0 w0c h4 cw0 (by omega) (0:Int) (0:Int) (⟨#[]⟩:ByteArray) (⟨#[]⟩:ByteArray)
 rw[hs5v] at hs5;clear hs5v
 refine⟨_,H6,hs5,?_⟩
 have H6n:H2.next≤H6.next:=hx7.1
 obtain⟨b12,H13,he14,b12e,H13n_,hB16,f15⟩:=mem_alloc H6 zero48
 refine st_op (he14 _ _ _ _ _ _ _) rfl rfl rfl ?_
 have hx17:Ext H6 H13:=Ext.new (by omega) H13n_ f15
 have H13n:H6.next≤H13.next:=hx17.1
 obtain⟨H18,he19,H18n_,hB20,f21⟩:=mem_store (v := .agg #[.int .i64 (0:Int),.int .i64 (0:Int),.int .i64 (0:Int),.int .i64 (0:Int),.slice A8 ((Spec.cutL w0).length) c9,.int .i64 (0:Int),.int .i64 (0:Int),.string (cutB (⟨#[]⟩:ByteArray) 60),.string (cutB (⟨#[]⟩:ByteArray) 200)]) (o:=0) (cs' := [.int .i64 (0:Int),.int .i64 (0:Int),.int .i64 (0:Int),.int .i64 (0:Int),.slice A8 ((Spec.cutL w0).length) c9,.int .i64 (0:Int),.int .i64 (0:Int),.string (cutB (⟨#[]⟩:ByteArray) 60),.string (cutB (⟨#[]⟩:ByteArray) 200)]) 9 rfl rfl size48 hB16 rfl rfl rfl
 refine st_op0 (he19 _ _ _ _ _ _ _ _ _ rfl rfl) rfl rfl ?_
 have hf22:Fr (fun q=>q=b12) H13 H18:=Fr.write H18n_ f21
 have H18n:H13.next≤H18.next:=hf22.1
 refine aw_seq ?_
 refine aw_reg ?_
 refine st_call rfl rfl rfl ent10 rfl rfl rfl ?_
 obtain⟨_,H23,hs24,d25,D26,rfl,⟨mb30,ps31,hr32⟩,hD28,hx29⟩:=disk_New_spec H18
 refine⟨_,H23,hs24,?_⟩
 have H23n:H18.next≤H23.next:=hx29.1
 have bd25:=hD28 _ hr32.dp;have bmb30:=hD28 _ hr32.dm
 refine st_call rfl rfl rfl ent19 rfl rfl rfl ?_
 obtain⟨_,H33,hs34,k35,K36,rfl,hr37,hb38,hx39⟩:=keepw_OpenN_spec H23 d25 D26 0 ⟨_,_,hr32⟩ (by omega)
 refine⟨_,H33,hs34,?_⟩
 have H33n:H23.next≤H33.next:=hx39.1
 have hD40:=fun q e=>(hb38 q e).imp (hD28 q) id
 have k35b:=hD40 _ hr37.kk
 refine st_op (ev_move rfl) rfl rfl rfl ?_
 iterate 2 refine st_op (ev_extract rfl rfl) rfl rfl rfl ?_
 iterate 2 refine st_op (ev_assign rfl) rfl rfl rfl ?_
 iterate 2 refine aw_seq ?_
 refine aw_reg ?_
 refine st_op (ev_move rfl) rfl rfl rfl ?_
 refine st_op (ev_int rfl rfl rfl) rfl rfl rfl ?_
 refine aw_cond (t:=false) rfl ?_
 refine aw_skip ?_
 refine aw_seq ?_
 refine aw_reg ?_
 obtain⟨b41,H42,he43,b41e,H42n_,hB45,f44⟩:=mem_alloc H33 zero51
 refine st_op (he43 _ _ _ _ _ _ _) rfl rfl rfl ?_
 have hx46:Ext H33 H42:=Ext.new (by omega) H42n_ f44
 have H42n:H33.next≤H42.next:=hx46.1
 refine aw_seq ?_
 refine aw_reg ?_
 refine st_op (ev_load rfl (lvar_part (l := [.int .i64 0,.int .i64 0,.int .i64 0,.int .i64 0,.string (⟨#[]⟩),.string (⟨#[]⟩),.slice none 0 0]) many51 hB45 rfl rfl (by decide))) rfl rfl rfl ?_
 refine st_op (ev_fieldAddr rfl fa48_3 (o':=4) rfl) rfl rfl rfl ?_
 have hx48:Ext H18 H42:=(Ext.trans (Ext.trans hx29 hx39) hx46)
 have h47:=Ext.blk hx48 (by omega) hB20
 refine st_op (ev_load rfl (lvar_one one39 h47 rfl)) rfl rfl rfl ?_
 refine st_call rfl rfl rfl ent21 rfl rfl rfl ?_
 have hx50:Ext H6 H42:=(Ext.trans (Ext.trans (Ext.trans (Ext.then hx17 hf22 (fun q hq e=>by omega)) hx29) hx39) hx46)
 have h49:=My.ext hm10 hx50
 obtain⟨_,H52,hs51,A54,c55,hs51v,hm56,hk57,hx53⟩:=ref17_Write_spec H42 (0:Int) (0:Int) 0 (by decide) (0:Int) (⟨#[]⟩:ByteArray) (⟨#[]⟩:ByteArray) none ([]:List Entry) 0 Row.nil (Nat.le_refl 0) (Nat.zero_le _) A8 (Spec.cutL w0) c9 (My.row h49) (My.capF h49 (by first | omega | (simp only [List.length_append,List.length_cons,List.length_nil,List.length_map,List.length_set,List.length_replicate,Spec.bytesOf_length];omega) | (simp;omega))) (by first | omega | (simp only [List.length_append,List.length_cons,List.length_nil,List.length_map,List.length_set,List.length_replicate,Spec.bytesOf_length];omega) | (simp;omega))
 rw[hs51v] at hs51;clear hs51v
 refine⟨_,H52,hs51,?_⟩
 have H52n:H42.next≤H52.next:=hx53.1
 refine st_op (ev_move rfl) rfl rfl rfl ?_
 iterate 2 refine st_op (ev_extract rfl rfl) rfl rfl rfl ?_
 obtain⟨b58,H59,he60,b58e,H59n_,hB62,f61⟩:=mem_alloc H52 zero51
 refine st_op (he60 _ _ _ _ _ _ _) rfl rfl rfl ?_
 have hx63:Ext H52 H59:=Ext.new (by omega) H59n_ f61
 have H59n:H52.next≤H59.next:=hx63.1
 obtain⟨H64,he65,H64n_,hB66,f67⟩:=mem_store (v := .agg #[.int .i64 (0:Int),.int .i64 (0:Int),.int .i64 (0:Int),.int .i64 (0:Int),.string (⟨#[]⟩:ByteArray),.string (⟨#[]⟩:ByteArray),.slice A54 (((Spec.refW (0:Int) ([]:List Entry) (Spec.cutL w0)).2).length) c55]) (o:=0) (cs' := [.int .i64 (0:Int),.int .i64 (0:Int),.int .i64 (0:Int),.int .i64 (0:Int),.string (⟨#[]⟩:ByteArray),.string (⟨#[]⟩:ByteArray),.slice A54 (((Spec.refW (0:Int) ([]:List Entry) (Spec.cutL w0)).2).length) c55]) 7 rfl rfl size51 hB62 rfl rfl rfl
 refine st_op0 (he65 _ _ _ _ _ _ _ _ _ rfl rfl) rfl rfl ?_
 have hf68:Fr (fun q=>q=b58) H59 H64:=Fr.write H64n_ f67
 have H64n:H59.next≤H64.next:=hf68.1
 refine st_op (ev_assign rfl) rfl rfl rfl ?_
 iterate 2 refine aw_seq ?_
 refine aw_reg ?_
 refine st_op (ev_move rfl) rfl rfl rfl ?_
 refine st_op (ev_fieldAddr rfl fa48_3 (o':=4) rfl) rfl rfl rfl ?_
 have hx70:Ext H42 H64:=(Ext.then (Ext.trans hx53 hx63) hf68 (fun q hq e=>by omega))
 have h69:=Ext.blk hx70 (by omega) h47
 refine st_op (ev_load rfl (lvar_one one39 h69 rfl)) rfl rfl rfl ?_
 refine st_call rfl rfl rfl ent22 rfl rfl rfl ?_
 have hx72:Ext H33 H64:=(Ext.then (Ext.trans (Ext.trans hx46 hx53) hx63) hf68 (fun q hq e=>by omega))
 have h71:=KeepR.ext hr37 hx72
 have h82:=My.ext h49 hx70
 have hS73:=keepw_Write_spec H64 k35 d25 K36 Spec.KSt0 none 0 h71 (by omega) A8 (Spec.cutL w0) c9 (My.row h82) (My.capF h82 (by first | omega | (simp only [List.length_append,List.length_cons,List.length_nil,List.length_map,List.length_set,List.length_replicate,Spec.bytesOf_length];omega) | (simp;omega))) (by first | omega | (simp only [List.length_append,List.length_cons,List.length_nil,List.length_map,List.length_set,List.length_replicate,Spec.bytesOf_length];omega) | (simp;omega)) (Spec.cutL_ents bw0) (by decide)
 obtain⟨_,H74,hs75,rfl,K76,k77,hr78,hk79,hb80,hx81⟩:=hS73
 have hg83:Spec.GoodK (Spec.writeS Spec.KSt0 (Spec.cutL w0)) (Spec.writeO Spec.KSt0 none (Spec.cutL w0)):=(Spec.good_write Spec.good0)
 have hz84:=Spec.own_state (Spec.cutL w0)
 have hlen:(Spec.refW 0 [] (Spec.cutL w0)).2.length≤200:=Spec.refGo_len (by decide)
 have hz85:(Spec.writeS Spec.KSt0 (Spec.cutL w0))=(⟨0,0,0,0,⟨#[]⟩,⟨#[]⟩,(Spec.refW 0 [] (Spec.cutL w0)).2⟩:KSt):=hz84.1
 rw[hz85] at hr78 hg83
 have hz86:(Spec.writeE Spec.KSt0.si Spec.KSt0.l (Spec.cutL w0))=(Spec.refW 0 [] (Spec.cutL w0)).1:=hz84.2
 rw[hz86] at hs75
 refine⟨_,H74,hs75,?_⟩
 have H74n:H64.next≤H74.next:=hx81.1
 obtain⟨o87,ho88⟩:∃ o_:Option FileS,o_=(Spec.writeO Spec.KSt0 none (Spec.cutL w0)):=⟨_,rfl⟩
 rw[← ho88] at hr78 hg83
 have k77b:k77≤0+2:=hk79
 have hD89:=fun q e=>(hb80 q e).imp (hD40 q) id
 refine st_op (ev_move rfl) rfl rfl rfl ?_
 refine st_op (ev_int rfl rfl rfl) rfl rfl rfl ?_
 by_cases hc90:((Spec.refW 0 [] (Spec.cutL w0)).1 != ((Spec.refW (0:Int) ([]:List Entry) (Spec.cutL w0)).1))=true
 ·
  refine aw_condT hc90 rfl ?_
  exact absurd hc90 (by simp)
 ·
  rw[Bool.not_eq_true] at hc90;refine aw_condF hc90 rfl ?_
  have hc90:((Spec.refW 0 [] (Spec.cutL w0)).1=((Spec.refW (0:Int) ([]:List Entry) (Spec.cutL w0)).1)):=by simpa using hc90
  refine aw_skip ?_
  refine aw_seq ?_
  refine aw_reg ?_
  refine st_op (ev_move rfl) rfl rfl rfl ?_
  refine st_call rfl rfl rfl ent26 rfl rfl rfl ?_
  obtain⟨_,H91,hs92,A93,c94,rfl,hm95,hx96⟩:=keepw_State_spec H74 k35 d25 K76 (⟨0,0,0,0,⟨#[]⟩,⟨#[]⟩,(Spec.refW 0 [] (Spec.cutL w0)).2⟩:KSt) o87 k77 hr78 (by omega)
  refine⟨_,H91,hs92,?_⟩
  have H91n:H74.next≤H91.next:=hx96.1
  replace hm95:My H74 H91 A93 c94 4 (((Spec.refW 0 [] (Spec.cutL w0)).2).map Entry.cells):=hm95
  obtain⟨b97,H98,he99,b97e,H98n_,hB101,f100⟩:=mem_alloc H91 zero61
  refine st_op (he99 _ _ _ _ _ _ _) rfl rfl rfl ?_
  have hx102:Ext H91 H98:=Ext.new (by omega) H98n_ f100
  have H98n:H91.next≤H98.next:=hx102.1
  obtain⟨H103,he104,H103n_,hB105,f106⟩:=mem_store (v := .agg #[.int .i64 ((⟨0,0,0,0,⟨#[]⟩,⟨#[]⟩,(Spec.refW 0 [] (Spec.cutL w0)).2⟩:KSt).ht),.int .i64 ((⟨0,0,0,0,⟨#[]⟩,⟨#[]⟩,(Spec.refW 0 [] (Spec.cutL w0)).2⟩:KSt).hv),.int .i64 ((⟨0,0,0,0,⟨#[]⟩,⟨#[]⟩,(Spec.refW 0 [] (Spec.cutL w0)).2⟩:KSt).si),.int .i64 ((⟨0,0,0,0,⟨#[]⟩,⟨#[]⟩,(Spec.refW 0 [] (Spec.cutL w0)).2⟩:KSt).st),.string ((⟨0,0,0,0,⟨#[]⟩,⟨#[]⟩,(Spec.refW 0 [] (Spec.cutL w0)).2⟩:KSt).sc),.string ((⟨0,0,0,0,⟨#[]⟩,⟨#[]⟩,(Spec.refW 0 [] (Spec.cutL w0)).2⟩:KSt).sd),.slice A93 (((Spec.refW 0 [] (Spec.cutL w0)).2).length) c94]) (o:=0) (cs' := [.int .i64 ((⟨0,0,0,0,⟨#[]⟩,⟨#[]⟩,(Spec.refW 0 [] (Spec.cutL w0)).2⟩:KSt).ht),.int .i64 ((⟨0,0,0,0,⟨#[]⟩,⟨#[]⟩,(Spec.refW 0 [] (Spec.cutL w0)).2⟩:KSt).hv),.int .i64 ((⟨0,0,0,0,⟨#[]⟩,⟨#[]⟩,(Spec.refW 0 [] (Spec.cutL w0)).2⟩:KSt).si),.int .i64 ((⟨0,0,0,0,⟨#[]⟩,⟨#[]⟩,(Spec.refW 0 [] (Spec.cutL w0)).2⟩:KSt).st),.string ((⟨0,0,0,0,⟨#[]⟩,⟨#[]⟩,(Spec.refW 0 [] (Spec.cutL w0)).2⟩:KSt).sc),.string ((⟨0,0,0,0,⟨#[]⟩,⟨#[]⟩,(Spec.refW 0 [] (Spec.cutL w0)).2⟩:KSt).sd),.slice A93 (((Spec.refW 0 [] (Spec.cutL w0)).2).length) c94]) 7 rfl rfl size61 hB101 rfl rfl rfl
  refine st_op0 (he104 _ _ _ _ _ _ _ _ _ rfl rfl) rfl rfl ?_
  have hf107:Fr (fun q=>q=b97) H98 H103:=Fr.write H103n_ f106
  have H103n:H98.next≤H103.next:=hf107.1
  iterate 2 refine aw_seq ?_
  refine aw_reg ?_
  refine st_op (ev_assign rfl) rfl rfl rfl ?_
  refine aw_block ?_
  have hx110:Ext H91 H103:=(Ext.then hx102 hf107 (fun q hq e=>by omega))
  have h109:=My.ext hm95 hx110
  refine aw_keep [5,8,9,10] (l':=(.cons 5 (.pointer (some ⟨k35,0,none⟩)) (.cons 8 (.pointer (some ⟨b58,0,none⟩)) (.cons 9 (.pointer (some ⟨b97,0,none⟩)) (.cons 10 (.int .i64 0) .nil))))) (by repeat (first | exact Up.done | refine Up.then ?_ | refine Up.inBlock ?_)) rfl ?_
  refine aw_iter (α:=Nat×List Entry×Heap) (fun a=>((Spec.refW 0 [] (Spec.cutL w0)).2).length - a.1) (fun a=>(.cons 5 (.pointer (some ⟨k35,0,none⟩)) (.cons 8 (.pointer (some ⟨b58,0,none⟩)) (.cons 9 (.pointer (some ⟨b97,0,none⟩)) (.cons 10 (.int .i64 (a.1:Int)) .nil))))) (fun a=>a.2.2) (fun a=>(a.1≤((Spec.refW 0 [] (Spec.cutL w0)).2).length)∧(a.2.1.length=((Spec.refW 0 [] (Spec.cutL w0)).2).length)∧(My H74 a.2.2 A93 c94 4 (a.2.1.map Entry.cells))∧(Fr (fun q=>(H74.next≤q∧q<H91.next∧ZB H103 q 4)) H103 a.2.2)) (0,(Spec.refW 0 [] (Spec.cutL w0)).2,H103) ⟨(show 0≤((Spec.refW 0 [] (Spec.cutL w0)).2).length from Nat.zero_le _),(show((Spec.refW 0 [] (Spec.cutL w0)).2).length=((Spec.refW 0 [] (Spec.cutL w0)).2).length from rfl),(show My H74 H103 A93 c94 4 (((Spec.refW 0 [] (Spec.cutL w0)).2).map Entry.cells) from h109),(show Fr (fun q=>(H74.next≤q∧q<H91.next∧ZB H103 q 4)) H103 H103 from(Fr.refl _ H103))⟩ ?_
  rintro⟨j,tl,Hl108⟩ ⟨hj,htl,hm111,hxl112⟩ ih113
  replace hj:j≤((Spec.refW 0 [] (Spec.cutL w0)).2).length:=hj
  replace htl:tl.length=((Spec.refW 0 [] (Spec.cutL w0)).2).length:=htl
  replace hm111:My H74 Hl108 A93 c94 4 (tl.map Entry.cells):=hm111
  replace hxl112:Fr (fun q=>(H74.next≤q∧q<H91.next∧ZB H103 q 4)) H103 Hl108:=hxl112
  show aw _ _ _ (RL _ (.cons 5 (.pointer (some ⟨k35,0,none⟩)) (.cons 8 (.pointer (some ⟨b58,0,none⟩)) (.cons 9 (.pointer (some ⟨b97,0,none⟩)) (.cons 10 (.int .i64 (j:Int)) .nil))))) Hl108 _
  have Hl108n:H103.next≤Hl108.next:=hxl112.1
  iterate 2 refine aw_seq ?_
  refine aw_reg ?_
  refine st_op (ev_move rfl) rfl rfl rfl ?_
  refine st_op (ev_fieldAddr rfl fa61_2 (o':=6) rfl) rfl rfl rfl ?_
  have h114:=Fr.blk hxl112 (by omega) (fun e=>(zb_ne hB105 e.2.2 (show(0:Nat)≠4 by decide))) hB105
  refine st_op (ev_load rfl (lvar_one one39 h114 rfl)) rfl rfl rfl ?_
  refine st_op (ev_lenSl rfl Try.underlying39) rfl rfl rfl ?_
  refine st_op (ev_int rfl rfl rfl) rfl rfl rfl ?_
  by_cases hc115:(decide ((j:Int)<(((Spec.refW 0 [] (Spec.cutL w0)).2).length:Int)))=true
  ·
   refine aw_condT hc115 rfl ?_
   have hc115:=of_decide_eq_true hc115
   refine aw_skip ?_
   refine aw_seq ?_
   refine aw_block ?_
   refine aw_reg ?_
   refine st_op (ev_fieldAddr rfl fa61_2 (o':=6) rfl) rfl rfl rfl ?_
   refine st_op (ev_load rfl (lvar_one one39 h114 rfl)) rfl rfl rfl ?_
   refine st_op (ev_move rfl) rfl rfl rfl ?_
   have hi116:0≤((j:Int):Int):=by omega
   have hi117:((j:Int):Int)<((((Spec.refW 0 [] (Spec.cutL w0)).2).length:Nat):Int):=by first | omega | (simp only [List.length_append,List.length_cons,List.length_nil,List.length_map,List.length_set,List.length_replicate,Spec.bytesOf_length];omega) | (simp;omega)
   obtain⟨x118,hx119⟩:∃ e,tl[j]?=some e:=⟨_,List.getElem?_eq_getElem (by first | omega | (simp only [List.length_append,List.length_cons,List.length_nil,List.length_map,List.length_set,List.length_replicate,Spec.bytesOf_length];omega) | (simp;omega))⟩
   refine st_op (ev_at rfl rfl (My.row hm111) (getMap Entry.cells hx119) (by first | rfl | omega | simp) hi116 hi117 el39) rfl rfl rfl ?_
   refine st_op (ev_atF rfl (My.row hm111) (getMap Entry.cells hx119) fa54_1 rfl) rfl rfl rfl ?_
   have hk120:=My.keepOld hm95 hm111
   obtain⟨H121,W122,he123,hm124,hf125,H121n_⟩:=mem_storeAt (v := .int .i64 (-7)) size2 rfl rfl hk120 hm111 (getMap Entry.cells hx119) (show 1<4 by decide)
   rw[show(Entry.cells x118).set 1 (.int .i64 (-7))=Entry.cells (⟨x118.index,(-7),x118.kind,x118.data⟩:Entry) from rfl,← List.map_set] at hm124
   replace hf125:Fr (fun q=>H74.next≤q∧q<H91.next∧ZB Hl108 q 4) Hl108 H121:=hf125
   refine st_op0 (he123 _ _ _ _ _ _ _ _ _ rfl rfl) rfl rfl ?_
   have H121n:Hl108.next≤H121.next:=hf125.1
   refine aw_reg ?_
   refine st_op (ev_move rfl) rfl rfl rfl ?_
   refine st_op (ev_int64 (c:=(j:Int)+1) rfl rfl rfl (by omega) (by omega)) rfl rfl rfl ?_
   refine st_op (ev_assign rfl) rfl rfl rfl ?_
   refine aw_keep [5,8,9,10] (l':=(.cons 5 (.pointer (some ⟨k35,0,none⟩)) (.cons 8 (.pointer (some ⟨b58,0,none⟩)) (.cons 9 (.pointer (some ⟨b97,0,none⟩)) (.cons 10 (.int .i64 ((j:Int)+1)) .nil))))) (by repeat (first | exact Up.done | refine Up.then ?_ | refine Up.inBlock ?_)) rfl ?_
   exact ih113 (j+1,(tl.set j (⟨x118.index,(-7),x118.kind,x118.data⟩:Entry)),H121) ⟨(show(j+1)≤((Spec.refW 0 [] (Spec.cutL w0)).2).length from(by omega)),(show(tl.set j (⟨x118.index,(-7),x118.kind,x118.data⟩:Entry)).length=((Spec.refW 0 [] (Spec.cutL w0)).2).length from(by rw[List.length_set];exact htl)),(show My H74 H121 A93 c94 4 ((tl.set j (⟨x118.index,(-7),x118.kind,x118.data⟩:Entry)).map Entry.cells) from hm124),(show Fr (fun q=>(H74.next≤q∧q<H91.next∧ZB H103 q 4)) H103 H121 from(Fr.transG (Fr.transG (Fr.refl (fun q=>(H74.next≤q∧q<H91.next∧ZB H103 q 4)) H103) hxl112 (fun q hq hE e=>(⟨by omega,by omega,ZB.back hE e.2.2⟩))) hf125 (fun q hq hE e=>(⟨by omega,by omega,ZB.back hE e.2.2⟩))))⟩ (by simp only;omega)
  ·
   rw[Bool.not_eq_true] at hc115;refine aw_condF hc115 rfl ?_
   have hc115:=of_decide_eq_false hc115
   refine aw_exit ?_
   refine aw_seq ?_
   refine aw_marks (fun b=>b<Hl108.next) [(false,false),(false,true),(false,true),(true,false),(false,false),(false,false)] mixed (by kernel_rfl) (by kernel_rfl) ?_
   refine sm_op (ev_move rfl) rfl rfl rfl ?_
   refine sm_call rfl rfl rfl ent26 rfl rfl rfl ?_
   have hx127:Ext H74 Hl108:=(Ext.then (Ext.then (Ext.trans hx96 hx102) hf107 (fun q hq e=>by omega)) hxl112 (fun q hq e=>by omega))
   have h126:=KeepR.ext hr78 hx127
   obtain⟨_,H128,hs129,A130,c131,rfl,hm132,hx133⟩:=keepw_State_spec Hl108 k35 d25 K76 (⟨0,0,0,0,⟨#[]⟩,⟨#[]⟩,(Spec.refW 0 [] (Spec.cutL w0)).2⟩:KSt) o87 k77 h126 (by omega)
   refine⟨_,H128,hs129,(fun _ b hb=>hx133.2 b (by omega)),?_⟩
   have H128n:Hl108.next≤H128.next:=hx133.1
   replace hm132:My Hl108 H128 A130 c131 4 (((Spec.refW 0 [] (Spec.cutL w0)).2).map Entry.cells):=hm132
   refine sm_call rfl rfl rfl ent25 rfl rfl rfl ?_
   obtain⟨_,H135,hs134,hs134v,hx136⟩:=law19_back_spec H128 ((⟨0,0,0,0,⟨#[]⟩,⟨#[]⟩,(Spec.refW 0 [] (Spec.cutL w0)).2⟩:KSt).ht) ((⟨0,0,0,0,⟨#[]⟩,⟨#[]⟩,(Spec.refW 0 [] (Spec.cutL w0)).2⟩:KSt).hv) ((⟨0,0,0,0,⟨#[]⟩,⟨#[]⟩,(Spec.refW 0 [] (Spec.cutL w0)).2⟩:KSt).si) ((⟨0,0,0,0,⟨#[]⟩,⟨#[]⟩,(Spec.refW 0 [] (Spec.cutL w0)).2⟩:KSt).st) ((⟨0,0,0,0,⟨#[]⟩,⟨#[]⟩,(Spec.refW 0 [] (Spec.cutL w0)).2⟩:KSt).sc) ((⟨0,0,0,0,⟨#[]⟩,⟨#[]⟩,(Spec.refW 0 [] (Spec.cutL w0)).2⟩:KSt).sd) A130 ((Spec.refW 0 [] (Spec.cutL w0)).2) c131 (My.row hm132) (My.capF hm132 (by first | omega | (simp only [List.length_append,List.length_cons,List.length_nil,List.length_map,List.length_set,List.length_replicate,Spec.bytesOf_length];omega) | (simp;omega))) (by first | omega | (simp only [List.length_append,List.length_cons,List.length_nil,List.length_map,List.length_set,List.length_replicate,Spec.bytesOf_length];omega) | (simp;omega))
   rw[hs134v] at hs134;clear hs134v
   refine⟨_,H135,hs134,(fun _ b hb=>hx136.2 b (by omega)),?_⟩
   have H135n:H128.next≤H135.next:=hx136.1
   have h137:=Fr.blk hx81 (by omega) (fun e=>(by(first | omega | (replace e:=hD40 _ e.1;omega)))) hB66
   have hx139:Ext H74 H135:=(Ext.trans (Ext.trans hx127 hx133) hx136)
   have h138:=Ext.blk hx139 (by omega) h137
   refine sm_read (ev_load rfl (lvar_part (l := [.int .i64 (0:Int),.int .i64 (0:Int),.int .i64 (0:Int),.int .i64 (0:Int),.string (⟨#[]⟩:ByteArray),.string (⟨#[]⟩:ByteArray),.slice A54 (((Spec.refW (0:Int) ([]:List Entry) (Spec.cutL w0)).2).length) c55]) many51 h138 rfl rfl (by decide))) rfl rfl rfl (fun b hb=>by cases hb;dsimp only <;> omega) ?_
   refine sm_call rfl rfl rfl ent24 rfl rfl rfl ?_
   have h140:=My.ext hm132 hx136
   have hx142:Ext H52 H64:=(Ext.then hx63 hf68 (fun q hq e=>by omega))
   have h141:=Row.ext hm56 hx142
   have h143:=Row.fr h141 hx81 (fun q hq e=>(Z01.ne e.2 (show(4:Nat)≠0 by decide) (show(4:Nat)≠1 by decide)))
   have h144:=Row.ext h143 hx139
   obtain⟨_,H146,hs145,hs145v,hx147⟩:=ref17_EqState_spec H135 ((⟨0,0,0,0,⟨#[]⟩,⟨#[]⟩,(Spec.refW 0 [] (Spec.cutL w0)).2⟩:KSt).ht) ((⟨0,0,0,0,⟨#[]⟩,⟨#[]⟩,(Spec.refW 0 [] (Spec.cutL w0)).2⟩:KSt).hv) ((⟨0,0,0,0,⟨#[]⟩,⟨#[]⟩,(Spec.refW 0 [] (Spec.cutL w0)).2⟩:KSt).si) ((⟨0,0,0,0,⟨#[]⟩,⟨#[]⟩,(Spec.refW 0 [] (Spec.cutL w0)).2⟩:KSt).st) ((⟨0,0,0,0,⟨#[]⟩,⟨#[]⟩,(Spec.refW 0 [] (Spec.cutL w0)).2⟩:KSt).sc) ((⟨0,0,0,0,⟨#[]⟩,⟨#[]⟩,(Spec.refW 0 [] (Spec.cutL w0)).2⟩:KSt).sd) A130 ((Spec.refW 0 [] (Spec.cutL w0)).2) c131 (My.row h140) (My.capF h140 (by first | omega | (simp only [List.length_append,List.length_cons,List.length_nil,List.length_map,List.length_set,List.length_replicate,Spec.bytesOf_length];omega) | (simp;omega))) (by first | omega | (simp only [List.length_append,List.length_cons,List.length_nil,List.length_map,List.length_set,List.length_replicate,Spec.bytesOf_length];omega) | (simp;omega)) (0:Int) (0:Int) (0:Int) (0:Int) (⟨#[]⟩:ByteArray) (⟨#[]⟩:ByteArray) A54 ((Spec.refW (0:Int) ([]:List Entry) (Spec.cutL w0)).2) c55 h144 hk57 (by first | omega | (simp only [List.length_append,List.length_cons,List.length_nil,List.length_map,List.length_set,List.length_replicate,Spec.bytesOf_length];omega) | (simp;omega))
   rw[hs145v] at hs145;clear hs145v
   refine⟨_,H146,hs145,(fun h=>nomatch h),?_⟩
   have H146n:H135.next≤H146.next:=hx147.1
   refine sm_op (ev_assign rfl) rfl rfl rfl ?_
   refine aw_ret ?_
   have hx148:Ext H H146:=(Ext.trans (Ext.trans (Ext.trans (Ext.then (Ext.then (Ext.trans (Ext.trans (Ext.then (Ext.then (Ext.trans (Ext.trans (Ext.trans (Ext.trans (Ext.trans (Ext.then (Ext.trans (Ext.trans hx3 hx7) hx17) hf22 (fun q hq e=>by omega)) hx29) hx39) hx46) hx53) hx63) hf68 (fun q hq e=>by omega)) hx81 (fun q hq e=>by(first | omega | (replace e:=hD40 _ e.1;omega)))) hx96) hx102) hf107 (fun q hq e=>by omega)) hxl112 (fun q hq e=>by omega)) hx133) hx136) hx147)
   have hres:true=(decide (((⟨0,0,0,0,⟨#[]⟩,⟨#[]⟩,(Spec.refW 0 [] (Spec.cutL w0)).2⟩:KSt).ht)=(0:Int)∧((⟨0,0,0,0,⟨#[]⟩,⟨#[]⟩,(Spec.refW 0 [] (Spec.cutL w0)).2⟩:KSt).hv)=(0:Int)∧Spec.eqSn ((⟨0,0,0,0,⟨#[]⟩,⟨#[]⟩,(Spec.refW 0 [] (Spec.cutL w0)).2⟩:KSt).si) ((⟨0,0,0,0,⟨#[]⟩,⟨#[]⟩,(Spec.refW 0 [] (Spec.cutL w0)).2⟩:KSt).st) ((⟨0,0,0,0,⟨#[]⟩,⟨#[]⟩,(Spec.refW 0 [] (Spec.cutL w0)).2⟩:KSt).sc) ((⟨0,0,0,0,⟨#[]⟩,⟨#[]⟩,(Spec.refW 0 [] (Spec.cutL w0)).2⟩:KSt).sd) (0:Int) (0:Int) (⟨#[]⟩:ByteArray) (⟨#[]⟩:ByteArray)=true∧Spec.eqEs ((Spec.refW 0 [] (Spec.cutL w0)).2) ((Spec.refW (0:Int) ([]:List Entry) (Spec.cutL w0)).2)=true)):=by simp [Spec.eqEs_self,Spec.eqSn_iff]
   exact⟨.bool (decide (((⟨0,0,0,0,⟨#[]⟩,⟨#[]⟩,(Spec.refW 0 [] (Spec.cutL w0)).2⟩:KSt).ht)=(0:Int)∧((⟨0,0,0,0,⟨#[]⟩,⟨#[]⟩,(Spec.refW 0 [] (Spec.cutL w0)).2⟩:KSt).hv)=(0:Int)∧Spec.eqSn ((⟨0,0,0,0,⟨#[]⟩,⟨#[]⟩,(Spec.refW 0 [] (Spec.cutL w0)).2⟩:KSt).si) ((⟨0,0,0,0,⟨#[]⟩,⟨#[]⟩,(Spec.refW 0 [] (Spec.cutL w0)).2⟩:KSt).st) ((⟨0,0,0,0,⟨#[]⟩,⟨#[]⟩,(Spec.refW 0 [] (Spec.cutL w0)).2⟩:KSt).sc) ((⟨0,0,0,0,⟨#[]⟩,⟨#[]⟩,(Spec.refW 0 [] (Spec.cutL w0)).2⟩:KSt).sd) (0:Int) (0:Int) (⟨#[]⟩:ByteArray) (⟨#[]⟩:ByteArray)=true∧Spec.eqEs ((Spec.refW 0 [] (Spec.cutL w0)).2) ((Spec.refW (0:Int) ([]:List Entry) (Spec.cutL w0)).2)=true)),rfl,by first | (rw[hres];done) | rw[← hres],hx148⟩

end Go.AM
