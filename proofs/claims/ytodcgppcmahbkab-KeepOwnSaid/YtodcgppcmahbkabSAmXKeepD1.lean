/- Part of a machine of its own for this claim: the program's code over memory without draws. -/
import Derived.Test.YtodcgppcmahbkabSAmPKeep4
import Derived.Test.YtodcgppcmahbkabSAmPDel
import Derived.Test.YtodcgppcmahbkabSAmD
import Derived.Test.YtodcgppcmahbkabSAmE
import Derived.Test.YtodcgppcmahbkabProg
import Derived.KernelRfl
set_option linter.unusedVariables false
set_option linter.unusedSimpArgs false
set_option linter.unnecessarySimpa false
set_option linter.unusedVariables false
set_option linter.unusedSimpArgs false
set_option linter.unnecessarySimpa false
namespace Go.AM
open Go Go.Proofs

noncomputable def E0 : TypeId→Bool:=eqTy Try.prog
theorem E0_ok : EqOk Try.prog E0:=eqTy_ok
theorem mixed : Try.prog.follows .mixedOrders=true:=by kernel_rfl

theorem ElemInfo.mk2 : ∃ i,Try.prog.info? 2=some i∧i.size=1∧i.bytes=8∧(i.zero.map fun z=>z.cells.size)=some 1:=elemInfo (by kernel_rfl)
theorem ElemInfo.mk5 : ∃ i,Try.prog.info? 5=some i∧i.size=1∧i.bytes=1∧(i.zero.map fun z=>z.cells.size)=some 1:=elemInfo (by kernel_rfl)
theorem ElemInfo.mk54 : ∃ i,Try.prog.info? 54=some i∧i.size=4∧i.bytes=40∧(i.zero.map fun z=>z.cells.size)=some 4:=elemInfo (by kernel_rfl)
theorem ElemInfo.mk95 : ∃ i,Try.prog.info? 95=some i∧i.size=7∧i.bytes=64∧(i.zero.map fun z=>z.cells.size)=some 7:=elemInfo (by kernel_rfl)
theorem zf2 : ∃ i z,Try.prog.info? 2=some i∧i.zero=some z∧z.cells.toList.all flat=true:=zeroFlat (by kernel_rfl)
theorem zf5 : ∃ i z,Try.prog.info? 5=some i∧i.zero=some z∧z.cells.toList.all flat=true:=zeroFlat (by kernel_rfl)
theorem zf54 : ∃ i z,Try.prog.info? 54=some i∧i.zero=some z∧z.cells.toList.all flat=true:=zeroFlat (by kernel_rfl)
theorem zf95 : ∃ i z,Try.prog.info? 95=some i∧i.zero=some z∧z.cells.toList.all flat=true:=zeroFlat (by kernel_rfl)
theorem el138 : elemIs Try.prog 138 1=true:=by kernel_rfl
theorem el26 : elemIs Try.prog 26 1=true:=by kernel_rfl
theorem el33 : elemIs Try.prog 33 1=true:=by kernel_rfl
theorem el39 : elemIs Try.prog 39 4=true:=by kernel_rfl
theorem el91 : elemIs Try.prog 91 7=true:=by kernel_rfl
theorem ent10 : enters Try.prog 10=true:=by kernel_rfl
theorem ent11 : enters Try.prog 11=true:=by kernel_rfl
theorem ent12 : enters Try.prog 12=true:=by kernel_rfl
theorem ent13 : enters Try.prog 13=true:=by kernel_rfl
theorem ent14 : enters Try.prog 14=true:=by kernel_rfl
theorem ent15 : enters Try.prog 15=true:=by kernel_rfl
theorem ent16 : enters Try.prog 16=true:=by kernel_rfl
theorem ent17 : enters Try.prog 17=true:=by kernel_rfl
theorem ent19 : enters Try.prog 19=true:=by kernel_rfl
theorem ent22 : enters Try.prog 22=true:=by kernel_rfl
theorem ent23 : enters Try.prog 23=true:=by kernel_rfl
theorem ent26 : enters Try.prog 26=true:=by kernel_rfl
theorem ent27 : enters Try.prog 27=true:=by kernel_rfl
theorem ent32 : enters Try.prog 32=true:=by kernel_rfl
theorem ent33 : enters Try.prog 33=true:=by kernel_rfl
theorem ent34 : enters Try.prog 34=true:=by kernel_rfl
theorem ent35 : enters Try.prog 35=true:=by kernel_rfl
theorem ent36 : enters Try.prog 36=true:=by kernel_rfl
theorem ent37 : enters Try.prog 37=true:=by kernel_rfl
theorem ent38 : enters Try.prog 38=true:=by kernel_rfl
theorem ent43 : enters Try.prog 43=true:=by kernel_rfl
theorem ent44 : enters Try.prog 44=true:=by kernel_rfl
theorem ent45 : enters Try.prog 45=true:=by kernel_rfl
theorem ent47 : enters Try.prog 47=true:=by kernel_rfl
theorem ent55 : enters Try.prog 55=true:=by kernel_rfl
theorem ent56 : enters Try.prog 56=true:=by kernel_rfl
theorem ent57 : enters Try.prog 57=true:=by kernel_rfl
theorem ent58 : enters Try.prog 58=true:=by kernel_rfl
theorem ent59 : enters Try.prog 59=true:=by kernel_rfl
theorem ent60 : enters Try.prog 60=true:=by kernel_rfl
theorem ent61 : enters Try.prog 61=true:=by kernel_rfl
theorem ent62 : enters Try.prog 62=true:=by kernel_rfl
theorem ent63 : enters Try.prog 63=true:=by kernel_rfl
theorem ent64 : enters Try.prog 64=true:=by kernel_rfl
theorem ent65 : enters Try.prog 65=true:=by kernel_rfl
theorem ent66 : enters Try.prog 66=true:=by kernel_rfl
theorem ent70 : enters Try.prog 70=true:=by kernel_rfl
theorem ent71 : enters Try.prog 71=true:=by kernel_rfl
theorem ent72 : enters Try.prog 72=true:=by kernel_rfl
theorem ent73 : enters Try.prog 73=true:=by kernel_rfl
theorem ent74 : enters Try.prog 74=true:=by kernel_rfl
theorem ent75 : enters Try.prog 75=true:=by kernel_rfl
theorem eok138 : ElemOk Try.prog 138 2 1 8:=⟨Try.underlying138,ElemInfo.mk2⟩
theorem eok26 : ElemOk Try.prog 26 5 1 1:=⟨Try.underlying26,ElemInfo.mk5⟩
theorem eok39 : ElemOk Try.prog 39 54 4 40:=⟨Try.underlying39,ElemInfo.mk54⟩
theorem eok91 : ElemOk Try.prog 91 95 7 64:=⟨Try.underlying91,ElemInfo.mk95⟩
theorem eqt41 : E0 41=true:=by kernel_rfl
theorem eqt54 : E0 54=true:=by kernel_rfl
theorem fa115_0 : fieldIs Try.prog 115 0 0=true:=by kernel_rfl
theorem fa115_1 : fieldIs Try.prog 115 1 1=true:=by kernel_rfl
theorem fa41_0 : fieldIs Try.prog 41 0 0=true:=by kernel_rfl
theorem fa41_1 : fieldIs Try.prog 41 1 1=true:=by kernel_rfl
theorem fa46_0 : fieldIs Try.prog 46 0 0=true:=by kernel_rfl
theorem fa46_1 : fieldIs Try.prog 46 1 1=true:=by kernel_rfl
theorem fa46_2 : fieldIs Try.prog 46 2 2=true:=by kernel_rfl
theorem fa46_3 : fieldIs Try.prog 46 3 3=true:=by kernel_rfl
theorem fa54_0 : fieldIs Try.prog 54 0 0=true:=by kernel_rfl
theorem fa54_1 : fieldIs Try.prog 54 1 1=true:=by kernel_rfl
theorem fa54_2 : fieldIs Try.prog 54 2 2=true:=by kernel_rfl
theorem fa54_3 : fieldIs Try.prog 54 3 3=true:=by kernel_rfl
theorem fa61_0 : fieldIs Try.prog 61 0 0=true:=by kernel_rfl
theorem fa61_1 : fieldIs Try.prog 61 1 2=true:=by kernel_rfl
theorem fa61_2 : fieldIs Try.prog 61 2 6=true:=by kernel_rfl
theorem fa77_0 : fieldIs Try.prog 77 0 0=true:=by kernel_rfl
theorem fa77_1 : fieldIs Try.prog 77 1 1=true:=by kernel_rfl
theorem fa81_0 : fieldIs Try.prog 81 0 0=true:=by kernel_rfl
theorem fa81_1 : fieldIs Try.prog 81 1 1=true:=by kernel_rfl
theorem fa81_2 : fieldIs Try.prog 81 2 2=true:=by kernel_rfl
theorem fa88_0 : fieldIs Try.prog 88 0 0=true:=by kernel_rfl
theorem fa88_1 : fieldIs Try.prog 88 1 1=true:=by kernel_rfl
theorem fa88_2 : fieldIs Try.prog 88 2 8=true:=by kernel_rfl
theorem fa95_0 : fieldIs Try.prog 95 0 0=true:=by kernel_rfl
theorem fa95_1 : fieldIs Try.prog 95 1 1=true:=by kernel_rfl
theorem fa95_2 : fieldIs Try.prog 95 2 3=true:=by kernel_rfl
theorem fit41 (a0:Int) (a1:Int):fitAgg Try.prog 41 [.int .i64 a0,.int .i64 a1]=true:=by kernel_rfl
theorem fit54 (a0:Int) (a1:Int) (a2:Int) (a3:ByteArray):fitAgg Try.prog 54 [.int .i64 a0,.int .i64 a1,.int .i64 a2,.string a3]=true:=by kernel_rfl
theorem isrow26 : isRow Try.prog (some 26)=true:=by kernel_rfl
theorem isrow39 : isRow Try.prog (some 39)=true:=by kernel_rfl
theorem isrow9 : isRow Try.prog (some 9)=true:=by kernel_rfl
theorem isrow91 : isRow Try.prog (some 91)=true:=by kernel_rfl
theorem isstr_9 : isStr Try.prog 9=true:=by kernel_rfl
theorem many41 : manyB Try.prog 41 2=true:=by kernel_rfl
theorem many46 : manyB Try.prog 46 4=true:=by kernel_rfl
theorem many54 : manyB Try.prog 54 4=true:=by kernel_rfl
theorem many61 : manyB Try.prog 61 7=true:=by kernel_rfl
theorem many95 : manyB Try.prog 95 7=true:=by kernel_rfl
theorem one2 : oneB Try.prog 2=true:=by kernel_rfl
theorem one24 : oneB Try.prog 24=true:=by kernel_rfl
theorem one26 : oneB Try.prog 26=true:=by kernel_rfl
theorem one3 : oneB Try.prog 3=true:=by kernel_rfl
theorem one39 : oneB Try.prog 39=true:=by kernel_rfl
theorem one4 : oneB Try.prog 4=true:=by kernel_rfl
theorem one5 : oneB Try.prog 5=true:=by kernel_rfl
theorem one75 : oneB Try.prog 75=true:=by kernel_rfl
theorem one9 : oneB Try.prog 9=true:=by kernel_rfl
theorem pl115 : placesOf Try.prog 115=some [(0,1),(1,1)]:=by kernel_rfl
theorem pl41 : placesOf Try.prog 41=some [(0,1),(1,1)]:=by kernel_rfl
theorem pl46 : placesOf Try.prog 46=some [(0,1),(1,1),(2,1),(3,1)]:=by kernel_rfl
theorem pl54 : placesOf Try.prog 54=some [(0,1),(1,1),(2,1),(3,1)]:=by kernel_rfl
theorem pl77 : placesOf Try.prog 77=some [(0,1),(1,1)]:=by kernel_rfl
theorem pl81 : placesOf Try.prog 81=some [(0,1),(1,1),(2,1)]:=by kernel_rfl
theorem pl88 : placesOf Try.prog 88=some [(0,1),(1,7),(8,1)]:=by kernel_rfl
theorem pl95 : placesOf Try.prog 95=some [(0,1),(1,2),(3,4)]:=by kernel_rfl
theorem ptrMap75 : ptrMap Try.prog 75=true:=by kernel_rfl
theorem size2 : sizeIs Try.prog 2 1=true:=by kernel_rfl
theorem size26 : sizeIs Try.prog 26 1=true:=by kernel_rfl
theorem size3 : sizeIs Try.prog 3 1=true:=by kernel_rfl
theorem size39 : sizeIs Try.prog 39 1=true:=by kernel_rfl
theorem size4 : sizeIs Try.prog 4 1=true:=by kernel_rfl
theorem size41 : sizeIs Try.prog 41 2=true:=by kernel_rfl
theorem size46 : sizeIs Try.prog 46 4=true:=by kernel_rfl
theorem size54 : sizeIs Try.prog 54 4=true:=by kernel_rfl
theorem size61 : sizeIs Try.prog 61 7=true:=by kernel_rfl
theorem size9 : sizeIs Try.prog 9 1=true:=by kernel_rfl
theorem size95 : sizeIs Try.prog 95 7=true:=by kernel_rfl
theorem slu8_26 : slU8 Try.prog 26=true:=by kernel_rfl
theorem zero115 : ZeroIs Try.prog 115 [.slice none 0 0,.bool false]:=⟨.agg #[.slice none 0 0,.bool false],by kernel_rfl,rfl,rfl,rfl⟩
theorem zero41 : ZeroIs Try.prog 41 [.int .i64 0,.int .i64 0]:=⟨.agg #[.int .i64 0,.int .i64 0],by kernel_rfl,rfl,rfl,rfl⟩
theorem zero46 : ZeroIs Try.prog 46 [.int .i64 0,.int .i64 0,.string (⟨#[]⟩),.string (⟨#[]⟩)]:=⟨.agg #[.int .i64 0,.int .i64 0,.string (⟨#[]⟩),.string (⟨#[]⟩)],by kernel_rfl,rfl,rfl,rfl⟩
theorem zero54 : ZeroIs Try.prog 54 [.int .i64 0,.int .i64 0,.int .i64 0,.string (⟨#[]⟩)]:=⟨.agg #[.int .i64 0,.int .i64 0,.int .i64 0,.string (⟨#[]⟩)],by kernel_rfl,rfl,rfl,rfl⟩
theorem zero61 : ZeroIs Try.prog 61 [.int .i64 0,.int .i64 0,.int .i64 0,.int .i64 0,.string (⟨#[]⟩),.string (⟨#[]⟩),.slice none 0 0]:=⟨.agg #[.int .i64 0,.int .i64 0,.int .i64 0,.int .i64 0,.string (⟨#[]⟩),.string (⟨#[]⟩),.slice none 0 0],by kernel_rfl,rfl,rfl,rfl⟩
theorem zero77 : ZeroIs Try.prog 77 [.map none,.int .i64 0]:=⟨.agg #[.map none,.int .i64 0],by kernel_rfl,rfl,rfl,rfl⟩
theorem zero81 : ZeroIs Try.prog 81 [.slice none 0 0,.int .i64 0,.bool false]:=⟨.agg #[.slice none 0 0,.int .i64 0,.bool false],by kernel_rfl,rfl,rfl,rfl⟩
theorem zero88 : ZeroIs Try.prog 88 [.pointer none,.int .i64 0,.int .i64 0,.int .i64 0,.int .i64 0,.string (⟨#[]⟩),.string (⟨#[]⟩),.slice none 0 0,.int .i64 0]:=⟨.agg #[.pointer none,.int .i64 0,.int .i64 0,.int .i64 0,.int .i64 0,.string (⟨#[]⟩),.string (⟨#[]⟩),.slice none 0 0,.int .i64 0],by kernel_rfl,rfl,rfl,rfl⟩
theorem zero95 : ZeroIs Try.prog 95 [.bool false,.int .i64 0,.int .i64 0,.int .i64 0,.int .i64 0,.int .i64 0,.string (⟨#[]⟩)]:=⟨.agg #[.bool false,.int .i64 0,.int .i64 0,.int .i64 0,.int .i64 0,.int .i64 0,.string (⟨#[]⟩)],by kernel_rfl,rfl,rfl,rfl⟩
theorem disk_NewR_spec (H:Heap)  : ∃ v H',Spec Try.prog 10 [] H v H'∧(∃ b7 b1,(v = .pointer (some ⟨b7,0,none⟩))∧(H.next≤b7∧b7<H'.next)∧(H'.blk b7=some ⟨[.map (some b1),.int .i64 0],0,false,false⟩)∧(H.next≤b1∧b1<H'.next∧b1≠b7)∧(H'.blk b1=some ⟨[],0,false,true⟩)∧(Ext H H')):=by
 refine spec_go0 E0_ok 4 (f:=10) Try.func10 rfl rfl ?_
 refine aw_seq ?_
 refine aw_reg ?_
 refine st_op (ev_assign rfl) rfl rfl rfl ?_
 refine aw_seq ?_
 refine aw_reg ?_
 obtain⟨b1,H2,he3,b1e,H2n_,hB5,f4⟩:=mem_makeMap H ptrMap75
 refine st_op (he3 _ _ _ _ _ _ _) rfl rfl rfl ?_
 have hx6:Ext H H2:=Ext.new (by omega) H2n_ f4
 have H2n:H.next≤H2.next:=hx6.1
 refine st_op (ev_build zero77 pl77 (parts := [(0,.map (some b1))]) rfl (cs := [.map (some b1),.int .i64 0]) rfl) rfl rfl rfl ?_
 obtain⟨b7,H8,he9,b7e,H8n_,hB11,f10⟩:=mem_box (P:=Try.prog) H2 (v := .agg #[.map (some b1),.int .i64 0]) (cs := [.map (some b1),.int .i64 0]) rfl rfl
 refine st_op (he9 _ _ _ _ _ _ _ _ _ rfl) rfl rfl rfl ?_
 have hx12:Ext H2 H8:=Ext.new (by omega) H8n_ f10
 have H8n:H2.next≤H8.next:=hx12.1
 refine st_op (ev_assign rfl) rfl rfl rfl ?_
 refine aw_ret ?_
 have h13:=Ext.blk hx12 (by omega) hB5
 have hx14:Ext H H8:=(Ext.trans hx6 hx12)
 exact⟨.pointer (some ⟨b7,0,none⟩),rfl,b7,b1,rfl,⟨by omega,by omega⟩,hB11,⟨by omega,by omega,by omega⟩,h13,hx14⟩
theorem disk_may_spec (H:Heap) (nm:ByteArray) (hnm:nm.size≤140737488355328):∃ v H',Spec Try.prog 32 [.string nm] H v H'∧((v = .bool (Spec.nameF nm))∧(Ext H H')):=by
 refine spec_go1 E0_ok 27 (f:=32) Try.func32 rfl rfl rfl ?_
 refine aw_seq ?_
 refine aw_reg ?_
 refine st_op (ev_assign rfl) rfl rfl rfl ?_
 iterate 2 refine aw_seq ?_
 refine aw_reg ?_
 refine st_op (ev_move rfl) rfl rfl rfl ?_
 refine st_op (ev_lenStr rfl Try.underlying9) rfl rfl rfl ?_
 refine st_op (ev_move rfl) rfl rfl rfl ?_
 refine aw_block ?_
 refine aw_keep [0,5,6] (l':=(.cons 0 (.string nm) (.cons 5 (.int .i64 ((nm).size:Int)) (.cons 6 (.int .i64 0) .nil)))) (by repeat (first | exact Up.done | refine Up.then ?_ | refine Up.inBlock ?_)) rfl ?_
 refine aw_iter (α:=Nat×Heap) (fun a=>nm.size - a.1) (fun a=>(.cons 0 (.string nm) (.cons 5 (.int .i64 ((nm).size:Int)) (.cons 6 (.int .i64 (a.1:Int)) .nil)))) (fun a=>a.2) (fun a=>(a.1≤nm.size)∧(Spec.lowAll nm.data.toList=Spec.lowAll (nm.data.toList.drop a.1))∧(Ext H a.2)) (0,H) ⟨(show 0≤nm.size from Nat.zero_le _),(show Spec.lowAll nm.data.toList=Spec.lowAll (nm.data.toList.drop 0) from rfl),(show Ext H H from(Ext.refl H))⟩ ?_
 rintro⟨i,Hl1⟩ ⟨hi,hv,hxl2⟩ ih3
 replace hi:i≤nm.size:=hi
 replace hv:Spec.lowAll nm.data.toList=Spec.lowAll (nm.data.toList.drop i):=hv
 replace hxl2:Ext H Hl1:=hxl2
 show aw _ _ _ (RL _ (.cons 0 (.string nm) (.cons 5 (.int .i64 ((nm).size:Int)) (.cons 6 (.int .i64 (i:Int)) .nil)))) Hl1 _
 have Hl1n:H.next≤Hl1.next:=hxl2.1
 refine aw_seq ?_
 refine aw_reg ?_
 refine st_op (ev_int rfl rfl rfl) rfl rfl rfl ?_
 refine aw_seq ?_
 by_cases hc4:(decide ((i:Int)<((nm).size:Int)))=true
 ·
  refine aw_condT hc4 rfl ?_
  have hc4:=of_decide_eq_true hc4
  refine aw_skip ?_
  refine aw_seq ?_
  refine aw_block ?_
  refine aw_seq ?_
  refine aw_reg ?_
  refine st_op (ev_move rfl) rfl rfl rfl ?_
  refine st_op (ev_assign rfl) rfl rfl rfl ?_
  refine aw_seq ?_
  refine aw_reg ?_
  iterate 2 refine st_op (ev_move rfl) rfl rfl rfl ?_
  obtain⟨y5,hy6⟩:∃ y,(nm).data.toList[i]?=some y:=⟨_,List.getElem?_eq_getElem (by simp;omega)⟩
  have y5t:=y5.toNat_lt
  refine st_op (ev_ixStr Try.underlying9 rfl rfl (ba_get hy6)) rfl rfl rfl ?_
  refine st_op (ev_int rfl rfl rfl) rfl rfl rfl ?_
  refine st_op (ev_move rfl) rfl rfl rfl ?_
  refine st_bool 13 rfl (fun hb7=>?_) (fun hb7=>?_)
  ·
   have hb7:=of_decide_eq_true hb7
   iterate 4 refine st_skip rfl rfl rfl ?_
   refine st_op (ev_pickT rfl rfl) rfl rfl rfl ?_
   refine aw_cond (t:=true) rfl ?_
   refine aw_seq ?_
   refine aw_reg ?_
   refine st_op (ev_assign rfl) rfl rfl rfl ?_
   refine aw_ret ?_
   have hres:(Spec.nameF nm)=false:=by rw[Spec.nameF,hv,drop_at hy6,Spec.low_fail (by omega)];rfl
   exact⟨.bool false,rfl,by first | (rw[hres];done) | rw[← hres],hxl2⟩
  ·
   have hb7:=of_decide_eq_false hb7
   iterate 2 refine st_op (ev_move rfl) rfl rfl rfl ?_
   refine st_op (ev_ixStr Try.underlying9 rfl rfl (ba_get hy6)) rfl rfl rfl ?_
   refine st_op (ev_int rfl rfl rfl) rfl rfl rfl ?_
   refine st_op (ev_pickF rfl rfl) rfl rfl rfl ?_
   by_cases hc8:(decide ((y5.toNat:Int) > 122))=true
   ·
    refine aw_condT hc8 rfl ?_
    have hc8:=of_decide_eq_true hc8
    refine aw_seq ?_
    refine aw_reg ?_
    refine st_op (ev_assign rfl) rfl rfl rfl ?_
    refine aw_ret ?_
    have hres:(Spec.nameF nm)=false:=by rw[Spec.nameF,hv,drop_at hy6,Spec.low_fail (by omega)];rfl
    exact⟨.bool false,rfl,by first | (rw[hres];done) | rw[← hres],hxl2⟩
   ·
    rw[Bool.not_eq_true] at hc8;refine aw_condF hc8 rfl ?_
    have hc8:=of_decide_eq_false hc8
    refine aw_skip ?_
    refine aw_reg ?_
    refine st_op (ev_int64 (c:=(i:Int)+1) rfl rfl rfl (by omega) (by omega)) rfl rfl rfl ?_
    refine st_op (ev_move rfl) rfl rfl rfl ?_
    refine aw_keep [0,5,6] (l':=(.cons 0 (.string nm) (.cons 5 (.int .i64 ((nm).size:Int)) (.cons 6 (.int .i64 ((i:Int)+1)) .nil)))) (by repeat (first | exact Up.done | refine Up.then ?_ | refine Up.inBlock ?_)) rfl ?_
    exact ih3 (i+1,Hl1) ⟨(show(i+1)≤nm.size from(by omega)),(show Spec.lowAll nm.data.toList=Spec.lowAll (nm.data.toList.drop (i+1)) from(by rw[hv,drop_at hy6];exact Spec.low_step (by omega) (by omega))),(show Ext H Hl1 from hxl2)⟩ (by simp only;omega)
 ·
  rw[Bool.not_eq_true] at hc4;refine aw_condF hc4 rfl ?_
  have hc4:=of_decide_eq_false hc4
  refine aw_exit ?_
  refine aw_seq ?_
  refine aw_reg ?_
  refine st_op (ev_move rfl) rfl rfl rfl ?_
  refine st_op (ev_str rfl rfl rfl) rfl rfl rfl ?_
  refine st_op (ev_move rfl) rfl rfl rfl ?_
  refine st_bool 22 rfl (fun hb9=>?_) (fun hb9=>?_)
  ·
   replace hb9:((nm).toList == (⟨#[]⟩:ByteArray).toList)=false:=by rw[Bool.not_eq_true'] at hb9;exact hb9
   have hb9:=ne_of_beq_false hb9
   refine st_op (ev_move rfl) rfl rfl rfl ?_
   refine st_op (ev_lenStr rfl Try.underlying9) rfl rfl rfl ?_
   refine st_op (ev_int rfl rfl rfl) rfl rfl rfl ?_
   refine st_op (ev_pickT rfl rfl) rfl rfl rfl ?_
   refine st_op (ev_assign rfl) rfl rfl rfl ?_
   refine aw_ret ?_
   have hres:(Spec.nameF nm)=(decide (((nm).size:Int)≤10)):=by exact Spec.name_end hv (by assumption) (by assumption)
   exact⟨.bool (decide (((nm).size:Int)≤10)),rfl,by first | (rw[hres];done) | rw[← hres],hxl2⟩
  ·
   replace hb9:((nm).toList == (⟨#[]⟩:ByteArray).toList)=true:=by rw[Bool.not_eq_false'] at hb9;exact hb9
   have hb9:=eq_of_beq hb9
   iterate 3 refine st_skip rfl rfl rfl ?_
   refine st_op (ev_pickF rfl rfl) rfl rfl rfl ?_
   refine st_op (ev_assign rfl) rfl rfl rfl ?_
   refine aw_ret ?_
   have hres:(Spec.nameF nm)=false:=by exact Spec.name_nil (by assumption)
   exact⟨.bool false,rfl,by first | (rw[hres];done) | rw[← hres],hxl2⟩
theorem disk_AppendForm_spec (H:Heap) (mb:Nat) (hmb:mb<H.next) (m:List Value) (Bm:H.blk mb=some ⟨m,0,false,true⟩) (k:Int) (hk:0≤k∧k≤1099511627776) (d:Nat) (hd:d<H.next) (Bd:H.blk d=some ⟨[.map (some mb),.int .i64 k],0,false,false⟩) (nm:ByteArray) (hnm:nm.size≤140737488355328) (bA:Option Addr) (b:List Int) (bc:Nat) (hb:Row H bA bc 1 (b.map u8c)) (cb:b.length≤bc) (lb:b.length≤140737488355328) (bb:Spec.Bytes b) (hn:Spec.nameF nm=false) (n1:mb≠d):∃ v H',Spec Try.prog 11 [.pointer (some ⟨d,0,none⟩),.string nm,.slice bA b.length bc] H v H'∧((v = .int .i64 1)∧(H'.blk d=some ⟨[.map (some mb),.int .i64 (k+1)],0,false,false⟩)∧(H'.blk mb=some ⟨m,0,false,true⟩)∧(Fr (fun q=>q=d) H H')):=by
 refine spec_go3 E0_ok 54 (f:=11) Try.func11 rfl rfl rfl ?_
 refine aw_seq ?_
 refine aw_reg ?_
 refine st_op (ev_assign rfl) rfl rfl rfl ?_
 iterate 2 refine aw_seq ?_
 refine aw_reg ?_
 refine st_op (ev_move rfl) rfl rfl rfl ?_
 refine st_op (ev_nilEq rfl rfl Try.underlying24) rfl rfl rfl ?_
 refine aw_cond (t:=false) rfl ?_
 refine aw_skip ?_
 refine aw_seq ?_
 refine aw_reg ?_
 refine st_op (ev_move rfl) rfl rfl rfl ?_
 refine st_op (ev_nilCheck rfl) rfl rfl rfl ?_
 refine st_op (ev_fieldAddr rfl fa77_1 (o':=1) rfl) rfl rfl rfl ?_
 refine st_op (ev_load rfl (lvar_one one3 Bd rfl)) rfl rfl rfl ?_
 refine st_op (ev_int64 (c:=k+1) rfl rfl rfl (by omega) (by omega)) rfl rfl rfl ?_
 refine st_op (ev_nilCheck rfl) rfl rfl rfl ?_
 refine st_op (ev_fieldAddr rfl fa77_1 (o':=1) rfl) rfl rfl rfl ?_
 obtain⟨H1,he2,H1n_,hB3,f4⟩:=mem_store (v := .int .i64 (k+1)) (o:=1) (cs' := [.map (some mb),.int .i64 (k+1)]) 1 rfl rfl size3 Bd rfl rfl rfl
 refine st_op0 (he2 _ _ _ _ _ _ _ _ _ rfl rfl) rfl rfl ?_
 have hf5:Fr (fun q=>q=d) H H1:=Fr.write H1n_ f4
 have H1n:H.next≤H1.next:=hf5.1
 iterate 2 refine aw_seq ?_
 refine aw_reg ?_
 refine st_op (ev_move rfl) rfl rfl rfl ?_
 refine st_call rfl rfl rfl ent32 rfl rfl rfl ?_
 obtain⟨_,H7,hs6,hs6v,hx8⟩:=disk_may_spec H1 nm (by omega)
 rw[hs6v] at hs6;clear hs6v
 refine⟨_,H7,hs6,?_⟩
 have H7n:H1.next≤H7.next:=hx8.1
 refine st_op (ev_not rfl) rfl rfl rfl ?_
 by_cases hc9:(!(Spec.nameF nm))=true
 ·
  refine aw_condT hc9 rfl ?_
  replace hc9:(Spec.nameF nm)=false:=by rw[Bool.not_eq_true'] at hc9;exact hc9
  refine aw_seq ?_
  refine aw_reg ?_
  refine st_op (ev_assign rfl) rfl rfl rfl ?_
  refine aw_ret ?_
  have h10:=Ext.blk hx8 (by omega) hB3
  have h11:=Fr.blk hf5 (by omega) (fun e=>(by omega)) Bm
  have h12:=Ext.blk hx8 (by omega) h11
  exact⟨.int .i64 1,rfl,rfl,h10,h12,(Fr.trans (Fr.transG (Fr.refl (fun q=>q=d) H) hf5 (fun q hq hE e=>(e))) (hx8.fr fun _=>False) (fun q hq (e:False)=>e.elim))⟩
 ·
  rw[Bool.not_eq_true] at hc9;refine aw_condF hc9 rfl ?_
  replace hc9:(Spec.nameF nm)=true:=by rw[Bool.not_eq_false'] at hc9;exact hc9
  exfalso;simp_all
theorem disk_AppendOld_spec (H:Heap) (mb:Nat) (hmb:mb<H.next) (m:List Value) (Bm:H.blk mb=some ⟨m,0,false,true⟩) (k:Int) (hk:0≤k∧k≤1099511627776) (d:Nat) (hd:d<H.next) (Bd:H.blk d=some ⟨[.map (some mb),.int .i64 k],0,false,false⟩) (nm:ByteArray) (hnm:nm.size≤140737488355328) (bA:Option Addr) (b:List Int) (bc:Nat) (hb:Row H bA bc 1 (b.map u8c)) (cb:b.length≤bc) (lb:b.length≤140737488355328) (bb:Spec.Bytes b) (hn:Spec.nameF nm=true) (lH:Heap) (lA:Option Addr) (l:List Int) (lc:Nat) (hl:My lH H lA lc 1 (l.map u8c)) (nl:lH.next≤H.next) (ll:l.length≤1048576) (bl:Spec.Bytes l) (lM:Heap) (ol:My lH lM lA lc 1 (l.map u8c)) (il:lM.next≤H.next) (s:Int) (hs:0≤s∧s≤1048576) (t:Bool) (f:Nat) (hf:f<H.next) (Bf:H.blk f=some ⟨[.slice lA l.length lc,.int .i64 s,.bool t],0,false,false⟩) (hg:mapGet nm m=some (.pointer (some ⟨f,0,none⟩))) (hl9:l.length+b.length≤1048576) (n1:mb≠d) (n2:f≠d) (n3:f≠mb):∃ v H',Spec Try.prog 11 [.pointer (some ⟨d,0,none⟩),.string nm,.slice bA b.length bc] H v H'∧(∃ A20 c21,(v = .int .i64 0)∧(H'.blk d=some ⟨[.map (some mb),.int .i64 (k+1)],0,false,false⟩)∧(H'.blk mb=some ⟨(mapPut nm (.pointer (some ⟨f,0,none⟩)) m),0,false,true⟩)∧(H'.blk f=some ⟨[.slice A20 ((l++b).length) c21,.int .i64 s,.bool t],0,false,false⟩)∧(My lH H' A20 c21 1 ((l++b).map u8c))∧(∀ q,inA A20 c21 q→inA lA lc q∨H.next≤q)∧(Fr (fun q=>q=d∨q=f∨(lH.next≤q∧q<lM.next∧ZB H q 1)∨q=mb) H H')):=by
 refine spec_go3 E0_ok 54 (f:=11) Try.func11 rfl rfl rfl ?_
 refine aw_seq ?_
 refine aw_reg ?_
 refine st_op (ev_assign rfl) rfl rfl rfl ?_
 iterate 2 refine aw_seq ?_
 refine aw_reg ?_
 refine st_op (ev_move rfl) rfl rfl rfl ?_
 refine st_op (ev_nilEq rfl rfl Try.underlying24) rfl rfl rfl ?_
 refine aw_cond (t:=false) rfl ?_
 refine aw_skip ?_
 refine aw_seq ?_
 refine aw_reg ?_
 refine st_op (ev_move rfl) rfl rfl rfl ?_
 refine st_op (ev_nilCheck rfl) rfl rfl rfl ?_
 refine st_op (ev_fieldAddr rfl fa77_1 (o':=1) rfl) rfl rfl rfl ?_
 refine st_op (ev_load rfl (lvar_one one3 Bd rfl)) rfl rfl rfl ?_
 refine st_op (ev_int64 (c:=k+1) rfl rfl rfl (by omega) (by omega)) rfl rfl rfl ?_
 refine st_op (ev_nilCheck rfl) rfl rfl rfl ?_
 refine st_op (ev_fieldAddr rfl fa77_1 (o':=1) rfl) rfl rfl rfl ?_
 obtain⟨H1,he2,H1n_,hB3,f4⟩:=mem_store (v := .int .i64 (k+1)) (o:=1) (cs' := [.map (some mb),.int .i64 (k+1)]) 1 rfl rfl size3 Bd rfl rfl rfl
 refine st_op0 (he2 _ _ _ _ _ _ _ _ _ rfl rfl) rfl rfl ?_
 have hf5:Fr (fun q=>q=d) H H1:=Fr.write H1n_ f4
 have H1n:H.next≤H1.next:=hf5.1
 iterate 2 refine aw_seq ?_
 refine aw_reg ?_
 refine st_op (ev_move rfl) rfl rfl rfl ?_
 refine st_call rfl rfl rfl ent32 rfl rfl rfl ?_
 obtain⟨_,H7,hs6,hs6v,hx8⟩:=disk_may_spec H1 nm (by omega)
 rw[hs6v] at hs6;clear hs6v
 refine⟨_,H7,hs6,?_⟩
 have H7n:H1.next≤H7.next:=hx8.1
 refine st_op (ev_not rfl) rfl rfl rfl ?_
 by_cases hc9:(!(Spec.nameF nm))=true
 ·
  refine aw_condT hc9 rfl ?_
  replace hc9:(Spec.nameF nm)=false:=by rw[Bool.not_eq_true'] at hc9;exact hc9
  exfalso;simp_all
 ·
  rw[Bool.not_eq_true] at hc9;refine aw_condF hc9 rfl ?_
  replace hc9:(Spec.nameF nm)=true:=by rw[Bool.not_eq_false'] at hc9;exact hc9
  refine aw_skip ?_
  refine aw_seq ?_
  refine aw_reg ?_
  refine st_op (ev_move rfl) rfl rfl rfl ?_
  refine st_op (ev_nilCheck rfl) rfl rfl rfl ?_
  refine st_op (ev_fieldAddr rfl fa77_0 (o':=0) rfl) rfl rfl rfl ?_
  have h10:=Ext.blk hx8 (by omega) hB3
  refine st_op (ev_load rfl (lvar_one one75 h10 rfl)) rfl rfl rfl ?_
  refine st_op (ev_move rfl) rfl rfl rfl ?_
  have h11:=Fr.blk hf5 (by omega) (fun e=>(by omega)) Bm
  have h12:=Ext.blk hx8 (by omega) h11
  refine st_op (ev_lookup ptrMap75 rfl rfl h12 hg) rfl rfl rfl ?_
  refine st_op (ev_assign rfl) rfl rfl rfl ?_
  iterate 2 refine aw_seq ?_
  refine aw_reg ?_
  refine st_op (ev_move rfl) rfl rfl rfl ?_
  refine st_op (ev_nilEq rfl rfl Try.underlying79) rfl rfl rfl ?_
  refine aw_cond (t:=false) rfl ?_
  refine aw_skip ?_
  iterate 2 refine aw_seq ?_
  refine aw_reg ?_
  refine st_op (ev_move rfl) rfl rfl rfl ?_
  refine st_op (ev_nilCheck rfl) rfl rfl rfl ?_
  refine st_op (ev_fieldAddr rfl fa81_0 (o':=0) rfl) rfl rfl rfl ?_
  have h13:=Fr.blk hf5 (by omega) (fun e=>(by omega)) Bf
  have h14:=Ext.blk hx8 (by omega) h13
  refine st_op (ev_load rfl (lvar_one one26 h14 rfl)) rfl rfl rfl ?_
  refine st_op (ev_lenSl rfl Try.underlying26) rfl rfl rfl ?_
  refine st_op (ev_move rfl) rfl rfl rfl ?_
  refine st_op (ev_lenSl rfl Try.underlying26) rfl rfl rfl ?_
  refine st_op (ev_int64 (c:=1048576 - (b.length:Int)) rfl rfl rfl (by omega) (by omega)) rfl rfl rfl ?_
  refine st_op (ev_int rfl rfl rfl) rfl rfl rfl ?_
  by_cases hc15:(decide ((l.length:Int) > 1048576 - (b.length:Int)))=true
  ·
   refine aw_condT hc15 rfl ?_
   exfalso;simp only [decide_eq_true_eq,decide_eq_false_iff_not] at hc15;omega
  ·
   rw[Bool.not_eq_true] at hc15;refine aw_condF hc15 rfl ?_
   have hc15:=of_decide_eq_false hc15
   refine aw_skip ?_
   refine aw_seq ?_
   refine aw_reg ?_
   iterate 2 refine st_op (ev_move rfl) rfl rfl rfl ?_
   refine st_op (ev_nilCheck rfl) rfl rfl rfl ?_
   refine st_op (ev_fieldAddr rfl fa81_0 (o':=0) rfl) rfl rfl rfl ?_
   refine st_op (ev_load rfl (lvar_one one26 h14 rfl)) rfl rfl rfl ?_
   refine st_op (ev_move rfl) rfl rfl rfl ?_
   have h16:=My.frS hl hf5 (fun q hq e=>⟨_,e ▸ Bd,show(0:Nat)≠1 by decide⟩)
   have h17:=My.ext h16 hx8
   have h18:=Row.fr hb hf5 (fun q hq e=>⟨_,e ▸ Bd,show(0:Nat)≠1 by decide⟩)
   have h19:=Row.ext h18 hx8
   obtain⟨A20,c21,H22,W23,he24,hm25,hf27,hA28⟩:=mem_append3 (f:=u8c) (old:=l) (new:=b) (m:=l.length) (mx:=b.length) (c:=lc) (by first | rfl | simp) (by first | rfl | simp) eok26 (by decide) ol h17 (by omega) ((h19).srcF (by decide) (by first | rfl | simp)) rfl u8c_len u8c_one (by omega) (by omega)
   have hf26:=Fr.mono hf27 (fun q h=>h.2)
   refine st_op (he24 _ _ _ _ _ _ _ _ _ _ rfl rfl isrow26) rfl rfl rfl ?_
   have H22n:H7.next≤H22.next:=hf26.1
   refine st_op (ev_nilCheck rfl) rfl rfl rfl ?_
   refine st_op (ev_fieldAddr rfl fa81_0 (o':=0) rfl) rfl rfl rfl ?_
   have h29:=Fr.blk hf26 (by omega) (fun e=>(zb_ne h14 e.2.2 (show(0:Nat)≠1 by decide))) h14
   obtain⟨H30,he31,H30n_,hB32,f33⟩:=mem_store (v := .slice A20 ((l++b).length) c21) (o:=0) (cs' := [.slice A20 ((l++b).length) c21,.int .i64 s,.bool t]) 1 rfl rfl size26 h29 rfl rfl rfl
   refine st_op0 (he31 _ _ _ _ _ _ _ _ _ rfl rfl) rfl rfl ?_
   have hf34:Fr (fun q=>q=f) H22 H30:=Fr.write H30n_ f33
   have H30n:H22.next≤H30.next:=hf34.1
   refine aw_seq ?_
   refine aw_reg ?_
   refine st_op (ev_move rfl) rfl rfl rfl ?_
   refine st_op (ev_nilCheck rfl) rfl rfl rfl ?_
   refine st_op (ev_fieldAddr rfl fa77_0 (o':=0) rfl) rfl rfl rfl ?_
   have h35:=Fr.blk hf26 (by omega) (fun e=>(zb_ne h10 e.2.2 (show(0:Nat)≠1 by decide))) h10
   have h36:=Fr.blk hf34 (by omega) (fun e=>(by omega)) h35
   refine st_op (ev_load rfl (lvar_one one75 h36 rfl)) rfl rfl rfl ?_
   iterate 2 refine st_op (ev_move rfl) rfl rfl rfl ?_
   have h37:=Fr.blk hf26 (by omega) (fun e=>(zb_ne h12 e.2.2 (show(0:Nat)≠1 by decide))) h12
   have h38:=Fr.blk hf34 (by omega) (fun e=>(by omega)) h37
   obtain⟨H39,he40,H39n_,hB41,f42⟩:=mem_mapUpd (v := .pointer (some ⟨f,0,none⟩)) (s:=nm) ptrMap75 h38 (by omega)
   refine st_op0 (he40 _ _ _ _ _ _ _ _ _ _ rfl rfl rfl) rfl rfl ?_
   have hf43:Fr (fun q=>q=mb) H30 H39:=Fr.write H39n_ f42
   have H39n:H30.next≤H39.next:=hf43.1
   refine aw_seq ?_
   refine aw_reg ?_
   refine st_op (ev_assign rfl) rfl rfl rfl ?_
   refine aw_ret ?_
   have h44:=Fr.blk hf43 (by omega) (fun e=>(by omega)) h36
   have h45:=Fr.blk hf43 (by omega) (fun e=>(by omega)) hB32
   have h46:=My.frS hm25 hf34 (fun q hq e=>⟨_,e ▸ h29,show(0:Nat)≠1 by decide⟩)
   have h47:=My.frS h46 hf43 (fun q hq e=>⟨_,e ▸ h38,show(0:Nat)≠1 by decide⟩)
   exact⟨.int .i64 0,rfl,A20,c21,rfl,h44,hB41,h45,h47,(fun q e=>(hA28 q e).imp id (fun e=>by omega)),(Fr.transG (Fr.transG (Fr.transG (Fr.trans (Fr.transG (Fr.refl (fun q=>q=d∨q=f∨(lH.next≤q∧q<lM.next∧ZB H q 1)∨q=mb) H) hf5 (fun q hq hE e=>Or.inl (e))) (hx8.fr fun _=>False) (fun q hq (e:False)=>e.elim)) hf26 (fun q hq hE e=>Or.inr (Or.inr (Or.inl (⟨by omega,by omega,ZB.back hE e.2.2⟩))))) hf34 (fun q hq hE e=>Or.inr (Or.inl (e)))) hf43 (fun q hq hE e=>Or.inr (Or.inr (Or.inr ((e))))))⟩
theorem disk_AppendOldF_spec (H:Heap) (mb:Nat) (hmb:mb<H.next) (m:List Value) (Bm:H.blk mb=some ⟨m,0,false,true⟩) (k:Int) (hk:0≤k∧k≤1099511627776) (d:Nat) (hd:d<H.next) (Bd:H.blk d=some ⟨[.map (some mb),.int .i64 k],0,false,false⟩) (nm:ByteArray) (hnm:nm.size≤140737488355328) (bA:Option Addr) (b:List Int) (bc:Nat) (hb:Row H bA bc 1 (b.map u8c)) (cb:b.length≤bc) (lb:b.length≤140737488355328) (bb:Spec.Bytes b) (hn:Spec.nameF nm=true) (lA:Option Addr) (l:List Int) (lc:Nat) (hl:Row H lA lc 1 (l.map u8c)) (cl:l.length≤lc) (ll:l.length≤1048576) (bl:Spec.Bytes l) (s:Int) (hs:0≤s∧s≤1048576) (t:Bool) (f:Nat) (hf:f<H.next) (Bf:H.blk f=some ⟨[.slice lA l.length lc,.int .i64 s,.bool t],0,false,false⟩) (hg:mapGet nm m=some (.pointer (some ⟨f,0,none⟩))) (hl9:1048576<l.length+b.length) (n1:mb≠d) (n2:f≠d) (n3:f≠mb):∃ v H',Spec Try.prog 11 [.pointer (some ⟨d,0,none⟩),.string nm,.slice bA b.length bc] H v H'∧((v = .int .i64 5)∧(H'.blk d=some ⟨[.map (some mb),.int .i64 (k+1)],0,false,false⟩)∧(H'.blk mb=some ⟨m,0,false,true⟩)∧(Fr (fun q=>q=d) H H')):=by
 refine spec_go3 E0_ok 54 (f:=11) Try.func11 rfl rfl rfl ?_
 refine aw_seq ?_
 refine aw_reg ?_
 refine st_op (ev_assign rfl) rfl rfl rfl ?_
 iterate 2 refine aw_seq ?_
 refine aw_reg ?_
 refine st_op (ev_move rfl) rfl rfl rfl ?_
 refine st_op (ev_nilEq rfl rfl Try.underlying24) rfl rfl rfl ?_
 refine aw_cond (t:=false) rfl ?_
 refine aw_skip ?_
 refine aw_seq ?_
 refine aw_reg ?_
 refine st_op (ev_move rfl) rfl rfl rfl ?_
 refine st_op (ev_nilCheck rfl) rfl rfl rfl ?_
 refine st_op (ev_fieldAddr rfl fa77_1 (o':=1) rfl) rfl rfl rfl ?_
 refine st_op (ev_load rfl (lvar_one one3 Bd rfl)) rfl rfl rfl ?_
 refine st_op (ev_int64 (c:=k+1) rfl rfl rfl (by omega) (by omega)) rfl rfl rfl ?_
 refine st_op (ev_nilCheck rfl) rfl rfl rfl ?_
 refine st_op (ev_fieldAddr rfl fa77_1 (o':=1) rfl) rfl rfl rfl ?_
 obtain⟨H1,he2,H1n_,hB3,f4⟩:=mem_store (v := .int .i64 (k+1)) (o:=1) (cs' := [.map (some mb),.int .i64 (k+1)]) 1 rfl rfl size3 Bd rfl rfl rfl
 refine st_op0 (he2 _ _ _ _ _ _ _ _ _ rfl rfl) rfl rfl ?_
 have hf5:Fr (fun q=>q=d) H H1:=Fr.write H1n_ f4
 have H1n:H.next≤H1.next:=hf5.1
 iterate 2 refine aw_seq ?_
 refine aw_reg ?_
 refine st_op (ev_move rfl) rfl rfl rfl ?_
 refine st_call rfl rfl rfl ent32 rfl rfl rfl ?_
 obtain⟨_,H7,hs6,hs6v,hx8⟩:=disk_may_spec H1 nm (by omega)
 rw[hs6v] at hs6;clear hs6v
 refine⟨_,H7,hs6,?_⟩
 have H7n:H1.next≤H7.next:=hx8.1
 refine st_op (ev_not rfl) rfl rfl rfl ?_
 by_cases hc9:(!(Spec.nameF nm))=true
 ·
  refine aw_condT hc9 rfl ?_
  replace hc9:(Spec.nameF nm)=false:=by rw[Bool.not_eq_true'] at hc9;exact hc9
  exfalso;simp_all
 ·
  rw[Bool.not_eq_true] at hc9;refine aw_condF hc9 rfl ?_
  replace hc9:(Spec.nameF nm)=true:=by rw[Bool.not_eq_false'] at hc9;exact hc9
  refine aw_skip ?_
  refine aw_seq ?_
  refine aw_reg ?_
  refine st_op (ev_move rfl) rfl rfl rfl ?_
  refine st_op (ev_nilCheck rfl) rfl rfl rfl ?_
  refine st_op (ev_fieldAddr rfl fa77_0 (o':=0) rfl) rfl rfl rfl ?_
  have h10:=Ext.blk hx8 (by omega) hB3
  refine st_op (ev_load rfl (lvar_one one75 h10 rfl)) rfl rfl rfl ?_
  refine st_op (ev_move rfl) rfl rfl rfl ?_
  have h11:=Fr.blk hf5 (by omega) (fun e=>(by omega)) Bm
  have h12:=Ext.blk hx8 (by omega) h11
  refine st_op (ev_lookup ptrMap75 rfl rfl h12 hg) rfl rfl rfl ?_
  refine st_op (ev_assign rfl) rfl rfl rfl ?_
  iterate 2 refine aw_seq ?_
  refine aw_reg ?_
  refine st_op (ev_move rfl) rfl rfl rfl ?_
  refine st_op (ev_nilEq rfl rfl Try.underlying79) rfl rfl rfl ?_
  refine aw_cond (t:=false) rfl ?_
  refine aw_skip ?_
  iterate 2 refine aw_seq ?_
  refine aw_reg ?_
  refine st_op (ev_move rfl) rfl rfl rfl ?_
  refine st_op (ev_nilCheck rfl) rfl rfl rfl ?_
  refine st_op (ev_fieldAddr rfl fa81_0 (o':=0) rfl) rfl rfl rfl ?_
  have h13:=Fr.blk hf5 (by omega) (fun e=>(by omega)) Bf
  have h14:=Ext.blk hx8 (by omega) h13
  refine st_op (ev_load rfl (lvar_one one26 h14 rfl)) rfl rfl rfl ?_
  refine st_op (ev_lenSl rfl Try.underlying26) rfl rfl rfl ?_
  refine st_op (ev_move rfl) rfl rfl rfl ?_
  refine st_op (ev_lenSl rfl Try.underlying26) rfl rfl rfl ?_
  refine st_op (ev_int64 (c:=1048576 - (b.length:Int)) rfl rfl rfl (by omega) (by omega)) rfl rfl rfl ?_
  refine st_op (ev_int rfl rfl rfl) rfl rfl rfl ?_
  by_cases hc15:(decide ((l.length:Int) > 1048576 - (b.length:Int)))=true
  ·
   refine aw_condT hc15 rfl ?_
   have hc15:=of_decide_eq_true hc15
   refine aw_seq ?_
   refine aw_reg ?_
   refine st_op (ev_assign rfl) rfl rfl rfl ?_
   refine aw_ret ?_
   exact⟨.int .i64 5,rfl,rfl,h10,h12,(Fr.trans (Fr.transG (Fr.refl (fun q=>q=d) H) hf5 (fun q hq hE e=>(e))) (hx8.fr fun _=>False) (fun q hq (e:False)=>e.elim))⟩
  ·
   rw[Bool.not_eq_true] at hc15;refine aw_condF hc15 rfl ?_
   exfalso;simp only [decide_eq_true_eq,decide_eq_false_iff_not] at hc15;omega
theorem disk_AppendNew_spec (H:Heap) (mb:Nat) (hmb:mb<H.next) (m:List Value) (Bm:H.blk mb=some ⟨m,0,false,true⟩) (k:Int) (hk:0≤k∧k≤1099511627776) (d:Nat) (hd:d<H.next) (Bd:H.blk d=some ⟨[.map (some mb),.int .i64 k],0,false,false⟩) (nm:ByteArray) (hnm:nm.size≤140737488355328) (bA:Option Addr) (b:List Int) (bc:Nat) (hb:Row H bA bc 1 (b.map u8c)) (cb:b.length≤bc) (lb:b.length≤140737488355328) (bb:Spec.Bytes b) (hn:Spec.nameF nm=true) (hg:mapGet nm m=none) (hl9:b.length≤1048576) (n1:mb≠d):∃ v H',Spec Try.prog 11 [.pointer (some ⟨d,0,none⟩),.string nm,.slice bA b.length bc] H v H'∧(∃ b13 A24 c25,(v = .int .i64 0)∧(H'.blk d=some ⟨[.map (some mb),.int .i64 (k+1)],0,false,false⟩)∧(H'.blk mb=some ⟨(mapPut nm (.pointer (some ⟨b13,0,none⟩)) m),0,false,true⟩)∧(H.next≤b13∧b13<H'.next)∧(H'.blk b13=some ⟨[.slice A24 b.length c25,.int .i64 0,.bool false],0,false,false⟩)∧(My H H' A24 c25 1 (b.map u8c))∧(Fr (fun q=>q=d∨q=mb) H H')):=by
 refine spec_go3 E0_ok 54 (f:=11) Try.func11 rfl rfl rfl ?_
 refine aw_seq ?_
 refine aw_reg ?_
 refine st_op (ev_assign rfl) rfl rfl rfl ?_
 iterate 2 refine aw_seq ?_
 refine aw_reg ?_
 refine st_op (ev_move rfl) rfl rfl rfl ?_
 refine st_op (ev_nilEq rfl rfl Try.underlying24) rfl rfl rfl ?_
 refine aw_cond (t:=false) rfl ?_
 refine aw_skip ?_
 refine aw_seq ?_
 refine aw_reg ?_
 refine st_op (ev_move rfl) rfl rfl rfl ?_
 refine st_op (ev_nilCheck rfl) rfl rfl rfl ?_
 refine st_op (ev_fieldAddr rfl fa77_1 (o':=1) rfl) rfl rfl rfl ?_
 refine st_op (ev_load rfl (lvar_one one3 Bd rfl)) rfl rfl rfl ?_
 refine st_op (ev_int64 (c:=k+1) rfl rfl rfl (by omega) (by omega)) rfl rfl rfl ?_
 refine st_op (ev_nilCheck rfl) rfl rfl rfl ?_
 refine st_op (ev_fieldAddr rfl fa77_1 (o':=1) rfl) rfl rfl rfl ?_
 obtain⟨H1,he2,H1n_,hB3,f4⟩:=mem_store (v := .int .i64 (k+1)) (o:=1) (cs' := [.map (some mb),.int .i64 (k+1)]) 1 rfl rfl size3 Bd rfl rfl rfl
 refine st_op0 (he2 _ _ _ _ _ _ _ _ _ rfl rfl) rfl rfl ?_
 have hf5:Fr (fun q=>q=d) H H1:=Fr.write H1n_ f4
 have H1n:H.next≤H1.next:=hf5.1
 iterate 2 refine aw_seq ?_
 refine aw_reg ?_
 refine st_op (ev_move rfl) rfl rfl rfl ?_
 refine st_call rfl rfl rfl ent32 rfl rfl rfl ?_
 obtain⟨_,H7,hs6,hs6v,hx8⟩:=disk_may_spec H1 nm (by omega)
 rw[hs6v] at hs6;clear hs6v
 refine⟨_,H7,hs6,?_⟩
 have H7n:H1.next≤H7.next:=hx8.1
 refine st_op (ev_not rfl) rfl rfl rfl ?_
 by_cases hc9:(!(Spec.nameF nm))=true
 ·
  refine aw_condT hc9 rfl ?_
  replace hc9:(Spec.nameF nm)=false:=by rw[Bool.not_eq_true'] at hc9;exact hc9
  exfalso;simp_all
 ·
  rw[Bool.not_eq_true] at hc9;refine aw_condF hc9 rfl ?_
  replace hc9:(Spec.nameF nm)=true:=by rw[Bool.not_eq_false'] at hc9;exact hc9
  refine aw_skip ?_
  refine aw_seq ?_
  refine aw_reg ?_
  refine st_op (ev_move rfl) rfl rfl rfl ?_
  refine st_op (ev_nilCheck rfl) rfl rfl rfl ?_
  refine st_op (ev_fieldAddr rfl fa77_0 (o':=0) rfl) rfl rfl rfl ?_
  have h10:=Ext.blk hx8 (by omega) hB3
  refine st_op (ev_load rfl (lvar_one one75 h10 rfl)) rfl rfl rfl ?_
  refine st_op (ev_move rfl) rfl rfl rfl ?_
  have h11:=Fr.blk hf5 (by omega) (fun e=>(by omega)) Bm
  have h12:=Ext.blk hx8 (by omega) h11
  refine st_op (ev_lookupN ptrMap75 rfl rfl h12 hg) rfl rfl rfl ?_
  refine st_op (ev_assign rfl) rfl rfl rfl ?_
  iterate 2 refine aw_seq ?_
  refine aw_reg ?_
  refine st_op (ev_move rfl) rfl rfl rfl ?_
  refine st_op (ev_nilEq rfl rfl Try.underlying79) rfl rfl rfl ?_
  refine aw_cond (t:=true) rfl ?_
  refine aw_reg ?_
  refine st_op (ev_build zero81 pl81 (parts := []) rfl (cs := [.slice none 0 0,.int .i64 0,.bool false]) rfl) rfl rfl rfl ?_
  obtain⟨b13,H14,he15,b13e,H14n_,hB17,f16⟩:=mem_box (P:=Try.prog) H7 (v := .agg #[.slice none 0 0,.int .i64 0,.bool false]) (cs := [.slice none 0 0,.int .i64 0,.bool false]) rfl rfl
  refine st_op (he15 _ _ _ _ _ _ _ _ _ rfl) rfl rfl rfl ?_
  have hx18:Ext H7 H14:=Ext.new (by omega) H14n_ f16
  have H14n:H7.next≤H14.next:=hx18.1
  refine st_op (ev_assign rfl) rfl rfl rfl ?_
  iterate 2 refine aw_seq ?_
  refine aw_reg ?_
  refine st_op (ev_move rfl) rfl rfl rfl ?_
  refine st_op (ev_nilCheck rfl) rfl rfl rfl ?_
  refine st_op (ev_fieldAddr rfl fa81_0 (o':=0) rfl) rfl rfl rfl ?_
  refine st_op (ev_load rfl (lvar_one one26 hB17 rfl)) rfl rfl rfl ?_
  refine st_op (ev_lenSl rfl Try.underlying26) rfl rfl rfl ?_
  refine st_op (ev_move rfl) rfl rfl rfl ?_
  refine st_op (ev_lenSl rfl Try.underlying26) rfl rfl rfl ?_
  refine st_op (ev_int64 (c:=1048576 - (b.length:Int)) rfl rfl rfl (by omega) (by omega)) rfl rfl rfl ?_
  refine st_op (ev_int rfl rfl rfl) rfl rfl rfl ?_
  by_cases hc19:(decide (0 > 1048576 - (b.length:Int)))=true
  ·
   refine aw_condT hc19 rfl ?_
   exfalso;simp only [decide_eq_true_eq,decide_eq_false_iff_not] at hc19;omega
  ·
   rw[Bool.not_eq_true] at hc19;refine aw_condF hc19 rfl ?_
   have hc19:=of_decide_eq_false hc19
   refine aw_skip ?_
   refine aw_seq ?_
   refine aw_reg ?_
   iterate 2 refine st_op (ev_move rfl) rfl rfl rfl ?_
   refine st_op (ev_nilCheck rfl) rfl rfl rfl ?_
   refine st_op (ev_fieldAddr rfl fa81_0 (o':=0) rfl) rfl rfl rfl ?_
   refine st_op (ev_load rfl (lvar_one one26 hB17 rfl)) rfl rfl rfl ?_
   refine st_op (ev_move rfl) rfl rfl rfl ?_
   have hm20:My H14 H14 none 0 1 (([]:List Int).map u8c) := .nil
   have h21:=Row.fr hb hf5 (fun q hq e=>⟨_,e ▸ Bd,show(0:Nat)≠1 by decide⟩)
   have hx23:Ext H1 H14:=(Ext.trans hx8 hx18)
   have h22:=Row.ext h21 hx23
   obtain⟨A24,c25,H26,W27,he28,hm29,hf30⟩:=mem_append (f:=u8c) (old:=([]:List Int)) (new:=b) (m:=0) (mx:=b.length) (c:=0) (by first | rfl | simp) (by first | rfl | simp) eok26 (by decide) hm20 hm20 (by omega) ((h22).srcF (by decide) (by first | rfl | simp)) rfl u8c_len u8c_one (by omega) (by omega)
   refine st_op (he28 _ _ _ _ _ _ _ _ _ _ rfl rfl isrow26) rfl rfl rfl ?_
   have H26n:H14.next≤H26.next:=hf30.1
   rw[List.nil_append] at hm29
   refine st_op (ev_nilCheck rfl) rfl rfl rfl ?_
   refine st_op (ev_fieldAddr rfl fa81_0 (o':=0) rfl) rfl rfl rfl ?_
   have hx32:Ext H14 H26:=(Ext.then (Ext.refl H14) hf30 (fun q hq e=>by omega))
   have h31:=Ext.blk hx32 (by omega) hB17
   obtain⟨H33,he34,H33n_,hB35,f36⟩:=mem_store (v := .slice A24 b.length c25) (o:=0) (cs' := [.slice A24 b.length c25,.int .i64 0,.bool false]) 1 rfl rfl size26 h31 rfl rfl rfl
   refine st_op0 (he34 _ _ _ _ _ _ _ _ _ rfl rfl) rfl rfl ?_
   have hf37:Fr (fun q=>q=b13) H26 H33:=Fr.write H33n_ f36
   have H33n:H26.next≤H33.next:=hf37.1
   refine aw_seq ?_
   refine aw_reg ?_
   refine st_op (ev_move rfl) rfl rfl rfl ?_
   refine st_op (ev_nilCheck rfl) rfl rfl rfl ?_
   refine st_op (ev_fieldAddr rfl fa77_0 (o':=0) rfl) rfl rfl rfl ?_
   have hx39:Ext H7 H33:=(Ext.then (Ext.then hx18 hf30 (fun q hq e=>by omega)) hf37 (fun q hq e=>by omega))
   have h38:=Ext.blk hx39 (by omega) h10
   refine st_op (ev_load rfl (lvar_one one75 h38 rfl)) rfl rfl rfl ?_
   iterate 2 refine st_op (ev_move rfl) rfl rfl rfl ?_
   have h40:=Ext.blk hx39 (by omega) h12
   obtain⟨H41,he42,H41n_,hB43,f44⟩:=mem_mapUpd (v := .pointer (some ⟨b13,0,none⟩)) (s:=nm) ptrMap75 h40 (by omega)
   refine st_op0 (he42 _ _ _ _ _ _ _ _ _ _ rfl rfl rfl) rfl rfl ?_
   have hf45:Fr (fun q=>q=mb) H33 H41:=Fr.write H41n_ f44
   have H41n:H33.next≤H41.next:=hf45.1
   refine aw_seq ?_
   refine aw_reg ?_
   refine st_op (ev_assign rfl) rfl rfl rfl ?_
   refine aw_ret ?_
   have h46:=Fr.blk hf45 (by omega) (fun e=>(by omega)) h38
   have h47:=Fr.blk hf45 (by omega) (fun e=>(by omega)) hB35
   have h48:=My.frS hm29 hf37 (fun q hq e=>⟨_,e ▸ h31,show(0:Nat)≠1 by decide⟩)
   have h49:=My.frS h48 hf45 (fun q hq e=>⟨_,e ▸ h40,show(0:Nat)≠1 by decide⟩)
   exact⟨.int .i64 0,rfl,b13,A24,c25,rfl,h46,hB43,⟨by omega,by omega⟩,h47,(My.older h49 (by omega)),(Fr.transG (Fr.transG (Fr.transG (Fr.trans (Fr.trans (Fr.transG (Fr.refl (fun q=>q=d∨q=mb) H) hf5 (fun q hq hE e=>Or.inl (e))) (hx8.fr fun _=>False) (fun q hq (e:False)=>e.elim)) (hx18.fr fun _=>False) (fun q hq (e:False)=>e.elim)) hf30 (fun q hq hE e=>absurd hq (by omega))) hf37 (fun q hq hE e=>absurd hq (by omega))) hf45 (fun q hq hE e=>Or.inr ((e))))⟩
theorem disk_AppendNewF_spec (H:Heap) (mb:Nat) (hmb:mb<H.next) (m:List Value) (Bm:H.blk mb=some ⟨m,0,false,true⟩) (k:Int) (hk:0≤k∧k≤1099511627776) (d:Nat) (hd:d<H.next) (Bd:H.blk d=some ⟨[.map (some mb),.int .i64 k],0,false,false⟩) (nm:ByteArray) (hnm:nm.size≤140737488355328) (bA:Option Addr) (b:List Int) (bc:Nat) (hb:Row H bA bc 1 (b.map u8c)) (cb:b.length≤bc) (lb:b.length≤140737488355328) (bb:Spec.Bytes b) (hn:Spec.nameF nm=true) (hg:mapGet nm m=none) (hl9:1048576<b.length) (n1:mb≠d):∃ v H',Spec Try.prog 11 [.pointer (some ⟨d,0,none⟩),.string nm,.slice bA b.length bc] H v H'∧((v = .int .i64 5)∧(H'.blk d=some ⟨[.map (some mb),.int .i64 (k+1)],0,false,false⟩)∧(H'.blk mb=some ⟨m,0,false,true⟩)∧(Fr (fun q=>q=d) H H')):=by
 refine spec_go3 E0_ok 54 (f:=11) Try.func11 rfl rfl rfl ?_
 refine aw_seq ?_
 refine aw_reg ?_
 refine st_op (ev_assign rfl) rfl rfl rfl ?_
 iterate 2 refine aw_seq ?_
 refine aw_reg ?_
 refine st_op (ev_move rfl) rfl rfl rfl ?_
 refine st_op (ev_nilEq rfl rfl Try.underlying24) rfl rfl rfl ?_
 refine aw_cond (t:=false) rfl ?_
 refine aw_skip ?_
 refine aw_seq ?_
 refine aw_reg ?_
 refine st_op (ev_move rfl) rfl rfl rfl ?_
 refine st_op (ev_nilCheck rfl) rfl rfl rfl ?_
 refine st_op (ev_fieldAddr rfl fa77_1 (o':=1) rfl) rfl rfl rfl ?_
 refine st_op (ev_load rfl (lvar_one one3 Bd rfl)) rfl rfl rfl ?_
 refine st_op (ev_int64 (c:=k+1) rfl rfl rfl (by omega) (by omega)) rfl rfl rfl ?_
 refine st_op (ev_nilCheck rfl) rfl rfl rfl ?_
 refine st_op (ev_fieldAddr rfl fa77_1 (o':=1) rfl) rfl rfl rfl ?_
 obtain⟨H1,he2,H1n_,hB3,f4⟩:=mem_store (v := .int .i64 (k+1)) (o:=1) (cs' := [.map (some mb),.int .i64 (k+1)]) 1 rfl rfl size3 Bd rfl rfl rfl
 refine st_op0 (he2 _ _ _ _ _ _ _ _ _ rfl rfl) rfl rfl ?_
 have hf5:Fr (fun q=>q=d) H H1:=Fr.write H1n_ f4
 have H1n:H.next≤H1.next:=hf5.1
 iterate 2 refine aw_seq ?_
 refine aw_reg ?_
 refine st_op (ev_move rfl) rfl rfl rfl ?_
 refine st_call rfl rfl rfl ent32 rfl rfl rfl ?_
 obtain⟨_,H7,hs6,hs6v,hx8⟩:=disk_may_spec H1 nm (by omega)
 rw[hs6v] at hs6;clear hs6v
 refine⟨_,H7,hs6,?_⟩
 have H7n:H1.next≤H7.next:=hx8.1
 refine st_op (ev_not rfl) rfl rfl rfl ?_
 by_cases hc9:(!(Spec.nameF nm))=true
 ·
  refine aw_condT hc9 rfl ?_
  replace hc9:(Spec.nameF nm)=false:=by rw[Bool.not_eq_true'] at hc9;exact hc9
  exfalso;simp_all
 ·
  rw[Bool.not_eq_true] at hc9;refine aw_condF hc9 rfl ?_
  replace hc9:(Spec.nameF nm)=true:=by rw[Bool.not_eq_false'] at hc9;exact hc9
  refine aw_skip ?_
  refine aw_seq ?_
  refine aw_reg ?_
  refine st_op (ev_move rfl) rfl rfl rfl ?_
  refine st_op (ev_nilCheck rfl) rfl rfl rfl ?_
  refine st_op (ev_fieldAddr rfl fa77_0 (o':=0) rfl) rfl rfl rfl ?_
  have h10:=Ext.blk hx8 (by omega) hB3
  refine st_op (ev_load rfl (lvar_one one75 h10 rfl)) rfl rfl rfl ?_
  refine st_op (ev_move rfl) rfl rfl rfl ?_
  have h11:=Fr.blk hf5 (by omega) (fun e=>(by omega)) Bm
  have h12:=Ext.blk hx8 (by omega) h11
  refine st_op (ev_lookupN ptrMap75 rfl rfl h12 hg) rfl rfl rfl ?_
  refine st_op (ev_assign rfl) rfl rfl rfl ?_
  iterate 2 refine aw_seq ?_
  refine aw_reg ?_
  refine st_op (ev_move rfl) rfl rfl rfl ?_
  refine st_op (ev_nilEq rfl rfl Try.underlying79) rfl rfl rfl ?_
  refine aw_cond (t:=true) rfl ?_
  refine aw_reg ?_
  refine st_op (ev_build zero81 pl81 (parts := []) rfl (cs := [.slice none 0 0,.int .i64 0,.bool false]) rfl) rfl rfl rfl ?_
  obtain⟨b13,H14,he15,b13e,H14n_,hB17,f16⟩:=mem_box (P:=Try.prog) H7 (v := .agg #[.slice none 0 0,.int .i64 0,.bool false]) (cs := [.slice none 0 0,.int .i64 0,.bool false]) rfl rfl
  refine st_op (he15 _ _ _ _ _ _ _ _ _ rfl) rfl rfl rfl ?_
  have hx18:Ext H7 H14:=Ext.new (by omega) H14n_ f16
  have H14n:H7.next≤H14.next:=hx18.1
  refine st_op (ev_assign rfl) rfl rfl rfl ?_
  iterate 2 refine aw_seq ?_
  refine aw_reg ?_
  refine st_op (ev_move rfl) rfl rfl rfl ?_
  refine st_op (ev_nilCheck rfl) rfl rfl rfl ?_
  refine st_op (ev_fieldAddr rfl fa81_0 (o':=0) rfl) rfl rfl rfl ?_
  refine st_op (ev_load rfl (lvar_one one26 hB17 rfl)) rfl rfl rfl ?_
  refine st_op (ev_lenSl rfl Try.underlying26) rfl rfl rfl ?_
  refine st_op (ev_move rfl) rfl rfl rfl ?_
  refine st_op (ev_lenSl rfl Try.underlying26) rfl rfl rfl ?_
  refine st_op (ev_int64 (c:=1048576 - (b.length:Int)) rfl rfl rfl (by omega) (by omega)) rfl rfl rfl ?_
  refine st_op (ev_int rfl rfl rfl) rfl rfl rfl ?_
  by_cases hc19:(decide (0 > 1048576 - (b.length:Int)))=true
  ·
   refine aw_condT hc19 rfl ?_
   have hc19:=of_decide_eq_true hc19
   refine aw_seq ?_
   refine aw_reg ?_
   refine st_op (ev_assign rfl) rfl rfl rfl ?_
   refine aw_ret ?_
   have h20:=Ext.blk hx18 (by omega) h10
   have h21:=Ext.blk hx18 (by omega) h12
   exact⟨.int .i64 5,rfl,rfl,h20,h21,(Fr.trans (Fr.trans (Fr.transG (Fr.refl (fun q=>q=d) H) hf5 (fun q hq hE e=>(e))) (hx8.fr fun _=>False) (fun q hq (e:False)=>e.elim)) (hx18.fr fun _=>False) (fun q hq (e:False)=>e.elim))⟩
  ·
   rw[Bool.not_eq_true] at hc19;refine aw_condF hc19 rfl ?_
   exfalso;simp only [decide_eq_true_eq,decide_eq_false_iff_not] at hc19;omega
theorem disk_SyncOld_spec (H:Heap) (mb:Nat) (hmb:mb<H.next) (m:List Value) (Bm:H.blk mb=some ⟨m,0,false,true⟩) (k:Int) (hk:0≤k∧k≤1099511627776) (d:Nat) (hd:d<H.next) (Bd:H.blk d=some ⟨[.map (some mb),.int .i64 k],0,false,false⟩) (nm:ByteArray) (hnm:nm.size≤140737488355328) (lA:Option Addr) (l:List Int) (lc:Nat) (hl:Row H lA lc 1 (l.map u8c)) (cl:l.length≤lc) (ll:l.length≤1048576) (bl:Spec.Bytes l) (s:Int) (hs:0≤s∧s≤1048576) (t:Bool) (f:Nat) (hf:f<H.next) (Bf:H.blk f=some ⟨[.slice lA l.length lc,.int .i64 s,.bool t],0,false,false⟩) (hg:mapGet nm m=some (.pointer (some ⟨f,0,none⟩))) (n1:mb≠d) (n2:f≠d) (n3:f≠mb):∃ v H',Spec Try.prog 12 [.pointer (some ⟨d,0,none⟩),.string nm] H v H'∧((v = .int .i64 0)∧(H'.blk d=some ⟨[.map (some mb),.int .i64 (k+1)],0,false,false⟩)∧(H'.blk mb=some ⟨m,0,false,true⟩)∧(H'.blk f=some ⟨[.slice lA l.length lc,.int .i64 (l.length:Int),.bool true],0,false,false⟩)∧(Fr (fun q=>q=d∨q=f) H H')):=by
 refine spec_go2 E0_ok 34 (f:=12) Try.func12 rfl rfl rfl ?_
 refine aw_seq ?_
 refine aw_reg ?_
 refine st_op (ev_assign rfl) rfl rfl rfl ?_
 iterate 2 refine aw_seq ?_
 refine aw_reg ?_
 refine st_op (ev_move rfl) rfl rfl rfl ?_
 refine st_op (ev_nilEq rfl rfl Try.underlying24) rfl rfl rfl ?_
 refine aw_cond (t:=false) rfl ?_
 refine aw_skip ?_
 refine aw_seq ?_
 refine aw_reg ?_
 refine st_op (ev_move rfl) rfl rfl rfl ?_
 refine st_op (ev_nilCheck rfl) rfl rfl rfl ?_
 refine st_op (ev_fieldAddr rfl fa77_1 (o':=1) rfl) rfl rfl rfl ?_
 refine st_op (ev_load rfl (lvar_one one3 Bd rfl)) rfl rfl rfl ?_
 refine st_op (ev_int64 (c:=k+1) rfl rfl rfl (by omega) (by omega)) rfl rfl rfl ?_
 refine st_op (ev_nilCheck rfl) rfl rfl rfl ?_
 refine st_op (ev_fieldAddr rfl fa77_1 (o':=1) rfl) rfl rfl rfl ?_
 obtain⟨H1,he2,H1n_,hB3,f4⟩:=mem_store (v := .int .i64 (k+1)) (o:=1) (cs' := [.map (some mb),.int .i64 (k+1)]) 1 rfl rfl size3 Bd rfl rfl rfl
 refine st_op0 (he2 _ _ _ _ _ _ _ _ _ rfl rfl) rfl rfl ?_
 have hf5:Fr (fun q=>q=d) H H1:=Fr.write H1n_ f4
 have H1n:H.next≤H1.next:=hf5.1
 refine aw_seq ?_
 refine aw_reg ?_
 refine st_op (ev_move rfl) rfl rfl rfl ?_
 refine st_op (ev_nilCheck rfl) rfl rfl rfl ?_
 refine st_op (ev_fieldAddr rfl fa77_0 (o':=0) rfl) rfl rfl rfl ?_
 refine st_op (ev_load rfl (lvar_one one75 hB3 rfl)) rfl rfl rfl ?_
 refine st_op (ev_move rfl) rfl rfl rfl ?_
 have h6:=Fr.blk hf5 (by omega) (fun e=>(by omega)) Bm
 refine st_op (ev_lookup ptrMap75 rfl rfl h6 hg) rfl rfl rfl ?_
 refine st_op (ev_assign rfl) rfl rfl rfl ?_
 iterate 2 refine aw_seq ?_
 refine aw_reg ?_
 refine st_op (ev_move rfl) rfl rfl rfl ?_
 refine st_op (ev_nilEq rfl rfl Try.underlying79) rfl rfl rfl ?_
 refine aw_cond (t:=false) rfl ?_
 refine aw_skip ?_
 refine aw_seq ?_
 refine aw_reg ?_
 iterate 3 refine st_op (ev_move rfl) rfl rfl rfl ?_
 refine st_op (ev_nilCheck rfl) rfl rfl rfl ?_
 refine st_op (ev_fieldAddr rfl fa81_0 (o':=0) rfl) rfl rfl rfl ?_
 have h7:=Fr.blk hf5 (by omega) (fun e=>(by omega)) Bf
 refine st_op (ev_load rfl (lvar_one one26 h7 rfl)) rfl rfl rfl ?_
 refine st_op (ev_lenSl rfl Try.underlying26) rfl rfl rfl ?_
 refine st_op (ev_nilCheck rfl) rfl rfl rfl ?_
 refine st_op (ev_fieldAddr rfl fa81_1 (o':=1) rfl) rfl rfl rfl ?_
 obtain⟨H8,he9,H8n_,hB10,f11⟩:=mem_store (v := .int .i64 (l.length:Int)) (o:=1) (cs' := [.slice lA l.length lc,.int .i64 (l.length:Int),.bool t]) 1 rfl rfl size3 h7 rfl rfl rfl
 refine st_op0 (he9 _ _ _ _ _ _ _ _ _ rfl rfl) rfl rfl ?_
 have hf12:Fr (fun q=>q=f) H1 H8:=Fr.write H8n_ f11
 have H8n:H1.next≤H8.next:=hf12.1
 refine st_op (ev_nilCheck rfl) rfl rfl rfl ?_
 refine st_op (ev_fieldAddr rfl fa81_2 (o':=2) rfl) rfl rfl rfl ?_
 obtain⟨H13,he14,H13n_,hB15,f16⟩:=mem_store (v := .bool true) (o:=2) (cs' := [.slice lA l.length lc,.int .i64 (l.length:Int),.bool true]) 1 rfl rfl size4 hB10 rfl rfl rfl
 refine st_op0 (he14 _ _ _ _ _ _ _ _ _ rfl rfl) rfl rfl ?_
 have hf17:Fr (fun q=>q=f) H8 H13:=Fr.write H13n_ f16
 have H13n:H8.next≤H13.next:=hf17.1
 refine aw_seq ?_
 refine aw_reg ?_
 refine st_op (ev_assign rfl) rfl rfl rfl ?_
 refine aw_ret ?_
 have h18:=Fr.blk hf12 (by omega) (fun e=>(by omega)) hB3
 have h19:=Fr.blk hf17 (by omega) (fun e=>(by omega)) h18
 have h20:=Fr.blk hf12 (by omega) (fun e=>(by omega)) h6
 have h21:=Fr.blk hf17 (by omega) (fun e=>(by omega)) h20
 exact⟨.int .i64 0,rfl,rfl,h19,h21,hB15,(Fr.transG (Fr.transG (Fr.transG (Fr.refl (fun q=>q=d∨q=f) H) hf5 (fun q hq hE e=>Or.inl (e))) hf12 (fun q hq hE e=>Or.inr ((e)))) hf17 (fun q hq hE e=>Or.inr ((e))))⟩
theorem disk_SyncNone_spec (H:Heap) (mb:Nat) (hmb:mb<H.next) (m:List Value) (Bm:H.blk mb=some ⟨m,0,false,true⟩) (k:Int) (hk:0≤k∧k≤1099511627776) (d:Nat) (hd:d<H.next) (Bd:H.blk d=some ⟨[.map (some mb),.int .i64 k],0,false,false⟩) (nm:ByteArray) (hnm:nm.size≤140737488355328) (hg:mapGet nm m=none) (n1:mb≠d):∃ v H',Spec Try.prog 12 [.pointer (some ⟨d,0,none⟩),.string nm] H v H'∧((v = .int .i64 14)∧(H'.blk d=some ⟨[.map (some mb),.int .i64 (k+1)],0,false,false⟩)∧(H'.blk mb=some ⟨m,0,false,true⟩)∧(Fr (fun q=>q=d) H H')):=by
 refine spec_go2 E0_ok 34 (f:=12) Try.func12 rfl rfl rfl ?_
 refine aw_seq ?_
 refine aw_reg ?_
 refine st_op (ev_assign rfl) rfl rfl rfl ?_
 iterate 2 refine aw_seq ?_
 refine aw_reg ?_
 refine st_op (ev_move rfl) rfl rfl rfl ?_
 refine st_op (ev_nilEq rfl rfl Try.underlying24) rfl rfl rfl ?_
 refine aw_cond (t:=false) rfl ?_
 refine aw_skip ?_
 refine aw_seq ?_
 refine aw_reg ?_
 refine st_op (ev_move rfl) rfl rfl rfl ?_
 refine st_op (ev_nilCheck rfl) rfl rfl rfl ?_
 refine st_op (ev_fieldAddr rfl fa77_1 (o':=1) rfl) rfl rfl rfl ?_
 refine st_op (ev_load rfl (lvar_one one3 Bd rfl)) rfl rfl rfl ?_
 refine st_op (ev_int64 (c:=k+1) rfl rfl rfl (by omega) (by omega)) rfl rfl rfl ?_
 refine st_op (ev_nilCheck rfl) rfl rfl rfl ?_
 refine st_op (ev_fieldAddr rfl fa77_1 (o':=1) rfl) rfl rfl rfl ?_
 obtain⟨H1,he2,H1n_,hB3,f4⟩:=mem_store (v := .int .i64 (k+1)) (o:=1) (cs' := [.map (some mb),.int .i64 (k+1)]) 1 rfl rfl size3 Bd rfl rfl rfl
 refine st_op0 (he2 _ _ _ _ _ _ _ _ _ rfl rfl) rfl rfl ?_
 have hf5:Fr (fun q=>q=d) H H1:=Fr.write H1n_ f4
 have H1n:H.next≤H1.next:=hf5.1
 refine aw_seq ?_
 refine aw_reg ?_
 refine st_op (ev_move rfl) rfl rfl rfl ?_
 refine st_op (ev_nilCheck rfl) rfl rfl rfl ?_
 refine st_op (ev_fieldAddr rfl fa77_0 (o':=0) rfl) rfl rfl rfl ?_
 refine st_op (ev_load rfl (lvar_one one75 hB3 rfl)) rfl rfl rfl ?_
 refine st_op (ev_move rfl) rfl rfl rfl ?_
 have h6:=Fr.blk hf5 (by omega) (fun e=>(by omega)) Bm
 refine st_op (ev_lookupN ptrMap75 rfl rfl h6 hg) rfl rfl rfl ?_
 refine st_op (ev_assign rfl) rfl rfl rfl ?_
 iterate 2 refine aw_seq ?_
 refine aw_reg ?_
 refine st_op (ev_move rfl) rfl rfl rfl ?_
 refine st_op (ev_nilEq rfl rfl Try.underlying79) rfl rfl rfl ?_
 refine aw_cond (t:=true) rfl ?_
 refine aw_seq ?_
 refine aw_reg ?_
 refine st_op (ev_assign rfl) rfl rfl rfl ?_
 refine aw_ret ?_
 exact⟨.int .i64 14,rfl,rfl,hB3,h6,(Fr.transG (Fr.refl (fun q=>q=d) H) hf5 (fun q hq hE e=>(e)))⟩
theorem disk_SwapForm_spec (H:Heap) (mb:Nat) (hmb:mb<H.next) (m:List Value) (Bm:H.blk mb=some ⟨m,0,false,true⟩) (k:Int) (hk:0≤k∧k≤1099511627776) (d:Nat) (hd:d<H.next) (Bd:H.blk d=some ⟨[.map (some mb),.int .i64 k],0,false,false⟩) (nm:ByteArray) (hnm:nm.size≤140737488355328) (bA:Option Addr) (b:List Int) (bc:Nat) (hb:Row H bA bc 1 (b.map u8c)) (cb:b.length≤bc) (lb:b.length≤140737488355328) (bb:Spec.Bytes b) (hn:Spec.nameF nm=false) (n1:mb≠d):∃ v H',Spec Try.prog 13 [.pointer (some ⟨d,0,none⟩),.string nm,.slice bA b.length bc] H v H'∧((v = .int .i64 1)∧(H'.blk d=some ⟨[.map (some mb),.int .i64 (k+1)],0,false,false⟩)∧(H'.blk mb=some ⟨m,0,false,true⟩)∧(Fr (fun q=>q=d) H H')):=by
 refine spec_go3 E0_ok 35 (f:=13) Try.func13 rfl rfl rfl ?_
 refine aw_seq ?_
 refine aw_reg ?_
 refine st_op (ev_assign rfl) rfl rfl rfl ?_
 iterate 2 refine aw_seq ?_
 refine aw_reg ?_
 refine st_op (ev_move rfl) rfl rfl rfl ?_
 refine st_op (ev_nilEq rfl rfl Try.underlying24) rfl rfl rfl ?_
 refine aw_cond (t:=false) rfl ?_
 refine aw_skip ?_
 refine aw_seq ?_
 refine aw_reg ?_
 refine st_op (ev_move rfl) rfl rfl rfl ?_
 refine st_op (ev_nilCheck rfl) rfl rfl rfl ?_
 refine st_op (ev_fieldAddr rfl fa77_1 (o':=1) rfl) rfl rfl rfl ?_
 refine st_op (ev_load rfl (lvar_one one3 Bd rfl)) rfl rfl rfl ?_
 refine st_op (ev_int64 (c:=k+1) rfl rfl rfl (by omega) (by omega)) rfl rfl rfl ?_
 refine st_op (ev_nilCheck rfl) rfl rfl rfl ?_
 refine st_op (ev_fieldAddr rfl fa77_1 (o':=1) rfl) rfl rfl rfl ?_
 obtain⟨H1,he2,H1n_,hB3,f4⟩:=mem_store (v := .int .i64 (k+1)) (o:=1) (cs' := [.map (some mb),.int .i64 (k+1)]) 1 rfl rfl size3 Bd rfl rfl rfl
 refine st_op0 (he2 _ _ _ _ _ _ _ _ _ rfl rfl) rfl rfl ?_
 have hf5:Fr (fun q=>q=d) H H1:=Fr.write H1n_ f4
 have H1n:H.next≤H1.next:=hf5.1
 refine aw_seq ?_
 refine aw_block ?_
 refine aw_seq ?_
 refine aw_reg ?_
 refine st_op (ev_move rfl) rfl rfl rfl ?_
 refine st_call rfl rfl rfl ent32 rfl rfl rfl ?_
 obtain⟨_,H7,hs6,hs6v,hx8⟩:=disk_may_spec H1 nm (by omega)
 rw[hs6v] at hs6;clear hs6v
 refine⟨_,H7,hs6,?_⟩
 have H7n:H1.next≤H7.next:=hx8.1
 refine st_op (ev_not rfl) rfl rfl rfl ?_
 refine st_op (ev_assign rfl) rfl rfl rfl ?_
 by_cases hc9:(!(Spec.nameF nm))=true
 ·
  refine aw_condT hc9 rfl ?_
  replace hc9:(Spec.nameF nm)=false:=by rw[Bool.not_eq_true'] at hc9;exact hc9
  refine aw_seq ?_
  refine aw_reg ?_
  refine st_op (ev_assign rfl) rfl rfl rfl ?_
  refine aw_ret ?_
  have h10:=Ext.blk hx8 (by omega) hB3
  have h11:=Fr.blk hf5 (by omega) (fun e=>(by omega)) Bm
  have h12:=Ext.blk hx8 (by omega) h11
  exact⟨.int .i64 1,rfl,rfl,h10,h12,(Fr.trans (Fr.transG (Fr.refl (fun q=>q=d) H) hf5 (fun q hq hE e=>(e))) (hx8.fr fun _=>False) (fun q hq (e:False)=>e.elim))⟩
 ·
  rw[Bool.not_eq_true] at hc9;refine aw_condF hc9 rfl ?_
  replace hc9:(Spec.nameF nm)=true:=by rw[Bool.not_eq_false'] at hc9;exact hc9
  exfalso;simp_all
theorem disk_SwapFull_spec (H:Heap) (mb:Nat) (hmb:mb<H.next) (m:List Value) (Bm:H.blk mb=some ⟨m,0,false,true⟩) (k:Int) (hk:0≤k∧k≤1099511627776) (d:Nat) (hd:d<H.next) (Bd:H.blk d=some ⟨[.map (some mb),.int .i64 k],0,false,false⟩) (nm:ByteArray) (hnm:nm.size≤140737488355328) (bA:Option Addr) (b:List Int) (bc:Nat) (hb:Row H bA bc 1 (b.map u8c)) (cb:b.length≤bc) (lb:b.length≤140737488355328) (bb:Spec.Bytes b) (hn:Spec.nameF nm=true) (hl9:1048576<b.length) (n1:mb≠d):∃ v H',Spec Try.prog 13 [.pointer (some ⟨d,0,none⟩),.string nm,.slice bA b.length bc] H v H'∧((v = .int .i64 5)∧(H'.blk d=some ⟨[.map (some mb),.int .i64 (k+1)],0,false,false⟩)∧(H'.blk mb=some ⟨m,0,false,true⟩)∧(Fr (fun q=>q=d) H H')):=by
 refine spec_go3 E0_ok 35 (f:=13) Try.func13 rfl rfl rfl ?_
 refine aw_seq ?_
 refine aw_reg ?_
 refine st_op (ev_assign rfl) rfl rfl rfl ?_
 iterate 2 refine aw_seq ?_
 refine aw_reg ?_
 refine st_op (ev_move rfl) rfl rfl rfl ?_
 refine st_op (ev_nilEq rfl rfl Try.underlying24) rfl rfl rfl ?_
 refine aw_cond (t:=false) rfl ?_
 refine aw_skip ?_
 refine aw_seq ?_
 refine aw_reg ?_
 refine st_op (ev_move rfl) rfl rfl rfl ?_
 refine st_op (ev_nilCheck rfl) rfl rfl rfl ?_
 refine st_op (ev_fieldAddr rfl fa77_1 (o':=1) rfl) rfl rfl rfl ?_
 refine st_op (ev_load rfl (lvar_one one3 Bd rfl)) rfl rfl rfl ?_
 refine st_op (ev_int64 (c:=k+1) rfl rfl rfl (by omega) (by omega)) rfl rfl rfl ?_
 refine st_op (ev_nilCheck rfl) rfl rfl rfl ?_
 refine st_op (ev_fieldAddr rfl fa77_1 (o':=1) rfl) rfl rfl rfl ?_
 obtain⟨H1,he2,H1n_,hB3,f4⟩:=mem_store (v := .int .i64 (k+1)) (o:=1) (cs' := [.map (some mb),.int .i64 (k+1)]) 1 rfl rfl size3 Bd rfl rfl rfl
 refine st_op0 (he2 _ _ _ _ _ _ _ _ _ rfl rfl) rfl rfl ?_
 have hf5:Fr (fun q=>q=d) H H1:=Fr.write H1n_ f4
 have H1n:H.next≤H1.next:=hf5.1
 refine aw_seq ?_
 refine aw_block ?_
 refine aw_seq ?_
 refine aw_reg ?_
 refine st_op (ev_move rfl) rfl rfl rfl ?_
 refine st_call rfl rfl rfl ent32 rfl rfl rfl ?_
 obtain⟨_,H7,hs6,hs6v,hx8⟩:=disk_may_spec H1 nm (by omega)
 rw[hs6v] at hs6;clear hs6v
 refine⟨_,H7,hs6,?_⟩
 have H7n:H1.next≤H7.next:=hx8.1
 refine st_op (ev_not rfl) rfl rfl rfl ?_
 refine st_op (ev_assign rfl) rfl rfl rfl ?_
 by_cases hc9:(!(Spec.nameF nm))=true
 ·
  refine aw_condT hc9 rfl ?_
  replace hc9:(Spec.nameF nm)=false:=by rw[Bool.not_eq_true'] at hc9;exact hc9
  exfalso;simp_all
 ·
  rw[Bool.not_eq_true] at hc9;refine aw_condF hc9 rfl ?_
  replace hc9:(Spec.nameF nm)=true:=by rw[Bool.not_eq_false'] at hc9;exact hc9
  refine aw_seq ?_
  refine aw_reg ?_
  refine st_op (ev_move rfl) rfl rfl rfl ?_
  refine st_op (ev_lenSl rfl Try.underlying26) rfl rfl rfl ?_
  refine st_op (ev_int rfl rfl rfl) rfl rfl rfl ?_
  refine st_op (ev_assign rfl) rfl rfl rfl ?_
  by_cases hc10:(decide ((b.length:Int) > 1048576))=true
  ·
   refine aw_condT hc10 rfl ?_
   have hc10:=of_decide_eq_true hc10
   refine aw_seq ?_
   refine aw_reg ?_
   refine st_op (ev_assign rfl) rfl rfl rfl ?_
   refine aw_ret ?_
   have h11:=Ext.blk hx8 (by omega) hB3
   have h12:=Fr.blk hf5 (by omega) (fun e=>(by omega)) Bm
   have h13:=Ext.blk hx8 (by omega) h12
   exact⟨.int .i64 5,rfl,rfl,h11,h13,(Fr.trans (Fr.transG (Fr.refl (fun q=>q=d) H) hf5 (fun q hq hE e=>(e))) (hx8.fr fun _=>False) (fun q hq (e:False)=>e.elim))⟩
  ·
   rw[Bool.not_eq_true] at hc10;refine aw_condF hc10 rfl ?_
   exfalso;simp only [decide_eq_true_eq,decide_eq_false_iff_not] at hc10;omega
theorem bytes_Clone_spec (H:Heap) (lA:Option Addr) (l:List Int) (lc:Nat) (hl:Row H lA lc 1 (l.map u8c)) (cl:l.length≤lc) (ll:l.length≤1073741824):∃ v H',Spec Try.prog 33 [.slice lA l.length lc] H v H'∧(∃ rA0 rc0,(v = .slice rA0 l.length rc0)∧(My H H' rA0 rc0 1 (l.map u8c))∧(Ext H H')):=by
 refine spec_go1 E0_ok 8 (f:=33) Try.func33 rfl rfl rfl ?_
 refine aw_seq ?_
 refine aw_reg ?_
 refine st_op (ev_assign rfl) rfl rfl rfl ?_
 iterate 2 refine aw_seq ?_
 refine aw_reg ?_
 refine st_op (ev_move rfl) rfl rfl rfl ?_
 refine st_op (ev_nilSl rfl rfl Try.underlying26) rfl rfl rfl ?_
 by_cases hc1:(Option.isNone lA)=true
 ·
  refine aw_condT hc1 rfl ?_
  refine aw_seq ?_
  refine aw_reg ?_
  refine st_op (ev_assign rfl) rfl rfl rfl ?_
  refine aw_ret ?_
  have hm2:My H H none 0 1 (([]:List Int).map u8c) := .nil
  have hres:l=([]:List Int):=by exact Row.isNone hl (by assumption)
  exact⟨.slice none 0 0,rfl,none,0,by first | (rw[hres];first | done | rfl | simp;done) | rfl,(by rw[hres];exact hm2),(Ext.refl H)⟩
 ·
  rw[Bool.not_eq_true] at hc1;refine aw_condF hc1 rfl ?_
  refine aw_skip ?_
  refine aw_seq ?_
  refine aw_reg ?_
  obtain⟨b3,H4,he5,b3e,H4n_,hm7,f6⟩:=mem_lit H (xs:=([]:List Value)) (m:=0) (rows:=([]:List (List Value))) rfl eok26 (by decide) (by decide) zf5 rfl (allLen rfl) rfl
  replace hm7:My H H4 (some ⟨b3,0,none⟩) 0 1 (([]:List Int).map u8c):=hm7
  refine st_op (he5 _ _ _ _ _ _ _ _ rfl) rfl rfl rfl ?_
  have hx8:Ext H H4:=Ext.new (by omega) H4n_ f6
  have H4n:H.next≤H4.next:=hx8.1
  refine st_op (ev_move rfl) rfl rfl rfl ?_
  have h9:=Row.ext hl hx8
  obtain⟨A10,c11,H12,W13,he14,hm15,hf16⟩:=mem_append (f:=u8c) (old:=([]:List Int)) (new:=l) (m:=0) (mx:=l.length) (c:=0) (by first | rfl | simp) (by first | rfl | simp) eok26 (by decide) hm7 hm7 (by omega) ((h9).srcF (by decide) (by first | rfl | simp)) rfl u8c_len u8c_one (by first | omega | (simp only [List.length_append,List.length_cons,List.length_nil,List.length_map,List.length_set,List.length_replicate,Spec.bytesOf_length];omega) | (simp;omega)) (by first | omega | (simp only [List.length_append,List.length_cons,List.length_nil,List.length_map,List.length_set,List.length_replicate,Spec.bytesOf_length];omega) | (simp;omega))
  refine st_op (he14 _ _ _ _ _ _ _ _ _ _ rfl rfl isrow26) rfl rfl rfl ?_
  have H12n:H4.next≤H12.next:=hf16.1
  rw[List.nil_append] at hm15
  refine st_op (ev_assign rfl) rfl rfl rfl ?_
  refine aw_ret ?_
  have hx17:Ext H H12:=(Ext.then hx8 hf16 (fun q hq e=>by omega))
  have hres:l=l:=by rfl
  exact⟨.slice A10 l.length c11,rfl,A10,c11,by first | (rw[hres];first | done | rfl | simp;done) | rfl,(by rw[hres];exact hm15),hx17⟩
theorem disk_SwapOk_spec (H:Heap) (mb:Nat) (hmb:mb<H.next) (m:List Value) (Bm:H.blk mb=some ⟨m,0,false,true⟩) (k:Int) (hk:0≤k∧k≤1099511627776) (d:Nat) (hd:d<H.next) (Bd:H.blk d=some ⟨[.map (some mb),.int .i64 k],0,false,false⟩) (nm:ByteArray) (hnm:nm.size≤140737488355328) (bA:Option Addr) (b:List Int) (bc:Nat) (hb:Row H bA bc 1 (b.map u8c)) (cb:b.length≤bc) (lb:b.length≤140737488355328) (bb:Spec.Bytes b) (hn:Spec.nameF nm=true) (hl9:b.length≤1048576) (n1:mb≠d):∃ v H',Spec Try.prog 13 [.pointer (some ⟨d,0,none⟩),.string nm,.slice bA b.length bc] H v H'∧(∃ b20 A17 c18,(v = .int .i64 0)∧(H'.blk d=some ⟨[.map (some mb),.int .i64 (k+1)],0,false,false⟩)∧(H'.blk mb=some ⟨(mapPut nm (.pointer (some ⟨b20,0,none⟩)) m),0,false,true⟩)∧(H.next≤b20∧b20<H'.next)∧(H'.blk b20=some ⟨[.slice A17 b.length c18,.int .i64 (b.length:Int),.bool true],0,false,false⟩)∧(My H H' A17 c18 1 (b.map u8c))∧(Fr (fun q=>q=d∨q=mb) H H')):=by
 refine spec_go3 E0_ok 35 (f:=13) Try.func13 rfl rfl rfl ?_
 refine aw_seq ?_
 refine aw_reg ?_
 refine st_op (ev_assign rfl) rfl rfl rfl ?_
 iterate 2 refine aw_seq ?_
 refine aw_reg ?_
 refine st_op (ev_move rfl) rfl rfl rfl ?_
 refine st_op (ev_nilEq rfl rfl Try.underlying24) rfl rfl rfl ?_
 refine aw_cond (t:=false) rfl ?_
 refine aw_skip ?_
 refine aw_seq ?_
 refine aw_reg ?_
 refine st_op (ev_move rfl) rfl rfl rfl ?_
 refine st_op (ev_nilCheck rfl) rfl rfl rfl ?_
 refine st_op (ev_fieldAddr rfl fa77_1 (o':=1) rfl) rfl rfl rfl ?_
 refine st_op (ev_load rfl (lvar_one one3 Bd rfl)) rfl rfl rfl ?_
 refine st_op (ev_int64 (c:=k+1) rfl rfl rfl (by omega) (by omega)) rfl rfl rfl ?_
 refine st_op (ev_nilCheck rfl) rfl rfl rfl ?_
 refine st_op (ev_fieldAddr rfl fa77_1 (o':=1) rfl) rfl rfl rfl ?_
 obtain⟨H1,he2,H1n_,hB3,f4⟩:=mem_store (v := .int .i64 (k+1)) (o:=1) (cs' := [.map (some mb),.int .i64 (k+1)]) 1 rfl rfl size3 Bd rfl rfl rfl
 refine st_op0 (he2 _ _ _ _ _ _ _ _ _ rfl rfl) rfl rfl ?_
 have hf5:Fr (fun q=>q=d) H H1:=Fr.write H1n_ f4
 have H1n:H.next≤H1.next:=hf5.1
 refine aw_seq ?_
 refine aw_block ?_
 refine aw_seq ?_
 refine aw_reg ?_
 refine st_op (ev_move rfl) rfl rfl rfl ?_
 refine st_call rfl rfl rfl ent32 rfl rfl rfl ?_
 obtain⟨_,H7,hs6,hs6v,hx8⟩:=disk_may_spec H1 nm (by omega)
 rw[hs6v] at hs6;clear hs6v
 refine⟨_,H7,hs6,?_⟩
 have H7n:H1.next≤H7.next:=hx8.1
 refine st_op (ev_not rfl) rfl rfl rfl ?_
 refine st_op (ev_assign rfl) rfl rfl rfl ?_
 by_cases hc9:(!(Spec.nameF nm))=true
 ·
  refine aw_condT hc9 rfl ?_
  replace hc9:(Spec.nameF nm)=false:=by rw[Bool.not_eq_true'] at hc9;exact hc9
  exfalso;simp_all
 ·
  rw[Bool.not_eq_true] at hc9;refine aw_condF hc9 rfl ?_
  replace hc9:(Spec.nameF nm)=true:=by rw[Bool.not_eq_false'] at hc9;exact hc9
  refine aw_seq ?_
  refine aw_reg ?_
  refine st_op (ev_move rfl) rfl rfl rfl ?_
  refine st_op (ev_lenSl rfl Try.underlying26) rfl rfl rfl ?_
  refine st_op (ev_int rfl rfl rfl) rfl rfl rfl ?_
  refine st_op (ev_assign rfl) rfl rfl rfl ?_
  by_cases hc10:(decide ((b.length:Int) > 1048576))=true
  ·
   refine aw_condT hc10 rfl ?_
   exfalso;simp only [decide_eq_true_eq,decide_eq_false_iff_not] at hc10;omega
  ·
   rw[Bool.not_eq_true] at hc10;refine aw_condF hc10 rfl ?_
   have hc10:=of_decide_eq_false hc10
   refine aw_skip ?_
   refine aw_seq ?_
   refine aw_marks (fun b=>b<H7.next) [(false,false),(false,false),(false,false),(true,false),(false,false),(false,false),(false,true),(false,false),(false,false),(false,false),(false,true),(false,false)] mixed (by kernel_rfl) (by kernel_rfl) ?_
   refine sm_op (ev_move rfl) rfl rfl rfl ?_
   refine sm_op (ev_nilCheck rfl) rfl rfl rfl ?_
   refine sm_op (ev_fieldAddr rfl fa77_0 (o':=0) rfl) rfl rfl rfl ?_
   have h11:=Ext.blk hx8 (by omega) hB3
   refine sm_read (ev_load rfl (lvar_one one75 h11 rfl)) rfl rfl rfl (fun b hb=>by cases hb;dsimp only <;> omega) ?_
   iterate 2 refine sm_op (ev_move rfl) rfl rfl rfl ?_
   refine sm_call rfl rfl rfl ent33 rfl rfl rfl ?_
   have h12:=Row.fr hb hf5 (fun q hq e=>⟨_,e ▸ Bd,show(0:Nat)≠1 by decide⟩)
   have h13:=Row.ext h12 hx8
   obtain⟨_,H15,hs14,A17,c18,hs14v,hm19,hx16⟩:=bytes_Clone_spec H7 bA b bc h13 cb (by omega)
   rw[hs14v] at hs14;clear hs14v
   refine⟨_,H15,hs14,(fun _ b hb=>hx16.2 b (by omega)),?_⟩
   have H15n:H7.next≤H15.next:=hx16.1
   refine sm_op (ev_move rfl) rfl rfl rfl ?_
   refine sm_op (ev_lenSl rfl Try.underlying26) rfl rfl rfl ?_
   refine sm_op (ev_build zero81 pl81 (parts := [(0,.slice A17 b.length c18),(1,.int .i64 (b.length:Int)),(2,.bool true)]) rfl (cs := [.slice A17 b.length c18,.int .i64 (b.length:Int),.bool true]) rfl) rfl rfl rfl ?_
   obtain⟨b20,H21,he22,b20e,H21n_,hB24,f23⟩:=mem_box (P:=Try.prog) H15 (v := .agg #[.slice A17 b.length c18,.int .i64 (b.length:Int),.bool true]) (cs := [.slice A17 b.length c18,.int .i64 (b.length:Int),.bool true]) rfl rfl
   refine sm_act (he22 _ _ _ _ _ _ _ _ _ rfl) rfl rfl rfl (fun q hq=>f23 q (by omega)) ?_
   have hx25:Ext H15 H21:=Ext.new (by omega) H21n_ f23
   have H21n:H15.next≤H21.next:=hx25.1
   have h26:=Fr.blk hf5 (by omega) (fun e=>(by omega)) Bm
   have hx28:Ext H1 H21:=(Ext.trans (Ext.trans hx8 hx16) hx25)
   have h27:=Ext.blk hx28 (by omega) h26
   obtain⟨H29,he30,H29n_,hB31,f32⟩:=mem_mapUpd (v := .pointer (some ⟨b20,0,none⟩)) (s:=nm) ptrMap75 h27 (by omega)
   refine sm_op0 (he30 _ _ _ _ _ _ _ _ _ _ rfl rfl rfl) rfl rfl ?_
   have hf33:Fr (fun q=>q=mb) H21 H29:=Fr.write H29n_ f32
   have H29n:H21.next≤H29.next:=hf33.1
   refine aw_seq ?_
   refine aw_reg ?_
   refine st_op (ev_assign rfl) rfl rfl rfl ?_
   refine aw_ret ?_
   have hx35:Ext H7 H21:=(Ext.trans hx16 hx25)
   have h34:=Ext.blk hx35 (by omega) h11
   have h36:=Fr.blk hf33 (by omega) (fun e=>(by omega)) h34
   have h37:=Fr.blk hf33 (by omega) (fun e=>(by omega)) hB24
   have h38:=My.ext hm19 hx25
   have h39:=My.frS h38 hf33 (fun q hq e=>⟨_,e ▸ h27,show(0:Nat)≠1 by decide⟩)
   exact⟨.int .i64 0,rfl,b20,A17,c18,rfl,h36,hB31,⟨by omega,by omega⟩,h37,(My.older h39 (by omega)),(Fr.transG (Fr.trans (Fr.trans (Fr.trans (Fr.transG (Fr.refl (fun q=>q=d∨q=mb) H) hf5 (fun q hq hE e=>Or.inl (e))) (hx8.fr fun _=>False) (fun q hq (e:False)=>e.elim)) (hx16.fr fun _=>False) (fun q hq (e:False)=>e.elim)) (hx25.fr fun _=>False) (fun q hq (e:False)=>e.elim)) hf33 (fun q hq hE e=>Or.inr ((e))))⟩
theorem disk_ReadOld_spec (H:Heap) (mb:Nat) (hmb:mb<H.next) (m:List Value) (Bm:H.blk mb=some ⟨m,0,false,true⟩) (k:Int) (hk:0≤k∧k≤1099511627776) (d:Nat) (hd:d<H.next) (Bd:H.blk d=some ⟨[.map (some mb),.int .i64 k],0,false,false⟩) (nm:ByteArray) (hnm:nm.size≤140737488355328) (lA:Option Addr) (l:List Int) (lc:Nat) (hl:Row H lA lc 1 (l.map u8c)) (cl:l.length≤lc) (ll:l.length≤1048576) (bl:Spec.Bytes l) (s:Int) (hs:0≤s∧s≤1048576) (t:Bool) (f:Nat) (hf:f<H.next) (Bf:H.blk f=some ⟨[.slice lA l.length lc,.int .i64 s,.bool t],0,false,false⟩) (hg:mapGet nm m=some (.pointer (some ⟨f,0,none⟩))) (n1:mb≠d) (n2:f≠d) (n3:f≠mb):∃ v H',Spec Try.prog 16 [.pointer (some ⟨d,0,none⟩),.string nm] H v H'∧(∃ A4 c5,(v = .tuple #[.slice A4 l.length c5,.int .i64 0])∧(My H H' A4 c5 1 (l.map u8c))∧(Ext H H')):=by
 refine spec_go2 E0_ok 27 (f:=16) Try.func16 rfl rfl rfl ?_
 refine aw_seq ?_
 refine aw_reg ?_
 iterate 2 refine st_op (ev_assign rfl) rfl rfl rfl ?_
 iterate 2 refine aw_seq ?_
 refine aw_reg ?_
 refine st_op (ev_move rfl) rfl rfl rfl ?_
 refine st_op (ev_nilEq rfl rfl Try.underlying24) rfl rfl rfl ?_
 iterate 2 refine st_op (ev_move rfl) rfl rfl rfl ?_
 refine st_op (ev_nilCheck rfl) rfl rfl rfl ?_
 refine st_op (ev_fieldAddr rfl fa77_0 (o':=0) rfl) rfl rfl rfl ?_
 refine st_op (ev_load rfl (lvar_one one75 Bd rfl)) rfl rfl rfl ?_
 refine st_op (ev_move rfl) rfl rfl rfl ?_
 refine st_op (ev_lookup ptrMap75 rfl rfl Bm hg) rfl rfl rfl ?_
 refine st_op (ev_nilEq rfl rfl Try.underlying79) rfl rfl rfl ?_
 refine st_op (ev_pickF rfl rfl) rfl rfl rfl ?_
 refine aw_cond (t:=false) rfl ?_
 refine aw_skip ?_
 refine aw_seq ?_
 refine aw_reg ?_
 refine st_op (ev_move rfl) rfl rfl rfl ?_
 refine st_op (ev_nilCheck rfl) rfl rfl rfl ?_
 refine st_op (ev_fieldAddr rfl fa77_0 (o':=0) rfl) rfl rfl rfl ?_
 refine st_op (ev_load rfl (lvar_one one75 Bd rfl)) rfl rfl rfl ?_
 refine st_op (ev_move rfl) rfl rfl rfl ?_
 refine st_op (ev_lookup ptrMap75 rfl rfl Bm hg) rfl rfl rfl ?_
 refine st_op (ev_nilCheck rfl) rfl rfl rfl ?_
 refine st_op (ev_fieldAddr rfl fa81_0 (o':=0) rfl) rfl rfl rfl ?_
 refine st_op (ev_load rfl (lvar_one one26 Bf rfl)) rfl rfl rfl ?_
 refine st_call rfl rfl rfl ent33 rfl rfl rfl ?_
 obtain⟨_,H2,hs1,A4,c5,hs1v,hm6,hx3⟩:=bytes_Clone_spec H lA l lc hl cl (by omega)
 rw[hs1v] at hs1;clear hs1v
 refine⟨_,H2,hs1,?_⟩
 have H2n:H.next≤H2.next:=hx3.1
 iterate 2 refine st_op (ev_assign rfl) rfl rfl rfl ?_
 refine aw_ret ?_
 exact⟨.tuple #[.slice A4 l.length c5,.int .i64 0],rfl,A4,c5,rfl,hm6,hx3⟩
theorem disk_ReadNone_spec (H:Heap) (mb:Nat) (hmb:mb<H.next) (m:List Value) (Bm:H.blk mb=some ⟨m,0,false,true⟩) (k:Int) (hk:0≤k∧k≤1099511627776) (d:Nat) (hd:d<H.next) (Bd:H.blk d=some ⟨[.map (some mb),.int .i64 k],0,false,false⟩) (nm:ByteArray) (hnm:nm.size≤140737488355328) (hg:mapGet nm m=none) (n1:mb≠d):∃ v H',Spec Try.prog 16 [.pointer (some ⟨d,0,none⟩),.string nm] H v H'∧((v = .tuple #[.slice none 0 0,.int .i64 14])∧(Ext H H')):=by
 refine spec_go2 E0_ok 27 (f:=16) Try.func16 rfl rfl rfl ?_
 refine aw_seq ?_
 refine aw_reg ?_
 iterate 2 refine st_op (ev_assign rfl) rfl rfl rfl ?_
 iterate 2 refine aw_seq ?_
 refine aw_reg ?_
 refine st_op (ev_move rfl) rfl rfl rfl ?_
 refine st_op (ev_nilEq rfl rfl Try.underlying24) rfl rfl rfl ?_
 iterate 2 refine st_op (ev_move rfl) rfl rfl rfl ?_
 refine st_op (ev_nilCheck rfl) rfl rfl rfl ?_
 refine st_op (ev_fieldAddr rfl fa77_0 (o':=0) rfl) rfl rfl rfl ?_
 refine st_op (ev_load rfl (lvar_one one75 Bd rfl)) rfl rfl rfl ?_
 refine st_op (ev_move rfl) rfl rfl rfl ?_
 refine st_op (ev_lookupN ptrMap75 rfl rfl Bm hg) rfl rfl rfl ?_
 refine st_op (ev_nilEq rfl rfl Try.underlying79) rfl rfl rfl ?_
 refine st_op (ev_pickF rfl rfl) rfl rfl rfl ?_
 refine aw_cond (t:=true) rfl ?_
 refine aw_seq ?_
 refine aw_reg ?_
 iterate 2 refine st_op (ev_assign rfl) rfl rfl rfl ?_
 refine aw_ret ?_
 exact⟨.tuple #[.slice none 0 0,.int .i64 14],rfl,rfl,(Ext.refl H)⟩
theorem disk_LooseOld_spec (H:Heap) (mb:Nat) (hmb:mb<H.next) (m:List Value) (Bm:H.blk mb=some ⟨m,0,false,true⟩) (k:Int) (hk:0≤k∧k≤1099511627776) (d:Nat) (hd:d<H.next) (Bd:H.blk d=some ⟨[.map (some mb),.int .i64 k],0,false,false⟩) (nm:ByteArray) (hnm:nm.size≤140737488355328) (lA:Option Addr) (l:List Int) (lc:Nat) (hl:Row H lA lc 1 (l.map u8c)) (cl:l.length≤lc) (ll:l.length≤1048576) (bl:Spec.Bytes l) (s:Int) (hs:0≤s∧s≤1048576) (t:Bool) (f:Nat) (hf:f<H.next) (Bf:H.blk f=some ⟨[.slice lA l.length lc,.int .i64 s,.bool t],0,false,false⟩) (hg:mapGet nm m=some (.pointer (some ⟨f,0,none⟩))) (n1:mb≠d) (n2:f≠d) (n3:f≠mb):∃ v H',Spec Try.prog 17 [.pointer (some ⟨d,0,none⟩),.string nm] H v H'∧((v = .int .i64 ((l.length:Int) - s))∧(Ext H H')):=by
 refine spec_go2 E0_ok 36 (f:=17) Try.func17 rfl rfl rfl ?_
 refine aw_seq ?_
 refine aw_reg ?_
 refine st_op (ev_assign rfl) rfl rfl rfl ?_
 iterate 2 refine aw_seq ?_
 refine aw_reg ?_
 refine st_op (ev_move rfl) rfl rfl rfl ?_
 refine st_op (ev_nilEq rfl rfl Try.underlying24) rfl rfl rfl ?_
 iterate 2 refine st_op (ev_move rfl) rfl rfl rfl ?_
 refine st_op (ev_nilCheck rfl) rfl rfl rfl ?_
 refine st_op (ev_fieldAddr rfl fa77_0 (o':=0) rfl) rfl rfl rfl ?_
 refine st_op (ev_load rfl (lvar_one one75 Bd rfl)) rfl rfl rfl ?_
 refine st_op (ev_move rfl) rfl rfl rfl ?_
 refine st_op (ev_lookup ptrMap75 rfl rfl Bm hg) rfl rfl rfl ?_
 refine st_op (ev_nilEq rfl rfl Try.underlying79) rfl rfl rfl ?_
 refine st_op (ev_pickF rfl rfl) rfl rfl rfl ?_
 refine aw_cond (t:=false) rfl ?_
 refine aw_skip ?_
 refine aw_seq ?_
 refine aw_marks (fun b=>b<H.next) [(false,false),(false,false),(false,false),(false,false),(false,false),(false,false),(false,false),(false,false),(false,false),(false,false),(false,false),(false,false),(false,false),(false,false),(false,false),(false,false),(false,false),(false,false),(false,false),(false,false),(false,false)] mixed (by kernel_rfl) (by kernel_rfl) ?_
 refine sm_op (ev_move rfl) rfl rfl rfl ?_
 refine sm_op (ev_nilCheck rfl) rfl rfl rfl ?_
 refine sm_op (ev_fieldAddr rfl fa77_0 (o':=0) rfl) rfl rfl rfl ?_
 refine sm_op (ev_load rfl (lvar_one one75 Bd rfl)) rfl rfl rfl ?_
 refine sm_op (ev_move rfl) rfl rfl rfl ?_
 refine sm_op (ev_lookup ptrMap75 rfl rfl Bm hg) rfl rfl rfl ?_
 refine sm_op (ev_nilCheck rfl) rfl rfl rfl ?_
 refine sm_op (ev_fieldAddr rfl fa81_0 (o':=0) rfl) rfl rfl rfl ?_
 refine sm_op (ev_load rfl (lvar_one one26 Bf rfl)) rfl rfl rfl ?_
 refine sm_op (ev_lenSl rfl Try.underlying26) rfl rfl rfl ?_
 refine sm_op (ev_move rfl) rfl rfl rfl ?_
 refine sm_op (ev_nilCheck rfl) rfl rfl rfl ?_
 refine sm_op (ev_fieldAddr rfl fa77_0 (o':=0) rfl) rfl rfl rfl ?_
 refine sm_op (ev_load rfl (lvar_one one75 Bd rfl)) rfl rfl rfl ?_
 refine sm_op (ev_move rfl) rfl rfl rfl ?_
 refine sm_op (ev_lookup ptrMap75 rfl rfl Bm hg) rfl rfl rfl ?_
 refine sm_op (ev_nilCheck rfl) rfl rfl rfl ?_
 refine sm_op (ev_fieldAddr rfl fa81_1 (o':=1) rfl) rfl rfl rfl ?_
 refine sm_op (ev_load rfl (lvar_one one3 Bf rfl)) rfl rfl rfl ?_
 refine sm_op (ev_int64 (c:=(l.length:Int) - s) rfl rfl rfl (by omega) (by omega)) rfl rfl rfl ?_
 refine sm_op (ev_assign rfl) rfl rfl rfl ?_
 refine aw_ret ?_
 exact⟨.int .i64 ((l.length:Int) - s),rfl,rfl,(Ext.refl H)⟩
theorem disk_LooseNone_spec (H:Heap) (mb:Nat) (hmb:mb<H.next) (m:List Value) (Bm:H.blk mb=some ⟨m,0,false,true⟩) (k:Int) (hk:0≤k∧k≤1099511627776) (d:Nat) (hd:d<H.next) (Bd:H.blk d=some ⟨[.map (some mb),.int .i64 k],0,false,false⟩) (nm:ByteArray) (hnm:nm.size≤140737488355328) (hg:mapGet nm m=none) (n1:mb≠d):∃ v H',Spec Try.prog 17 [.pointer (some ⟨d,0,none⟩),.string nm] H v H'∧((v = .int .i64 0)∧(Ext H H')):=by
 refine spec_go2 E0_ok 36 (f:=17) Try.func17 rfl rfl rfl ?_
 refine aw_seq ?_
 refine aw_reg ?_
 refine st_op (ev_assign rfl) rfl rfl rfl ?_
 iterate 2 refine aw_seq ?_
 refine aw_reg ?_
 refine st_op (ev_move rfl) rfl rfl rfl ?_
 refine st_op (ev_nilEq rfl rfl Try.underlying24) rfl rfl rfl ?_
 iterate 2 refine st_op (ev_move rfl) rfl rfl rfl ?_
 refine st_op (ev_nilCheck rfl) rfl rfl rfl ?_
 refine st_op (ev_fieldAddr rfl fa77_0 (o':=0) rfl) rfl rfl rfl ?_
 refine st_op (ev_load rfl (lvar_one one75 Bd rfl)) rfl rfl rfl ?_
 refine st_op (ev_move rfl) rfl rfl rfl ?_
 refine st_op (ev_lookupN ptrMap75 rfl rfl Bm hg) rfl rfl rfl ?_
 refine st_op (ev_nilEq rfl rfl Try.underlying79) rfl rfl rfl ?_
 refine st_op (ev_pickF rfl rfl) rfl rfl rfl ?_
 refine aw_cond (t:=true) rfl ?_
 refine aw_seq ?_
 refine aw_reg ?_
 refine st_op (ev_assign rfl) rfl rfl rfl ?_
 refine aw_ret ?_
 exact⟨.int .i64 0,rfl,rfl,(Ext.refl H)⟩
section
variable {D : Nat → Prop} {l : Files} {k : Int}
theorem disk_Append_spec (H:Heap) (d:Nat) (D:Nat→Prop) (l:Files) (k:Int) (hd:DiskH D H d l k) (hk:k≤1099511627776) (nm:ByteArray) (hnm:nm.size≤140737488355328) (bA:Option Addr) (b:List Int) (bc:Nat) (hb:Row H bA bc 1 (b.map u8c)) (cb:b.length≤bc) (lb:b.length≤140737488355328) (bb:Spec.Bytes b) :
  ∃ v H',Spec Try.prog 11 [.pointer (some ⟨d,0,none⟩),.string nm,.slice bA b.length bc] H v H'∧(v = .int .i64 (Spec.appF l nm b).1∧∃ D',DiskH D' H' d (Spec.appF l nm b).2 (k+1)∧(∀ q,D' q→D q∨(H.next≤q∧q<H'.next))∧Fr (fun q=>D q∧Z01 H q) H H'):=by
 obtain⟨mb,ps,r⟩:=hd
 have n1:=r.ne_m
 have hp:=r.below _ r.dp
 have hm:=r.below _ r.dm
 have kk:0≤k∧k≤1099511627776:=⟨r.kb,hk⟩
 by_cases hn:Spec.nameF nm=true
 ·
  rcases hg:Spec.fget nm l with _ | f
  ·
   obtain⟨g1,g2,g3,g4⟩:=fget_none r.len hg
   by_cases hl:b.length≤1048576
   ·
    obtain⟨v,H',hs,b',A,c,rfl,e1,e2,e3,e4,e5,e6⟩:=disk_AppendNew_spec H mb hm _ r.mblk k kk d hp r.blk nm hnm bA b bc hb cb lb bb hn g1 hl n1
    have ha:Spec.appF l nm b=(0,Spec.fput nm ⟨b,0,false⟩ l):=by simp [Spec.appF,hn,hg,hl]
    rw[ha,g2]
    refine⟨_,H',hs,rfl,grow D H H',⟨mb,_,r.add e6 (fun x _ e=>e.imp id .inl) e1 (by rw[e2,g4 ⟨b,0,false⟩ (b',A,c)]) ⟨.inr e3,fun x hx => .inr ⟨e5.inNew x hx,inA.lt e5 x hx⟩,e4,My.older e5 (Nat.zero_le _),bb,hl,Int.le_refl _,by simp only;omega⟩ e3.1 (fun x hx=>e5.inNew x hx) (by omega) hn g3⟩,fun q h=>h,Fr.mono e6 (fun q e=>e.elim (fun e=>e ▸ r.zp) (fun e=>e ▸ r.zm))⟩
   ·
    obtain⟨v,H',hs,rfl,e1,e2,e6⟩:=disk_AppendNewF_spec H mb hm _ r.mblk k kk d hp r.blk nm hnm bA b bc hb cb lb bb hn g1 (by omega) n1
    have ha:Spec.appF l nm b=(5,l):=by simp [Spec.appF,hn,hg,hl]
    rw[ha]
    exact⟨_,H',hs,rfl,grow D H H',⟨mb,ps,r.same e6 (fun _ _ e=>e) e1 e2 (by omega)⟩,fun q h=>h,Fr.mono e6 (fun q e=>e ▸ r.zp)⟩
  ·
   obtain⟨i,q,hi,hq,g1,g2,g3⟩:=fget_some r.len hg
   have z:=r.at_ i _ q hi hq
   have nf:=r.ne_f z
   have hf:=r.below _ z.dom
   have zl:0≤f.lasts∧f.lasts≤1048576:=⟨z.lo,by have h1:=z.hi;have h2:=z.len;simp only at h1 h2;omega⟩
   by_cases hl:f.b.length+b.length≤1048576
   ·
    obtain⟨G,M,y1,y2,y3,y4,y5⟩:=z.row.exact
    obtain⟨v,H',hs,A,c,rfl,e1,e2,e3,e4,e5,e6⟩:=disk_AppendOld_spec H mb hm _ r.mblk k kk d hp r.blk nm hnm bA b bc hb cb lb bb hn G q.2.1 f.b q.2.2 y1 y4 z.len z.bytes M y2 y3 f.lasts zl f.there q.1 hf z.blk g1 hl n1 nf.1 nf.2
    have ha:Spec.appF l nm b=(0,Spec.fput nm ⟨f.b++b,f.lasts,f.there⟩ l):=by simp [Spec.appF,hn,hg,hl]
    rw[ha,g2]
    refine⟨_,H',hs,rfl,grow D H H',⟨mb,_,r.set (f':=⟨f.b++b,f.lasts,f.there⟩) (q':=(q.1,A,c)) hi hq e6 (fun x _ e=>?_) e1 (by rw[e2,← g3 ⟨f.b++b,f.lasts,f.there⟩ (q.1,A,c)]) ⟨.inl z.dom,fun x hx=>(e5 x hx).imp (z.rdom x) (fun e=>⟨e,inA.lt e4 x hx⟩),e3,My.older e4 (Nat.zero_le _),Spec.Bytes.append z.bytes bb,by simp only [List.length_append];omega,z.lo,by have h1:=z.hi;simp only [List.length_append] at h1 ⊢;omega⟩ (.inl rfl) e5 (by omega)⟩,fun q h=>h,Fr.mono e6 (fun x e=>?_)⟩
    ·
     rcases e with e | e | e | e
     ·
      exact .inl e
     ·
      exact .inr (.inr (.inl e))
     ·
      exact .inr (.inr (.inr (y5 x e.1 e.2.1)))
     ·
      exact .inr (.inl e)
    ·
     rcases e with e | e | e | e
     ·
      exact e ▸ r.zp
     ·
      exact e ▸ z.zf
     ·
      exact z.zr x (y5 x e.1 e.2.1)
     ·
      exact e ▸ r.zm
   ·
    obtain⟨v,H',hs,rfl,e1,e2,e6⟩:=disk_AppendOldF_spec H mb hm _ r.mblk k kk d hp r.blk nm hnm bA b bc hb cb lb bb hn q.2.1 f.b q.2.2 (My.row z.row) (My.capF z.row (by have:=z.len;simp only at this;omega)) z.len z.bytes f.lasts zl f.there q.1 hf z.blk g1 (by omega) n1 nf.1 nf.2
    have ha:Spec.appF l nm b=(5,l):=by simp [Spec.appF,hn,hg,hl]
    rw[ha]
    exact⟨_,H',hs,rfl,grow D H H',⟨mb,ps,r.same e6 (fun _ _ e=>e) e1 e2 (by omega)⟩,fun q h=>h,Fr.mono e6 (fun q e=>e ▸ r.zp)⟩
 ·
  obtain⟨v,H',hs,rfl,e1,e2,e6⟩:=disk_AppendForm_spec H mb hm _ r.mblk k kk d hp r.blk nm hnm bA b bc hb cb lb bb (by simpa using hn) n1
  have ha:Spec.appF l nm b=(1,l):=by simp [Spec.appF,hn]
  rw[ha]
  exact⟨_,H',hs,rfl,grow D H H',⟨mb,ps,r.same e6 (fun _ _ e=>e) e1 e2 (by omega)⟩,fun q h=>h,Fr.mono e6 (fun q e=>e ▸ r.zp)⟩
theorem disk_Sync_spec (H:Heap) (d:Nat) (D:Nat→Prop) (l:Files) (k:Int) (hd:DiskH D H d l k) (hk:k≤1099511627776) (nm:ByteArray) (hnm:nm.size≤140737488355328) :
  ∃ v H',Spec Try.prog 12 [.pointer (some ⟨d,0,none⟩),.string nm] H v H'∧(v = .int .i64 (Spec.syncF l nm).1∧∃ D',DiskH D' H' d (Spec.syncF l nm).2 (k+1)∧(∀ q,D' q→D q∨(H.next≤q∧q<H'.next))∧Fr (fun q=>D q∧Z01 H q) H H'):=by
 obtain⟨mb,ps,r⟩:=hd
 have n1:=r.ne_m
 have hp:=r.below _ r.dp
 have hm:=r.below _ r.dm
 have kk:0≤k∧k≤1099511627776:=⟨r.kb,hk⟩
 rcases hg:Spec.fget nm l with _ | f
 ·
  obtain⟨g1,g2,g3,g4⟩:=fget_none r.len hg
  obtain⟨v,H',hs,rfl,e1,e2,e6⟩:=disk_SyncNone_spec H mb hm _ r.mblk k kk d hp r.blk nm hnm g1 n1
  have ha:Spec.syncF l nm=(14,l):=by simp [Spec.syncF,hg]
  rw[ha]
  exact⟨_,H',hs,rfl,grow D H H',⟨mb,ps,r.same e6 (fun _ _ e=>e) e1 e2 (by omega)⟩,fun q h=>h,Fr.mono e6 (fun q e=>e ▸ r.zp)⟩
 ·
  obtain⟨i,q,hi,hq,g1,g2,g3⟩:=fget_some r.len hg
  have z:=r.at_ i _ q hi hq
  have nf:=r.ne_f z
  have hf:=r.below _ z.dom
  have zl:0≤f.lasts∧f.lasts≤1048576:=⟨z.lo,by have h1:=z.hi;have h2:=z.len;simp only at h1 h2;omega⟩
  obtain⟨v,H',hs,rfl,e1,e2,e3,e6⟩:=disk_SyncOld_spec H mb hm _ r.mblk k kk d hp r.blk nm hnm q.2.1 f.b q.2.2 (My.row z.row) (My.capF z.row (by have:=z.len;simp only at this;omega)) z.len z.bytes f.lasts zl f.there q.1 hf z.blk g1 n1 nf.1 nf.2
  have ha:Spec.syncF l nm=(0,Spec.fput nm ⟨f.b,f.b.length,true⟩ l):=by simp [Spec.syncF,hg]
  have hrow:My H00 H' q.2.1 q.2.2 1 (f.b.map u8c):=My.hid z.row (Fr.mono e6 fun y e=>⟨e,fun c=>by
   rcases e with e | e
   ·
    exact z.zb c (e ▸ r.blk)
   ·
    exact z.zb c (e ▸ z.blk)⟩)
  rw[ha,g2]
  refine⟨_,H',hs,rfl,grow D H H',⟨mb,_,r.set (f':=⟨f.b,f.b.length,true⟩) (q':=q) hi hq e6 (fun x _ e=>?_) e1 ?_ ⟨.inl z.dom,fun x hx => .inl (z.rdom x hx),e3,hrow,z.bytes,z.len,by simp only;omega,Int.le_refl _⟩ (.inl rfl) (fun x hx => .inl hx) (by omega)⟩,fun q h=>h,Fr.mono e6 (fun x e=>?_)⟩
  ·
   rcases e with e | e
   ·
    exact .inl e
   ·
    exact .inr (.inr (.inl e))
  ·
   rw[e2,← g3 ⟨f.b,f.b.length,true⟩ q,mapPut_same g1]
  ·
   rcases e with e | e
   ·
    exact e ▸ r.zp
   ·
    exact e ▸ z.zf
theorem disk_Swap_spec (H:Heap) (d:Nat) (D:Nat→Prop) (l:Files) (k:Int) (hd:DiskH D H d l k) (hk:k≤1099511627776) (nm:ByteArray) (hnm:nm.size≤140737488355328) (bA:Option Addr) (b:List Int) (bc:Nat) (hb:Row H bA bc 1 (b.map u8c)) (cb:b.length≤bc) (lb:b.length≤140737488355328) (bb:Spec.Bytes b) :
  ∃ v H',Spec Try.prog 13 [.pointer (some ⟨d,0,none⟩),.string nm,.slice bA b.length bc] H v H'∧(v = .int .i64 (Spec.swapF l nm b).1∧∃ D',DiskH D' H' d (Spec.swapF l nm b).2 (k+1)∧(∀ q,D' q→D q∨(H.next≤q∧q<H'.next))∧Fr (fun q=>D q∧Z01 H q) H H'):=by
 obtain⟨mb,ps,r⟩:=hd
 have n1:=r.ne_m
 have hp:=r.below _ r.dp
 have hm:=r.below _ r.dm
 have kk:0≤k∧k≤1099511627776:=⟨r.kb,hk⟩
 by_cases hn:Spec.nameF nm=true
 ·
  by_cases hl:b.length≤1048576
  ·
   obtain⟨v,H',hs,b',A,c,rfl,e1,e2,e3,e4,e5,e6⟩:=disk_SwapOk_spec H mb hm _ r.mblk k kk d hp r.blk nm hnm bA b bc hb cb lb bb hn hl n1
   have ha:Spec.swapF l nm b=(0,Spec.fput nm ⟨b,b.length,true⟩ l):=by simp [Spec.swapF,hn,hl]
   have hf:FileAt (grow D H H') H' (b',A,c) ⟨b,b.length,true⟩:=⟨.inr e3,fun x hx => .inr ⟨e5.inNew x hx,inA.lt e5 x hx⟩,e4,My.older e5 (Nat.zero_le _),bb,hl,by simp only;omega,Int.le_refl _⟩
   have hW:Fr (fun q=>D q∧Z01 H q) H H':=Fr.mono e6 (fun q e=>e.elim (fun e=>e ▸ r.zp) (fun e=>e ▸ r.zm))
   rw[ha]
   rcases hg:Spec.fget nm l with _ | f
   ·
    obtain⟨g1,g2,g3,g4⟩:=fget_none r.len hg
    rw[g2]
    exact⟨_,H',hs,rfl,grow D H H',⟨mb,_,r.add e6 (fun x _ e=>e.imp id .inl) e1 (by rw[e2,g4 ⟨b,b.length,true⟩ (b',A,c)]) hf e3.1 (fun x hx=>e5.inNew x hx) (by omega) hn g3⟩,fun q h=>h,hW⟩
   ·
    obtain⟨i,q,hi,hq,g1,g2,g3⟩:=fget_some r.len hg
    rw[g2]
    exact⟨_,H',hs,rfl,grow D H H',⟨mb,_,r.set (f':=⟨b,b.length,true⟩) (q':=(b',A,c)) hi hq e6 (fun x _ e=>e.imp id .inl) e1 (by rw[e2,g3 ⟨b,b.length,true⟩ (b',A,c)]) hf (.inr e3.1) (fun x hx => .inr (e5.inNew x hx)) (by omega)⟩,fun q h=>h,hW⟩
  ·
   obtain⟨v,H',hs,rfl,e1,e2,e6⟩:=disk_SwapFull_spec H mb hm _ r.mblk k kk d hp r.blk nm hnm bA b bc hb cb lb bb hn (by omega) n1
   have ha:Spec.swapF l nm b=(5,l):=by simp [Spec.swapF,hn,hl]
   rw[ha]
   exact⟨_,H',hs,rfl,grow D H H',⟨mb,ps,r.same e6 (fun _ _ e=>e) e1 e2 (by omega)⟩,fun q h=>h,Fr.mono e6 (fun q e=>e ▸ r.zp)⟩
 ·
  obtain⟨v,H',hs,rfl,e1,e2,e6⟩:=disk_SwapForm_spec H mb hm _ r.mblk k kk d hp r.blk nm hnm bA b bc hb cb lb bb (by simpa using hn) n1
  have ha:Spec.swapF l nm b=(1,l):=by simp [Spec.swapF,hn]
  rw[ha]
  exact⟨_,H',hs,rfl,grow D H H',⟨mb,ps,r.same e6 (fun _ _ e=>e) e1 e2 (by omega)⟩,fun q h=>h,Fr.mono e6 (fun q e=>e ▸ r.zp)⟩
theorem disk_Read_spec (H:Heap) (d:Nat) (D:Nat→Prop) (l:Files) (k:Int) (hd:DiskH D H d l k) (hk:k≤1099511627776) (nm:ByteArray) (hnm:nm.size≤140737488355328) :
  ∃ v H',Spec Try.prog 16 [.pointer (some ⟨d,0,none⟩),.string nm] H v H'∧(∃ A c,v = .tuple #[.slice A (Spec.readF l nm).1.length c,.int .i64 (Spec.readF l nm).2]∧My H H' A c 1 ((Spec.readF l nm).1.map u8c)∧Spec.Bytes (Spec.readF l nm).1∧(Spec.readF l nm).1.length≤1048576∧Ext H H'):=by
 obtain⟨mb,ps,r⟩:=hd
 have n1:=r.ne_m
 have hp:=r.below _ r.dp
 have hm:=r.below _ r.dm
 have kk:0≤k∧k≤1099511627776:=⟨r.kb,hk⟩
 rcases hg:Spec.fget nm l with _ | f
 ·
  obtain⟨g1,g2,g3,g4⟩:=fget_none r.len hg
  obtain⟨v,H',hs,rfl,e6⟩:=disk_ReadNone_spec H mb hm _ r.mblk k kk d hp r.blk nm hnm g1 n1
  have ha:Spec.readF l nm=([],14):=by simp [Spec.readF,hg]
  rw[ha]
  exact⟨_,H',hs,none,0,rfl,.nil,Spec.Bytes.nil,Nat.zero_le _,e6⟩
 ·
  obtain⟨i,q,hi,hq,g1,g2,g3⟩:=fget_some r.len hg
  have z:=r.at_ i _ q hi hq
  have nf:=r.ne_f z
  have hf:=r.below _ z.dom
  have zl:0≤f.lasts∧f.lasts≤1048576:=⟨z.lo,by have h1:=z.hi;have h2:=z.len;simp only at h1 h2;omega⟩
  obtain⟨v,H',hs,A,c,rfl,e5,e6⟩:=disk_ReadOld_spec H mb hm _ r.mblk k kk d hp r.blk nm hnm q.2.1 f.b q.2.2 (My.row z.row) (My.capF z.row (by have:=z.len;simp only at this;omega)) z.len z.bytes f.lasts zl f.there q.1 hf z.blk g1 n1 nf.1 nf.2
  have ha:Spec.readF l nm=(f.b,0):=by simp [Spec.readF,hg]
  rw[ha]
  exact⟨_,H',hs,A,c,rfl,e5,z.bytes,z.len,e6⟩
theorem disk_Loose_spec (H:Heap) (d:Nat) (D:Nat→Prop) (l:Files) (k:Int) (hd:DiskH D H d l k) (hk:k≤1099511627776) (nm:ByteArray) (hnm:nm.size≤140737488355328) :
  ∃ v H',Spec Try.prog 17 [.pointer (some ⟨d,0,none⟩),.string nm] H v H'∧(v = .int .i64 (Spec.looseF l nm)∧0≤Spec.looseF l nm∧Spec.looseF l nm≤1048576∧Ext H H'):=by
 obtain⟨mb,ps,r⟩:=hd
 have n1:=r.ne_m
 have hp:=r.below _ r.dp
 have hm:=r.below _ r.dm
 have kk:0≤k∧k≤1099511627776:=⟨r.kb,hk⟩
 rcases hg:Spec.fget nm l with _ | f
 ·
  obtain⟨g1,g2,g3,g4⟩:=fget_none r.len hg
  obtain⟨v,H',hs,rfl,e6⟩:=disk_LooseNone_spec H mb hm _ r.mblk k kk d hp r.blk nm hnm g1 n1
  have ha:Spec.looseF l nm=0:=by simp [Spec.looseF,hg]
  rw[ha]
  exact⟨_,H',hs,rfl,by decide,by decide,e6⟩
 ·
  obtain⟨i,q,hi,hq,g1,g2,g3⟩:=fget_some r.len hg
  have z:=r.at_ i _ q hi hq
  have nf:=r.ne_f z
  have hf:=r.below _ z.dom
  have zl:0≤f.lasts∧f.lasts≤1048576:=⟨z.lo,by have h1:=z.hi;have h2:=z.len;simp only at h1 h2;omega⟩
  obtain⟨v,H',hs,rfl,e6⟩:=disk_LooseOld_spec H mb hm _ r.mblk k kk d hp r.blk nm hnm q.2.1 f.b q.2.2 (My.row z.row) (My.capF z.row (by have:=z.len;simp only at this;omega)) z.len z.bytes f.lasts zl f.there q.1 hf z.blk g1 n1 nf.1 nf.2
  have ha:Spec.looseF l nm=f.b.length - f.lasts:=by simp [Spec.looseF,hg]
  have h1:=z.hi;have h2:=z.len;have h3:=z.lo
  simp only at h1 h2 h3
  rw[ha]
  exact⟨_,H',hs,rfl,by omega,by omega,e6⟩
theorem disk_New_spec (H:Heap):∃ v H',Spec Try.prog 10 [] H v H'∧(∃ d D',v = .pointer (some ⟨d,0,none⟩)∧DiskH D' H' d [] 0∧(∀ q,D' q→H.next≤q∧q<H'.next)∧Ext H H'):=by
 obtain⟨v,H',hs,d,mb,rfl,e1,e2,e3,e4,e6⟩:=disk_NewR_spec H
 exact⟨_,H',hs,d,fun q=>H.next≤q∧q<H'.next,rfl,⟨mb,[],e1,⟨e3.1,e3.2.1⟩,e2,e4,rfl,fun i e q h=>(by cases h),fun i j q q' _ h=>(by cases h),fun e h=>(by cases h),List.nodup_nil,Int.le_refl _,fun q h=>h.2⟩,fun q h=>h,e6⟩
end

theorem sl_CloneE_spec (H:Heap) (lA:Option Addr) (l:List Entry) (lc:Nat) (hl:Row H lA lc 4 (l.map Entry.cells)) (cl:l.length≤lc) (ll:l.length≤1073741824):∃ v H',Spec Try.prog 47 [.slice lA l.length lc] H v H'∧(∃ rA0 rc0,(v = .slice rA0 l.length rc0)∧(My H H' rA0 rc0 4 (l.map Entry.cells))∧(Ext H H')):=by
 refine spec_go1 E0_ok 8 (f:=47) Try.func47 rfl rfl rfl ?_
 refine aw_seq ?_
 refine aw_reg ?_
 refine st_op (ev_assign rfl) rfl rfl rfl ?_
 iterate 2 refine aw_seq ?_
 refine aw_reg ?_
 refine st_op (ev_move rfl) rfl rfl rfl ?_
 refine st_op (ev_nilSl rfl rfl Try.underlying39) rfl rfl rfl ?_
 by_cases hc1:(Option.isNone lA)=true
 ·
  refine aw_condT hc1 rfl ?_
  refine aw_seq ?_
  refine aw_reg ?_
  refine st_op (ev_assign rfl) rfl rfl rfl ?_
  refine aw_ret ?_
  have hm2:My H H none 0 4 (([]:List Entry).map Entry.cells) := .nil
  have hres:l=([]:List Entry):=by exact Row.isNone hl (by assumption)
  exact⟨.slice none 0 0,rfl,none,0,by first | (rw[hres];first | done | rfl | simp;done) | rfl,(by rw[hres];exact hm2),(Ext.refl H)⟩
 ·
  rw[Bool.not_eq_true] at hc1;refine aw_condF hc1 rfl ?_
  refine aw_skip ?_
  refine aw_seq ?_
  refine aw_reg ?_
  obtain⟨b3,H4,he5,b3e,H4n_,hm7,f6⟩:=mem_lit H (xs:=([]:List Value)) (m:=0) (rows:=([]:List (List Value))) rfl eok39 (by decide) (by decide) zf54 rfl (allLen rfl) rfl
  replace hm7:My H H4 (some ⟨b3,0,none⟩) 0 4 (([]:List Entry).map Entry.cells):=hm7
  refine st_op (he5 _ _ _ _ _ _ _ _ rfl) rfl rfl rfl ?_
  have hx8:Ext H H4:=Ext.new (by omega) H4n_ f6
  have H4n:H.next≤H4.next:=hx8.1
  refine st_op (ev_move rfl) rfl rfl rfl ?_
  have h9:=Row.ext hl hx8
  obtain⟨A10,c11,H12,W13,he14,hm15,hf16⟩:=mem_append (f:=Entry.cells) (old:=([]:List Entry)) (new:=l) (m:=0) (mx:=l.length) (c:=0) (by first | rfl | simp) (by first | rfl | simp) eok39 (by decide) hm7 hm7 (by omega) ((h9).srcF (by decide) (by first | rfl | simp)) rfl Entry.cells_len Entry.cells_one (by first | omega | (simp only [List.length_append,List.length_cons,List.length_nil,List.length_map,List.length_set,List.length_replicate,Spec.bytesOf_length];omega) | (simp;omega)) (by first | omega | (simp only [List.length_append,List.length_cons,List.length_nil,List.length_map,List.length_set,List.length_replicate,Spec.bytesOf_length];omega) | (simp;omega))
  refine st_op (he14 _ _ _ _ _ _ _ _ _ _ rfl rfl isrow39) rfl rfl rfl ?_
  have H12n:H4.next≤H12.next:=hf16.1
  rw[List.nil_append] at hm15
  refine st_op (ev_assign rfl) rfl rfl rfl ?_
  refine aw_ret ?_
  have hx17:Ext H H12:=(Ext.then hx8 hf16 (fun q hq e=>by omega))
  have hres:l=l:=by rfl
  exact⟨.slice A10 l.length c11,rfl,A10,c11,by first | (rw[hres];first | done | rfl | simp;done) | rfl,(by rw[hres];exact hm15),hx17⟩
theorem keep_State_spec (H:Heap) (d dm:Nat) (dD:Nat→Prop) (dl:Files) (dp:List Place) (dk:Int) (rd:DiskR dD H d dm dl dp dk) (kd:dk≤1099511627000) (ht:Int) (hv:Int) (si:Int) (hsi:0≤si∧si≤1099511627776) (st:Int) (sc:ByteArray) (sd:ByteArray) (lA:Option Addr) (l:List Entry) (lc:Nat) (hl:Row H lA lc 4 (l.map Entry.cells)) (cl:l.length≤lc) (ll:l.length≤200) (sz:Int) (hsz:0≤sz∧sz≤1048576) (k:Nat) (hk:k<H.next) (Bk:H.blk k=some ⟨[.pointer (some ⟨d,0,none⟩),.int .i64 ht,.int .i64 hv,.int .i64 si,.int .i64 st,.string sc,.string sd,.slice lA l.length lc,.int .i64 sz],0,false,false⟩) (nk:¬ dD k):∃ v H',Spec Try.prog 26 [.pointer (some ⟨k,0,none⟩)] H v H'∧(∃ rA6 rc6,(v = .agg #[.int .i64 ht,.int .i64 hv,.int .i64 si,.int .i64 st,.string sc,.string sd,.slice rA6 l.length rc6])∧(My H H' rA6 rc6 4 (l.map Entry.cells))∧(Ext H H')):=by
 have bd:=rd.below _ rd.dp;have bdm:=rd.below _ rd.dm;have zd:=rd.kb
 have sub_d:∀ q,dD q→dD q∨(H.next≤q∧q<H.next):=fun q e => .inl e
 refine spec_go1 E0_ok 16 (f:=26) Try.func26 rfl rfl rfl ?_
 refine aw_seq ?_
 refine aw_reg ?_
 obtain⟨b1,H2,he3,b1e,H2n_,hB5,f4⟩:=mem_alloc H zero61
 refine st_op (he3 _ _ _ _ _ _ _) rfl rfl rfl ?_
 have hx6:Ext H H2:=Ext.new (by omega) H2n_ f4
 have H2n:H.next≤H2.next:=hx6.1
 iterate 2 refine aw_seq ?_
 refine aw_reg ?_
 refine st_op (ev_move rfl) rfl rfl rfl ?_
 refine st_op (ev_nilEq rfl rfl Try.underlying42) rfl rfl rfl ?_
 refine aw_cond (t:=false) rfl ?_
 refine aw_skip ?_
 refine aw_seq ?_
 refine aw_reg ?_
 refine st_op (ev_move rfl) rfl rfl rfl ?_
 refine st_op (ev_nilCheck rfl) rfl rfl rfl ?_
 refine st_op (ev_fieldAddr rfl fa88_1 (o':=1) rfl) rfl rfl rfl ?_
 have h7:=Ext.blk hx6 (by omega) Bk
 refine st_op (ev_load rfl (lvar_part (l := [.int .i64 ht,.int .i64 hv,.int .i64 si,.int .i64 st,.string sc,.string sd,.slice lA l.length lc]) many61 h7 rfl rfl (by decide))) rfl rfl rfl ?_
 obtain⟨b8,H9,he10,b8e,H9n_,hB12,f11⟩:=mem_alloc H2 zero61
 refine st_op (he10 _ _ _ _ _ _ _) rfl rfl rfl ?_
 have hx13:Ext H2 H9:=Ext.new (by omega) H9n_ f11
 have H9n:H2.next≤H9.next:=hx13.1
 obtain⟨H14,he15,H14n_,hB16,f17⟩:=mem_store (v := .agg #[.int .i64 ht,.int .i64 hv,.int .i64 si,.int .i64 st,.string sc,.string sd,.slice lA l.length lc]) (o:=0) (cs' := [.int .i64 ht,.int .i64 hv,.int .i64 si,.int .i64 st,.string sc,.string sd,.slice lA l.length lc]) 7 rfl rfl size61 hB12 rfl rfl rfl
 refine st_op0 (he15 _ _ _ _ _ _ _ _ _ rfl rfl) rfl rfl ?_
 have hf18:Fr (fun q=>q=b8) H9 H14:=Fr.write H14n_ f17
 have H14n:H9.next≤H14.next:=hf18.1
 refine aw_seq ?_
 refine aw_reg ?_
 refine st_op (ev_fieldAddr rfl fa61_2 (o':=6) rfl) rfl rfl rfl ?_
 refine st_op (ev_load rfl (lvar_one one39 hB16 rfl)) rfl rfl rfl ?_
 refine st_call rfl rfl rfl ent47 rfl rfl rfl ?_
 have hx20:Ext H H14:=(Ext.then (Ext.trans hx6 hx13) hf18 (fun q hq e=>by omega))
 have h19:=Row.ext hl hx20
 obtain⟨_,H22,hs21,A24,c25,hs21v,hm26,hx23⟩:=sl_CloneE_spec H14 lA l lc h19 cl (by omega)
 rw[hs21v] at hs21;clear hs21v
 refine⟨_,H22,hs21,?_⟩
 have H22n:H14.next≤H22.next:=hx23.1
 refine st_op (ev_fieldAddr rfl fa61_2 (o':=6) rfl) rfl rfl rfl ?_
 have h27:=Ext.blk hx23 (by omega) hB16
 obtain⟨H28,he29,H28n_,hB30,f31⟩:=mem_store (v := .slice A24 l.length c25) (o:=6) (cs' := [.int .i64 ht,.int .i64 hv,.int .i64 si,.int .i64 st,.string sc,.string sd,.slice A24 l.length c25]) 1 rfl rfl size39 h27 rfl rfl rfl
 refine st_op0 (he29 _ _ _ _ _ _ _ _ _ rfl rfl) rfl rfl ?_
 have hf32:Fr (fun q=>q=b8) H22 H28:=Fr.write H28n_ f31
 have H28n:H22.next≤H28.next:=hf32.1
 refine aw_seq ?_
 refine aw_reg ?_
 refine st_op (ev_load rfl (lvar_part (l := [.int .i64 ht,.int .i64 hv,.int .i64 si,.int .i64 st,.string sc,.string sd,.slice A24 l.length c25]) many61 hB30 rfl rfl (by decide))) rfl rfl rfl ?_
 have hx34:Ext H2 H28:=(Ext.then (Ext.trans (Ext.then hx13 hf18 (fun q hq e=>by omega)) hx23) hf32 (fun q hq e=>by omega))
 have h33:=Ext.blk hx34 (by omega) hB5
 obtain⟨H35,he36,H35n_,hB37,f38⟩:=mem_store (v := .agg #[.int .i64 ht,.int .i64 hv,.int .i64 si,.int .i64 st,.string sc,.string sd,.slice A24 l.length c25]) (o:=0) (cs' := [.int .i64 ht,.int .i64 hv,.int .i64 si,.int .i64 st,.string sc,.string sd,.slice A24 l.length c25]) 7 rfl rfl size61 h33 rfl rfl rfl
 refine st_op0 (he36 _ _ _ _ _ _ _ _ _ rfl rfl) rfl rfl ?_
 have hf39:Fr (fun q=>q=b1) H28 H35:=Fr.write H35n_ f38
 have H35n:H28.next≤H35.next:=hf39.1
 refine aw_ret ?_
 have h40:=My.frS hm26 hf32 (fun q hq e=>⟨_,e ▸ h27,show(0:Nat)≠4 by decide⟩)
 have h41:=My.frS h40 hf39 (fun q hq e=>⟨_,e ▸ h33,show(0:Nat)≠4 by decide⟩)
 have hx42:Ext H H35:=(Ext.then (Ext.then (Ext.trans hx20 hx23) hf32 (fun q hq e=>by omega)) hf39 (fun q hq e=>by omega))
 have hres:l=l:=by rfl
 exact⟨.agg #[.int .i64 ht,.int .i64 hv,.int .i64 si,.int .i64 st,.string sc,.string sd,.slice A24 l.length c25],(resA_of (resL_cell rfl (lvar_part (l := [.int .i64 ht,.int .i64 hv,.int .i64 si,.int .i64 st,.string sc,.string sd,.slice A24 l.length c25]) many61 hB37 rfl rfl (by decide)) resL_nil) rfl),A24,c25,by first | (rw[hres];first | done | rfl | simp;done) | rfl,(by rw[hres];exact(My.older h41 (by omega))),hx42⟩
theorem wal_in_spec (H:Heap) (least:Int) (hleast : -9223372036854775808≤least∧least≤9223372036854775807) (most:Int) (hmost : -9223372036854775808≤most∧most≤9223372036854775807) (lA:Option Addr) (l:List Int) (lc:Nat) (hl:Row H lA lc 1 (l.map i64c)) (cl:l.length≤lc) (ll:l.length≤1099511627776):∃ v H',Spec Try.prog 60 [.int .i64 least,.int .i64 most,.slice lA l.length lc] H v H'∧((v = .bool (Spec.inF least most l))∧(Ext H H')):=by
 refine spec_go3 E0_ok 24 (f:=60) Try.func60 rfl rfl rfl ?_
 refine aw_seq ?_
 refine aw_reg ?_
 refine st_op (ev_assign rfl) rfl rfl rfl ?_
 iterate 2 refine aw_seq ?_
 refine aw_reg ?_
 refine st_op (ev_move rfl) rfl rfl rfl ?_
 refine st_op (ev_lenSl rfl Try.underlying138) rfl rfl rfl ?_
 refine st_op (ev_move rfl) rfl rfl rfl ?_
 refine aw_block ?_
 refine aw_keep [0,1,9,10,11] (l':=(.cons 0 (.int .i64 least) (.cons 1 (.int .i64 most) (.cons 9 (.slice lA l.length lc) (.cons 10 (.int .i64 (l.length:Int)) (.cons 11 (.int .i64 0) .nil)))))) (by repeat (first | exact Up.done | refine Up.then ?_ | refine Up.inBlock ?_)) rfl ?_
 refine aw_iter (α:=Nat×Heap) (fun a=>l.length - a.1) (fun a=>(.cons 0 (.int .i64 least) (.cons 1 (.int .i64 most) (.cons 9 (.slice lA l.length lc) (.cons 10 (.int .i64 (l.length:Int)) (.cons 11 (.int .i64 (a.1:Int)) .nil)))))) (fun a=>a.2) (fun a=>(a.1≤l.length)∧(Spec.inF least most l=Spec.inF least most (l.drop a.1))∧(Ext H a.2)) (0,H) ⟨(show 0≤l.length from Nat.zero_le _),(show Spec.inF least most l=Spec.inF least most (l.drop 0) from rfl),(show Ext H H from(Ext.refl H))⟩ ?_
 rintro⟨i,Hl1⟩ ⟨hi,hv,hxl2⟩ ih3
 replace hi:i≤l.length:=hi
 replace hv:Spec.inF least most l=Spec.inF least most (l.drop i):=hv
 replace hxl2:Ext H Hl1:=hxl2
 show aw _ _ _ (RL _ (.cons 0 (.int .i64 least) (.cons 1 (.int .i64 most) (.cons 9 (.slice lA l.length lc) (.cons 10 (.int .i64 (l.length:Int)) (.cons 11 (.int .i64 (i:Int)) .nil)))))) Hl1 _
 have Hl1n:H.next≤Hl1.next:=hxl2.1
 refine aw_seq ?_
 refine aw_reg ?_
 refine st_op (ev_int rfl rfl rfl) rfl rfl rfl ?_
 refine aw_seq ?_
 by_cases hc4:(decide ((i:Int)<(l.length:Int)))=true
 ·
  refine aw_condT hc4 rfl ?_
  have hc4:=of_decide_eq_true hc4
  refine aw_skip ?_
  refine aw_seq ?_
  refine aw_block ?_
  refine aw_seq ?_
  refine aw_reg ?_
  have h5:=Row.ext hl hxl2
  have hi6:0≤((i:Int):Int):=by omega
  have hi7:((i:Int):Int)<((l.length:Nat):Int):=by omega
  obtain⟨x8,hx9⟩:∃ e,l[i]?=some e:=⟨_,List.getElem?_eq_getElem (by omega)⟩
  refine st_op (ev_at rfl rfl h5 (getMap i64c hx9) (by first | rfl | omega | simp) hi6 hi7 el138) rfl rfl rfl ?_
  refine st_op (ev_atL rfl h5 (getMap i64c hx9) one2 rfl) rfl rfl rfl ?_
  refine st_op (ev_assign rfl) rfl rfl rfl ?_
  refine aw_seq ?_
  refine aw_reg ?_
  iterate 2 refine st_op (ev_move rfl) rfl rfl rfl ?_
  refine st_op (ev_int rfl rfl rfl) rfl rfl rfl ?_
  refine st_op (ev_move rfl) rfl rfl rfl ?_
  refine st_bool 18 rfl (fun hb10=>?_) (fun hb10=>?_)
  ·
   have hb10:=of_decide_eq_true hb10
   iterate 3 refine st_skip rfl rfl rfl ?_
   refine st_op (ev_pickT rfl rfl) rfl rfl rfl ?_
   refine aw_cond (t:=true) rfl ?_
   refine aw_seq ?_
   refine aw_reg ?_
   refine st_op (ev_assign rfl) rfl rfl rfl ?_
   refine aw_ret ?_
   have hres:(Spec.inF least most l)=false:=by rw[hv,drop_at hx9,Spec.inF];first | (rw[if_pos (by omega)];done) | (rw[if_neg (by omega),if_pos (by omega)];done)
   exact⟨.bool false,rfl,by first | (rw[hres];done) | rw[← hres],hxl2⟩
  ·
   have hb10:=of_decide_eq_false hb10
   iterate 2 refine st_op (ev_move rfl) rfl rfl rfl ?_
   refine st_op (ev_int rfl rfl rfl) rfl rfl rfl ?_
   refine st_op (ev_pickF rfl rfl) rfl rfl rfl ?_
   by_cases hc11:(decide (x8 > most))=true
   ·
    refine aw_condT hc11 rfl ?_
    have hc11:=of_decide_eq_true hc11
    refine aw_seq ?_
    refine aw_reg ?_
    refine st_op (ev_assign rfl) rfl rfl rfl ?_
    refine aw_ret ?_
    have hres:(Spec.inF least most l)=false:=by rw[hv,drop_at hx9,Spec.inF];first | (rw[if_pos (by omega)];done) | (rw[if_neg (by omega),if_pos (by omega)];done)
    exact⟨.bool false,rfl,by first | (rw[hres];done) | rw[← hres],hxl2⟩
   ·
    rw[Bool.not_eq_true] at hc11;refine aw_condF hc11 rfl ?_
    have hc11:=of_decide_eq_false hc11
    refine aw_skip ?_
    refine aw_reg ?_
    refine st_op (ev_int64 (c:=(i:Int)+1) rfl rfl rfl (by omega) (by omega)) rfl rfl rfl ?_
    refine st_op (ev_move rfl) rfl rfl rfl ?_
    refine aw_keep [0,1,9,10,11] (l':=(.cons 0 (.int .i64 least) (.cons 1 (.int .i64 most) (.cons 9 (.slice lA l.length lc) (.cons 10 (.int .i64 (l.length:Int)) (.cons 11 (.int .i64 ((i:Int)+1)) .nil)))))) (by repeat (first | exact Up.done | refine Up.then ?_ | refine Up.inBlock ?_)) rfl ?_
    exact ih3 (i+1,Hl1) ⟨(show(i+1)≤l.length from(by omega)),(show Spec.inF least most l=Spec.inF least most (l.drop (i+1)) from(by rw[hv,drop_at hx9,Spec.inF,if_neg (by omega),if_neg (by omega)])),(show Ext H Hl1 from hxl2)⟩ (by simp only;omega)
 ·
  rw[Bool.not_eq_true] at hc4;refine aw_condF hc4 rfl ?_
  have hc4:=of_decide_eq_false hc4
  refine aw_exit ?_
  refine aw_seq ?_
  refine aw_reg ?_
  refine st_op (ev_assign rfl) rfl rfl rfl ?_
  refine aw_ret ?_
  have hres:(Spec.inF least most l)=true:=by rw[hv,List.drop_eq_nil_of_le (by omega)];rfl
  exact⟨.bool true,rfl,by first | (rw[hres];done) | rw[← hres],hxl2⟩
theorem wal_May_spec (H:Heap) (r_hard:Bool) (r_h_term:Int) (r_h_vote:Int) (r_e_index:Int) (r_e_term:Int) (r_e_kind:Int) (r_e_data:ByteArray):∃ v H',Spec Try.prog 43 [.agg #[.bool r_hard,.int .i64 r_h_term,.int .i64 r_h_vote,.int .i64 r_e_index,.int .i64 r_e_term,.int .i64 r_e_kind,.string r_e_data]] H v H'∧((v = .bool (Spec.mayF r_hard r_h_term r_h_vote r_e_index r_e_term r_e_kind r_e_data))∧(Ext H H')):=by
 refine spec_go1 E0_ok 61 (f:=43) Try.func43 rfl rfl rfl ?_
 refine aw_seq ?_
 refine aw_reg ?_
 obtain⟨b1,H2,he3,b1e,H2n_,hB5,f4⟩:=mem_box (P:=Try.prog) H (v := .agg #[.bool r_hard,.int .i64 r_h_term,.int .i64 r_h_vote,.int .i64 r_e_index,.int .i64 r_e_term,.int .i64 r_e_kind,.string r_e_data]) (cs := [.bool r_hard,.int .i64 r_h_term,.int .i64 r_h_vote,.int .i64 r_e_index,.int .i64 r_e_term,.int .i64 r_e_kind,.string r_e_data]) rfl rfl
 refine st_op (he3 _ _ _ _ _ _ _ _ _ rfl) rfl rfl rfl ?_
 have hx6:Ext H H2:=Ext.new (by omega) H2n_ f4
 have H2n:H.next≤H2.next:=hx6.1
 refine st_op (ev_assign rfl) rfl rfl rfl ?_
 iterate 2 refine aw_seq ?_
 refine aw_reg ?_
 refine st_op (ev_fieldAddr rfl fa95_0 (o':=0) rfl) rfl rfl rfl ?_
 refine st_op (ev_load rfl (lvar_one one4 hB5 rfl)) rfl rfl rfl ?_
 by_cases hc7:r_hard=true
 ·
  refine aw_condT hc7 rfl ?_
  refine aw_seq ?_
  refine aw_reg ?_
  refine st_op (ev_fieldAddr rfl fa95_1 (o':=1) rfl) rfl rfl rfl ?_
  refine st_op (ev_fieldAddr rfl fa41_0 (o':=1) rfl) rfl rfl rfl ?_
  refine st_op (ev_load rfl (lvar_one one2 hB5 rfl)) rfl rfl rfl ?_
  obtain⟨b8,H9,he10,b8e,H9n_,hm12,f11⟩:=mem_lit H2 (xs:=([.int .i64 r_h_term]:List Value)) (m:=1) (rows := [[.int .i64 r_h_term]]) rfl eok138 (by decide) (by decide) zf2 rfl (allLen rfl) rfl
  replace hm12:My H2 H9 (some ⟨b8,0,none⟩) 1 1 ([r_h_term].map i64c):=hm12
  refine st_op (he10 _ _ _ _ _ _ _ _ rfl) rfl rfl rfl ?_
  have hx13:Ext H2 H9:=Ext.new (by omega) H9n_ f11
  have H9n:H2.next≤H9.next:=hx13.1
  refine st_call rfl rfl rfl ent60 rfl rfl rfl ?_
  obtain⟨_,H15,hs14,hs14v,hx16⟩:=wal_in_spec H9 0 (by decide) 1099511627776 (by decide) (some ⟨b8,0,none⟩) ([r_h_term]) 1 (My.row hm12) (My.capF hm12 (by first | omega | (simp only [List.length_append,List.length_cons,List.length_nil,List.length_map,List.length_set,List.length_replicate,Spec.bytesOf_length];omega) | (simp;omega))) (by first | omega | (simp only [List.length_append,List.length_cons,List.length_nil,List.length_map,List.length_set,List.length_replicate,Spec.bytesOf_length];omega) | (simp;omega))
  rw[hs14v] at hs14;clear hs14v
  refine⟨_,H15,hs14,?_⟩
  have H15n:H9.next≤H15.next:=hx16.1
  refine st_op (ev_move rfl) rfl rfl rfl ?_
  refine st_bool 10 rfl (fun hb17=>?_) (fun hb17=>?_)
  ·
   have hb17m:=Spec.inF_one hb17
   refine st_op (ev_fieldAddr rfl fa95_1 (o':=1) rfl) rfl rfl rfl ?_
   refine st_op (ev_fieldAddr rfl fa41_1 (o':=2) rfl) rfl rfl rfl ?_
   have hx19:Ext H2 H15:=(Ext.trans hx13 hx16)
   have h18:=Ext.blk hx19 (by omega) hB5
   refine st_op (ev_load rfl (lvar_one one3 h18 rfl)) rfl rfl rfl ?_
   refine st_op (ev_int rfl rfl rfl) rfl rfl rfl ?_
   refine st_op (ev_pickT rfl rfl) rfl rfl rfl ?_
   refine st_op (ev_move rfl) rfl rfl rfl ?_
   refine st_bool 16 rfl (fun hb20=>?_) (fun hb20=>?_)
   ·
    have hb20:=of_decide_eq_true hb20
    refine st_op (ev_fieldAddr rfl fa95_1 (o':=1) rfl) rfl rfl rfl ?_
    refine st_op (ev_fieldAddr rfl fa41_1 (o':=2) rfl) rfl rfl rfl ?_
    refine st_op (ev_load rfl (lvar_one one3 h18 rfl)) rfl rfl rfl ?_
    refine st_op (ev_int rfl rfl rfl) rfl rfl rfl ?_
    refine st_op (ev_pickT rfl rfl) rfl rfl rfl ?_
    refine st_op (ev_move rfl) rfl rfl rfl ?_
    refine st_bool 22 rfl (fun hb21=>?_) (fun hb21=>?_)
    ·
     have hb21:=of_decide_eq_true hb21
     refine st_op (ev_fieldAddr rfl fa95_2 (o':=3) rfl) rfl rfl rfl ?_
     refine st_op (ev_load rfl (lvar_part (l := [.int .i64 r_e_index,.int .i64 r_e_term,.int .i64 r_e_kind,.string r_e_data]) many54 h18 rfl rfl (by decide))) rfl rfl rfl ?_
     refine st_op (ev_build zero54 pl54 (parts := []) rfl (cs := [.int .i64 0,.int .i64 0,.int .i64 0,.string (⟨#[]⟩)]) rfl) rfl rfl rfl ?_
     obtain⟨q22,hq23,hi24⟩:∃ q,bin.eqCells [.int .i64 r_e_index,.int .i64 r_e_term,.int .i64 r_e_kind,.string r_e_data] [.int .i64 0,.int .i64 0,.int .i64 0,.string (⟨#[]⟩)]=some q∧(q=true ↔ r_e_index=0∧r_e_term=0∧r_e_kind=0∧r_e_data=(⟨#[]⟩:ByteArray)):=⟨_,rfl,by simp [Bool.and_eq_true,ba_beq]⟩
     refine st_op (ev_agg rfl rfl (by rw[eqt54,show fitAgg Try.prog 54 (#[.int .i64 r_e_index,.int .i64 r_e_term,.int .i64 r_e_kind,.string r_e_data]:Array Value).toList=true from fit54 r_e_index r_e_term r_e_kind r_e_data];rfl) hq23 rfl) rfl rfl rfl ?_
     refine st_op (ev_pickT rfl rfl) rfl rfl rfl ?_
     refine st_op (ev_assign rfl) rfl rfl rfl ?_
     refine aw_ret ?_
     have hx25:Ext H H15:=(Ext.trans (Ext.trans hx6 hx13) hx16)
     have hres:(Spec.mayF r_hard r_h_term r_h_vote r_e_index r_e_term r_e_kind r_e_data)=q22:=by rw[Bool.eq_iff_iff];simp only [Spec.mayF];(try simp_all [Spec.ba_empty]) <;> (try (intros;omega))
     exact⟨.bool q22,rfl,by first | (rw[hres];done) | rw[← hres],hx25⟩
    ·
     have hb21:=of_decide_eq_false hb21
     iterate 4 refine st_skip rfl rfl rfl ?_
     refine st_op (ev_pickF rfl rfl) rfl rfl rfl ?_
     refine st_op (ev_assign rfl) rfl rfl rfl ?_
     refine aw_ret ?_
     have hx26:Ext H H15:=(Ext.trans (Ext.trans hx6 hx13) hx16)
     have hres:(Spec.mayF r_hard r_h_term r_h_vote r_e_index r_e_term r_e_kind r_e_data)=false:=by rw[Bool.eq_iff_iff];simp only [Spec.mayF];(try simp_all [Spec.ba_empty]) <;> (try (intros;omega))
     exact⟨.bool false,rfl,by first | (rw[hres];done) | rw[← hres],hx26⟩
   ·
    have hb20:=of_decide_eq_false hb20
    iterate 4 refine st_skip rfl rfl rfl ?_
    refine st_op (ev_pickF rfl rfl) rfl rfl rfl ?_
    refine st_op (ev_move rfl) rfl rfl rfl ?_
    iterate 4 refine st_skip rfl rfl rfl ?_
    refine st_op (ev_pickF rfl rfl) rfl rfl rfl ?_
    refine st_op (ev_assign rfl) rfl rfl rfl ?_
    refine aw_ret ?_
    have hx27:Ext H H15:=(Ext.trans (Ext.trans hx6 hx13) hx16)
    have hres:(Spec.mayF r_hard r_h_term r_h_vote r_e_index r_e_term r_e_kind r_e_data)=false:=by rw[Bool.eq_iff_iff];simp only [Spec.mayF];(try simp_all [Spec.ba_empty]) <;> (try (intros;omega))
    exact⟨.bool false,rfl,by first | (rw[hres];done) | rw[← hres],hx27⟩
  ·
   have hb17m:=Spec.inF_oneN hb17
   iterate 4 refine st_skip rfl rfl rfl ?_
   refine st_op (ev_pickF rfl rfl) rfl rfl rfl ?_
   refine st_op (ev_move rfl) rfl rfl rfl ?_
   iterate 4 refine st_skip rfl rfl rfl ?_
   refine st_op (ev_pickF rfl rfl) rfl rfl rfl ?_
   refine st_op (ev_move rfl) rfl rfl rfl ?_
   iterate 4 refine st_skip rfl rfl rfl ?_
   refine st_op (ev_pickF rfl rfl) rfl rfl rfl ?_
   refine st_op (ev_assign rfl) rfl rfl rfl ?_
   refine aw_ret ?_
   have hx28:Ext H H15:=(Ext.trans (Ext.trans hx6 hx13) hx16)
   have hres:(Spec.mayF r_hard r_h_term r_h_vote r_e_index r_e_term r_e_kind r_e_data)=false:=by rw[Bool.eq_iff_iff];simp only [Spec.mayF];(try simp_all [Spec.ba_empty]) <;> (try (intros;omega))
   exact⟨.bool false,rfl,by first | (rw[hres];done) | rw[← hres],hx28⟩
 ·
  rw[Bool.not_eq_true] at hc7;refine aw_condF hc7 rfl ?_
  refine aw_skip ?_
  refine aw_seq ?_
  refine aw_reg ?_
  refine st_op (ev_fieldAddr rfl fa95_1 (o':=1) rfl) rfl rfl rfl ?_
  refine st_op (ev_load rfl (lvar_part (l := [.int .i64 r_h_term,.int .i64 r_h_vote]) many41 hB5 rfl rfl (by decide))) rfl rfl rfl ?_
  refine st_op (ev_build zero41 pl41 (parts := []) rfl (cs := [.int .i64 0,.int .i64 0]) rfl) rfl rfl rfl ?_
  obtain⟨q29,hq30,hi31⟩:∃ q,bin.eqCells [.int .i64 r_h_term,.int .i64 r_h_vote] [.int .i64 0,.int .i64 0]=some q∧(q=true ↔ r_h_term=0∧r_h_vote=0):=⟨_,rfl,by simp [Bool.and_eq_true,ba_beq]⟩
  refine st_op (ev_agg rfl rfl (by rw[eqt41,show fitAgg Try.prog 41 (#[.int .i64 r_h_term,.int .i64 r_h_vote]:Array Value).toList=true from fit41 r_h_term r_h_vote];rfl) hq30 rfl) rfl rfl rfl ?_
  refine st_op (ev_move rfl) rfl rfl rfl ?_
  refine st_bool 32 rfl (fun hb32=>?_) (fun hb32=>?_)
  ·
   have hb32E:=hi31.1 hb32
   refine st_op (ev_fieldAddr rfl fa95_2 (o':=3) rfl) rfl rfl rfl ?_
   refine st_op (ev_fieldAddr rfl fa54_0 (o':=3) rfl) rfl rfl rfl ?_
   refine st_op (ev_load rfl (lvar_one one2 hB5 rfl)) rfl rfl rfl ?_
   refine st_op (ev_fieldAddr rfl fa95_2 (o':=3) rfl) rfl rfl rfl ?_
   refine st_op (ev_fieldAddr rfl fa54_1 (o':=4) rfl) rfl rfl rfl ?_
   refine st_op (ev_load rfl (lvar_one one2 hB5 rfl)) rfl rfl rfl ?_
   obtain⟨b33,H34,he35,b33e,H34n_,hm37,f36⟩:=mem_lit H2 (xs:=([.int .i64 r_e_index,.int .i64 r_e_term]:List Value)) (m:=2) (rows := [[.int .i64 r_e_index],[.int .i64 r_e_term]]) rfl eok138 (by decide) (by decide) zf2 rfl (allLen rfl) rfl
   replace hm37:My H2 H34 (some ⟨b33,0,none⟩) 2 1 ([r_e_index,r_e_term].map i64c):=hm37
   refine st_op (he35 _ _ _ _ _ _ _ _ rfl) rfl rfl rfl ?_
   have hx38:Ext H2 H34:=Ext.new (by omega) H34n_ f36
   have H34n:H2.next≤H34.next:=hx38.1
   refine st_call rfl rfl rfl ent60 rfl rfl rfl ?_
   obtain⟨_,H40,hs39,hs39v,hx41⟩:=wal_in_spec H34 1 (by decide) 1099511627776 (by decide) (some ⟨b33,0,none⟩) ([r_e_index,r_e_term]) 2 (My.row hm37) (My.capF hm37 (by first | omega | (simp only [List.length_append,List.length_cons,List.length_nil,List.length_map,List.length_set,List.length_replicate,Spec.bytesOf_length];omega) | (simp;omega))) (by first | omega | (simp only [List.length_append,List.length_cons,List.length_nil,List.length_map,List.length_set,List.length_replicate,Spec.bytesOf_length];omega) | (simp;omega))
   rw[hs39v] at hs39;clear hs39v
   refine⟨_,H40,hs39,?_⟩
   have H40n:H34.next≤H40.next:=hx41.1
   refine st_op (ev_pickT rfl rfl) rfl rfl rfl ?_
   refine st_op (ev_move rfl) rfl rfl rfl ?_
   refine st_bool 42 rfl (fun hb42=>?_) (fun hb42=>?_)
   ·
    have hb42m:=Spec.inF_two hb42
    refine st_op (ev_fieldAddr rfl fa95_2 (o':=3) rfl) rfl rfl rfl ?_
    refine st_op (ev_fieldAddr rfl fa54_2 (o':=5) rfl) rfl rfl rfl ?_
    have hx44:Ext H2 H40:=(Ext.trans hx38 hx41)
    have h43:=Ext.blk hx44 (by omega) hB5
    refine st_op (ev_load rfl (lvar_one one3 h43 rfl)) rfl rfl rfl ?_
    refine st_op (ev_int rfl rfl rfl) rfl rfl rfl ?_
    refine st_op (ev_pickT rfl rfl) rfl rfl rfl ?_
    refine st_op (ev_move rfl) rfl rfl rfl ?_
    refine st_bool 48 rfl (fun hb45=>?_) (fun hb45=>?_)
    ·
     have hb45:=of_decide_eq_true hb45
     refine st_op (ev_fieldAddr rfl fa95_2 (o':=3) rfl) rfl rfl rfl ?_
     refine st_op (ev_fieldAddr rfl fa54_2 (o':=5) rfl) rfl rfl rfl ?_
     refine st_op (ev_load rfl (lvar_one one3 h43 rfl)) rfl rfl rfl ?_
     refine st_op (ev_int rfl rfl rfl) rfl rfl rfl ?_
     refine st_op (ev_pickT rfl rfl) rfl rfl rfl ?_
     refine st_op (ev_move rfl) rfl rfl rfl ?_
     refine st_bool 54 rfl (fun hb46=>?_) (fun hb46=>?_)
     ·
      have hb46:=of_decide_eq_true hb46
      refine st_op (ev_fieldAddr rfl fa95_2 (o':=3) rfl) rfl rfl rfl ?_
      refine st_op (ev_fieldAddr rfl fa54_3 (o':=6) rfl) rfl rfl rfl ?_
      refine st_op (ev_load rfl (lvar_one one9 h43 rfl)) rfl rfl rfl ?_
      refine st_op (ev_lenStr rfl Try.underlying9) rfl rfl rfl ?_
      refine st_op (ev_int rfl rfl rfl) rfl rfl rfl ?_
      refine st_op (ev_pickT rfl rfl) rfl rfl rfl ?_
      refine st_op (ev_assign rfl) rfl rfl rfl ?_
      refine aw_ret ?_
      have hx47:Ext H H40:=(Ext.trans (Ext.trans hx6 hx38) hx41)
      have hres:(Spec.mayF r_hard r_h_term r_h_vote r_e_index r_e_term r_e_kind r_e_data)=(decide (((r_e_data).size:Int)≤2500)):=by rw[Bool.eq_iff_iff];simp only [Spec.mayF];(try simp_all [Spec.ba_empty]) <;> (try (intros;omega))
      exact⟨.bool (decide (((r_e_data).size:Int)≤2500)),rfl,by first | (rw[hres];done) | rw[← hres],hx47⟩
     ·
      have hb46:=of_decide_eq_false hb46
      iterate 5 refine st_skip rfl rfl rfl ?_
      refine st_op (ev_pickF rfl rfl) rfl rfl rfl ?_
      refine st_op (ev_assign rfl) rfl rfl rfl ?_
      refine aw_ret ?_
      have hx48:Ext H H40:=(Ext.trans (Ext.trans hx6 hx38) hx41)
      have hres:(Spec.mayF r_hard r_h_term r_h_vote r_e_index r_e_term r_e_kind r_e_data)=false:=by rw[Bool.eq_iff_iff];simp only [Spec.mayF];(try simp_all [Spec.ba_empty]) <;> (try (intros;omega))
      exact⟨.bool false,rfl,by first | (rw[hres];done) | rw[← hres],hx48⟩
    ·
     have hb45:=of_decide_eq_false hb45
     iterate 4 refine st_skip rfl rfl rfl ?_
     refine st_op (ev_pickF rfl rfl) rfl rfl rfl ?_
     refine st_op (ev_move rfl) rfl rfl rfl ?_
     iterate 5 refine st_skip rfl rfl rfl ?_
     refine st_op (ev_pickF rfl rfl) rfl rfl rfl ?_
     refine st_op (ev_assign rfl) rfl rfl rfl ?_
     refine aw_ret ?_
     have hx49:Ext H H40:=(Ext.trans (Ext.trans hx6 hx38) hx41)
     have hres:(Spec.mayF r_hard r_h_term r_h_vote r_e_index r_e_term r_e_kind r_e_data)=false:=by rw[Bool.eq_iff_iff];simp only [Spec.mayF];(try simp_all [Spec.ba_empty]) <;> (try (intros;omega))
     exact⟨.bool false,rfl,by first | (rw[hres];done) | rw[← hres],hx49⟩
   ·
    have hb42m:=Spec.inF_twoN hb42
    iterate 4 refine st_skip rfl rfl rfl ?_
    refine st_op (ev_pickF rfl rfl) rfl rfl rfl ?_
    refine st_op (ev_move rfl) rfl rfl rfl ?_
    iterate 4 refine st_skip rfl rfl rfl ?_
    refine st_op (ev_pickF rfl rfl) rfl rfl rfl ?_
    refine st_op (ev_move rfl) rfl rfl rfl ?_
    iterate 5 refine st_skip rfl rfl rfl ?_
    refine st_op (ev_pickF rfl rfl) rfl rfl rfl ?_
    refine st_op (ev_assign rfl) rfl rfl rfl ?_
    refine aw_ret ?_
    have hx50:Ext H H40:=(Ext.trans (Ext.trans hx6 hx38) hx41)
    have hres:(Spec.mayF r_hard r_h_term r_h_vote r_e_index r_e_term r_e_kind r_e_data)=false:=by rw[Bool.eq_iff_iff];simp only [Spec.mayF];(try simp_all [Spec.ba_empty]) <;> (try (intros;omega))
    exact⟨.bool false,rfl,by first | (rw[hres];done) | rw[← hres],hx50⟩
  ·
   have hb32E:¬ (r_h_term=0∧r_h_vote=0):=fun e=>absurd (hi31.2 e) (by rw[hb32];decide)
   iterate 8 refine st_skip rfl rfl rfl ?_
   refine st_op (ev_pickF rfl rfl) rfl rfl rfl ?_
   refine st_op (ev_move rfl) rfl rfl rfl ?_
   iterate 4 refine st_skip rfl rfl rfl ?_
   refine st_op (ev_pickF rfl rfl) rfl rfl rfl ?_
   refine st_op (ev_move rfl) rfl rfl rfl ?_
   iterate 4 refine st_skip rfl rfl rfl ?_
   refine st_op (ev_pickF rfl rfl) rfl rfl rfl ?_
   refine st_op (ev_move rfl) rfl rfl rfl ?_
   iterate 5 refine st_skip rfl rfl rfl ?_
   refine st_op (ev_pickF rfl rfl) rfl rfl rfl ?_
   refine st_op (ev_assign rfl) rfl rfl rfl ?_
   refine aw_ret ?_
   have hres:(Spec.mayF r_hard r_h_term r_h_vote r_e_index r_e_term r_e_kind r_e_data)=false:=by rw[Bool.eq_iff_iff];simp only [Spec.mayF];(try simp_all [Spec.ba_empty]) <;> (try (intros;omega))
   exact⟨.bool false,rfl,by first | (rw[hres];done) | rw[← hres],hx6⟩
theorem num_Put_spec (H:Heap) (bH:Heap) (bA:Option Addr) (b:List Int) (bc:Nat) (hb:My bH H bA bc 1 (b.map u8c)) (nb:bH.next≤H.next) (lb:b.length≤1099511627756) (n:Int) (hn : -9223372036854775808≤n∧n≤9223372036854775807):∃ v H',Spec Try.prog 63 [.slice bA b.length bc,.int .i64 n] H v H'∧(∃ rA0 rc0,(v = .slice rA0 ((b++Spec.enc (Spec.zig n)).length) rc0)∧(My bH H' rA0 rc0 1 ((b++Spec.enc (Spec.zig n)).map u8c))∧((Spec.enc (Spec.zig n)).length≤10)∧(Fr (fun q=>(bH.next≤q∧q<H.next∧ZB H q 1)) H H')):=by
 refine spec_go2 E0_ok 28 (f:=63) Try.func63 rfl rfl rfl ?_
 refine aw_seq ?_
 refine aw_reg ?_
 refine st_op (ev_assign rfl) rfl rfl rfl ?_
 refine aw_seq ?_
 refine aw_reg ?_
 refine st_op (ev_move rfl) rfl rfl rfl ?_
 have hw1:0≤(IntKind.u64.wrap n)∧(IntKind.u64.wrap n)≤18446744073709551615:=wrapU64 _
 refine st_op (ev_convInt Try.underlying2 Try.underlying139 rfl) rfl rfl rfl ?_
 have hw2:0≤(Spec.shl .u64 (IntKind.u64.wrap n) 1)∧(Spec.shl .u64 (IntKind.u64.wrap n) 1)≤18446744073709551615:=wrapU64 _
 refine st_op (ev_shlV rfl rfl (by omega)) rfl rfl rfl ?_
 refine st_op (ev_assign rfl) rfl rfl rfl ?_
 iterate 2 refine aw_seq ?_
 refine aw_reg ?_
 refine st_op (ev_move rfl) rfl rfl rfl ?_
 refine st_op (ev_int rfl rfl rfl) rfl rfl rfl ?_
 by_cases hc3:(decide (n<0))=true
 ·
  refine aw_condT hc3 rfl ?_
  have hc3:=of_decide_eq_true hc3
  refine aw_reg ?_
  refine st_op (ev_move rfl) rfl rfl rfl ?_
  have hw4:0≤(Go.bits .xor .u64 (IntKind.max .u64) (Spec.shl .u64 (IntKind.u64.wrap n) 1))∧(Go.bits .xor .u64 (IntKind.max .u64) (Spec.shl .u64 (IntKind.u64.wrap n) 1))≤18446744073709551615:=bitsU64 _ _ _
  refine st_op (ev_comU rfl rfl) rfl rfl rfl ?_
  refine st_op (ev_assign rfl) rfl rfl rfl ?_
  refine aw_seq ?_
  refine aw_block ?_
  have hz5:(Go.bits .xor .u64 (IntKind.max .u64) (Spec.shl .u64 (IntKind.u64.wrap n) 1))=((Spec.zig n:Nat):Int):=by first | (rw[shl1_u64];(try rw[Spec.not_u64 (by omega) (by omega)]);unfold Spec.zig;split <;> omega) | (simp only [Spec.wrap_u64];(try rw[Spec.not_u64 (by omega) (by omega)]);unfold Spec.zig;split <;> omega)
  have hz5l:=Spec.zig_lt hn.1 hn.2
  refine aw_keep [0,5] (l':=(.cons 0 (.slice bA b.length bc) (.cons 5 (.int .u64 (Go.bits .xor .u64 (IntKind.max .u64) (Spec.shl .u64 (IntKind.u64.wrap n) 1))) .nil))) (by repeat (first | exact Up.done | refine Up.then ?_ | refine Up.inBlock ?_)) rfl ?_
  refine aw_iter (α:=Int×Option Addr×Nat×List Int×Nat×Heap) (fun a=>a.2.2.2.2.1) (fun a=>(.cons 0 (.slice a.2.1 a.2.2.2.1.length a.2.2.1) (.cons 5 (.int .u64 a.1) .nil))) (fun a=>a.2.2.2.2.2) (fun a=>(a.1=(a.2.2.2.2.1:Int))∧(a.2.2.2.1++Spec.enc a.2.2.2.2.1=b++Spec.enc (Spec.zig n))∧(a.2.2.2.2.1<18446744073709551616)∧(a.2.2.2.1.length+(Spec.enc a.2.2.2.2.1).length≤1099511627770)∧(0≤a.1∧a.1≤18446744073709551615)∧(My bH a.2.2.2.2.2 a.2.1 a.2.2.1 1 (a.2.2.2.1.map u8c))∧(Fr (fun q=>(bH.next≤q∧q<H.next∧ZB H q 1)) H a.2.2.2.2.2)) ((Go.bits .xor .u64 (IntKind.max .u64) (Spec.shl .u64 (IntKind.u64.wrap n) 1)),bA,bc,b,(Spec.zig n),H) ⟨(show(Go.bits .xor .u64 (IntKind.max .u64) (Spec.shl .u64 (IntKind.u64.wrap n) 1))=((Spec.zig n):Int) from hz5),(show b++Spec.enc (Spec.zig n)=b++Spec.enc (Spec.zig n) from rfl),(show(Spec.zig n)<18446744073709551616 from hz5l),(show b.length+(Spec.enc (Spec.zig n)).length≤1099511627770 from(by have:=Spec.enc_len10 hz5l;simp;omega)),(show 0≤(Go.bits .xor .u64 (IntKind.max .u64) (Spec.shl .u64 (IntKind.u64.wrap n) 1))∧(Go.bits .xor .u64 (IntKind.max .u64) (Spec.shl .u64 (IntKind.u64.wrap n) 1))≤18446744073709551615 from⟨by omega,by omega⟩),(show My bH H bA bc 1 (b.map u8c) from hb),(show Fr (fun q=>(bH.next≤q∧q<H.next∧ZB H q 1)) H H from(Fr.refl _ H))⟩ ?_
  rintro⟨v,A,cp,l,u,Hl6⟩ ⟨hv,hl,hu,hL,hn7,hm8,hxl9⟩ ih10
  replace hv:v=(u:Int):=hv
  replace hl:l++Spec.enc u=b++Spec.enc (Spec.zig n):=hl
  replace hu:u<18446744073709551616:=hu
  replace hL:l.length+(Spec.enc u).length≤1099511627770:=hL
  replace hn7:0≤v∧v≤18446744073709551615:=hn7
  replace hm8:My bH Hl6 A cp 1 (l.map u8c):=hm8
  replace hxl9:Fr (fun q=>(bH.next≤q∧q<H.next∧ZB H q 1)) H Hl6:=hxl9
  show aw _ _ _ (RL _ (.cons 0 (.slice A l.length cp) (.cons 5 (.int .u64 v) .nil))) Hl6 _
  have Hl6n:H.next≤Hl6.next:=hxl9.1
  have hpos:=Spec.enc_pos u
  iterate 2 refine aw_seq ?_
  refine aw_reg ?_
  refine st_op (ev_move rfl) rfl rfl rfl ?_
  refine st_op (ev_int rfl rfl rfl) rfl rfl rfl ?_
  by_cases hc11:(decide (v > 127))=true
  ·
   refine aw_condT hc11 rfl ?_
   have hc11:=of_decide_eq_true hc11
   refine aw_skip ?_
   refine aw_block ?_
   refine aw_seq ?_
   refine aw_reg ?_
   iterate 2 refine st_op (ev_move rfl) rfl rfl rfl ?_
   have hw12:0≤(IntKind.u8.wrap v)∧(IntKind.u8.wrap v)≤255:=wrapU8 _
   refine st_op (ev_convInt Try.underlying139 Try.underlying5 rfl) rfl rfl rfl ?_
   have hw13:0≤(Go.bits .or .u8 (IntKind.u8.wrap v) 128)∧(Go.bits .or .u8 (IntKind.u8.wrap v) 128)≤255:=bitsU8 _ _ _
   refine st_op (ev_bits rfl rfl rfl) rfl rfl rfl ?_
   obtain⟨b14,H15,he16,b14e,H15n_,hm18,f17⟩:=mem_lit Hl6 (xs:=([.int .u8 (Go.bits .or .u8 (IntKind.u8.wrap v) 128)]:List Value)) (m:=1) (rows := [[.int .u8 (Go.bits .or .u8 (IntKind.u8.wrap v) 128)]]) rfl eok26 (by decide) (by decide) zf5 rfl (allLen rfl) rfl
   replace hm18:My Hl6 H15 (some ⟨b14,0,none⟩) 1 1 ([(Go.bits .or .u8 (IntKind.u8.wrap v) 128)].map u8c):=hm18
   refine st_op (he16 _ _ _ _ _ _ _ _ rfl) rfl rfl rfl ?_
   have hx19:Ext Hl6 H15:=Ext.new (by omega) H15n_ f17
   have H15n:Hl6.next≤H15.next:=hx19.1
   have h20:=My.ext hm8 hx19
   obtain⟨A21,c22,H23,W24,he25,hm26,hf27⟩:=mem_append (f:=u8c) (old:=l) (new := [(Go.bits .or .u8 (IntKind.u8.wrap v) 128)]) (m:=l.length) (mx:=1) (c:=cp) (by first | rfl | simp) (by first | rfl | simp) eok26 (by decide) hm8 h20 (by omega) (((My.row hm18)).srcF (by decide) (by first | rfl | simp)) rfl u8c_len u8c_one (by first | omega | (simp only [List.length_append,List.length_cons,List.length_nil,List.length_map,List.length_set,List.length_replicate,Spec.bytesOf_length];omega) | (simp;omega)) (by first | omega | (simp only [List.length_append,List.length_cons,List.length_nil,List.length_map,List.length_set,List.length_replicate,Spec.bytesOf_length];omega) | (simp;omega))
   refine st_op (he25 _ _ _ _ _ _ _ _ _ _ rfl rfl isrow26) rfl rfl rfl ?_
   have H23n:H15.next≤H23.next:=hf27.1
   refine st_op (ev_assign rfl) rfl rfl rfl ?_
   refine aw_reg ?_
   refine st_op (ev_move rfl) rfl rfl rfl ?_
   refine st_op (ev_shr (a:=v) (c:=128) rfl rfl (by decide) (by decide)) rfl rfl rfl ?_
   refine st_op (ev_assign rfl) rfl rfl rfl ?_
   refine aw_keep [0,5] (l':=(.cons 0 (.slice A21 ((l ++ [(Go.bits .or .u8 (IntKind.u8.wrap v) 128)]).length) c22) (.cons 5 (.int .u64 (v / 128)) .nil))) (by repeat (first | exact Up.done | refine Up.then ?_ | refine Up.inBlock ?_)) rfl ?_
   exact ih10 ((v / 128),A21,c22,(l ++ [(Go.bits .or .u8 (IntKind.u8.wrap v) 128)]),(u / 128),H23) ⟨(show(v / 128)=((u / 128):Int) from(by subst hv;omega)),(show(l ++ [(Go.bits .or .u8 (IntKind.u8.wrap v) 128)])++Spec.enc (u / 128)=b++Spec.enc (Spec.zig n) from(by rw[← hl,Spec.enc_step (u:=u) (by omega),List.append_assoc];congr 2;subst hv;rw[List.cons_append,List.nil_append];congr 1 <;> first | (rw[IntKind.wrap_u8,Spec.or128 (by omega) (by omega)];omega) | (rw[IntKind.wrap_u8];omega) | omega)),(show(u / 128)<18446744073709551616 from(by omega)),(show(l ++ [(Go.bits .or .u8 (IntKind.u8.wrap v) 128)]).length+(Spec.enc (u / 128)).length≤1099511627770 from(by rw[Spec.enc_step (u:=u) (by omega),List.length_cons] at hL;rw[List.length_append,List.length_singleton];omega)),(show 0≤(v / 128)∧(v / 128)≤18446744073709551615 from⟨by omega,by omega⟩),(show My bH H23 A21 c22 1 ((l ++ [(Go.bits .or .u8 (IntKind.u8.wrap v) 128)]).map u8c) from hm26),(show Fr (fun q=>(bH.next≤q∧q<H.next∧ZB H q 1)) H H23 from(Fr.transG (Fr.trans (Fr.transG (Fr.refl (fun q=>(bH.next≤q∧q<H.next∧ZB H q 1)) H) hxl9 (fun q hq hE e=>(⟨by omega,by omega,ZB.back hE e.2.2⟩))) (hx19.fr fun _=>False) (fun q hq (e:False)=>e.elim)) hf27 (fun q hq hE e=>(⟨by omega,by omega,ZB.back hE e.2.2⟩))))⟩ (by simp only;omega)
  ·
   rw[Bool.not_eq_true] at hc11;refine aw_condF hc11 rfl ?_
   have hc11:=of_decide_eq_false hc11
   refine aw_exit ?_
   refine aw_seq ?_
   refine aw_reg ?_
   iterate 2 refine st_op (ev_move rfl) rfl rfl rfl ?_
   refine st_op (ev_convI Try.underlying139 Try.underlying5 rfl (wrU8 (by omega) (by omega))) rfl rfl rfl ?_
   obtain⟨b28,H29,he30,b28e,H29n_,hm32,f31⟩:=mem_lit Hl6 (xs:=([.int .u8 v]:List Value)) (m:=1) (rows := [[.int .u8 v]]) rfl eok26 (by decide) (by decide) zf5 rfl (allLen rfl) rfl
   replace hm32:My Hl6 H29 (some ⟨b28,0,none⟩) 1 1 ([v].map u8c):=hm32
   refine st_op (he30 _ _ _ _ _ _ _ _ rfl) rfl rfl rfl ?_
   have hx33:Ext Hl6 H29:=Ext.new (by omega) H29n_ f31
   have H29n:Hl6.next≤H29.next:=hx33.1
   have h34:=My.ext hm8 hx33
   obtain⟨A35,c36,H37,W38,he39,hm40,hf41⟩:=mem_append (f:=u8c) (old:=l) (new := [v]) (m:=l.length) (mx:=1) (c:=cp) (by first | rfl | simp) (by first | rfl | simp) eok26 (by decide) hm8 h34 (by omega) (((My.row hm32)).srcF (by decide) (by first | rfl | simp)) rfl u8c_len u8c_one (by first | omega | (simp only [List.length_append,List.length_cons,List.length_nil,List.length_map,List.length_set,List.length_replicate,Spec.bytesOf_length];omega) | (simp;omega)) (by first | omega | (simp only [List.length_append,List.length_cons,List.length_nil,List.length_map,List.length_set,List.length_replicate,Spec.bytesOf_length];omega) | (simp;omega))
   refine st_op (he39 _ _ _ _ _ _ _ _ _ _ rfl rfl isrow26) rfl rfl rfl ?_
   have H37n:H29.next≤H37.next:=hf41.1
   refine st_op (ev_assign rfl) rfl rfl rfl ?_
   refine aw_ret ?_
   have hres:(b++Spec.enc (Spec.zig n))=(l ++ [v]):=by rw[← hl,Spec.enc_small (u:=u) (by omega)];congr 2;subst hv;first | done | omega | (rw[IntKind.wrap_u8];omega)
   exact⟨.slice A35 ((l ++ [v]).length) c36,rfl,A35,c36,by first | (rw[hres];first | done | rfl | simp;done) | rfl,(by rw[hres];exact hm40),(by exact Spec.zig_i64 hn),(Fr.transG (Fr.trans (Fr.transG (Fr.refl (fun q=>(bH.next≤q∧q<H.next∧ZB H q 1)) H) hxl9 (fun q hq hE e=>(⟨by omega,by omega,ZB.back hE e.2.2⟩))) (hx33.fr fun _=>False) (fun q hq (e:False)=>e.elim)) hf41 (fun q hq hE e=>(⟨by omega,by omega,ZB.back hE e.2.2⟩)))⟩
 ·
  rw[Bool.not_eq_true] at hc3;refine aw_condF hc3 rfl ?_
  have hc3:=of_decide_eq_false hc3
  refine aw_skip ?_
  refine aw_seq ?_
  refine aw_block ?_
  have hz42:(Spec.shl .u64 (IntKind.u64.wrap n) 1)=((Spec.zig n:Nat):Int):=by first | (rw[shl1_u64];(try rw[Spec.not_u64 (by omega) (by omega)]);unfold Spec.zig;split <;> omega) | (simp only [Spec.wrap_u64];(try rw[Spec.not_u64 (by omega) (by omega)]);unfold Spec.zig;split <;> omega)
  have hz42l:=Spec.zig_lt hn.1 hn.2
  refine aw_keep [0,5] (l':=(.cons 0 (.slice bA b.length bc) (.cons 5 (.int .u64 (Spec.shl .u64 (IntKind.u64.wrap n) 1)) .nil))) (by repeat (first | exact Up.done | refine Up.then ?_ | refine Up.inBlock ?_)) rfl ?_
  refine aw_iter (α:=Int×Option Addr×Nat×List Int×Nat×Heap) (fun a=>a.2.2.2.2.1) (fun a=>(.cons 0 (.slice a.2.1 a.2.2.2.1.length a.2.2.1) (.cons 5 (.int .u64 a.1) .nil))) (fun a=>a.2.2.2.2.2) (fun a=>(a.1=(a.2.2.2.2.1:Int))∧(a.2.2.2.1++Spec.enc a.2.2.2.2.1=b++Spec.enc (Spec.zig n))∧(a.2.2.2.2.1<18446744073709551616)∧(a.2.2.2.1.length+(Spec.enc a.2.2.2.2.1).length≤1099511627770)∧(0≤a.1∧a.1≤18446744073709551615)∧(My bH a.2.2.2.2.2 a.2.1 a.2.2.1 1 (a.2.2.2.1.map u8c))∧(Fr (fun q=>(bH.next≤q∧q<H.next∧ZB H q 1)) H a.2.2.2.2.2)) ((Spec.shl .u64 (IntKind.u64.wrap n) 1),bA,bc,b,(Spec.zig n),H) ⟨(show(Spec.shl .u64 (IntKind.u64.wrap n) 1)=((Spec.zig n):Int) from hz42),(show b++Spec.enc (Spec.zig n)=b++Spec.enc (Spec.zig n) from rfl),(show(Spec.zig n)<18446744073709551616 from hz42l),(show b.length+(Spec.enc (Spec.zig n)).length≤1099511627770 from(by have:=Spec.enc_len10 hz42l;simp;omega)),(show 0≤(Spec.shl .u64 (IntKind.u64.wrap n) 1)∧(Spec.shl .u64 (IntKind.u64.wrap n) 1)≤18446744073709551615 from⟨by omega,by omega⟩),(show My bH H bA bc 1 (b.map u8c) from hb),(show Fr (fun q=>(bH.next≤q∧q<H.next∧ZB H q 1)) H H from(Fr.refl _ H))⟩ ?_
  rintro⟨v,A,cp,l,u,Hl43⟩ ⟨hv,hl,hu,hL,hn44,hm45,hxl46⟩ ih47
  replace hv:v=(u:Int):=hv
  replace hl:l++Spec.enc u=b++Spec.enc (Spec.zig n):=hl
  replace hu:u<18446744073709551616:=hu
  replace hL:l.length+(Spec.enc u).length≤1099511627770:=hL
  replace hn44:0≤v∧v≤18446744073709551615:=hn44
  replace hm45:My bH Hl43 A cp 1 (l.map u8c):=hm45
  replace hxl46:Fr (fun q=>(bH.next≤q∧q<H.next∧ZB H q 1)) H Hl43:=hxl46
  show aw _ _ _ (RL _ (.cons 0 (.slice A l.length cp) (.cons 5 (.int .u64 v) .nil))) Hl43 _
  have Hl43n:H.next≤Hl43.next:=hxl46.1
  have hpos:=Spec.enc_pos u
  iterate 2 refine aw_seq ?_
  refine aw_reg ?_
  refine st_op (ev_move rfl) rfl rfl rfl ?_
  refine st_op (ev_int rfl rfl rfl) rfl rfl rfl ?_
  by_cases hc48:(decide (v > 127))=true
  ·
   refine aw_condT hc48 rfl ?_
   have hc48:=of_decide_eq_true hc48
   refine aw_skip ?_
   refine aw_block ?_
   refine aw_seq ?_
   refine aw_reg ?_
   iterate 2 refine st_op (ev_move rfl) rfl rfl rfl ?_
   have hw49:0≤(IntKind.u8.wrap v)∧(IntKind.u8.wrap v)≤255:=wrapU8 _
   refine st_op (ev_convInt Try.underlying139 Try.underlying5 rfl) rfl rfl rfl ?_
   have hw50:0≤(Go.bits .or .u8 (IntKind.u8.wrap v) 128)∧(Go.bits .or .u8 (IntKind.u8.wrap v) 128)≤255:=bitsU8 _ _ _
   refine st_op (ev_bits rfl rfl rfl) rfl rfl rfl ?_
   obtain⟨b51,H52,he53,b51e,H52n_,hm55,f54⟩:=mem_lit Hl43 (xs:=([.int .u8 (Go.bits .or .u8 (IntKind.u8.wrap v) 128)]:List Value)) (m:=1) (rows := [[.int .u8 (Go.bits .or .u8 (IntKind.u8.wrap v) 128)]]) rfl eok26 (by decide) (by decide) zf5 rfl (allLen rfl) rfl
   replace hm55:My Hl43 H52 (some ⟨b51,0,none⟩) 1 1 ([(Go.bits .or .u8 (IntKind.u8.wrap v) 128)].map u8c):=hm55
   refine st_op (he53 _ _ _ _ _ _ _ _ rfl) rfl rfl rfl ?_
   have hx56:Ext Hl43 H52:=Ext.new (by omega) H52n_ f54
   have H52n:Hl43.next≤H52.next:=hx56.1
   have h57:=My.ext hm45 hx56
   obtain⟨A58,c59,H60,W61,he62,hm63,hf64⟩:=mem_append (f:=u8c) (old:=l) (new := [(Go.bits .or .u8 (IntKind.u8.wrap v) 128)]) (m:=l.length) (mx:=1) (c:=cp) (by first | rfl | simp) (by first | rfl | simp) eok26 (by decide) hm45 h57 (by omega) (((My.row hm55)).srcF (by decide) (by first | rfl | simp)) rfl u8c_len u8c_one (by first | omega | (simp only [List.length_append,List.length_cons,List.length_nil,List.length_map,List.length_set,List.length_replicate,Spec.bytesOf_length];omega) | (simp;omega)) (by first | omega | (simp only [List.length_append,List.length_cons,List.length_nil,List.length_map,List.length_set,List.length_replicate,Spec.bytesOf_length];omega) | (simp;omega))
   refine st_op (he62 _ _ _ _ _ _ _ _ _ _ rfl rfl isrow26) rfl rfl rfl ?_
   have H60n:H52.next≤H60.next:=hf64.1
   refine st_op (ev_assign rfl) rfl rfl rfl ?_
   refine aw_reg ?_
   refine st_op (ev_move rfl) rfl rfl rfl ?_
   refine st_op (ev_shr (a:=v) (c:=128) rfl rfl (by decide) (by decide)) rfl rfl rfl ?_
   refine st_op (ev_assign rfl) rfl rfl rfl ?_
   refine aw_keep [0,5] (l':=(.cons 0 (.slice A58 ((l ++ [(Go.bits .or .u8 (IntKind.u8.wrap v) 128)]).length) c59) (.cons 5 (.int .u64 (v / 128)) .nil))) (by repeat (first | exact Up.done | refine Up.then ?_ | refine Up.inBlock ?_)) rfl ?_
   exact ih47 ((v / 128),A58,c59,(l ++ [(Go.bits .or .u8 (IntKind.u8.wrap v) 128)]),(u / 128),H60) ⟨(show(v / 128)=((u / 128):Int) from(by subst hv;omega)),(show(l ++ [(Go.bits .or .u8 (IntKind.u8.wrap v) 128)])++Spec.enc (u / 128)=b++Spec.enc (Spec.zig n) from(by rw[← hl,Spec.enc_step (u:=u) (by omega),List.append_assoc];congr 2;subst hv;rw[List.cons_append,List.nil_append];congr 1 <;> first | (rw[IntKind.wrap_u8,Spec.or128 (by omega) (by omega)];omega) | (rw[IntKind.wrap_u8];omega) | omega)),(show(u / 128)<18446744073709551616 from(by omega)),(show(l ++ [(Go.bits .or .u8 (IntKind.u8.wrap v) 128)]).length+(Spec.enc (u / 128)).length≤1099511627770 from(by rw[Spec.enc_step (u:=u) (by omega),List.length_cons] at hL;rw[List.length_append,List.length_singleton];omega)),(show 0≤(v / 128)∧(v / 128)≤18446744073709551615 from⟨by omega,by omega⟩),(show My bH H60 A58 c59 1 ((l ++ [(Go.bits .or .u8 (IntKind.u8.wrap v) 128)]).map u8c) from hm63),(show Fr (fun q=>(bH.next≤q∧q<H.next∧ZB H q 1)) H H60 from(Fr.transG (Fr.trans (Fr.transG (Fr.refl (fun q=>(bH.next≤q∧q<H.next∧ZB H q 1)) H) hxl46 (fun q hq hE e=>(⟨by omega,by omega,ZB.back hE e.2.2⟩))) (hx56.fr fun _=>False) (fun q hq (e:False)=>e.elim)) hf64 (fun q hq hE e=>(⟨by omega,by omega,ZB.back hE e.2.2⟩))))⟩ (by simp only;omega)
  ·
   rw[Bool.not_eq_true] at hc48;refine aw_condF hc48 rfl ?_
   have hc48:=of_decide_eq_false hc48
   refine aw_exit ?_
   refine aw_seq ?_
   refine aw_reg ?_
   iterate 2 refine st_op (ev_move rfl) rfl rfl rfl ?_
   refine st_op (ev_convI Try.underlying139 Try.underlying5 rfl (wrU8 (by omega) (by omega))) rfl rfl rfl ?_
   obtain⟨b65,H66,he67,b65e,H66n_,hm69,f68⟩:=mem_lit Hl43 (xs:=([.int .u8 v]:List Value)) (m:=1) (rows := [[.int .u8 v]]) rfl eok26 (by decide) (by decide) zf5 rfl (allLen rfl) rfl
   replace hm69:My Hl43 H66 (some ⟨b65,0,none⟩) 1 1 ([v].map u8c):=hm69
   refine st_op (he67 _ _ _ _ _ _ _ _ rfl) rfl rfl rfl ?_
   have hx70:Ext Hl43 H66:=Ext.new (by omega) H66n_ f68
   have H66n:Hl43.next≤H66.next:=hx70.1
   have h71:=My.ext hm45 hx70
   obtain⟨A72,c73,H74,W75,he76,hm77,hf78⟩:=mem_append (f:=u8c) (old:=l) (new := [v]) (m:=l.length) (mx:=1) (c:=cp) (by first | rfl | simp) (by first | rfl | simp) eok26 (by decide) hm45 h71 (by omega) (((My.row hm69)).srcF (by decide) (by first | rfl | simp)) rfl u8c_len u8c_one (by first | omega | (simp only [List.length_append,List.length_cons,List.length_nil,List.length_map,List.length_set,List.length_replicate,Spec.bytesOf_length];omega) | (simp;omega)) (by first | omega | (simp only [List.length_append,List.length_cons,List.length_nil,List.length_map,List.length_set,List.length_replicate,Spec.bytesOf_length];omega) | (simp;omega))
   refine st_op (he76 _ _ _ _ _ _ _ _ _ _ rfl rfl isrow26) rfl rfl rfl ?_
   have H74n:H66.next≤H74.next:=hf78.1
   refine st_op (ev_assign rfl) rfl rfl rfl ?_
   refine aw_ret ?_
   have hres:(b++Spec.enc (Spec.zig n))=(l ++ [v]):=by rw[← hl,Spec.enc_small (u:=u) (by omega)];congr 2;subst hv;first | done | omega | (rw[IntKind.wrap_u8];omega)
   exact⟨.slice A72 ((l ++ [v]).length) c73,rfl,A72,c73,by first | (rw[hres];first | done | rfl | simp;done) | rfl,(by rw[hres];exact hm77),(by exact Spec.zig_i64 hn),(Fr.transG (Fr.trans (Fr.transG (Fr.refl (fun q=>(bH.next≤q∧q<H.next∧ZB H q 1)) H) hxl46 (fun q hq hE e=>(⟨by omega,by omega,ZB.back hE e.2.2⟩))) (hx70.fr fun _=>False) (fun q hq (e:False)=>e.elim)) hf78 (fun q hq hE e=>(⟨by omega,by omega,ZB.back hE e.2.2⟩)))⟩
theorem crc_More_spec (H:Heap) (s:Int) (hs:0≤s∧s≤4294967295) (bA:Option Addr) (b:List Int) (bc:Nat) (hb:Row H bA bc 1 (b.map u8c)) (cb:b.length≤bc) (lb:b.length≤1099511627776) (bb:Spec.Bytes b):∃ v H',Spec Try.prog 72 [.int .u32 s,.slice bA b.length bc] H v H'∧((v = .int .u32 ((Spec.crcMore s.toNat b:Nat):Int))∧(0≤((Spec.crcMore s.toNat b:Nat):Int)∧((Spec.crcMore s.toNat b:Nat):Int)≤4294967295)∧(Ext H H')):=by
 refine spec_go2 E0_ok 33 (f:=72) Try.func72 rfl rfl rfl ?_
 refine aw_seq ?_
 refine aw_reg ?_
 refine st_op (ev_assign rfl) rfl rfl rfl ?_
 refine aw_seq ?_
 refine aw_reg ?_
 refine st_op (ev_move rfl) rfl rfl rfl ?_
 have hw1:0≤(Go.bits .xor .u32 (IntKind.max .u32) s)∧(Go.bits .xor .u32 (IntKind.max .u32) s)≤4294967295:=bitsU32 _ _ _
 refine st_op (ev_comU rfl rfl) rfl rfl rfl ?_
 refine st_op (ev_assign rfl) rfl rfl rfl ?_
 iterate 2 refine aw_seq ?_
 refine aw_reg ?_
 refine st_op (ev_move rfl) rfl rfl rfl ?_
 refine st_op (ev_lenSl rfl Try.underlying26) rfl rfl rfl ?_
 refine st_op (ev_move rfl) rfl rfl rfl ?_
 refine aw_block ?_
 refine aw_keep [5,10,11,12] (l':=(.cons 5 (.int .u32 (Go.bits .xor .u32 (IntKind.max .u32) s)) (.cons 10 (.slice bA b.length bc) (.cons 11 (.int .i64 (b.length:Int)) (.cons 12 (.int .i64 0) .nil))))) (by repeat (first | exact Up.done | refine Up.then ?_ | refine Up.inBlock ?_)) rfl ?_
 refine aw_iter (α:=Nat×Int×Heap) (fun a=>b.length - a.1) (fun a=>(.cons 5 (.int .u32 a.2.1) (.cons 10 (.slice bA b.length bc) (.cons 11 (.int .i64 (b.length:Int)) (.cons 12 (.int .i64 (a.1:Int)) .nil))))) (fun a=>a.2.2) (fun a=>(a.1≤b.length)∧(Spec.crcRun (4294967295 - s.toNat) b=Spec.crcRun a.2.1.toNat (b.drop a.1))∧(0≤a.2.1∧a.2.1≤4294967295)∧(Ext H a.2.2)) (0,(Go.bits .xor .u32 (IntKind.max .u32) s),H) ⟨(show 0≤b.length from Nat.zero_le _),(show Spec.crcRun (4294967295 - s.toNat) b=Spec.crcRun (Go.bits .xor .u32 (IntKind.max .u32) s).toNat (b.drop 0) from(by first | rfl | (rw[Spec.not_u32 hs.1 (by omega),List.drop_zero];congr 1;omega))),(show 0≤(Go.bits .xor .u32 (IntKind.max .u32) s)∧(Go.bits .xor .u32 (IntKind.max .u32) s)≤4294967295 from⟨by omega,by omega⟩),(show Ext H H from(Ext.refl H))⟩ ?_
 rintro⟨i,x,Hl2⟩ ⟨hi,hx,hn3,hxl4⟩ ih5
 replace hi:i≤b.length:=hi
 replace hx:Spec.crcRun (4294967295 - s.toNat) b=Spec.crcRun x.toNat (b.drop i):=hx
 replace hn3:0≤x∧x≤4294967295:=hn3
 replace hxl4:Ext H Hl2:=hxl4
 show aw _ _ _ (RL _ (.cons 5 (.int .u32 x) (.cons 10 (.slice bA b.length bc) (.cons 11 (.int .i64 (b.length:Int)) (.cons 12 (.int .i64 (i:Int)) .nil))))) Hl2 _
 have Hl2n:H.next≤Hl2.next:=hxl4.1
 refine aw_seq ?_
 refine aw_reg ?_
 refine st_op (ev_int rfl rfl rfl) rfl rfl rfl ?_
 refine aw_seq ?_
 by_cases hc6:(decide ((i:Int)<(b.length:Int)))=true
 ·
  refine aw_condT hc6 rfl ?_
  have hc6:=of_decide_eq_true hc6
  refine aw_skip ?_
  refine aw_seq ?_
  refine aw_block ?_
  refine aw_seq ?_
  refine aw_reg ?_
  have h7:=Row.ext hb hxl4
  have hi8:0≤((i:Int):Int):=by omega
  have hi9:((i:Int):Int)<((b.length:Nat):Int):=by omega
  obtain⟨x10,hx11⟩:∃ e,b[i]?=some e:=⟨_,List.getElem?_eq_getElem (by omega)⟩
  have x10b:0≤x10∧x10<256:=((by assumption):Spec.Bytes b) _ (List.mem_of_getElem? hx11)
  refine st_op (ev_at rfl rfl h7 (getMap u8c hx11) (by first | rfl | omega | simp) hi8 hi9 el26) rfl rfl rfl ?_
  refine st_op (ev_atL rfl h7 (getMap u8c hx11) one5 rfl) rfl rfl rfl ?_
  refine st_op (ev_assign rfl) rfl rfl rfl ?_
  refine aw_seq ?_
  refine aw_reg ?_
  iterate 2 refine st_op (ev_move rfl) rfl rfl rfl ?_
  refine st_op (ev_convI Try.underlying5 Try.underlying133 rfl (wrU32 (by omega) (by omega))) rfl rfl rfl ?_
  have hw12:0≤(Go.bits .xor .u32 x x10)∧(Go.bits .xor .u32 x x10)≤4294967295:=bitsU32 _ _ _
  refine st_op (ev_bits rfl rfl rfl) rfl rfl rfl ?_
  refine st_op (ev_assign rfl) rfl rfl rfl ?_
  refine aw_seq ?_
  refine aw_reg ?_
  refine st_op (ev_move rfl) rfl rfl rfl ?_
  refine aw_block ?_
  refine aw_keep [5,10,11,12,20] (l':=(.cons 5 (.int .u32 (Go.bits .xor .u32 x x10)) (.cons 10 (.slice bA b.length bc) (.cons 11 (.int .i64 (b.length:Int)) (.cons 12 (.int .i64 (i:Int)) (.cons 20 (.int .i64 0) .nil)))))) (by repeat (first | exact Up.done | refine Up.then ?_ | refine Up.inBlock ?_)) rfl ?_
  refine aw_iter (α:=Nat×Int×Heap) (fun a=>8 - a.1) (fun a=>(.cons 5 (.int .u32 a.2.1) (.cons 10 (.slice bA b.length bc) (.cons 11 (.int .i64 (b.length:Int)) (.cons 12 (.int .i64 (i:Int)) (.cons 20 (.int .i64 (a.1:Int)) .nil)))))) (fun a=>a.2.2) (fun a=>(a.1≤8)∧(Spec.crcSteps 8 (Go.bits .xor .u32 x x10).toNat=Spec.crcSteps (8 - a.1) a.2.1.toNat)∧(0≤a.2.1∧a.2.1≤4294967295)∧(Ext Hl2 a.2.2)) (0,(Go.bits .xor .u32 x x10),Hl2) ⟨(show 0≤8 from(by decide)),(show Spec.crcSteps 8 (Go.bits .xor .u32 x x10).toNat=Spec.crcSteps (8 - 0) (Go.bits .xor .u32 x x10).toNat from rfl),(show 0≤(Go.bits .xor .u32 x x10)∧(Go.bits .xor .u32 x x10)≤4294967295 from⟨by omega,by omega⟩),(show Ext Hl2 Hl2 from(Ext.refl Hl2))⟩ ?_
  rintro⟨j,y,Hl13⟩ ⟨hj,hy,hn14,hxl15⟩ ih16
  replace hj:j≤8:=hj
  replace hy:Spec.crcSteps 8 (Go.bits .xor .u32 x x10).toNat=Spec.crcSteps (8 - j) y.toNat:=hy
  replace hn14:0≤y∧y≤4294967295:=hn14
  replace hxl15:Ext Hl2 Hl13:=hxl15
  show aw _ _ _ (RL _ (.cons 5 (.int .u32 y) (.cons 10 (.slice bA b.length bc) (.cons 11 (.int .i64 (b.length:Int)) (.cons 12 (.int .i64 (i:Int)) (.cons 20 (.int .i64 (j:Int)) .nil)))))) Hl13 _
  have Hl13n:Hl2.next≤Hl13.next:=hxl15.1
  have hn:0≤y∧y≤4294967295:=by omega
  refine aw_seq ?_
  refine aw_reg ?_
  refine st_op (ev_int rfl rfl rfl) rfl rfl rfl ?_
  refine aw_seq ?_
  by_cases hc17:(decide ((j:Int)<8))=true
  ·
   refine aw_condT hc17 rfl ?_
   have hc17:=of_decide_eq_true hc17
   refine aw_skip ?_
   refine aw_seq ?_
   refine aw_block ?_
   refine aw_reg ?_
   refine st_op (ev_move rfl) rfl rfl rfl ?_
   refine st_op (ev_shr (a:=y) (c:=2) rfl rfl (by decide) (by decide)) rfl rfl rfl ?_
   refine st_op (ev_move rfl) rfl rfl rfl ?_
   have hw18:0≤(Go.bits .and .u32 y 1)∧(Go.bits .and .u32 y 1)≤4294967295:=bitsU32 _ _ _
   refine st_op (ev_bits rfl rfl rfl) rfl rfl rfl ?_
   have hw19:0≤(IntKind.u32.wrap (0 - (Go.bits .and .u32 y 1)))∧(IntKind.u32.wrap (0 - (Go.bits .and .u32 y 1)))≤4294967295:=wrapU32 _
   refine st_op (ev_neg rfl) rfl rfl rfl ?_
   have hw20:0≤(Go.bits .and .u32 3988292384 (IntKind.u32.wrap (0 - (Go.bits .and .u32 y 1))))∧(Go.bits .and .u32 3988292384 (IntKind.u32.wrap (0 - (Go.bits .and .u32 y 1))))≤4294967295:=bitsU32 _ _ _
   refine st_op (ev_bits rfl rfl rfl) rfl rfl rfl ?_
   have hw21:0≤(Go.bits .xor .u32 (y / 2) (Go.bits .and .u32 3988292384 (IntKind.u32.wrap (0 - (Go.bits .and .u32 y 1)))))∧(Go.bits .xor .u32 (y / 2) (Go.bits .and .u32 3988292384 (IntKind.u32.wrap (0 - (Go.bits .and .u32 y 1)))))≤4294967295:=bitsU32 _ _ _
   refine st_op (ev_bits rfl rfl rfl) rfl rfl rfl ?_
   refine st_op (ev_assign rfl) rfl rfl rfl ?_
   refine aw_reg ?_
   refine st_op (ev_int64 (c:=(j:Int)+1) rfl rfl rfl (by omega) (by omega)) rfl rfl rfl ?_
   refine st_op (ev_move rfl) rfl rfl rfl ?_
   refine aw_keep [5,10,11,12,20] (l':=(.cons 5 (.int .u32 (Go.bits .xor .u32 (y / 2) (Go.bits .and .u32 3988292384 (IntKind.u32.wrap (0 - (Go.bits .and .u32 y 1)))))) (.cons 10 (.slice bA b.length bc) (.cons 11 (.int .i64 (b.length:Int)) (.cons 12 (.int .i64 (i:Int)) (.cons 20 (.int .i64 ((j:Int)+1)) .nil)))))) (by repeat (first | exact Up.done | refine Up.then ?_ | refine Up.inBlock ?_)) rfl ?_
   exact ih16 (j+1,(Go.bits .xor .u32 (y / 2) (Go.bits .and .u32 3988292384 (IntKind.u32.wrap (0 - (Go.bits .and .u32 y 1))))),Hl13) ⟨(show(j+1)≤8 from(by omega)),(show Spec.crcSteps 8 (Go.bits .xor .u32 x x10).toNat=Spec.crcSteps (8 - (j+1)) (Go.bits .xor .u32 (y / 2) (Go.bits .and .u32 3988292384 (IntKind.u32.wrap (0 - (Go.bits .and .u32 y 1))))).toNat from(by rw[hy,show 8 - j=(8 - (j+1))+1 by omega];show Spec.crcSteps (8 - (j+1)) (Spec.crcStep y.toNat)=_;congr 1;rw[Spec.crc_one hn];rfl)),(show 0≤(Go.bits .xor .u32 (y / 2) (Go.bits .and .u32 3988292384 (IntKind.u32.wrap (0 - (Go.bits .and .u32 y 1)))))∧(Go.bits .xor .u32 (y / 2) (Go.bits .and .u32 3988292384 (IntKind.u32.wrap (0 - (Go.bits .and .u32 y 1)))))≤4294967295 from⟨by omega,by omega⟩),(show Ext Hl2 Hl13 from hxl15)⟩ (by simp only;omega)
  ·
   rw[Bool.not_eq_true] at hc17;refine aw_condF hc17 rfl ?_
   have hc17:=of_decide_eq_false hc17
   refine aw_exit ?_
   refine aw_reg ?_
   refine st_op (ev_int64 (c:=(i:Int)+1) rfl rfl rfl (by omega) (by omega)) rfl rfl rfl ?_
   refine st_op (ev_move rfl) rfl rfl rfl ?_
   have hx22:Ext H Hl13:=(Ext.trans hxl4 hxl15)
   refine aw_keep [5,10,11,12] (l':=(.cons 5 (.int .u32 y) (.cons 10 (.slice bA b.length bc) (.cons 11 (.int .i64 (b.length:Int)) (.cons 12 (.int .i64 ((i:Int)+1)) .nil))))) (by repeat (first | exact Up.done | refine Up.then ?_ | refine Up.inBlock ?_)) rfl ?_
   exact ih5 (i+1,y,Hl13) ⟨(show(i+1)≤b.length from(by omega)),(show Spec.crcRun (4294967295 - s.toNat) b=Spec.crcRun y.toNat (b.drop (i+1)) from(by rw[hx,drop_at hx11,Spec.crc_more (by omega) x10b,hy,show 8 - j=0 by omega];rfl)),(show 0≤y∧y≤4294967295 from⟨by omega,by omega⟩),(show Ext H Hl13 from hx22)⟩ (by simp only;omega)
 ·
  rw[Bool.not_eq_true] at hc6;refine aw_condF hc6 rfl ?_
  have hc6:=of_decide_eq_false hc6
  refine aw_exit ?_
  refine aw_seq ?_
  refine aw_reg ?_
  refine st_op (ev_move rfl) rfl rfl rfl ?_
  have hw23:0≤(Go.bits .xor .u32 (IntKind.max .u32) x)∧(Go.bits .xor .u32 (IntKind.max .u32) x)≤4294967295:=bitsU32 _ _ _
  refine st_op (ev_comU rfl rfl) rfl rfl rfl ?_
  refine st_op (ev_assign rfl) rfl rfl rfl ?_
  refine aw_ret ?_
  have hres:((Spec.crcMore s.toNat b:Nat):Int)=(Go.bits .xor .u32 (IntKind.max .u32) x):=by exact Spec.crc_fin hs (by omega) (by rw[hx,List.drop_eq_nil_of_le (by omega)];rfl)
  exact⟨.int .u32 (Go.bits .xor .u32 (IntKind.max .u32) x),rfl,by first | (rw[hres];done) | rw[← hres],(by exact⟨by omega,by have:=Spec.crcMore_lt s.toNat b;omega⟩),hxl4⟩
theorem crc_Sum_spec (H:Heap) (bA:Option Addr) (b:List Int) (bc:Nat) (hb:Row H bA bc 1 (b.map u8c)) (cb:b.length≤bc) (lb:b.length≤1099511627776) (bb:Spec.Bytes b):∃ v H',Spec Try.prog 73 [.slice bA b.length bc] H v H'∧((v = .int .u32 ((Spec.crcMore 0 b:Nat):Int))∧(0≤((Spec.crcMore 0 b:Nat):Int)∧((Spec.crcMore 0 b:Nat):Int)≤4294967295)∧(Ext H H')):=by
 refine spec_go1 E0_ok 5 (f:=73) Try.func73 rfl rfl rfl ?_
 refine aw_seq ?_
 refine aw_reg ?_
 refine st_op (ev_assign rfl) rfl rfl rfl ?_
 refine aw_seq ?_
 refine aw_reg ?_
 refine st_op (ev_move rfl) rfl rfl rfl ?_
 refine st_call rfl rfl rfl ent72 rfl rfl rfl ?_
 obtain⟨_,H2,hs1,hs1v,hq4,hx3⟩:=crc_More_spec H 0 (by decide) bA b bc hb cb (by omega) (by assumption)
 rw[hs1v] at hs1;clear hs1v
 refine⟨_,H2,hs1,?_⟩
 have H2n:H.next≤H2.next:=hx3.1
 refine st_op (ev_assign rfl) rfl rfl rfl ?_
 refine aw_ret ?_
 have hres:((Spec.crcMore 0 b:Nat):Int)=((Spec.crcMore (0:Int).toNat b:Nat):Int):=by rfl
 exact⟨.int .u32 ((Spec.crcMore (0:Int).toNat b:Nat):Int),rfl,by first | (rw[hres];done) | rw[← hres],(by exact⟨by omega,by have:=Spec.crcMore_lt 0 b;omega⟩),hx3⟩
theorem num_Four_spec (H:Heap) (s:Int) (hs:0≤s∧s≤4294967295):∃ v H',Spec Try.prog 71 [.int .u32 s] H v H'∧(∃ rA0 rc0,(v = .slice rA0 ((Spec.four s.toNat).length) rc0)∧(My H H' rA0 rc0 1 ((Spec.four s.toNat).map u8c))∧(((Spec.four s.toNat)).length=4)∧(Ext H H')):=by
 refine spec_go1 E0_ok 15 (f:=71) Try.func71 rfl rfl rfl ?_
 refine aw_seq ?_
 refine aw_reg ?_
 refine st_op (ev_assign rfl) rfl rfl rfl ?_
 refine aw_seq ?_
 refine aw_reg ?_
 refine st_op (ev_move rfl) rfl rfl rfl ?_
 refine st_op (ev_shr (a:=s) (c:=16777216) rfl rfl (by decide) (by decide)) rfl rfl rfl ?_
 refine st_op (ev_convI Try.underlying133 Try.underlying5 rfl (wrU8 (by omega) (by omega))) rfl rfl rfl ?_
 refine st_op (ev_move rfl) rfl rfl rfl ?_
 refine st_op (ev_shr (a:=s) (c:=65536) rfl rfl (by decide) (by decide)) rfl rfl rfl ?_
 have hw1:0≤(IntKind.u8.wrap (s / 65536))∧(IntKind.u8.wrap (s / 65536))≤255:=wrapU8 _
 refine st_op (ev_convInt Try.underlying133 Try.underlying5 rfl) rfl rfl rfl ?_
 refine st_op (ev_move rfl) rfl rfl rfl ?_
 refine st_op (ev_shr (a:=s) (c:=256) rfl rfl (by decide) (by decide)) rfl rfl rfl ?_
 have hw2:0≤(IntKind.u8.wrap (s / 256))∧(IntKind.u8.wrap (s / 256))≤255:=wrapU8 _
 refine st_op (ev_convInt Try.underlying133 Try.underlying5 rfl) rfl rfl rfl ?_
 refine st_op (ev_move rfl) rfl rfl rfl ?_
 have hw3:0≤(IntKind.u8.wrap s)∧(IntKind.u8.wrap s)≤255:=wrapU8 _
 refine st_op (ev_convInt Try.underlying133 Try.underlying5 rfl) rfl rfl rfl ?_
 obtain⟨b4,H5,he6,b4e,H5n_,hm8,f7⟩:=mem_lit H (xs:=([.int .u8 (s / 16777216),.int .u8 (IntKind.u8.wrap (s / 65536)),.int .u8 (IntKind.u8.wrap (s / 256)),.int .u8 (IntKind.u8.wrap s)]:List Value)) (m:=4) (rows := [[.int .u8 (s / 16777216)],[.int .u8 (IntKind.u8.wrap (s / 65536))],[.int .u8 (IntKind.u8.wrap (s / 256))],[.int .u8 (IntKind.u8.wrap s)]]) rfl eok26 (by decide) (by decide) zf5 rfl (allLen rfl) rfl
 replace hm8:My H H5 (some ⟨b4,0,none⟩) 4 1 ([(s / 16777216),(IntKind.u8.wrap (s / 65536)),(IntKind.u8.wrap (s / 256)),(IntKind.u8.wrap s)].map u8c):=hm8
 refine st_op (he6 _ _ _ _ _ _ _ _ rfl) rfl rfl rfl ?_
 have hx9:Ext H H5:=Ext.new (by omega) H5n_ f7
 have H5n:H.next≤H5.next:=hx9.1
 refine st_op (ev_assign rfl) rfl rfl rfl ?_
 refine aw_ret ?_
 have hres:(Spec.four s.toNat) = [(s / 16777216),(IntKind.u8.wrap (s / 65536)),(IntKind.u8.wrap (s / 256)),(IntKind.u8.wrap s)]:=by rw[← Spec.four_is,show((s.toNat:Nat):Int)=s from Int.toNat_of_nonneg hs.1,IntKind.wrap_u8,IntKind.wrap_u8,IntKind.wrap_u8,show s / 16777216 % 256=s / 16777216 by omega]
 exact⟨.slice (some ⟨b4,0,none⟩) 4 4,rfl,(some ⟨b4,0,none⟩),4,by first | (rw[hres];first | done | rfl | simp;done) | rfl,(by rw[hres];exact hm8),(by rfl),hx9⟩
theorem frame_Seal_spec (H:Heap) (kind:Int) (hkind : -9223372036854775808≤kind∧kind≤9223372036854775807) (bA:Option Addr) (b:List Int) (bc:Nat) (hb:Row H bA bc 1 (b.map u8c)) (cb:b.length≤bc) (lb:b.length≤1099511627776) (bb:Spec.Bytes b):∃ v H',Spec Try.prog 62 [.int .i64 kind,.slice bA b.length bc] H v H'∧(∃ rA0 rc0,(v = .slice rA0 ((Spec.sealF kind b).length) rc0)∧(My H H' rA0 rc0 1 ((Spec.sealF kind b).map u8c))∧(((Spec.sealF kind b)).length≤4007)∧(Spec.Bytes (Spec.sealF kind b))∧(Ext H H')):=by
 refine spec_go2 E0_ok 34 (f:=62) Try.func62 rfl rfl rfl ?_
 refine aw_seq ?_
 refine aw_reg ?_
 refine st_op (ev_assign rfl) rfl rfl rfl ?_
 iterate 2 refine aw_seq ?_
 refine aw_reg ?_
 refine st_op (ev_move rfl) rfl rfl rfl ?_
 refine st_op (ev_int rfl rfl rfl) rfl rfl rfl ?_
 refine st_op (ev_move rfl) rfl rfl rfl ?_
 refine st_bool 9 rfl (fun hb1=>?_) (fun hb1=>?_)
 ·
  have hb1:=of_decide_eq_true hb1
  iterate 2 refine st_skip rfl rfl rfl ?_
  refine st_op (ev_pickT rfl rfl) rfl rfl rfl ?_
  refine st_op (ev_move rfl) rfl rfl rfl ?_
  iterate 3 refine st_skip rfl rfl rfl ?_
  refine st_op (ev_pickT rfl rfl) rfl rfl rfl ?_
  refine aw_cond (t:=true) rfl ?_
  refine aw_seq ?_
  refine aw_reg ?_
  refine st_op (ev_assign rfl) rfl rfl rfl ?_
  refine aw_ret ?_
  have hm2:My H H none 0 1 (([]:List Int).map u8c) := .nil
  have hres:(Spec.sealF kind b)=([]:List Int):=by unfold Spec.sealF;rw[if_pos (by omega)]
  exact⟨.slice none 0 0,rfl,none,0,by first | (rw[hres];first | done | rfl | simp;done) | rfl,(by rw[hres];exact hm2),(by exact Spec.sealF_len),(by exact Spec.sealF_bytes bb),(Ext.refl H)⟩
 ·
  have hb1:=of_decide_eq_false hb1
  refine st_op (ev_move rfl) rfl rfl rfl ?_
  refine st_op (ev_int rfl rfl rfl) rfl rfl rfl ?_
  refine st_op (ev_pickF rfl rfl) rfl rfl rfl ?_
  refine st_op (ev_move rfl) rfl rfl rfl ?_
  refine st_bool 13 rfl (fun hb3=>?_) (fun hb3=>?_)
  ·
   have hb3:=of_decide_eq_true hb3
   iterate 3 refine st_skip rfl rfl rfl ?_
   refine st_op (ev_pickT rfl rfl) rfl rfl rfl ?_
   refine aw_cond (t:=true) rfl ?_
   refine aw_seq ?_
   refine aw_reg ?_
   refine st_op (ev_assign rfl) rfl rfl rfl ?_
   refine aw_ret ?_
   have hm4:My H H none 0 1 (([]:List Int).map u8c) := .nil
   have hres:(Spec.sealF kind b)=([]:List Int):=by unfold Spec.sealF;rw[if_pos (by omega)]
   exact⟨.slice none 0 0,rfl,none,0,by first | (rw[hres];first | done | rfl | simp;done) | rfl,(by rw[hres];exact hm4),(by exact Spec.sealF_len),(by exact Spec.sealF_bytes bb),(Ext.refl H)⟩
  ·
   have hb3:=of_decide_eq_false hb3
   refine st_op (ev_move rfl) rfl rfl rfl ?_
   refine st_op (ev_lenSl rfl Try.underlying26) rfl rfl rfl ?_
   refine st_op (ev_int rfl rfl rfl) rfl rfl rfl ?_
   refine st_op (ev_pickF rfl rfl) rfl rfl rfl ?_
   by_cases hc5:(decide ((b.length:Int) > 4000))=true
   ·
    refine aw_condT hc5 rfl ?_
    have hc5:=of_decide_eq_true hc5
    refine aw_seq ?_
    refine aw_reg ?_
    refine st_op (ev_assign rfl) rfl rfl rfl ?_
    refine aw_ret ?_
    have hm6:My H H none 0 1 (([]:List Int).map u8c) := .nil
    have hres:(Spec.sealF kind b)=([]:List Int):=by unfold Spec.sealF;rw[if_pos (by omega)]
    exact⟨.slice none 0 0,rfl,none,0,by first | (rw[hres];first | done | rfl | simp;done) | rfl,(by rw[hres];exact hm6),(by exact Spec.sealF_len),(by exact Spec.sealF_bytes bb),(Ext.refl H)⟩
   ·
    rw[Bool.not_eq_true] at hc5;refine aw_condF hc5 rfl ?_
    have hc5:=of_decide_eq_false hc5
    refine aw_skip ?_
    refine aw_seq ?_
    refine aw_reg ?_
    refine st_op (ev_move rfl) rfl rfl rfl ?_
    refine st_op (ev_convI Try.underlying3 Try.underlying5 rfl (wrU8 (by omega) (by omega))) rfl rfl rfl ?_
    obtain⟨b7,H8,he9,b7e,H8n_,hm11,f10⟩:=mem_lit H (xs:=([.int .u8 kind]:List Value)) (m:=1) (rows := [[.int .u8 kind]]) rfl eok26 (by decide) (by decide) zf5 rfl (allLen rfl) rfl
    replace hm11:My H H8 (some ⟨b7,0,none⟩) 1 1 ([kind].map u8c):=hm11
    refine st_op (he9 _ _ _ _ _ _ _ _ rfl) rfl rfl rfl ?_
    have hx12:Ext H H8:=Ext.new (by omega) H8n_ f10
    have H8n:H.next≤H8.next:=hx12.1
    refine st_op (ev_move rfl) rfl rfl rfl ?_
    refine st_op (ev_lenSl rfl Try.underlying26) rfl rfl rfl ?_
    refine st_call rfl rfl rfl ent63 rfl rfl rfl ?_
    obtain⟨_,H14,hs13,A16,c17,hs13v,hm18,hq19,hx15⟩:=num_Put_spec H8 H (some ⟨b7,0,none⟩) ([kind]) 1 hm11 (by omega) (by first | omega | (simp only [List.length_append,List.length_cons,List.length_nil,List.length_map,List.length_set,List.length_replicate,Spec.bytesOf_length];omega) | (simp;omega)) (b.length:Int) ⟨by omega,by omega⟩
    rw[hs13v] at hs13;clear hs13v
    refine⟨_,H14,hs13,?_⟩
    have H14n:H8.next≤H14.next:=hx15.1
    refine st_op (ev_assign rfl) rfl rfl rfl ?_
    refine aw_seq ?_
    refine aw_reg ?_
    refine st_op (ev_move rfl) rfl rfl rfl ?_
    refine st_call rfl rfl rfl ent73 rfl rfl rfl ?_
    obtain⟨_,H21,hs20,hs20v,hq23,hx22⟩:=crc_Sum_spec H14 A16 (([kind])++Spec.enc (Spec.zig (b.length:Int))) c17 (My.row hm18) (My.capF hm18 (by first | omega | (simp only [List.length_append,List.length_cons,List.length_nil,List.length_map,List.length_set,List.length_replicate,Spec.bytesOf_length];omega) | (simp;omega))) (by first | omega | (simp only [List.length_append,List.length_cons,List.length_nil,List.length_map,List.length_set,List.length_replicate,Spec.bytesOf_length];omega) | (simp;omega)) (by first | assumption | exact Spec.Bytes.nil | exact Spec.bytes_of _ | (repeat' first | assumption | exact Spec.Bytes.nil | exact Spec.bytes_of _ | exact Spec.enc_bytes _ | exact Spec.four_bytes _ | exact Spec.sealF_bytes (by assumption) | apply Spec.Bytes.append | apply Spec.Bytes.cons (by omega) | apply Spec.Bytes.take | apply Spec.Bytes.drop))
    rw[hs20v] at hs20;clear hs20v
    refine⟨_,H21,hs20,?_⟩
    have H21n:H14.next≤H21.next:=hx22.1
    refine st_op (ev_move rfl) rfl rfl rfl ?_
    refine st_call rfl rfl rfl ent72 rfl rfl rfl ?_
    have hx25:Ext H H21:=(Ext.trans (Ext.then hx12 hx15 (fun q hq e=>by omega)) hx22)
    have h24:=Row.ext hb hx25
    obtain⟨_,H27,hs26,hs26v,hq29,hx28⟩:=crc_More_spec H21 ((Spec.crcMore 0 (([kind])++Spec.enc (Spec.zig (b.length:Int))):Nat):Int) ⟨by omega,by omega⟩ bA b bc h24 cb (by first | omega | (simp only [List.length_append,List.length_cons,List.length_nil,List.length_map,List.length_set,List.length_replicate,Spec.bytesOf_length];omega) | (simp;omega)) (by assumption)
    rw[hs26v] at hs26;clear hs26v
    refine⟨_,H27,hs26,?_⟩
    have H27n:H21.next≤H27.next:=hx28.1
    refine st_op (ev_assign rfl) rfl rfl rfl ?_
    refine aw_seq ?_
    refine aw_reg ?_
    iterate 2 refine st_op (ev_move rfl) rfl rfl rfl ?_
    refine st_call rfl rfl rfl ent71 rfl rfl rfl ?_
    obtain⟨_,H31,hs30,A33,c34,hs30v,hm35,hq36,hx32⟩:=num_Four_spec H27 ((Spec.crcMore ((Spec.crcMore 0 (([kind])++Spec.enc (Spec.zig (b.length:Int))):Nat):Int).toNat b:Nat):Int) ⟨by omega,by omega⟩
    rw[hs30v] at hs30;clear hs30v
    refine⟨_,H31,hs30,?_⟩
    have H31n:H27.next≤H31.next:=hx32.1
    have hx38:Ext H14 H31:=(Ext.trans (Ext.trans hx22 hx28) hx32)
    have h37:=My.ext hm18 hx38
    obtain⟨A39,c40,H41,W42,he43,hm44,hf45⟩:=mem_append (f:=u8c) (old:=(([kind])++Spec.enc (Spec.zig (b.length:Int)))) (new:=(Spec.four ((Spec.crcMore ((Spec.crcMore 0 (([kind])++Spec.enc (Spec.zig (b.length:Int))):Nat):Int).toNat b:Nat):Int).toNat)) (m:=(([kind])++Spec.enc (Spec.zig (b.length:Int))).length) (mx:=(Spec.four ((Spec.crcMore ((Spec.crcMore 0 (([kind])++Spec.enc (Spec.zig (b.length:Int))):Nat):Int).toNat b:Nat):Int).toNat).length) (c:=c17) (by first | rfl | simp) (by first | rfl | simp) eok26 (by decide) hm18 h37 (by omega) (((My.row hm35)).srcF (by decide) (by first | rfl | simp)) rfl u8c_len u8c_one (by first | omega | (simp only [List.length_append,List.length_cons,List.length_nil,List.length_map,List.length_set,List.length_replicate,Spec.bytesOf_length];omega) | (simp;omega)) (by first | omega | (simp only [List.length_append,List.length_cons,List.length_nil,List.length_map,List.length_set,List.length_replicate,Spec.bytesOf_length];omega) | (simp;omega))
    refine st_op (he43 _ _ _ _ _ _ _ _ _ _ rfl rfl isrow26) rfl rfl rfl ?_
    have H41n:H31.next≤H41.next:=hf45.1
    refine st_op (ev_move rfl) rfl rfl rfl ?_
    have hx47:Ext H H41:=(Ext.then (Ext.trans (Ext.trans hx25 hx28) hx32) hf45 (fun q hq e=>by omega))
    have h46:=Row.ext hb hx47
    obtain⟨A48,c49,H50,W51,he52,hm53,hf54⟩:=mem_append (f:=u8c) (old:=((([kind])++Spec.enc (Spec.zig (b.length:Int)))++(Spec.four ((Spec.crcMore ((Spec.crcMore 0 (([kind])++Spec.enc (Spec.zig (b.length:Int))):Nat):Int).toNat b:Nat):Int).toNat))) (new:=b) (m:=((([kind])++Spec.enc (Spec.zig (b.length:Int)))++(Spec.four ((Spec.crcMore ((Spec.crcMore 0 (([kind])++Spec.enc (Spec.zig (b.length:Int))):Nat):Int).toNat b:Nat):Int).toNat)).length) (mx:=b.length) (c:=c40) (by first | rfl | simp) (by first | rfl | simp) eok26 (by decide) hm44 hm44 (by omega) ((h46).srcF (by decide) (by first | rfl | simp)) rfl u8c_len u8c_one (by first | omega | (simp only [List.length_append,List.length_cons,List.length_nil,List.length_map,List.length_set,List.length_replicate,Spec.bytesOf_length];omega) | (simp;omega)) (by first | omega | (simp only [List.length_append,List.length_cons,List.length_nil,List.length_map,List.length_set,List.length_replicate,Spec.bytesOf_length];omega) | (simp;omega))
    refine st_op (he52 _ _ _ _ _ _ _ _ _ _ rfl rfl isrow26) rfl rfl rfl ?_
    have H50n:H41.next≤H50.next:=hf54.1
    refine st_op (ev_assign rfl) rfl rfl rfl ?_
    refine aw_ret ?_
    have hx55:Ext H H50:=(Ext.then hx47 hf54 (fun q hq e=>by omega))
    have hres:(Spec.sealF kind b)=(((([kind])++Spec.enc (Spec.zig (b.length:Int)))++(Spec.four ((Spec.crcMore ((Spec.crcMore 0 (([kind])++Spec.enc (Spec.zig (b.length:Int))):Nat):Int).toNat b:Nat):Int).toNat))++b):=by unfold Spec.sealF;rw[if_neg (by omega)];exact(Spec.seal_is (by omega)).symm
    exact⟨.slice A48 ((((([kind])++Spec.enc (Spec.zig (b.length:Int)))++(Spec.four ((Spec.crcMore ((Spec.crcMore 0 (([kind])++Spec.enc (Spec.zig (b.length:Int))):Nat):Int).toNat b:Nat):Int).toNat))++b).length) c49,rfl,A48,c49,by first | (rw[hres];first | done | rfl | simp;done) | rfl,(by rw[hres];exact hm53),(by exact Spec.sealF_len),(by exact Spec.sealF_bytes bb),hx55⟩
theorem num_PutText_spec (H:Heap) (bH:Heap) (bA:Option Addr) (b:List Int) (bc:Nat) (hb:My bH H bA bc 1 (b.map u8c)) (nb:bH.next≤H.next) (lb:b.length≤824633720832) (s:ByteArray) (hs:s.size≤137438953472):∃ v H',Spec Try.prog 64 [.slice bA b.length bc,.string s] H v H'∧(∃ rA0 rc0,(v = .slice rA0 ((b++Spec.enc (Spec.zig (s.size:Int))++Spec.bytesOf s).length) rc0)∧(My bH H' rA0 rc0 1 ((b++Spec.enc (Spec.zig (s.size:Int))++Spec.bytesOf s).map u8c))∧((Spec.enc (Spec.zig (s.size:Int))).length≤10)∧(Fr (fun q=>(bH.next≤q∧q<H.next∧ZB H q 1)) H H')):=by
 refine spec_go2 E0_ok 11 (f:=64) Try.func64 rfl rfl rfl ?_
 refine aw_seq ?_
 refine aw_reg ?_
 refine st_op (ev_assign rfl) rfl rfl rfl ?_
 refine aw_seq ?_
 refine aw_reg ?_
 iterate 2 refine st_op (ev_move rfl) rfl rfl rfl ?_
 refine st_op (ev_lenStr rfl Try.underlying9) rfl rfl rfl ?_
 refine st_call rfl rfl rfl ent63 rfl rfl rfl ?_
 obtain⟨_,H2,hs1,A4,c5,hs1v,hm6,hq7,hx3⟩:=num_Put_spec H bH bA b bc hb (by omega) (by omega) ((s).size:Int) ⟨by omega,by omega⟩
 rw[hs1v] at hs1;clear hs1v
 refine⟨_,H2,hs1,?_⟩
 have H2n:H.next≤H2.next:=hx3.1
 refine st_op (ev_move rfl) rfl rfl rfl ?_
 obtain⟨A8,c9,H10,W11,he12,hm13,hf14⟩:=mem_append (f:=u8c) (old:=(b++Spec.enc (Spec.zig ((s).size:Int)))) (new:=(Spec.bytesOf s)) (m:=(b++Spec.enc (Spec.zig ((s).size:Int))).length) (mx:=(Spec.bytesOf s).length) (c:=c5) (by first | rfl | simp) (by first | rfl | simp) eok26 (by decide) hm6 hm6 (by omega) (str_src s) (by simp [lenA,Spec.bytesOf_length]) u8c_len u8c_one (by first | omega | (simp only [List.length_append,List.length_cons,List.length_nil,List.length_map,List.length_set,List.length_replicate,Spec.bytesOf_length];omega) | (simp;omega)) (by first | omega | (simp only [List.length_append,List.length_cons,List.length_nil,List.length_map,List.length_set,List.length_replicate,Spec.bytesOf_length];omega) | (simp;omega))
 refine st_op (he12 _ _ _ _ _ _ _ _ _ _ rfl rfl isrow9) rfl rfl rfl ?_
 have H10n:H2.next≤H10.next:=hf14.1
 refine st_op (ev_assign rfl) rfl rfl rfl ?_
 refine aw_ret ?_
 have hres:(b++Spec.enc (Spec.zig (s.size:Int))++Spec.bytesOf s)=((b++Spec.enc (Spec.zig ((s).size:Int)))++(Spec.bytesOf s)):=by rfl
 exact⟨.slice A8 (((b++Spec.enc (Spec.zig ((s).size:Int)))++(Spec.bytesOf s)).length) c9,rfl,A8,c9,by first | (rw[hres];first | done | rfl | simp;done) | rfl,(by rw[hres];exact hm13),(by exact Spec.zig_i64 ⟨by omega,by omega⟩),(Fr.transG (Fr.transG (Fr.refl (fun q=>(bH.next≤q∧q<H.next∧ZB H q 1)) H) hx3 (fun q hq hE e=>(⟨by omega,by omega,ZB.back hE e.2.2⟩))) hf14 (fun q hq hE e=>(⟨by omega,by omega,ZB.back hE e.2.2⟩)))⟩
theorem wal_Encode_spec (H:Heap) (r_hard:Bool) (r_h_term:Int) (r_h_vote:Int) (r_e_index:Int) (r_e_term:Int) (r_e_kind:Int) (r_e_data:ByteArray):∃ v H',Spec Try.prog 44 [.agg #[.bool r_hard,.int .i64 r_h_term,.int .i64 r_h_vote,.int .i64 r_e_index,.int .i64 r_e_term,.int .i64 r_e_kind,.string r_e_data]] H v H'∧(∃ rA0 rc0,(v = .slice rA0 ((Spec.encodeF r_hard r_h_term r_h_vote r_e_index r_e_term r_e_kind r_e_data).length) rc0)∧(My H H' rA0 rc0 1 ((Spec.encodeF r_hard r_h_term r_h_vote r_e_index r_e_term r_e_kind r_e_data).map u8c))∧(((Spec.encodeF r_hard r_h_term r_h_vote r_e_index r_e_term r_e_kind r_e_data)).length≤2550)∧(Ext H H')):=by
 refine spec_go1 E0_ok 38 (f:=44) Try.func44 rfl rfl rfl ?_
 refine aw_seq ?_
 refine aw_reg ?_
 obtain⟨b1,H2,he3,b1e,H2n_,hB5,f4⟩:=mem_box (P:=Try.prog) H (v := .agg #[.bool r_hard,.int .i64 r_h_term,.int .i64 r_h_vote,.int .i64 r_e_index,.int .i64 r_e_term,.int .i64 r_e_kind,.string r_e_data]) (cs := [.bool r_hard,.int .i64 r_h_term,.int .i64 r_h_vote,.int .i64 r_e_index,.int .i64 r_e_term,.int .i64 r_e_kind,.string r_e_data]) rfl rfl
 refine st_op (he3 _ _ _ _ _ _ _ _ _ rfl) rfl rfl rfl ?_
 have hx6:Ext H H2:=Ext.new (by omega) H2n_ f4
 have H2n:H.next≤H2.next:=hx6.1
 refine st_op (ev_assign rfl) rfl rfl rfl ?_
 refine aw_seq ?_
 refine aw_block ?_
 refine aw_seq ?_
 refine aw_reg ?_
 refine st_op (ev_load rfl (lvar_part (l := [.bool r_hard,.int .i64 r_h_term,.int .i64 r_h_vote,.int .i64 r_e_index,.int .i64 r_e_term,.int .i64 r_e_kind,.string r_e_data]) many95 hB5 rfl rfl (by decide))) rfl rfl rfl ?_
 refine st_call rfl rfl rfl ent43 rfl rfl rfl ?_
 obtain⟨_,H8,hs7,hs7v,hx9⟩:=wal_May_spec H2 r_hard r_h_term r_h_vote r_e_index r_e_term r_e_kind r_e_data
 rw[hs7v] at hs7;clear hs7v
 refine⟨_,H8,hs7,?_⟩
 have H8n:H2.next≤H8.next:=hx9.1
 refine st_op (ev_not rfl) rfl rfl rfl ?_
 refine st_op (ev_assign rfl) rfl rfl rfl ?_
 by_cases hc10:(!(Spec.mayF r_hard r_h_term r_h_vote r_e_index r_e_term r_e_kind r_e_data))=true
 ·
  refine aw_condT hc10 rfl ?_
  replace hc10:(Spec.mayF r_hard r_h_term r_h_vote r_e_index r_e_term r_e_kind r_e_data)=false:=by rw[Bool.not_eq_true'] at hc10;exact hc10
  refine aw_seq ?_
  refine aw_reg ?_
  refine st_op (ev_assign rfl) rfl rfl rfl ?_
  refine aw_ret ?_
  have hm11:My H8 H8 none 0 1 (([]:List Int).map u8c) := .nil
  have hx12:Ext H H8:=(Ext.trans hx6 hx9)
  have hres:(Spec.encodeF r_hard r_h_term r_h_vote r_e_index r_e_term r_e_kind r_e_data)=([]:List Int):=by unfold Spec.encodeF;rw[if_neg (by simp_all)]
  exact⟨.slice none 0 0,rfl,none,0,by first | (rw[hres];first | done | rfl | simp;done) | rfl,(by rw[hres];exact(My.older hm11 (by omega))),(by exact Spec.encodeF_len _ _ _ _ _ _ _),hx12⟩
 ·
  rw[Bool.not_eq_true] at hc10;refine aw_condF hc10 rfl ?_
  replace hc10:(Spec.mayF r_hard r_h_term r_h_vote r_e_index r_e_term r_e_kind r_e_data)=true:=by rw[Bool.not_eq_false'] at hc10;exact hc10
  have hc10m:=Spec.may_says hc10
  refine aw_seq ?_
  refine aw_reg ?_
  refine st_op (ev_fieldAddr rfl fa95_0 (o':=0) rfl) rfl rfl rfl ?_
  have h13:=Ext.blk hx9 (by omega) hB5
  refine st_op (ev_load rfl (lvar_one one4 h13 rfl)) rfl rfl rfl ?_
  refine st_op (ev_assign rfl) rfl rfl rfl ?_
  by_cases hc14:r_hard=true
  ·
   refine aw_condT hc14 rfl ?_
   refine aw_seq ?_
   refine aw_marks (fun b=>b<H8.next) [(false,false),(false,false),(false,false),(false,true),(false,false),(false,false),(true,false),(false,false),(false,false),(false,false)] mixed (by kernel_rfl) (by kernel_rfl) ?_
   refine sm_op (ev_fieldAddr rfl fa95_1 (o':=1) rfl) rfl rfl rfl ?_
   refine sm_op (ev_fieldAddr rfl fa41_0 (o':=1) rfl) rfl rfl rfl ?_
   refine sm_op (ev_load rfl (lvar_one one2 h13 rfl)) rfl rfl rfl ?_
   refine sm_call rfl rfl rfl ent63 rfl rfl rfl ?_
   have hm15:My H8 H8 none 0 1 (([]:List Int).map u8c) := .nil
   obtain⟨_,H17,hs16,A19,c20,hs16v,hm21,hq22,hx18⟩:=num_Put_spec H8 H8 none ([]:List Int) 0 hm15 (by omega) (by first | omega | (simp only [List.length_append,List.length_cons,List.length_nil,List.length_map,List.length_set,List.length_replicate,Spec.bytesOf_length];omega) | (simp;omega)) r_h_term ⟨by omega,by omega⟩
   rw[hs16v] at hs16;clear hs16v
   refine⟨_,H17,hs16,(fun _ b hb=>hx18.2 b (by omega) (fun e=>by omega)),?_⟩
   have H17n:H8.next≤H17.next:=hx18.1
   refine sm_op (ev_fieldAddr rfl fa95_1 (o':=1) rfl) rfl rfl rfl ?_
   refine sm_op (ev_fieldAddr rfl fa41_1 (o':=2) rfl) rfl rfl rfl ?_
   have hx24:Ext H8 H17:=(Ext.then (Ext.refl H8) hx18 (fun q hq e=>by omega))
   have h23:=Ext.blk hx24 (by omega) h13
   refine sm_read (ev_load rfl (lvar_one one3 h23 rfl)) rfl rfl rfl (fun b hb=>by cases hb;dsimp only <;> omega) ?_
   refine sm_call rfl rfl rfl ent63 rfl rfl rfl ?_
   obtain⟨_,H26,hs25,A28,c29,hs25v,hm30,hq31,hx27⟩:=num_Put_spec H17 H8 A19 (([]:List Int)++Spec.enc (Spec.zig r_h_term)) c20 hm21 (by omega) (by first | omega | (simp only [List.length_append,List.length_cons,List.length_nil,List.length_map,List.length_set,List.length_replicate,Spec.bytesOf_length];omega) | (simp;omega)) r_h_vote ⟨by omega,by omega⟩
   rw[hs25v] at hs25;clear hs25v
   refine⟨_,H26,hs25,(fun h=>nomatch h),?_⟩
   have H26n:H17.next≤H26.next:=hx27.1
   refine sm_call rfl rfl rfl ent62 rfl rfl rfl ?_
   obtain⟨_,H33,hs32,A35,c36,hs32v,hm37,hq38,hq39,hx34⟩:=frame_Seal_spec H26 1 (by decide) A28 ((([]:List Int)++Spec.enc (Spec.zig r_h_term))++Spec.enc (Spec.zig r_h_vote)) c29 (My.row hm30) (My.capF hm30 (by first | omega | (simp only [List.length_append,List.length_cons,List.length_nil,List.length_map,List.length_set,List.length_replicate,Spec.bytesOf_length];omega) | (simp;omega))) (by first | omega | (simp only [List.length_append,List.length_cons,List.length_nil,List.length_map,List.length_set,List.length_replicate,Spec.bytesOf_length];omega) | (simp;omega)) (by first | assumption | exact Spec.Bytes.nil | exact Spec.bytes_of _ | (repeat' first | assumption | exact Spec.Bytes.nil | exact Spec.bytes_of _ | exact Spec.enc_bytes _ | exact Spec.four_bytes _ | exact Spec.sealF_bytes (by assumption) | apply Spec.Bytes.append | apply Spec.Bytes.cons (by omega) | apply Spec.Bytes.take | apply Spec.Bytes.drop))
   rw[hs32v] at hs32;clear hs32v
   refine⟨_,H33,hs32,(fun h=>nomatch h),?_⟩
   have H33n:H26.next≤H33.next:=hx34.1
   refine sm_op (ev_assign rfl) rfl rfl rfl ?_
   refine aw_ret ?_
   have hx40:Ext H H33:=(Ext.trans (Ext.then (Ext.then (Ext.trans hx6 hx9) hx18 (fun q hq e=>by omega)) hx27 (fun q hq e=>by omega)) hx34)
   have hres:(Spec.encodeF r_hard r_h_term r_h_vote r_e_index r_e_term r_e_kind r_e_data)=(Spec.sealF (1:Int) ((([]:List Int)++Spec.enc (Spec.zig r_h_term))++Spec.enc (Spec.zig r_h_vote))):=by first | exact Spec.enc_hard (by assumption) (by assumption) | exact Spec.enc_entry (by assumption) (by assumption)
   exact⟨.slice A35 ((Spec.sealF (1:Int) ((([]:List Int)++Spec.enc (Spec.zig r_h_term))++Spec.enc (Spec.zig r_h_vote))).length) c36,rfl,A35,c36,by first | (rw[hres];first | done | rfl | simp;done) | rfl,(by rw[hres];exact(My.older hm37 (by omega))),(by exact Spec.encodeF_len _ _ _ _ _ _ _),hx40⟩
  ·
   rw[Bool.not_eq_true] at hc14;refine aw_condF hc14 rfl ?_
   refine aw_skip ?_
   refine aw_seq ?_
   refine aw_marks (fun b=>b<H8.next) [(false,false),(false,false),(false,false),(false,true),(false,false),(false,false),(true,false),(false,true),(false,false),(false,false),(true,false),(false,false),(false,false)] mixed (by kernel_rfl) (by kernel_rfl) ?_
   refine sm_op (ev_fieldAddr rfl fa95_2 (o':=3) rfl) rfl rfl rfl ?_
   refine sm_op (ev_fieldAddr rfl fa54_0 (o':=3) rfl) rfl rfl rfl ?_
   refine sm_op (ev_load rfl (lvar_one one2 h13 rfl)) rfl rfl rfl ?_
   refine sm_call rfl rfl rfl ent63 rfl rfl rfl ?_
   have hm41:My H8 H8 none 0 1 (([]:List Int).map u8c) := .nil
   obtain⟨_,H43,hs42,A45,c46,hs42v,hm47,hq48,hx44⟩:=num_Put_spec H8 H8 none ([]:List Int) 0 hm41 (by omega) (by first | omega | (simp only [List.length_append,List.length_cons,List.length_nil,List.length_map,List.length_set,List.length_replicate,Spec.bytesOf_length];omega) | (simp;omega)) r_e_index ⟨by omega,by omega⟩
   rw[hs42v] at hs42;clear hs42v
   refine⟨_,H43,hs42,(fun _ b hb=>hx44.2 b (by omega) (fun e=>by omega)),?_⟩
   have H43n:H8.next≤H43.next:=hx44.1
   refine sm_op (ev_fieldAddr rfl fa95_2 (o':=3) rfl) rfl rfl rfl ?_
   refine sm_op (ev_fieldAddr rfl fa54_1 (o':=4) rfl) rfl rfl rfl ?_
   have hx50:Ext H8 H43:=(Ext.then (Ext.refl H8) hx44 (fun q hq e=>by omega))
   have h49:=Ext.blk hx50 (by omega) h13
   refine sm_read (ev_load rfl (lvar_one one2 h49 rfl)) rfl rfl rfl (fun b hb=>by cases hb;dsimp only <;> omega) ?_
   refine sm_call rfl rfl rfl ent63 rfl rfl rfl ?_
   obtain⟨_,H52,hs51,A54,c55,hs51v,hm56,hq57,hx53⟩:=num_Put_spec H43 H8 A45 (([]:List Int)++Spec.enc (Spec.zig r_e_index)) c46 hm47 (by omega) (by first | omega | (simp only [List.length_append,List.length_cons,List.length_nil,List.length_map,List.length_set,List.length_replicate,Spec.bytesOf_length];omega) | (simp;omega)) r_e_term ⟨by omega,by omega⟩
   rw[hs51v] at hs51;clear hs51v
   refine⟨_,H52,hs51,(fun _ b hb=>hx53.2 b (by omega) (fun e=>by omega)),?_⟩
   have H52n:H43.next≤H52.next:=hx53.1
   refine sm_op (ev_fieldAddr rfl fa95_2 (o':=3) rfl) rfl rfl rfl ?_
   refine sm_op (ev_fieldAddr rfl fa54_2 (o':=5) rfl) rfl rfl rfl ?_
   have hx59:Ext H8 H52:=(Ext.then hx50 hx53 (fun q hq e=>by omega))
   have h58:=Ext.blk hx59 (by omega) h13
   refine sm_read (ev_load rfl (lvar_one one3 h58 rfl)) rfl rfl rfl (fun b hb=>by cases hb;dsimp only <;> omega) ?_
   refine sm_call rfl rfl rfl ent63 rfl rfl rfl ?_
   obtain⟨_,H61,hs60,A63,c64,hs60v,hm65,hq66,hx62⟩:=num_Put_spec H52 H8 A54 ((([]:List Int)++Spec.enc (Spec.zig r_e_index))++Spec.enc (Spec.zig r_e_term)) c55 hm56 (by omega) (by first | omega | (simp only [List.length_append,List.length_cons,List.length_nil,List.length_map,List.length_set,List.length_replicate,Spec.bytesOf_length];omega) | (simp;omega)) r_e_kind ⟨by omega,by omega⟩
   rw[hs60v] at hs60;clear hs60v
   refine⟨_,H61,hs60,(fun h=>nomatch h),?_⟩
   have H61n:H52.next≤H61.next:=hx62.1
   refine sm_op (ev_assign rfl) rfl rfl rfl ?_
   refine aw_seq ?_
   refine aw_reg ?_
   refine st_op (ev_move rfl) rfl rfl rfl ?_
   refine st_op (ev_fieldAddr rfl fa95_2 (o':=3) rfl) rfl rfl rfl ?_
   refine st_op (ev_fieldAddr rfl fa54_3 (o':=6) rfl) rfl rfl rfl ?_
   have hx68:Ext H8 H61:=(Ext.then hx59 hx62 (fun q hq e=>by omega))
   have h67:=Ext.blk hx68 (by omega) h13
   refine st_op (ev_load rfl (lvar_one one9 h67 rfl)) rfl rfl rfl ?_
   refine st_call rfl rfl rfl ent64 rfl rfl rfl ?_
   obtain⟨_,H70,hs69,A72,c73,hs69v,hm74,hq75,hx71⟩:=num_PutText_spec H61 H8 A63 (((([]:List Int)++Spec.enc (Spec.zig r_e_index))++Spec.enc (Spec.zig r_e_term))++Spec.enc (Spec.zig r_e_kind)) c64 hm65 (by omega) (by first | omega | (simp only [List.length_append,List.length_cons,List.length_nil,List.length_map,List.length_set,List.length_replicate,Spec.bytesOf_length];omega) | (simp;omega)) r_e_data (by omega)
   rw[hs69v] at hs69;clear hs69v
   refine⟨_,H70,hs69,?_⟩
   have H70n:H61.next≤H70.next:=hx71.1
   refine st_call rfl rfl rfl ent62 rfl rfl rfl ?_
   obtain⟨_,H77,hs76,A79,c80,hs76v,hm81,hq82,hq83,hx78⟩:=frame_Seal_spec H70 2 (by decide) A72 ((((([]:List Int)++Spec.enc (Spec.zig r_e_index))++Spec.enc (Spec.zig r_e_term))++Spec.enc (Spec.zig r_e_kind))++Spec.enc (Spec.zig (r_e_data.size:Int))++Spec.bytesOf r_e_data) c73 (My.row hm74) (My.capF hm74 (by first | omega | (simp only [List.length_append,List.length_cons,List.length_nil,List.length_map,List.length_set,List.length_replicate,Spec.bytesOf_length];omega) | (simp;omega))) (by first | omega | (simp only [List.length_append,List.length_cons,List.length_nil,List.length_map,List.length_set,List.length_replicate,Spec.bytesOf_length];omega) | (simp;omega)) (by first | assumption | exact Spec.Bytes.nil | exact Spec.bytes_of _ | (repeat' first | assumption | exact Spec.Bytes.nil | exact Spec.bytes_of _ | exact Spec.enc_bytes _ | exact Spec.four_bytes _ | exact Spec.sealF_bytes (by assumption) | apply Spec.Bytes.append | apply Spec.Bytes.cons (by omega) | apply Spec.Bytes.take | apply Spec.Bytes.drop))
   rw[hs76v] at hs76;clear hs76v
   refine⟨_,H77,hs76,?_⟩
   have H77n:H70.next≤H77.next:=hx78.1
   refine st_op (ev_assign rfl) rfl rfl rfl ?_
   refine aw_ret ?_
   have hx84:Ext H H77:=(Ext.trans (Ext.then (Ext.then (Ext.then (Ext.then (Ext.trans hx6 hx9) hx44 (fun q hq e=>by omega)) hx53 (fun q hq e=>by omega)) hx62 (fun q hq e=>by omega)) hx71 (fun q hq e=>by omega)) hx78)
   have hres:(Spec.encodeF r_hard r_h_term r_h_vote r_e_index r_e_term r_e_kind r_e_data)=(Spec.sealF (2:Int) ((((([]:List Int)++Spec.enc (Spec.zig r_e_index))++Spec.enc (Spec.zig r_e_term))++Spec.enc (Spec.zig r_e_kind))++Spec.enc (Spec.zig (r_e_data.size:Int))++Spec.bytesOf r_e_data)):=by first | exact Spec.enc_hard (by assumption) (by assumption) | exact Spec.enc_entry (by assumption) (by assumption)
   exact⟨.slice A79 ((Spec.sealF (2:Int) ((((([]:List Int)++Spec.enc (Spec.zig r_e_index))++Spec.enc (Spec.zig r_e_term))++Spec.enc (Spec.zig r_e_kind))++Spec.enc (Spec.zig (r_e_data.size:Int))++Spec.bytesOf r_e_data)).length) c80,rfl,A79,c80,by first | (rw[hres];first | done | rfl | simp;done) | rfl,(by rw[hres];exact(My.older hm81 (by omega))),(by exact Spec.encodeF_len _ _ _ _ _ _ _),hx84⟩
theorem wal_may_spec (H:Heap) (s_index:Int) (s_term:Int) (s_conf:ByteArray) (s_data:ByteArray):∃ v H',Spec Try.prog 59 [.agg #[.int .i64 s_index,.int .i64 s_term,.string s_conf,.string s_data]] H v H'∧((v = .bool (Spec.mayS s_index s_term s_conf s_data))∧(Ext H H')):=by
 refine spec_go1 E0_ok 21 (f:=59) Try.func59 rfl rfl rfl ?_
 refine aw_seq ?_
 refine aw_reg ?_
 obtain⟨b1,H2,he3,b1e,H2n_,hB5,f4⟩:=mem_box (P:=Try.prog) H (v := .agg #[.int .i64 s_index,.int .i64 s_term,.string s_conf,.string s_data]) (cs := [.int .i64 s_index,.int .i64 s_term,.string s_conf,.string s_data]) rfl rfl
 refine st_op (he3 _ _ _ _ _ _ _ _ _ rfl) rfl rfl rfl ?_
 have hx6:Ext H H2:=Ext.new (by omega) H2n_ f4
 have H2n:H.next≤H2.next:=hx6.1
 refine st_op (ev_assign rfl) rfl rfl rfl ?_
 refine aw_seq ?_
 refine aw_reg ?_
 refine st_op (ev_fieldAddr rfl fa46_0 (o':=0) rfl) rfl rfl rfl ?_
 refine st_op (ev_load rfl (lvar_one one2 hB5 rfl)) rfl rfl rfl ?_
 refine st_op (ev_fieldAddr rfl fa46_1 (o':=1) rfl) rfl rfl rfl ?_
 refine st_op (ev_load rfl (lvar_one one2 hB5 rfl)) rfl rfl rfl ?_
 obtain⟨b7,H8,he9,b7e,H8n_,hm11,f10⟩:=mem_lit H2 (xs:=([.int .i64 s_index,.int .i64 s_term]:List Value)) (m:=2) (rows := [[.int .i64 s_index],[.int .i64 s_term]]) rfl eok138 (by decide) (by decide) zf2 rfl (allLen rfl) rfl
 replace hm11:My H2 H8 (some ⟨b7,0,none⟩) 2 1 ([s_index,s_term].map i64c):=hm11
 refine st_op (he9 _ _ _ _ _ _ _ _ rfl) rfl rfl rfl ?_
 have hx12:Ext H2 H8:=Ext.new (by omega) H8n_ f10
 have H8n:H2.next≤H8.next:=hx12.1
 refine st_call rfl rfl rfl ent60 rfl rfl rfl ?_
 obtain⟨_,H14,hs13,hs13v,hx15⟩:=wal_in_spec H8 0 (by decide) 1099511627776 (by decide) (some ⟨b7,0,none⟩) ([s_index,s_term]) 2 (My.row hm11) (My.capF hm11 (by first | omega | (simp only [List.length_append,List.length_cons,List.length_nil,List.length_map,List.length_set,List.length_replicate,Spec.bytesOf_length];omega) | (simp;omega))) (by first | omega | (simp only [List.length_append,List.length_cons,List.length_nil,List.length_map,List.length_set,List.length_replicate,Spec.bytesOf_length];omega) | (simp;omega))
 rw[hs13v] at hs13;clear hs13v
 refine⟨_,H14,hs13,?_⟩
 have H14n:H8.next≤H14.next:=hx15.1
 refine st_op (ev_move rfl) rfl rfl rfl ?_
 refine st_bool 9 rfl (fun hb16=>?_) (fun hb16=>?_)
 ·
  have hb16m:=Spec.inF_two hb16
  refine st_op (ev_fieldAddr rfl fa46_2 (o':=2) rfl) rfl rfl rfl ?_
  have hx18:Ext H2 H14:=(Ext.trans hx12 hx15)
  have h17:=Ext.blk hx18 (by omega) hB5
  refine st_op (ev_load rfl (lvar_one one9 h17 rfl)) rfl rfl rfl ?_
  refine st_op (ev_lenStr rfl Try.underlying9) rfl rfl rfl ?_
  refine st_op (ev_int rfl rfl rfl) rfl rfl rfl ?_
  refine st_op (ev_pickT rfl rfl) rfl rfl rfl ?_
  refine st_op (ev_move rfl) rfl rfl rfl ?_
  refine st_bool 15 rfl (fun hb19=>?_) (fun hb19=>?_)
  ·
   have hb19:=of_decide_eq_true hb19
   refine st_op (ev_fieldAddr rfl fa46_3 (o':=3) rfl) rfl rfl rfl ?_
   refine st_op (ev_load rfl (lvar_one one9 h17 rfl)) rfl rfl rfl ?_
   refine st_op (ev_lenStr rfl Try.underlying9) rfl rfl rfl ?_
   refine st_op (ev_int rfl rfl rfl) rfl rfl rfl ?_
   refine st_op (ev_pickT rfl rfl) rfl rfl rfl ?_
   refine st_op (ev_assign rfl) rfl rfl rfl ?_
   refine aw_ret ?_
   have hx20:Ext H H14:=(Ext.trans (Ext.trans hx6 hx12) hx15)
   have hres:(Spec.mayS s_index s_term s_conf s_data)=(decide (((s_data).size:Int)≤200000)):=by simp only [Spec.mayS];(try simp_all) <;> (try (intros;omega))
   exact⟨.bool (decide (((s_data).size:Int)≤200000)),rfl,by first | (rw[hres];done) | rw[← hres],hx20⟩
  ·
   have hb19:=of_decide_eq_false hb19
   iterate 4 refine st_skip rfl rfl rfl ?_
   refine st_op (ev_pickF rfl rfl) rfl rfl rfl ?_
   refine st_op (ev_assign rfl) rfl rfl rfl ?_
   refine aw_ret ?_
   have hx21:Ext H H14:=(Ext.trans (Ext.trans hx6 hx12) hx15)
   have hres:(Spec.mayS s_index s_term s_conf s_data)=false:=by simp only [Spec.mayS];(try simp_all) <;> (try (intros;omega))
   exact⟨.bool false,rfl,by first | (rw[hres];done) | rw[← hres],hx21⟩
 ·
  have hb16m:=Spec.inF_twoN hb16
  iterate 4 refine st_skip rfl rfl rfl ?_
  refine st_op (ev_pickF rfl rfl) rfl rfl rfl ?_
  refine st_op (ev_move rfl) rfl rfl rfl ?_
  iterate 4 refine st_skip rfl rfl rfl ?_
  refine st_op (ev_pickF rfl rfl) rfl rfl rfl ?_
  refine st_op (ev_assign rfl) rfl rfl rfl ?_
  refine aw_ret ?_
  have hx22:Ext H H14:=(Ext.trans (Ext.trans hx6 hx12) hx15)
  have hres:(Spec.mayS s_index s_term s_conf s_data)=false:=by simp only [Spec.mayS];(try simp_all) <;> (try (intros;omega))
  exact⟨.bool false,rfl,by first | (rw[hres];done) | rw[← hres],hx22⟩
theorem wal_PutSnap_spec (H:Heap) (s_index:Int) (s_term:Int) (s_conf:ByteArray) (s_data:ByteArray):∃ v H',Spec Try.prog 66 [.agg #[.int .i64 s_index,.int .i64 s_term,.string s_conf,.string s_data]] H v H'∧(∃ rA0 rc0,(v = .slice rA0 ((Spec.snapF s_index s_term s_conf s_data).length) rc0)∧(My H H' rA0 rc0 1 ((Spec.snapF s_index s_term s_conf s_data).map u8c))∧(Spec.Bytes (Spec.snapF s_index s_term s_conf s_data))∧(((Spec.snapF s_index s_term s_conf s_data)).length≤1700000)∧(rA0=none ↔ Spec.mayS s_index s_term s_conf s_data=false)∧(Ext H H')):=by
 refine spec_go1 E0_ok 43 (f:=66) Try.func66 rfl rfl rfl ?_
 refine aw_seq ?_
 refine aw_reg ?_
 obtain⟨b1,H2,he3,b1e,H2n_,hB5,f4⟩:=mem_box (P:=Try.prog) H (v := .agg #[.int .i64 s_index,.int .i64 s_term,.string s_conf,.string s_data]) (cs := [.int .i64 s_index,.int .i64 s_term,.string s_conf,.string s_data]) rfl rfl
 refine st_op (he3 _ _ _ _ _ _ _ _ _ rfl) rfl rfl rfl ?_
 have hx6:Ext H H2:=Ext.new (by omega) H2n_ f4
 have H2n:H.next≤H2.next:=hx6.1
 refine st_op (ev_assign rfl) rfl rfl rfl ?_
 iterate 2 refine aw_seq ?_
 refine aw_reg ?_
 refine st_op (ev_load rfl (lvar_part (l := [.int .i64 s_index,.int .i64 s_term,.string s_conf,.string s_data]) many46 hB5 rfl rfl (by decide))) rfl rfl rfl ?_
 refine st_call rfl rfl rfl ent59 rfl rfl rfl ?_
 obtain⟨_,H8,hs7,hs7v,hx9⟩:=wal_may_spec H2 s_index s_term s_conf s_data
 rw[hs7v] at hs7;clear hs7v
 refine⟨_,H8,hs7,?_⟩
 have H8n:H2.next≤H8.next:=hx9.1
 refine st_op (ev_not rfl) rfl rfl rfl ?_
 by_cases hc10:(!(Spec.mayS s_index s_term s_conf s_data))=true
 ·
  refine aw_condT hc10 rfl ?_
  replace hc10:(Spec.mayS s_index s_term s_conf s_data)=false:=by rw[Bool.not_eq_true'] at hc10;exact hc10
  refine aw_seq ?_
  refine aw_reg ?_
  refine st_op (ev_assign rfl) rfl rfl rfl ?_
  refine aw_ret ?_
  have hm11:My H8 H8 none 0 1 (([]:List Int).map u8c) := .nil
  have hx12:Ext H H8:=(Ext.trans hx6 hx9)
  have hres:(Spec.snapF s_index s_term s_conf s_data)=([]:List Int):=by unfold Spec.snapF;rw[if_neg (by simp_all)]
  exact⟨.slice none 0 0,rfl,none,0,by first | (rw[hres];first | done | rfl | simp;done) | rfl,(by rw[hres];exact(My.older hm11 (by omega))),(by exact Spec.snapF_bytes _ _ _ _),(by exact Spec.snapF_len _ _ _ _),(by exact⟨fun _=>by simp_all,fun _=>rfl⟩),hx12⟩
 ·
  rw[Bool.not_eq_true] at hc10;refine aw_condF hc10 rfl ?_
  replace hc10:(Spec.mayS s_index s_term s_conf s_data)=true:=by rw[Bool.not_eq_false'] at hc10;exact hc10
  have hc10m:=Spec.mayS_says hc10
  refine aw_skip ?_
  refine aw_seq ?_
  refine aw_marks (fun b=>b<H8.next) [(false,false),(false,false),(false,true),(false,false),(true,false),(false,true),(false,false),(true,false),(false,false),(false,false)] mixed (by kernel_rfl) (by kernel_rfl) ?_
  refine sm_op (ev_fieldAddr rfl fa46_0 (o':=0) rfl) rfl rfl rfl ?_
  have h13:=Ext.blk hx9 (by omega) hB5
  refine sm_op (ev_load rfl (lvar_one one2 h13 rfl)) rfl rfl rfl ?_
  refine sm_call rfl rfl rfl ent63 rfl rfl rfl ?_
  have hm14:My H8 H8 none 0 1 (([]:List Int).map u8c) := .nil
  obtain⟨_,H16,hs15,A18,c19,hs15v,hm20,hq21,hx17⟩:=num_Put_spec H8 H8 none ([]:List Int) 0 hm14 (by omega) (by first | omega | (simp only [List.length_append,List.length_cons,List.length_nil,List.length_map,List.length_set,List.length_replicate,Spec.bytesOf_length];omega) | (simp;omega)) s_index ⟨by omega,by omega⟩
  rw[hs15v] at hs15;clear hs15v
  refine⟨_,H16,hs15,(fun _ b hb=>hx17.2 b (by omega) (fun e=>by omega)),?_⟩
  have H16n:H8.next≤H16.next:=hx17.1
  refine sm_op (ev_fieldAddr rfl fa46_1 (o':=1) rfl) rfl rfl rfl ?_
  have hx23:Ext H8 H16:=(Ext.then (Ext.refl H8) hx17 (fun q hq e=>by omega))
  have h22:=Ext.blk hx23 (by omega) h13
  refine sm_read (ev_load rfl (lvar_one one2 h22 rfl)) rfl rfl rfl (fun b hb=>by cases hb;dsimp only <;> omega) ?_
  refine sm_call rfl rfl rfl ent63 rfl rfl rfl ?_
  obtain⟨_,H25,hs24,A27,c28,hs24v,hm29,hq30,hx26⟩:=num_Put_spec H16 H8 A18 (([]:List Int)++Spec.enc (Spec.zig s_index)) c19 hm20 (by omega) (by first | omega | (simp only [List.length_append,List.length_cons,List.length_nil,List.length_map,List.length_set,List.length_replicate,Spec.bytesOf_length];omega) | (simp;omega)) s_term ⟨by omega,by omega⟩
  rw[hs24v] at hs24;clear hs24v
  refine⟨_,H25,hs24,(fun _ b hb=>hx26.2 b (by omega) (fun e=>by omega)),?_⟩
  have H25n:H16.next≤H25.next:=hx26.1
  refine sm_op (ev_fieldAddr rfl fa46_2 (o':=2) rfl) rfl rfl rfl ?_
  have hx32:Ext H8 H25:=(Ext.then hx23 hx26 (fun q hq e=>by omega))
  have h31:=Ext.blk hx32 (by omega) h13
  refine sm_read (ev_load rfl (lvar_one one9 h31 rfl)) rfl rfl rfl (fun b hb=>by cases hb;dsimp only <;> omega) ?_
  refine sm_call rfl rfl rfl ent64 rfl rfl rfl ?_
  obtain⟨_,H34,hs33,A36,c37,hs33v,hm38,hq39,hx35⟩:=num_PutText_spec H25 H8 A27 ((([]:List Int)++Spec.enc (Spec.zig s_index))++Spec.enc (Spec.zig s_term)) c28 hm29 (by omega) (by first | omega | (simp only [List.length_append,List.length_cons,List.length_nil,List.length_map,List.length_set,List.length_replicate,Spec.bytesOf_length];omega) | (simp;omega)) s_conf (by omega)
  rw[hs33v] at hs33;clear hs33v
  refine⟨_,H34,hs33,(fun h=>nomatch h),?_⟩
  have H34n:H25.next≤H34.next:=hx35.1
  refine sm_op (ev_assign rfl) rfl rfl rfl ?_
  refine aw_seq ?_
  refine aw_reg ?_
  refine st_op (ev_move rfl) rfl rfl rfl ?_
  refine st_op (ev_fieldAddr rfl fa46_3 (o':=3) rfl) rfl rfl rfl ?_
  have hx41:Ext H8 H34:=(Ext.then hx32 hx35 (fun q hq e=>by omega))
  have h40:=Ext.blk hx41 (by omega) h13
  refine st_op (ev_load rfl (lvar_one one9 h40 rfl)) rfl rfl rfl ?_
  refine st_op (ev_lenStr rfl Try.underlying9) rfl rfl rfl ?_
  refine st_call rfl rfl rfl ent63 rfl rfl rfl ?_
  obtain⟨_,H43,hs42,A45,c46,hs42v,hm47,hq48,hx44⟩:=num_Put_spec H34 H8 A36 (((([]:List Int)++Spec.enc (Spec.zig s_index))++Spec.enc (Spec.zig s_term))++Spec.enc (Spec.zig (s_conf.size:Int))++Spec.bytesOf s_conf) c37 hm38 (by omega) (by first | omega | (simp only [List.length_append,List.length_cons,List.length_nil,List.length_map,List.length_set,List.length_replicate,Spec.bytesOf_length];omega) | (simp;omega)) ((s_data).size:Int) ⟨by omega,by omega⟩
  rw[hs42v] at hs42;clear hs42v
  refine⟨_,H43,hs42,?_⟩
  have H43n:H34.next≤H43.next:=hx44.1
  refine st_call rfl rfl rfl ent62 rfl rfl rfl ?_
  obtain⟨_,H50,hs49,A52,c53,hs49v,hm54,hq55,hq56,hx51⟩:=frame_Seal_spec H43 3 (by decide) A45 ((((([]:List Int)++Spec.enc (Spec.zig s_index))++Spec.enc (Spec.zig s_term))++Spec.enc (Spec.zig (s_conf.size:Int))++Spec.bytesOf s_conf)++Spec.enc (Spec.zig ((s_data).size:Int))) c46 (My.row hm47) (My.capF hm47 (by first | omega | (simp only [List.length_append,List.length_cons,List.length_nil,List.length_map,List.length_set,List.length_replicate,Spec.bytesOf_length];omega) | (simp;omega))) (by first | omega | (simp only [List.length_append,List.length_cons,List.length_nil,List.length_map,List.length_set,List.length_replicate,Spec.bytesOf_length];omega) | (simp;omega)) (by first | assumption | exact Spec.Bytes.nil | exact Spec.bytes_of _ | (repeat' first | assumption | exact Spec.Bytes.nil | exact Spec.bytes_of _ | exact Spec.enc_bytes _ | exact Spec.four_bytes _ | exact Spec.sealF_bytes (by assumption) | apply Spec.Bytes.append | apply Spec.Bytes.cons (by omega) | apply Spec.Bytes.take | apply Spec.Bytes.drop))
  rw[hs49v] at hs49;clear hs49v
  refine⟨_,H50,hs49,?_⟩
  have H50n:H43.next≤H50.next:=hx51.1
  refine st_op (ev_assign rfl) rfl rfl rfl ?_
  iterate 2 refine aw_seq ?_
  refine aw_reg ?_
  refine st_op (ev_fieldAddr rfl fa46_3 (o':=3) rfl) rfl rfl rfl ?_
  have hx58:Ext H8 H50:=(Ext.trans (Ext.then hx41 hx44 (fun q hq e=>by omega)) hx51)
  have h57:=Ext.blk hx58 (by omega) h13
  refine st_op (ev_load rfl (lvar_one one9 h57 rfl)) rfl rfl rfl ?_
  refine st_op (ev_assign rfl) rfl rfl rfl ?_
  refine aw_block ?_
  refine aw_keep [4,5] (l':=(.cons 4 (.slice A52 ((Spec.sealF (3:Int) ((((([]:List Int)++Spec.enc (Spec.zig s_index))++Spec.enc (Spec.zig s_term))++Spec.enc (Spec.zig (s_conf.size:Int))++Spec.bytesOf s_conf)++Spec.enc (Spec.zig ((s_data).size:Int)))).length) c53) (.cons 5 (.string s_data) .nil))) (by repeat (first | exact Up.done | refine Up.then ?_ | refine Up.inBlock ?_)) rfl ?_
  refine aw_iter (α:=ByteArray×Option Addr×Nat×List Int×Heap) (fun a=>a.1.size) (fun a=>(.cons 4 (.slice a.2.1 a.2.2.2.1.length a.2.2.1) (.cons 5 (.string a.1) .nil))) (fun a=>a.2.2.2.2) (fun a=>((Spec.sealF (3:Int) ((((([]:List Int)++Spec.enc (Spec.zig s_index))++Spec.enc (Spec.zig s_term))++Spec.enc (Spec.zig (s_conf.size:Int))++Spec.bytesOf s_conf)++Spec.enc (Spec.zig ((s_data).size:Int))))++Spec.partsF (Spec.bytesOf s_data)=a.2.2.2.1++Spec.partsF (Spec.bytesOf a.1))∧(a.1.size≤200000)∧(a.2.2.2.1.length+10000 * a.1.size≤4100000000)∧(My H43 a.2.2.2.2 a.2.1 a.2.2.1 1 (a.2.2.2.1.map u8c))∧(Fr (fun q=>(H43.next≤q∧q<H50.next∧ZB H50 q 1)) H50 a.2.2.2.2)) (s_data,A52,c53,(Spec.sealF (3:Int) ((((([]:List Int)++Spec.enc (Spec.zig s_index))++Spec.enc (Spec.zig s_term))++Spec.enc (Spec.zig (s_conf.size:Int))++Spec.bytesOf s_conf)++Spec.enc (Spec.zig ((s_data).size:Int)))),H50) ⟨(show(Spec.sealF (3:Int) ((((([]:List Int)++Spec.enc (Spec.zig s_index))++Spec.enc (Spec.zig s_term))++Spec.enc (Spec.zig (s_conf.size:Int))++Spec.bytesOf s_conf)++Spec.enc (Spec.zig ((s_data).size:Int))))++Spec.partsF (Spec.bytesOf s_data)=(Spec.sealF (3:Int) ((((([]:List Int)++Spec.enc (Spec.zig s_index))++Spec.enc (Spec.zig s_term))++Spec.enc (Spec.zig (s_conf.size:Int))++Spec.bytesOf s_conf)++Spec.enc (Spec.zig ((s_data).size:Int))))++Spec.partsF (Spec.bytesOf s_data) from rfl),(show s_data.size≤200000 from(by omega)),(show(Spec.sealF (3:Int) ((((([]:List Int)++Spec.enc (Spec.zig s_index))++Spec.enc (Spec.zig s_term))++Spec.enc (Spec.zig (s_conf.size:Int))++Spec.bytesOf s_conf)++Spec.enc (Spec.zig ((s_data).size:Int)))).length+10000 * s_data.size≤4100000000 from(by have:(Spec.sealF (3:Int) ((((([]:List Int)++Spec.enc (Spec.zig s_index))++Spec.enc (Spec.zig s_term))++Spec.enc (Spec.zig (s_conf.size:Int))++Spec.bytesOf s_conf)++Spec.enc (Spec.zig ((s_data).size:Int)))).length≤4007:=Spec.sealF_len;omega)),(show My H43 H50 A52 c53 1 ((Spec.sealF (3:Int) ((((([]:List Int)++Spec.enc (Spec.zig s_index))++Spec.enc (Spec.zig s_term))++Spec.enc (Spec.zig (s_conf.size:Int))++Spec.bytesOf s_conf)++Spec.enc (Spec.zig ((s_data).size:Int)))).map u8c) from hm54),(show Fr (fun q=>(H43.next≤q∧q<H50.next∧ZB H50 q 1)) H50 H50 from(Fr.refl _ H50))⟩ ?_
  rintro⟨rest,A,cp,out,Hl59⟩ ⟨hS,hsz,hL,hm60,hxl61⟩ ih62
  replace hS:(Spec.sealF (3:Int) ((((([]:List Int)++Spec.enc (Spec.zig s_index))++Spec.enc (Spec.zig s_term))++Spec.enc (Spec.zig (s_conf.size:Int))++Spec.bytesOf s_conf)++Spec.enc (Spec.zig ((s_data).size:Int))))++Spec.partsF (Spec.bytesOf s_data)=out++Spec.partsF (Spec.bytesOf rest):=hS
  replace hsz:rest.size≤200000:=hsz
  replace hL:out.length+10000 * rest.size≤4100000000:=hL
  replace hm60:My H43 Hl59 A cp 1 (out.map u8c):=hm60
  replace hxl61:Fr (fun q=>(H43.next≤q∧q<H50.next∧ZB H50 q 1)) H50 Hl59:=hxl61
  show aw _ _ _ (RL _ (.cons 4 (.slice A out.length cp) (.cons 5 (.string rest) .nil))) Hl59 _
  have Hl59n:H50.next≤Hl59.next:=hxl61.1
  iterate 2 refine aw_seq ?_
  refine aw_reg ?_
  refine st_op (ev_move rfl) rfl rfl rfl ?_
  refine st_op (ev_str rfl rfl rfl) rfl rfl rfl ?_
  by_cases hc63:(!((rest).toList == (⟨#[]⟩:ByteArray).toList))=true
  ·
   refine aw_condT hc63 rfl ?_
   replace hc63:((rest).toList == (⟨#[]⟩:ByteArray).toList)=false:=by rw[Bool.not_eq_true'] at hc63;exact hc63
   have hc63:=ne_of_beq_false hc63
   refine aw_skip ?_
   refine aw_block ?_
   refine aw_seq ?_
   refine aw_reg ?_
   refine st_op (ev_move rfl) rfl rfl rfl ?_
   refine st_op (ev_lenStr rfl Try.underlying9) rfl rfl rfl ?_
   obtain⟨z64,hz65,hz66⟩:∃ z,(if 3000<((rest).size:Int) then 3000 else((rest).size:Int))=z∧(((rest).size:Int) ≥ z∧3000 ≥ z∧(z=((rest).size:Int)∨z=3000)):=⟨_,rfl,by split <;> omega⟩
   refine st_op (ev_minE hz65 rfl rfl) rfl rfl rfl ?_
   have hP:=Spec.parts_next (s:=rest) (z:=z64) (by assumption) hz65.symm
   refine st_op (ev_assign rfl) rfl rfl rfl ?_
   refine aw_seq ?_
   refine aw_reg ?_
   iterate 3 refine st_op (ev_move rfl) rfl rfl rfl ?_
   refine st_op (ev_slStr Try.underlying9 rfl rfl rfl (bound_int (by omega) (by omega) rfl) rfl) rfl rfl rfl ?_
   obtain⟨A67,c68,H69,he70,hm71,hx72⟩:=mem_bytes Hl59 ((rest).extract 0 ((z64).toNat)) slu8_26 isstr_9 (by omega)
   refine st_op (he70 _ _ _ _ _ _ _ _ rfl) rfl rfl rfl ?_
   have H69n:Hl59.next≤H69.next:=hx72.1
   refine st_call rfl rfl rfl ent62 rfl rfl rfl ?_
   obtain⟨_,H74,hs73,A76,c77,hs73v,hm78,hq79,hq80,hx75⟩:=frame_Seal_spec H69 4 (by decide) A67 (Spec.bytesOf ((rest).extract 0 ((z64).toNat))) c68 (My.row hm71) (My.capF hm71 (by first | omega | (simp only [List.length_append,List.length_cons,List.length_nil,List.length_map,List.length_set,List.length_replicate,Spec.bytesOf_length];omega) | (simp;omega))) (by first | omega | (simp only [List.length_append,List.length_cons,List.length_nil,List.length_map,List.length_set,List.length_replicate,Spec.bytesOf_length];omega) | (simp;omega)) (by first | assumption | exact Spec.Bytes.nil | exact Spec.bytes_of _ | (repeat' first | assumption | exact Spec.Bytes.nil | exact Spec.bytes_of _ | exact Spec.enc_bytes _ | exact Spec.four_bytes _ | exact Spec.sealF_bytes (by assumption) | apply Spec.Bytes.append | apply Spec.Bytes.cons (by omega) | apply Spec.Bytes.take | apply Spec.Bytes.drop))
   rw[hs73v] at hs73;clear hs73v
   refine⟨_,H74,hs73,?_⟩
   have H74n:H69.next≤H74.next:=hx75.1
   have hx82:Ext Hl59 H74:=(Ext.trans hx72 hx75)
   have h81:=My.ext hm60 hx82
   obtain⟨A83,c84,H85,W86,he87,hm88,hf89⟩:=mem_append (f:=u8c) (old:=out) (new:=(Spec.sealF (4:Int) (Spec.bytesOf ((rest).extract 0 ((z64).toNat))))) (m:=out.length) (mx:=(Spec.sealF (4:Int) (Spec.bytesOf ((rest).extract 0 ((z64).toNat)))).length) (c:=cp) (by first | rfl | simp) (by first | rfl | simp) eok26 (by decide) hm60 h81 (by omega) (((My.row hm78)).srcF (by decide) (by first | rfl | simp)) rfl u8c_len u8c_one (by first | omega | (simp only [List.length_append,List.length_cons,List.length_nil,List.length_map,List.length_set,List.length_replicate,Spec.bytesOf_length];omega) | (simp;omega)) (by first | omega | (simp only [List.length_append,List.length_cons,List.length_nil,List.length_map,List.length_set,List.length_replicate,Spec.bytesOf_length];omega) | (simp;omega))
   refine st_op (he87 _ _ _ _ _ _ _ _ _ _ rfl rfl isrow26) rfl rfl rfl ?_
   have H85n:H74.next≤H85.next:=hf89.1
   refine st_op (ev_assign rfl) rfl rfl rfl ?_
   refine aw_reg ?_
   iterate 2 refine st_op (ev_move rfl) rfl rfl rfl ?_
   refine st_op (ev_slStr Try.underlying9 rfl rfl rfl rfl (bound_int (by omega) (by omega) rfl)) rfl rfl rfl ?_
   refine st_op (ev_assign rfl) rfl rfl rfl ?_
   refine aw_keep [4,5] (l':=(.cons 4 (.slice A83 ((out++(Spec.sealF (4:Int) (Spec.bytesOf ((rest).extract 0 ((z64).toNat))))).length) c84) (.cons 5 (.string ((rest).extract (z64).toNat ((rest).size))) .nil))) (by repeat (first | exact Up.done | refine Up.then ?_ | refine Up.inBlock ?_)) rfl ?_
   exact ih62 (((rest).extract (z64).toNat ((rest).size)),A83,c84,(out++(Spec.sealF (4:Int) (Spec.bytesOf ((rest).extract 0 ((z64).toNat))))),H85) ⟨(show(Spec.sealF (3:Int) ((((([]:List Int)++Spec.enc (Spec.zig s_index))++Spec.enc (Spec.zig s_term))++Spec.enc (Spec.zig (s_conf.size:Int))++Spec.bytesOf s_conf)++Spec.enc (Spec.zig ((s_data).size:Int))))++Spec.partsF (Spec.bytesOf s_data)=(out++(Spec.sealF (4:Int) (Spec.bytesOf ((rest).extract 0 ((z64).toNat)))))++Spec.partsF (Spec.bytesOf ((rest).extract (z64).toNat ((rest).size))) from(by rw[hS,hP.2.1,List.append_assoc])),(show((rest).extract (z64).toNat ((rest).size)).size≤200000 from(by omega)),(show(out++(Spec.sealF (4:Int) (Spec.bytesOf ((rest).extract 0 ((z64).toNat))))).length+10000 * ((rest).extract (z64).toNat ((rest).size)).size≤4100000000 from(by rw[List.length_append];have:=@Spec.sealF_len 4 (Spec.bytesOf (rest.extract 0 z64.toNat));have:=hP.2.2.2;omega)),(show My H43 H85 A83 c84 1 ((out++(Spec.sealF (4:Int) (Spec.bytesOf ((rest).extract 0 ((z64).toNat))))).map u8c) from hm88),(show Fr (fun q=>(H43.next≤q∧q<H50.next∧ZB H50 q 1)) H50 H85 from(Fr.transG (Fr.trans (Fr.trans (Fr.transG (Fr.refl (fun q=>(H43.next≤q∧q<H50.next∧ZB H50 q 1)) H50) hxl61 (fun q hq hE e=>(⟨by omega,by omega,ZB.back hE e.2.2⟩))) (hx72.fr fun _=>False) (fun q hq (e:False)=>e.elim)) (hx75.fr fun _=>False) (fun q hq (e:False)=>e.elim)) hf89 (fun q hq hE e=>(⟨by omega,by omega,ZB.back hE e.2.2⟩))))⟩ (by simp only;omega)
  ·
   rw[Bool.not_eq_true] at hc63;refine aw_condF hc63 rfl ?_
   replace hc63:((rest).toList == (⟨#[]⟩:ByteArray).toList)=true:=by rw[Bool.not_eq_false'] at hc63;exact hc63
   have hc63:=eq_of_beq hc63
   refine aw_exit ?_
   refine aw_seq ?_
   refine aw_reg ?_
   refine st_op (ev_move rfl) rfl rfl rfl ?_
   refine st_op (ev_assign rfl) rfl rfl rfl ?_
   refine aw_ret ?_
   have hx90:Ext H Hl59:=(Ext.then (Ext.trans (Ext.then (Ext.then (Ext.then (Ext.then (Ext.trans hx6 hx9) hx17 (fun q hq e=>by omega)) hx26 (fun q hq e=>by omega)) hx35 (fun q hq e=>by omega)) hx44 (fun q hq e=>by omega)) hx51) hxl61 (fun q hq e=>by omega))
   have hres:(Spec.snapF s_index s_term s_conf s_data)=out:=by rw[Spec.snap_head (by assumption)];exact hS.trans (by rw[show rest=⟨#[]⟩ from Spec.toList_inj (by assumption)];simp [Spec.bytesOf,Spec.partsF_nil])
   exact⟨.slice A out.length cp,rfl,A,cp,by first | (rw[hres];first | done | rfl | simp;done) | rfl,(by rw[hres];exact(My.older hm60 (by omega))),(by exact Spec.snapF_bytes _ _ _ _),(by exact Spec.snapF_len _ _ _ _),(by exact⟨fun h=>absurd h (My.neF hm60 (by have:=Spec.snapF_pos hc10;rw[hres] at this;omega)),fun h=>Bool.noConfusion (h.symm.trans hc10)⟩),hx90⟩
theorem keep_whole_spec (H:Heap) (s_ht:Int) (s_hv:Int) (s_si:Int) (s_st:Int) (s_sc:ByteArray) (s_sd:ByteArray) (s_lA:Option Addr) (s_l:List Entry) (s_lc:Nat) (hs_l:Row H s_lA s_lc 4 (s_l.map Entry.cells)) (cs_l:s_l.length≤s_lc) (ls_l:s_l.length≤200):∃ v H',Spec Try.prog 75 [.agg #[.int .i64 s_ht,.int .i64 s_hv,.int .i64 s_si,.int .i64 s_st,.string s_sc,.string s_sd,.slice s_lA s_l.length s_lc]] H v H'∧(∃ rA0 rc0,(v = .slice rA0 ((Spec.wholeF s_ht s_hv s_si s_st s_sc s_sd s_l).length) rc0)∧(My H H' rA0 rc0 1 ((Spec.wholeF s_ht s_hv s_si s_st s_sc s_sd s_l).map u8c))∧(Spec.Bytes (Spec.wholeF s_ht s_hv s_si s_st s_sc s_sd s_l))∧((Spec.wholeF s_ht s_hv s_si s_st s_sc s_sd s_l).length≤2212550)∧(Ext H H')):=by
 refine spec_go1 E0_ok 28 (f:=75) Try.func75 rfl rfl rfl ?_
 refine aw_seq ?_
 refine aw_reg ?_
 obtain⟨b1,H2,he3,b1e,H2n_,hB5,f4⟩:=mem_box (P:=Try.prog) H (v := .agg #[.int .i64 s_ht,.int .i64 s_hv,.int .i64 s_si,.int .i64 s_st,.string s_sc,.string s_sd,.slice s_lA s_l.length s_lc]) (cs := [.int .i64 s_ht,.int .i64 s_hv,.int .i64 s_si,.int .i64 s_st,.string s_sc,.string s_sd,.slice s_lA s_l.length s_lc]) rfl rfl
 refine st_op (he3 _ _ _ _ _ _ _ _ _ rfl) rfl rfl rfl ?_
 have hx6:Ext H H2:=Ext.new (by omega) H2n_ f4
 have H2n:H.next≤H2.next:=hx6.1
 refine st_op (ev_assign rfl) rfl rfl rfl ?_
 refine aw_seq ?_
 refine aw_marks (fun b=>b<H2.next) [(false,false),(false,false),(false,true),(false,false),(true,false),(false,false),(false,false),(false,false),(false,false)] mixed (by kernel_rfl) (by kernel_rfl) ?_
 refine sm_op (ev_fieldAddr rfl fa61_1 (o':=2) rfl) rfl rfl rfl ?_
 refine sm_op (ev_load rfl (lvar_part (l := [.int .i64 s_si,.int .i64 s_st,.string s_sc,.string s_sd]) many46 hB5 rfl rfl (by decide))) rfl rfl rfl ?_
 refine sm_call rfl rfl rfl ent66 rfl rfl rfl ?_
 obtain⟨_,H8,hs7,A10,c11,hs7v,hm12,hq13,hq14,hq15,hx9⟩:=wal_PutSnap_spec H2 s_si s_st s_sc s_sd
 rw[hs7v] at hs7;clear hs7v
 refine⟨_,H8,hs7,(fun _ b hb=>hx9.2 b (by omega)),?_⟩
 have H8n:H2.next≤H8.next:=hx9.1
 refine sm_op (ev_fieldAddr rfl fa61_0 (o':=0) rfl) rfl rfl rfl ?_
 have h16:=Ext.blk hx9 (by omega) hB5
 refine sm_read (ev_load rfl (lvar_part (l := [.int .i64 s_ht,.int .i64 s_hv]) many41 h16 rfl rfl (by decide))) rfl rfl rfl (fun b hb=>by cases hb;dsimp only <;> omega) ?_
 refine sm_op (ev_build zero95 pl95 (parts := [(0,.bool true),(1,.agg #[.int .i64 s_ht,.int .i64 s_hv])]) rfl (cs := [.bool true,.int .i64 s_ht,.int .i64 s_hv,.int .i64 0,.int .i64 0,.int .i64 0,.string (⟨#[]⟩)]) rfl) rfl rfl rfl ?_
 refine sm_call rfl rfl rfl ent44 rfl rfl rfl ?_
 obtain⟨_,H18,hs17,A20,c21,hs17v,hm22,hq23,hx19⟩:=wal_Encode_spec H8 true s_ht s_hv (0:Int) (0:Int) (0:Int) (⟨#[]⟩:ByteArray)
 rw[hs17v] at hs17;clear hs17v
 refine⟨_,H18,hs17,(fun h=>nomatch h),?_⟩
 have H18n:H8.next≤H18.next:=hx19.1
 have h24:=My.ext hm12 hx19
 obtain⟨A25,c26,H27,W28,he29,hm30,hf31⟩:=mem_append (f:=u8c) (old:=(Spec.snapF s_si s_st s_sc s_sd)) (new:=(Spec.encodeF true s_ht s_hv (0:Int) (0:Int) (0:Int) (⟨#[]⟩:ByteArray))) (m:=(Spec.snapF s_si s_st s_sc s_sd).length) (mx:=(Spec.encodeF true s_ht s_hv (0:Int) (0:Int) (0:Int) (⟨#[]⟩:ByteArray)).length) (c:=c11) (by first | rfl | simp) (by first | rfl | simp) eok26 (by decide) hm12 h24 (by omega) (((My.row hm22)).srcF (by decide) (by first | rfl | simp)) rfl u8c_len u8c_one (by first | omega | (simp only [List.length_append,List.length_cons,List.length_nil,List.length_map,List.length_set,List.length_replicate,Spec.bytesOf_length];omega) | (simp;omega)) (by first | omega | (simp only [List.length_append,List.length_cons,List.length_nil,List.length_map,List.length_set,List.length_replicate,Spec.bytesOf_length];omega) | (simp;omega))
 refine sm_op (he29 _ _ _ _ _ _ _ _ _ _ rfl rfl isrow26) rfl rfl rfl ?_
 have H27n:H18.next≤H27.next:=hf31.1
 refine sm_op (ev_assign rfl) rfl rfl rfl ?_
 iterate 2 refine aw_seq ?_
 refine aw_reg ?_
 refine st_op (ev_fieldAddr rfl fa61_2 (o':=6) rfl) rfl rfl rfl ?_
 have hx33:Ext H2 H27:=(Ext.then (Ext.trans hx9 hx19) hf31 (fun q hq e=>by omega))
 have h32:=Ext.blk hx33 (by omega) hB5
 refine st_op (ev_load rfl (lvar_one one39 h32 rfl)) rfl rfl rfl ?_
 refine st_op (ev_lenSl rfl Try.underlying39) rfl rfl rfl ?_
 refine st_op (ev_move rfl) rfl rfl rfl ?_
 refine aw_block ?_
 refine aw_keep [3,15,16,17] (l':=(.cons 3 (.slice A25 (((Spec.snapF s_si s_st s_sc s_sd)++(Spec.encodeF true s_ht s_hv (0:Int) (0:Int) (0:Int) (⟨#[]⟩:ByteArray))).length) c26) (.cons 15 (.slice s_lA s_l.length s_lc) (.cons 16 (.int .i64 (s_l.length:Int)) (.cons 17 (.int .i64 0) .nil))))) (by repeat (first | exact Up.done | refine Up.then ?_ | refine Up.inBlock ?_)) rfl ?_
 refine aw_iter (α:=Nat×Option Addr×Nat×List Int×Heap) (fun a=>s_l.length - a.1) (fun a=>(.cons 3 (.slice a.2.1 a.2.2.2.1.length a.2.2.1) (.cons 15 (.slice s_lA s_l.length s_lc) (.cons 16 (.int .i64 (s_l.length:Int)) (.cons 17 (.int .i64 (a.1:Int)) .nil))))) (fun a=>a.2.2.2.2) (fun a=>(a.1≤s_l.length)∧(Spec.wholeF s_ht s_hv s_si s_st s_sc s_sd s_l=a.2.2.2.1++Spec.encKs (s_l.drop a.1))∧(a.2.2.2.1.length≤1702550+2550 * a.1)∧(My H2 a.2.2.2.2 a.2.1 a.2.2.1 1 (a.2.2.2.1.map u8c))∧(Fr (fun q=>(H2.next≤q∧q<H27.next∧ZB H27 q 1)) H27 a.2.2.2.2)) (0,A25,c26,((Spec.snapF s_si s_st s_sc s_sd)++(Spec.encodeF true s_ht s_hv (0:Int) (0:Int) (0:Int) (⟨#[]⟩:ByteArray))),H27) ⟨(show 0≤s_l.length from Nat.zero_le _),(show Spec.wholeF s_ht s_hv s_si s_st s_sc s_sd s_l=((Spec.snapF s_si s_st s_sc s_sd)++(Spec.encodeF true s_ht s_hv (0:Int) (0:Int) (0:Int) (⟨#[]⟩:ByteArray)))++Spec.encKs (s_l.drop 0) from rfl),(show((Spec.snapF s_si s_st s_sc s_sd)++(Spec.encodeF true s_ht s_hv (0:Int) (0:Int) (0:Int) (⟨#[]⟩:ByteArray))).length≤1702550+2550 * 0 from(by have h1:=Spec.snapF_len s_si s_st s_sc s_sd;have h2:=Spec.encodeF_len true s_ht s_hv 0 0 0 (⟨#[]⟩:ByteArray);rw[List.length_append];omega)),(show My H2 H27 A25 c26 1 (((Spec.snapF s_si s_st s_sc s_sd)++(Spec.encodeF true s_ht s_hv (0:Int) (0:Int) (0:Int) (⟨#[]⟩:ByteArray))).map u8c) from hm30),(show Fr (fun q=>(H2.next≤q∧q<H27.next∧ZB H27 q 1)) H27 H27 from(Fr.refl _ H27))⟩ ?_
 rintro⟨i,A,cp,out,Hl34⟩ ⟨hi,hS,hL,hm35,hxl36⟩ ih37
 replace hi:i≤s_l.length:=hi
 replace hS:Spec.wholeF s_ht s_hv s_si s_st s_sc s_sd s_l=out++Spec.encKs (s_l.drop i):=hS
 replace hL:out.length≤1702550+2550 * i:=hL
 replace hm35:My H2 Hl34 A cp 1 (out.map u8c):=hm35
 replace hxl36:Fr (fun q=>(H2.next≤q∧q<H27.next∧ZB H27 q 1)) H27 Hl34:=hxl36
 show aw _ _ _ (RL _ (.cons 3 (.slice A out.length cp) (.cons 15 (.slice s_lA s_l.length s_lc) (.cons 16 (.int .i64 (s_l.length:Int)) (.cons 17 (.int .i64 (i:Int)) .nil))))) Hl34 _
 have Hl34n:H27.next≤Hl34.next:=hxl36.1
 refine aw_seq ?_
 refine aw_reg ?_
 refine st_op (ev_int rfl rfl rfl) rfl rfl rfl ?_
 refine aw_seq ?_
 by_cases hc38:(decide ((i:Int)<(s_l.length:Int)))=true
 ·
  refine aw_condT hc38 rfl ?_
  have hc38:=of_decide_eq_true hc38
  refine aw_skip ?_
  refine aw_seq ?_
  refine aw_block ?_
  refine aw_seq ?_
  refine aw_reg ?_
  have hx40:Ext H Hl34:=(Ext.then (Ext.then (Ext.trans (Ext.trans hx6 hx9) hx19) hf31 (fun q hq e=>by omega)) hxl36 (fun q hq e=>by omega))
  have h39:=Row.ext hs_l hx40
  have hi41:0≤((i:Int):Int):=by omega
  have hi42:((i:Int):Int)<((s_l.length:Nat):Int):=by first | omega | (simp only [List.length_append,List.length_cons,List.length_nil,List.length_map,List.length_set,List.length_replicate,Spec.bytesOf_length];omega) | (simp;omega)
  obtain⟨x43,hx44⟩:∃ e,s_l[i]?=some e:=⟨_,List.getElem?_eq_getElem (by first | omega | (simp only [List.length_append,List.length_cons,List.length_nil,List.length_map,List.length_set,List.length_replicate,Spec.bytesOf_length];omega) | (simp;omega))⟩
  refine st_op (ev_at rfl rfl h39 (getMap Entry.cells hx44) (by first | rfl | omega | simp) hi41 hi42 el39) rfl rfl rfl ?_
  refine st_op (ev_atN (cs := [.int .i64 x43.index,.int .i64 x43.term,.int .i64 x43.kind,.string x43.data]) rfl h39 (getMap Entry.cells hx44) many54 rfl rfl (by decide)) rfl rfl rfl ?_
  obtain⟨b45,H46,he47,b45e,H46n_,hB49,f48⟩:=mem_alloc Hl34 zero54
  refine st_op (he47 _ _ _ _ _ _ _) rfl rfl rfl ?_
  have hx50:Ext Hl34 H46:=Ext.new (by omega) H46n_ f48
  have H46n:Hl34.next≤H46.next:=hx50.1
  obtain⟨H51,he52,H51n_,hB53,f54⟩:=mem_store (v := .agg #[.int .i64 x43.index,.int .i64 x43.term,.int .i64 x43.kind,.string x43.data]) (o:=0) (cs' := [.int .i64 x43.index,.int .i64 x43.term,.int .i64 x43.kind,.string x43.data]) 4 rfl rfl size54 hB49 rfl rfl rfl
  refine st_op0 (he52 _ _ _ _ _ _ _ _ _ rfl rfl) rfl rfl ?_
  have hf55:Fr (fun q=>q=b45) H46 H51:=Fr.write H51n_ f54
  have H51n:H46.next≤H51.next:=hf55.1
  refine aw_reg ?_
  refine st_op (ev_move rfl) rfl rfl rfl ?_
  refine st_op (ev_load rfl (lvar_part (l := [.int .i64 x43.index,.int .i64 x43.term,.int .i64 x43.kind,.string x43.data]) many54 hB53 rfl rfl (by decide))) rfl rfl rfl ?_
  refine st_op (ev_build zero95 pl95 (parts := [(2,.agg #[.int .i64 x43.index,.int .i64 x43.term,.int .i64 x43.kind,.string x43.data])]) rfl (cs := [.bool false,.int .i64 0,.int .i64 0,.int .i64 x43.index,.int .i64 x43.term,.int .i64 x43.kind,.string x43.data]) rfl) rfl rfl rfl ?_
  refine st_call rfl rfl rfl ent44 rfl rfl rfl ?_
  obtain⟨_,H57,hs56,A59,c60,hs56v,hm61,hq62,hx58⟩:=wal_Encode_spec H51 false (0:Int) (0:Int) x43.index x43.term x43.kind x43.data
  rw[hs56v] at hs56;clear hs56v
  refine⟨_,H57,hs56,?_⟩
  have H57n:H51.next≤H57.next:=hx58.1
  have hx64:Ext Hl34 H57:=(Ext.trans (Ext.then hx50 hf55 (fun q hq e=>by omega)) hx58)
  have h63:=My.ext hm35 hx64
  obtain⟨A65,c66,H67,W68,he69,hm70,hf71⟩:=mem_append (f:=u8c) (old:=out) (new:=(Spec.encodeF false (0:Int) (0:Int) x43.index x43.term x43.kind x43.data)) (m:=out.length) (mx:=(Spec.encodeF false (0:Int) (0:Int) x43.index x43.term x43.kind x43.data).length) (c:=cp) (by first | rfl | simp) (by first | rfl | simp) eok26 (by decide) hm35 h63 (by omega) (((My.row hm61)).srcF (by decide) (by first | rfl | simp)) rfl u8c_len u8c_one (by first | omega | (simp only [List.length_append,List.length_cons,List.length_nil,List.length_map,List.length_set,List.length_replicate,Spec.bytesOf_length];omega) | (simp;omega)) (by first | omega | (simp only [List.length_append,List.length_cons,List.length_nil,List.length_map,List.length_set,List.length_replicate,Spec.bytesOf_length];omega) | (simp;omega))
  refine st_op (he69 _ _ _ _ _ _ _ _ _ _ rfl rfl isrow26) rfl rfl rfl ?_
  have H67n:H57.next≤H67.next:=hf71.1
  refine st_op (ev_assign rfl) rfl rfl rfl ?_
  refine aw_reg ?_
  refine st_op (ev_int64 (c:=(i:Int)+1) rfl rfl rfl (by omega) (by omega)) rfl rfl rfl ?_
  refine st_op (ev_move rfl) rfl rfl rfl ?_
  refine aw_keep [3,15,16,17] (l':=(.cons 3 (.slice A65 ((out++(Spec.encodeF false (0:Int) (0:Int) x43.index x43.term x43.kind x43.data)).length) c66) (.cons 15 (.slice s_lA s_l.length s_lc) (.cons 16 (.int .i64 (s_l.length:Int)) (.cons 17 (.int .i64 ((i:Int)+1)) .nil))))) (by repeat (first | exact Up.done | refine Up.then ?_ | refine Up.inBlock ?_)) rfl ?_
  exact ih37 (i+1,A65,c66,(out++(Spec.encodeF false (0:Int) (0:Int) x43.index x43.term x43.kind x43.data)),H67) ⟨(show(i+1)≤s_l.length from(by omega)),(show Spec.wholeF s_ht s_hv s_si s_st s_sc s_sd s_l=(out++(Spec.encodeF false (0:Int) (0:Int) x43.index x43.term x43.kind x43.data))++Spec.encKs (s_l.drop (i+1)) from(by rw[hS,Spec.encKs_step hx44,List.append_assoc];rfl)),(show(out++(Spec.encodeF false (0:Int) (0:Int) x43.index x43.term x43.kind x43.data)).length≤1702550+2550 * (i+1) from(by have h2:=Spec.encK_len x43;rw[List.length_append];unfold Spec.encK at h2;omega)),(show My H2 H67 A65 c66 1 ((out++(Spec.encodeF false (0:Int) (0:Int) x43.index x43.term x43.kind x43.data)).map u8c) from hm70),(show Fr (fun q=>(H2.next≤q∧q<H27.next∧ZB H27 q 1)) H27 H67 from(Fr.transG (Fr.trans (Fr.transG (Fr.trans (Fr.transG (Fr.refl (fun q=>(H2.next≤q∧q<H27.next∧ZB H27 q 1)) H27) hxl36 (fun q hq hE e=>(⟨by omega,by omega,ZB.back hE e.2.2⟩))) (hx50.fr fun _=>False) (fun q hq (e:False)=>e.elim)) hf55 (fun q hq hE e=>absurd hq (by omega))) (hx58.fr fun _=>False) (fun q hq (e:False)=>e.elim)) hf71 (fun q hq hE e=>(⟨by omega,by omega,ZB.back hE e.2.2⟩))))⟩ (by simp only;omega)
 ·
  rw[Bool.not_eq_true] at hc38;refine aw_condF hc38 rfl ?_
  have hc38:=of_decide_eq_false hc38
  refine aw_exit ?_
  refine aw_seq ?_
  refine aw_reg ?_
  refine st_op (ev_move rfl) rfl rfl rfl ?_
  refine st_op (ev_assign rfl) rfl rfl rfl ?_
  refine aw_ret ?_
  have hx72:Ext H Hl34:=(Ext.then (Ext.then (Ext.trans (Ext.trans hx6 hx9) hx19) hf31 (fun q hq e=>by omega)) hxl36 (fun q hq e=>by omega))
  have hres:(Spec.wholeF s_ht s_hv s_si s_st s_sc s_sd s_l)=out:=by rw[hS,List.drop_eq_nil_of_le (by omega)];exact List.append_nil _
  exact⟨.slice A out.length cp,rfl,A,cp,by first | (rw[hres];first | done | rfl | simp;done) | rfl,(by rw[hres];exact(My.older hm35 (by omega))),(by exact Spec.whole_bytes _ _ _ _ _ _ _),(by have:=@Spec.whole_len s_ht s_hv s_si s_st s_sc s_sd s_l;omega),hx72⟩

theorem keep_lay_spec (H:Heap) (d dm:Nat) (dD:Nat→Prop) (dl:Files) (dp:List Place) (dk:Int) (rd:DiskR dD H d dm dl dp dk) (kd:dk≤1099511627000) (ht:Int) (hv:Int) (si:Int) (hsi:0≤si∧si≤1099511627776) (st:Int) (sc:ByteArray) (sd:ByteArray) (lA:Option Addr) (l:List Entry) (lc:Nat) (hl:Row H lA lc 4 (l.map Entry.cells)) (cl:l.length≤lc) (ll:l.length≤200) (sz:Int) (hsz:0≤sz∧sz≤1048576) (k:Nat) (hk:k<H.next) (Bk:H.blk k=some ⟨[.pointer (some ⟨d,0,none⟩),.int .i64 ht,.int .i64 hv,.int .i64 si,.int .i64 st,.string sc,.string sd,.slice lA l.length lc,.int .i64 sz],0,false,false⟩) (nk:¬ dD k) (s_ht:Int) (s_hv:Int) (s_si:Int) (s_st:Int) (s_sc:ByteArray) (s_sd:ByteArray) (s_lA:Option Addr) (s_l:List Entry) (s_lc:Nat) (hs_l:Row H s_lA s_lc 4 (s_l.map Entry.cells)) (cs_l:s_l.length≤s_lc) (ls_l:s_l.length≤200) (hg:(Spec.wholeF s_ht s_hv s_si s_st s_sc s_sd s_l).length≤1048576):∃ v H',Spec Try.prog 65 [.pointer (some ⟨k,0,none⟩),.agg #[.int .i64 s_ht,.int .i64 s_hv,.int .i64 s_si,.int .i64 s_st,.string s_sc,.string s_sd,.slice s_lA s_l.length s_lc]] H v H'∧((v = .int .i64 0)∧(H'.blk k=some ⟨[.pointer (some ⟨d,0,none⟩),.int .i64 ht,.int .i64 hv,.int .i64 si,.int .i64 st,.string sc,.string sd,.slice lA l.length lc,.int .i64 ((Spec.wholeF s_ht s_hv s_si s_st s_sc s_sd s_l).length:Int)],0,false,false⟩)∧(DiskS dD H H' d (Spec.fput ⟨#[115,116,97,116,101]⟩ ⟨(Spec.wholeF s_ht s_hv s_si s_st s_sc s_sd s_l),((Spec.wholeF s_ht s_hv s_si s_st s_sc s_sd s_l).length:Int),true⟩ dl) dk 1)∧(Fr (fun q=>q=k∨(dD q∧Z01 H q)) H H')):=by
 have bd:=rd.below _ rd.dp;have bdm:=rd.below _ rd.dm;have zd:=rd.kb
 have sub_d:∀ q,dD q→dD q∨(H.next≤q∧q<H.next):=fun q e => .inl e
 refine spec_go2 E0_ok 23 (f:=65) Try.func65 rfl rfl rfl ?_
 refine aw_seq ?_
 refine aw_reg ?_
 obtain⟨b1,H2,he3,b1e,H2n_,hB5,f4⟩:=mem_box (P:=Try.prog) H (v := .agg #[.int .i64 s_ht,.int .i64 s_hv,.int .i64 s_si,.int .i64 s_st,.string s_sc,.string s_sd,.slice s_lA s_l.length s_lc]) (cs := [.int .i64 s_ht,.int .i64 s_hv,.int .i64 s_si,.int .i64 s_st,.string s_sc,.string s_sd,.slice s_lA s_l.length s_lc]) rfl rfl
 refine st_op (he3 _ _ _ _ _ _ _ _ _ rfl) rfl rfl rfl ?_
 have hx6:Ext H H2:=Ext.new (by omega) H2n_ f4
 have H2n:H.next≤H2.next:=hx6.1
 refine st_op (ev_assign rfl) rfl rfl rfl ?_
 refine aw_seq ?_
 refine aw_reg ?_
 refine st_op (ev_load rfl (lvar_part (l := [.int .i64 s_ht,.int .i64 s_hv,.int .i64 s_si,.int .i64 s_st,.string s_sc,.string s_sd,.slice s_lA s_l.length s_lc]) many61 hB5 rfl rfl (by decide))) rfl rfl rfl ?_
 refine st_call rfl rfl rfl ent75 rfl rfl rfl ?_
 have h7:=Row.ext hs_l hx6
 obtain⟨_,H9,hs8,A11,c12,hs8v,hm13,hq14,hq15,hx10⟩:=keep_whole_spec H2 s_ht s_hv s_si s_st s_sc s_sd s_lA s_l s_lc h7 cs_l (by omega)
 rw[hs8v] at hs8;clear hs8v
 refine⟨_,H9,hs8,?_⟩
 have H9n:H2.next≤H9.next:=hx10.1
 refine st_op (ev_assign rfl) rfl rfl rfl ?_
 refine aw_seq ?_
 refine aw_reg ?_
 refine st_op (ev_move rfl) rfl rfl rfl ?_
 refine st_op (ev_nilCheck rfl) rfl rfl rfl ?_
 refine st_op (ev_fieldAddr rfl fa88_0 (o':=0) rfl) rfl rfl rfl ?_
 have hx17:Ext H H9:=(Ext.trans hx6 hx10)
 have h16:=Ext.blk hx17 (by omega) Bk
 refine st_op (ev_load rfl (lvar_one one24 h16 rfl)) rfl rfl rfl ?_
 refine st_op (ev_move rfl) rfl rfl rfl ?_
 refine st_call rfl rfl rfl ent13 rfl rfl rfl ?_
 have h18:=DiskR.ext rd hx17
 have hS19:=disk_Swap_spec H9 d dD dl dk ⟨_,_,h18⟩ (by omega) (⟨#[115,116,97,116,101]⟩) (by first | omega | decide | assumption) A11 (Spec.wholeF s_ht s_hv s_si s_st s_sc s_sd s_l) c12 (My.row hm13) (My.capF hm13 (by first | omega | (simp only [List.length_append,List.length_cons,List.length_nil,List.length_map,List.length_set,List.length_replicate,Spec.bytesOf_length];omega) | (simp;omega))) (by first | omega | (simp only [List.length_append,List.length_cons,List.length_nil,List.length_map,List.length_set,List.length_replicate,Spec.bytesOf_length];omega) | (simp;omega)) (Spec.whole_bytes _ _ _ _ _ _ _)
 rw[Spec.swap_ok (F:=⟨#[115,116,97,116,101]⟩) (b:=(Spec.wholeF s_ht s_hv s_si s_st s_sc s_sd s_l)) (l:=dl) (by decide) (by omega)] at hS19;try dsimp only at hS19
 obtain⟨_,H20,hs21,rfl,D23,⟨mb24,ps25,hr26⟩,hb27,hx22⟩:=hS19
 refine⟨_,H20,hs21,?_⟩
 have H20n:H9.next≤H20.next:=hx22.1
 have hno28:¬ D23 k:=fun e=>(hb27 _ e).elim nk (fun e=>by omega)
 have hD29:=fun q e=>(hb27 q e).imp (rd.below q) id
 have hS30:∀ q,D23 q→dD q∨(H.next≤q∧q<H20.next):=fun q e=>(hb27 q e).elim (fun e=>(sub_d q e).imp id (fun e=>by omega)) (fun e => .inr (by omega))
 refine st_op (ev_assign rfl) rfl rfl rfl ?_
 iterate 2 refine aw_seq ?_
 refine aw_reg ?_
 refine st_op (ev_move rfl) rfl rfl rfl ?_
 refine st_op (ev_int rfl rfl rfl) rfl rfl rfl ?_
 refine aw_cond (t:=true) rfl ?_
 refine aw_reg ?_
 iterate 2 refine st_op (ev_move rfl) rfl rfl rfl ?_
 refine st_op (ev_lenSl rfl Try.underlying26) rfl rfl rfl ?_
 refine st_op (ev_nilCheck rfl) rfl rfl rfl ?_
 refine st_op (ev_fieldAddr rfl fa88_2 (o':=8) rfl) rfl rfl rfl ?_
 have h31:=Fr.blk hx22 (by omega) (fun e=>(nk e.1)) h16
 obtain⟨H32,he33,H32n_,hB34,f35⟩:=mem_store (v := .int .i64 ((Spec.wholeF s_ht s_hv s_si s_st s_sc s_sd s_l).length:Int)) (o:=8) (cs' := [.pointer (some ⟨d,0,none⟩),.int .i64 ht,.int .i64 hv,.int .i64 si,.int .i64 st,.string sc,.string sd,.slice lA l.length lc,.int .i64 ((Spec.wholeF s_ht s_hv s_si s_st s_sc s_sd s_l).length:Int)]) 1 rfl rfl size3 h31 rfl rfl rfl
 refine st_op0 (he33 _ _ _ _ _ _ _ _ _ rfl rfl) rfl rfl ?_
 have hf36:Fr (fun q=>q=k) H20 H32:=Fr.write H32n_ f35
 have H32n:H20.next≤H32.next:=hf36.1
 refine aw_seq ?_
 refine aw_reg ?_
 refine st_op (ev_move rfl) rfl rfl rfl ?_
 refine st_op (ev_assign rfl) rfl rfl rfl ?_
 refine aw_ret ?_
 have h37:=DiskR.fr hr26 hf36 (fun q hd e=>(hno28 (e ▸ hd)))
 have hres:(((Spec.wholeF s_ht s_hv s_si s_st s_sc s_sd s_l).length:Int),(Spec.fput ⟨#[115,116,97,116,101]⟩ ⟨(Spec.wholeF s_ht s_hv s_si s_st s_sc s_sd s_l),((Spec.wholeF s_ht s_hv s_si s_st s_sc s_sd s_l).length:Int),true⟩ dl))=(((Spec.wholeF s_ht s_hv s_si s_st s_sc s_sd s_l).length:Int),(Spec.fput ⟨#[115,116,97,116,101]⟩ ⟨(Spec.wholeF s_ht s_hv s_si s_st s_sc s_sd s_l),((Spec.wholeF s_ht s_hv s_si s_st s_sc s_sd s_l).length:Int),true⟩ dl)):=by rfl
 have he0:((Spec.wholeF s_ht s_hv s_si s_st s_sc s_sd s_l).length:Int)=((Spec.wholeF s_ht s_hv s_si s_st s_sc s_sd s_l).length:Int):=congrArg (fun p=>p.1) hres
 have he1:(Spec.fput ⟨#[115,116,97,116,101]⟩ ⟨(Spec.wholeF s_ht s_hv s_si s_st s_sc s_sd s_l),((Spec.wholeF s_ht s_hv s_si s_st s_sc s_sd s_l).length:Int),true⟩ dl)=(Spec.fput ⟨#[115,116,97,116,101]⟩ ⟨(Spec.wholeF s_ht s_hv s_si s_st s_sc s_sd s_l),((Spec.wholeF s_ht s_hv s_si s_st s_sc s_sd s_l).length:Int),true⟩ dl):=congrArg (fun p=>p.2) hres
 exact⟨.int .i64 0,rfl,rfl,(by first | exact hB34 | (rw[he0];exact hB34) | (rw[he1];exact hB34) | (rw[he0,he1];exact hB34)),(by first | exact⟨D23,(dk+1),⟨_,_,h37⟩,by omega,(fun q e=>(hS30 q e).imp id (fun e=>by omega))⟩ | (rw[he0];exact⟨D23,(dk+1),⟨_,_,h37⟩,by omega,(fun q e=>(hS30 q e).imp id (fun e=>by omega))⟩) | (rw[he1];exact⟨D23,(dk+1),⟨_,_,h37⟩,by omega,(fun q e=>(hS30 q e).imp id (fun e=>by omega))⟩) | (rw[he0,he1];exact⟨D23,(dk+1),⟨_,_,h37⟩,by omega,(fun q e=>(hS30 q e).imp id (fun e=>by omega))⟩)),(Fr.transG (Fr.transG (Fr.trans (Fr.trans (Fr.refl (fun q=>q=k∨(dD q∧Z01 H q)) H) (hx6.fr fun _=>False) (fun q hq (e:False)=>e.elim)) (hx10.fr fun _=>False) (fun q hq (e:False)=>e.elim)) hx22 (fun q hq hE e=>Or.inr ((⟨e.1,Z01.back hE e.2⟩)))) hf36 (fun q hq hE e=>Or.inl (e)))⟩

theorem keep_add_spec (H:Heap) (d dm:Nat) (dD:Nat→Prop) (dl:Files) (dp:List Place) (dk:Int) (rd:DiskR dD H d dm dl dp dk) (kd:dk≤1099511627000) (ht:Int) (hv:Int) (si:Int) (hsi:0≤si∧si≤1099511627776) (st:Int) (sc:ByteArray) (sd:ByteArray) (lA:Option Addr) (l:List Entry) (lc:Nat) (hl:Row H lA lc 4 (l.map Entry.cells)) (cl:l.length≤lc) (ll:l.length≤200) (sz:Int) (hsz:0≤sz∧sz≤1048576) (k:Nat) (hk:k<H.next) (Bk:H.blk k=some ⟨[.pointer (some ⟨d,0,none⟩),.int .i64 ht,.int .i64 hv,.int .i64 si,.int .i64 st,.string sc,.string sd,.slice lA l.length lc,.int .i64 sz],0,false,false⟩) (nk:¬ dD k) (bA:Option Addr) (b:List Int) (bc:Nat) (hb:Row H bA bc 1 (b.map u8c)) (cb:b.length≤bc) (lb:b.length≤1073741824) (bb:Spec.Bytes b) (s_ht:Int) (s_hv:Int) (s_si:Int) (s_st:Int) (s_sc:ByteArray) (s_sd:ByteArray) (s_lA:Option Addr) (s_l:List Entry) (s_lc:Nat) (hs_l:Row H s_lA s_lc 4 (s_l.map Entry.cells)) (cs_l:s_l.length≤s_lc) (ls_l:s_l.length≤200) (nbb:RowA dD bA bc b) (hg:(Spec.wholeF ht hv si st sc sd l).length+b.length≤1048576) (hf:Spec.FileOk dl sz):∃ v H',Spec Try.prog 45 [.pointer (some ⟨k,0,none⟩),.slice bA b.length bc,.agg #[.int .i64 s_ht,.int .i64 s_hv,.int .i64 s_si,.int .i64 s_st,.string s_sc,.string s_sd,.slice s_lA s_l.length s_lc]] H v H'∧((v = .int .i64 0)∧(H'.blk k=some ⟨[.pointer (some ⟨d,0,none⟩),.int .i64 s_ht,.int .i64 s_hv,.int .i64 s_si,.int .i64 s_st,.string s_sc,.string s_sd,.slice s_lA s_l.length s_lc,.int .i64 ((Spec.addF dl sz (Spec.wholeF ht hv si st sc sd l) b).1)],0,false,false⟩)∧(DiskS dD H H' d ((Spec.addF dl sz (Spec.wholeF ht hv si st sc sd l) b).2) dk 2)∧(Fr (fun q=>q=k∨(dD q∧Z01 H q)) H H')):=by
 have bd:=rd.below _ rd.dp;have bdm:=rd.below _ rd.dm;have zd:=rd.kb
 have sub_d:∀ q,dD q→dD q∨(H.next≤q∧q<H.next):=fun q e => .inl e
 refine spec_go3 E0_ok 55 (f:=45) Try.func45 rfl rfl rfl ?_
 refine aw_seq ?_
 refine aw_reg ?_
 obtain⟨b1,H2,he3,b1e,H2n_,hB5,f4⟩:=mem_box (P:=Try.prog) H (v := .agg #[.int .i64 s_ht,.int .i64 s_hv,.int .i64 s_si,.int .i64 s_st,.string s_sc,.string s_sd,.slice s_lA s_l.length s_lc]) (cs := [.int .i64 s_ht,.int .i64 s_hv,.int .i64 s_si,.int .i64 s_st,.string s_sc,.string s_sd,.slice s_lA s_l.length s_lc]) rfl rfl
 refine st_op (he3 _ _ _ _ _ _ _ _ _ rfl) rfl rfl rfl ?_
 have hx6:Ext H H2:=Ext.new (by omega) H2n_ f4
 have H2n:H.next≤H2.next:=hx6.1
 refine st_op (ev_assign rfl) rfl rfl rfl ?_
 iterate 2 refine aw_seq ?_
 refine aw_reg ?_
 refine st_op (ev_move rfl) rfl rfl rfl ?_
 refine st_op (ev_nilCheck rfl) rfl rfl rfl ?_
 refine st_op (ev_fieldAddr rfl fa88_2 (o':=8) rfl) rfl rfl rfl ?_
 have h7:=Ext.blk hx6 (by omega) Bk
 refine st_op (ev_load rfl (lvar_one one3 h7 rfl)) rfl rfl rfl ?_
 refine st_op (ev_int rfl rfl rfl) rfl rfl rfl ?_
 refine st_op (ev_move rfl) rfl rfl rfl ?_
 refine st_bool 14 rfl (fun hb8=>?_) (fun hb8=>?_)
 ·
  have hb8:=eq_of_beq hb8
  iterate 8 refine st_skip rfl rfl rfl ?_
  refine st_op (ev_pickT rfl rfl) rfl rfl rfl ?_
  refine aw_cond (t:=true) rfl ?_
  refine aw_seq ?_
  refine aw_reg ?_
  iterate 2 refine st_op (ev_move rfl) rfl rfl rfl ?_
  refine st_op (ev_nilCheck rfl) rfl rfl rfl ?_
  refine st_op (ev_fieldAddr rfl fa88_1 (o':=1) rfl) rfl rfl rfl ?_
  refine st_op (ev_load rfl (lvar_part (l := [.int .i64 ht,.int .i64 hv,.int .i64 si,.int .i64 st,.string sc,.string sd,.slice lA l.length lc]) many61 h7 rfl rfl (by decide))) rfl rfl rfl ?_
  refine st_call rfl rfl rfl ent65 rfl rfl rfl ?_
  have h9:=DiskR.ext rd hx6
  have h10:=Row.ext hl hx6
  obtain⟨_,H12,hs11,hs11v,hB14,hS15,hx13⟩:=keep_lay_spec H2 d dm dD dl dp dk h9 (by omega) ht hv si ⟨by omega,by omega⟩ st sc sd lA l lc h10 cl (by omega) sz ⟨by omega,by omega⟩ k (by omega) h7 nk ht hv si st sc sd lA l lc h10 cl (by omega) (by omega)
  rw[hs11v] at hs11;clear hs11v
  refine⟨_,H12,hs11,?_⟩
  have H12n:H2.next≤H12.next:=hx13.1
  obtain⟨D16,k17,⟨mb18,ps19,hr20⟩,hk21,hb22⟩:=hS15
  have k17b:=hr20.kb
  have hno25:¬ D16 k:=fun e=>(hb22 _ e).elim nk (fun e=>by omega)
  have hD26:=fun q e=>(hb22 q e).imp (rd.below q) id
  have hS27:∀ q,D16 q→dD q∨(H.next≤q∧q<H12.next):=fun q e=>(hb22 q e).elim (fun e=>(sub_d q e).imp id (fun e=>by omega)) (fun e => .inr (by omega))
  refine st_op (ev_assign rfl) rfl rfl rfl ?_
  refine aw_seq ?_
  refine aw_reg ?_
  refine st_op (ev_move rfl) rfl rfl rfl ?_
  refine st_op (ev_int rfl rfl rfl) rfl rfl rfl ?_
  refine aw_cond (t:=false) rfl ?_
  refine aw_skip ?_
  iterate 2 refine aw_seq ?_
  refine aw_reg ?_
  refine st_op (ev_move rfl) rfl rfl rfl ?_
  refine st_op (ev_nilCheck rfl) rfl rfl rfl ?_
  refine st_op (ev_fieldAddr rfl fa88_0 (o':=0) rfl) rfl rfl rfl ?_
  refine st_op (ev_load rfl (lvar_one one24 hB14 rfl)) rfl rfl rfl ?_
  refine st_op (ev_move rfl) rfl rfl rfl ?_
  refine st_call rfl rfl rfl ent11 rfl rfl rfl ?_
  have h32:=Row.ext hb hx6
  have h33:=Row.apart h32 nbb hx13 (fun q e=>Or.elim e (fun e=>Or.inr ⟨_,e ▸ h7,show(0:Nat)≠1 by decide⟩) (fun e=>Or.inl e.1))
  have hS28:=disk_Append_spec H12 d D16 (Spec.fput ⟨#[115,116,97,116,101]⟩ ⟨(Spec.wholeF ht hv si st sc sd l),((Spec.wholeF ht hv si st sc sd l).length:Int),true⟩ dl) k17 ⟨_,_,hr20⟩ (by omega) (⟨#[115,116,97,116,101]⟩) (by first | omega | decide | assumption) bA b bc h33 cb (by omega) (by assumption)
  rw[Spec.app_swap (F:=⟨#[115,116,97,116,101]⟩) (W:=(Spec.wholeF ht hv si st sc sd l)) (b:=b) (l:=dl) (by decide) (by omega)] at hS28;try dsimp only at hS28
  obtain⟨_,H29,hs30,rfl,D34,⟨mb35,ps36,hr37⟩,hb38,hx31⟩:=hS28
  refine⟨_,H29,hs30,?_⟩
  have H29n:H12.next≤H29.next:=hx31.1
  have hno39:¬ D34 k:=fun e=>(hb38 _ e).elim hno25 (fun e=>by omega)
  have hD40:=fun q e=>(hb38 q e).imp (hD26 q) id
  have hS41:∀ q,D34 q→dD q∨(H.next≤q∧q<H29.next):=fun q e=>(hb38 q e).elim (fun e=>(hS27 q e).imp id (fun e=>by omega)) (fun e => .inr (by omega))
  refine st_op (ev_assign rfl) rfl rfl rfl ?_
  refine aw_seq ?_
  refine aw_reg ?_
  refine st_op (ev_move rfl) rfl rfl rfl ?_
  refine st_op (ev_int rfl rfl rfl) rfl rfl rfl ?_
  refine aw_cond (t:=false) rfl ?_
  refine aw_skip ?_
  refine aw_seq ?_
  refine aw_reg ?_
  refine st_op (ev_move rfl) rfl rfl rfl ?_
  refine st_op (ev_nilCheck rfl) rfl rfl rfl ?_
  refine st_op (ev_fieldAddr rfl fa88_2 (o':=8) rfl) rfl rfl rfl ?_
  have h42:=Fr.blk hx31 (by omega) (fun e=>(hno25 e.1)) hB14
  refine st_op (ev_load rfl (lvar_one one3 h42 rfl)) rfl rfl rfl ?_
  refine st_op (ev_move rfl) rfl rfl rfl ?_
  refine st_op (ev_lenSl rfl Try.underlying26) rfl rfl rfl ?_
  refine st_op (ev_int64 (c:=((Spec.wholeF ht hv si st sc sd l).length:Int)+(b.length:Int)) rfl rfl rfl (by omega) (by omega)) rfl rfl rfl ?_
  refine st_op (ev_nilCheck rfl) rfl rfl rfl ?_
  refine st_op (ev_fieldAddr rfl fa88_2 (o':=8) rfl) rfl rfl rfl ?_
  obtain⟨H43,he44,H43n_,hB45,f46⟩:=mem_store (v := .int .i64 (((Spec.wholeF ht hv si st sc sd l).length:Int)+(b.length:Int))) (o:=8) (cs' := [.pointer (some ⟨d,0,none⟩),.int .i64 ht,.int .i64 hv,.int .i64 si,.int .i64 st,.string sc,.string sd,.slice lA l.length lc,.int .i64 (((Spec.wholeF ht hv si st sc sd l).length:Int)+(b.length:Int))]) 1 rfl rfl size3 h42 rfl rfl rfl
  refine st_op0 (he44 _ _ _ _ _ _ _ _ _ rfl rfl) rfl rfl ?_
  have hf47:Fr (fun q=>q=k) H29 H43:=Fr.write H43n_ f46
  have H43n:H29.next≤H43.next:=hf47.1
  refine aw_seq ?_
  refine aw_reg ?_
  refine st_op (ev_move rfl) rfl rfl rfl ?_
  have h48:=Fr.blk hx13 (by omega) (fun e=>Or.elim e (fun e=>(by omega)) (fun e=>(by(first | omega | (replace e:=rd.below _ e.1;omega))))) hB5
  have h49:=Fr.blk hx31 (by omega) (fun e=>(by(first | omega | (replace e:=hD26 _ e.1;omega)))) h48
  have h50:=Fr.blk hf47 (by omega) (fun e=>(by omega)) h49
  refine st_op (ev_load rfl (lvar_part (l := [.int .i64 s_ht,.int .i64 s_hv,.int .i64 s_si,.int .i64 s_st,.string s_sc,.string s_sd,.slice s_lA s_l.length s_lc]) many61 h50 rfl rfl (by decide))) rfl rfl rfl ?_
  refine st_op (ev_nilCheck rfl) rfl rfl rfl ?_
  refine st_op (ev_fieldAddr rfl fa88_1 (o':=1) rfl) rfl rfl rfl ?_
  obtain⟨H51,he52,H51n_,hB53,f54⟩:=mem_store (v := .agg #[.int .i64 s_ht,.int .i64 s_hv,.int .i64 s_si,.int .i64 s_st,.string s_sc,.string s_sd,.slice s_lA s_l.length s_lc]) (o:=1) (cs' := [.pointer (some ⟨d,0,none⟩),.int .i64 s_ht,.int .i64 s_hv,.int .i64 s_si,.int .i64 s_st,.string s_sc,.string s_sd,.slice s_lA s_l.length s_lc,.int .i64 (((Spec.wholeF ht hv si st sc sd l).length:Int)+(b.length:Int))]) 7 rfl rfl size61 hB45 rfl rfl rfl
  refine st_op0 (he52 _ _ _ _ _ _ _ _ _ rfl rfl) rfl rfl ?_
  have hf55:Fr (fun q=>q=k) H43 H51:=Fr.write H51n_ f54
  have H51n:H43.next≤H51.next:=hf55.1
  refine aw_seq ?_
  refine aw_reg ?_
  refine st_op (ev_assign rfl) rfl rfl rfl ?_
  refine aw_ret ?_
  have h56:=DiskR.fr hr37 hf47 (fun q hd e=>(hno39 (e ▸ hd)))
  have h57:=DiskR.fr h56 hf55 (fun q hd e=>(hno39 (e ▸ hd)))
  have hres:((Spec.addF dl sz (Spec.wholeF ht hv si st sc sd l) b).1,(Spec.addF dl sz (Spec.wholeF ht hv si st sc sd l) b).2)=(((Spec.wholeF ht hv si st sc sd l).length:Int)+(b.length:Int),(Spec.fput ⟨#[115,116,97,116,101]⟩ ⟨(Spec.wholeF ht hv si st sc sd l)++b,((Spec.wholeF ht hv si st sc sd l).length:Int),true⟩ dl)):=by first | (rw[Spec.add_lay (by omega)];done) | (rw[Spec.add_app (by omega)];done)
  have he0:(Spec.addF dl sz (Spec.wholeF ht hv si st sc sd l) b).1=((Spec.wholeF ht hv si st sc sd l).length:Int)+(b.length:Int):=congrArg (fun p=>p.1) hres
  have he1:(Spec.addF dl sz (Spec.wholeF ht hv si st sc sd l) b).2=(Spec.fput ⟨#[115,116,97,116,101]⟩ ⟨(Spec.wholeF ht hv si st sc sd l)++b,((Spec.wholeF ht hv si st sc sd l).length:Int),true⟩ dl):=congrArg (fun p=>p.2) hres
  exact⟨.int .i64 0,rfl,rfl,(by first | exact hB53 | (rw[he0];exact hB53) | (rw[he1];exact hB53) | (rw[he0,he1];exact hB53)),(by first | exact⟨D34,(k17+1),⟨_,_,h57⟩,by omega,(fun q e=>(hS41 q e).imp id (fun e=>by omega))⟩ | (rw[he0];exact⟨D34,(k17+1),⟨_,_,h57⟩,by omega,(fun q e=>(hS41 q e).imp id (fun e=>by omega))⟩) | (rw[he1];exact⟨D34,(k17+1),⟨_,_,h57⟩,by omega,(fun q e=>(hS41 q e).imp id (fun e=>by omega))⟩) | (rw[he0,he1];exact⟨D34,(k17+1),⟨_,_,h57⟩,by omega,(fun q e=>(hS41 q e).imp id (fun e=>by omega))⟩)),(Fr.transG (Fr.transG (Fr.transG (Fr.transG (Fr.trans (Fr.refl (fun q=>q=k∨(dD q∧Z01 H q)) H) (hx6.fr fun _=>False) (fun q hq (e:False)=>e.elim)) hx13 (fun q hq hE e=>Or.elim e (fun e=>Or.inl (e)) (fun e=>Or.inr ((⟨e.1,Z01.back hE e.2⟩))))) hx31 (fun q hq hE e=>(Or.elim (hS27 q e.1) (fun d=>Or.inr ((⟨d,Z01.back hE e.2⟩))) (fun d=>absurd hq (by omega))))) hf47 (fun q hq hE e=>Or.inl (e))) hf55 (fun q hq hE e=>Or.inl (e)))⟩
 ·
  have hb8:=ne_of_beq_false hb8
  refine st_op (ev_move rfl) rfl rfl rfl ?_
  refine st_op (ev_nilCheck rfl) rfl rfl rfl ?_
  refine st_op (ev_fieldAddr rfl fa88_2 (o':=8) rfl) rfl rfl rfl ?_
  refine st_op (ev_load rfl (lvar_one one3 h7 rfl)) rfl rfl rfl ?_
  refine st_op (ev_move rfl) rfl rfl rfl ?_
  refine st_op (ev_lenSl rfl Try.underlying26) rfl rfl rfl ?_
  refine st_op (ev_int64 (c:=sz+(b.length:Int)) rfl rfl rfl (by omega) (by omega)) rfl rfl rfl ?_
  refine st_op (ev_int rfl rfl rfl) rfl rfl rfl ?_
  refine st_op (ev_pickF rfl rfl) rfl rfl rfl ?_
  by_cases hc58:(decide (sz+(b.length:Int) > 1048576))=true
  ·
   refine aw_condT hc58 rfl ?_
   have hc58:=of_decide_eq_true hc58
   refine aw_seq ?_
   refine aw_reg ?_
   iterate 2 refine st_op (ev_move rfl) rfl rfl rfl ?_
   refine st_op (ev_nilCheck rfl) rfl rfl rfl ?_
   refine st_op (ev_fieldAddr rfl fa88_1 (o':=1) rfl) rfl rfl rfl ?_
   refine st_op (ev_load rfl (lvar_part (l := [.int .i64 ht,.int .i64 hv,.int .i64 si,.int .i64 st,.string sc,.string sd,.slice lA l.length lc]) many61 h7 rfl rfl (by decide))) rfl rfl rfl ?_
   refine st_call rfl rfl rfl ent65 rfl rfl rfl ?_
   have h59:=DiskR.ext rd hx6
   have h60:=Row.ext hl hx6
   obtain⟨_,H62,hs61,hs61v,hB64,hS65,hx63⟩:=keep_lay_spec H2 d dm dD dl dp dk h59 (by omega) ht hv si ⟨by omega,by omega⟩ st sc sd lA l lc h60 cl (by omega) sz ⟨by omega,by omega⟩ k (by omega) h7 nk ht hv si st sc sd lA l lc h60 cl (by omega) (by omega)
   rw[hs61v] at hs61;clear hs61v
   refine⟨_,H62,hs61,?_⟩
   have H62n:H2.next≤H62.next:=hx63.1
   obtain⟨D66,k67,⟨mb68,ps69,hr70⟩,hk71,hb72⟩:=hS65
   have k67b:=hr70.kb
   have hno75:¬ D66 k:=fun e=>(hb72 _ e).elim nk (fun e=>by omega)
   have hD76:=fun q e=>(hb72 q e).imp (rd.below q) id
   have hS77:∀ q,D66 q→dD q∨(H.next≤q∧q<H62.next):=fun q e=>(hb72 q e).elim (fun e=>(sub_d q e).imp id (fun e=>by omega)) (fun e => .inr (by omega))
   refine st_op (ev_assign rfl) rfl rfl rfl ?_
   refine aw_seq ?_
   refine aw_reg ?_
   refine st_op (ev_move rfl) rfl rfl rfl ?_
   refine st_op (ev_int rfl rfl rfl) rfl rfl rfl ?_
   refine aw_cond (t:=false) rfl ?_
   refine aw_skip ?_
   iterate 2 refine aw_seq ?_
   refine aw_reg ?_
   refine st_op (ev_move rfl) rfl rfl rfl ?_
   refine st_op (ev_nilCheck rfl) rfl rfl rfl ?_
   refine st_op (ev_fieldAddr rfl fa88_0 (o':=0) rfl) rfl rfl rfl ?_
   refine st_op (ev_load rfl (lvar_one one24 hB64 rfl)) rfl rfl rfl ?_
   refine st_op (ev_move rfl) rfl rfl rfl ?_
   refine st_call rfl rfl rfl ent11 rfl rfl rfl ?_
   have h82:=Row.ext hb hx6
   have h83:=Row.apart h82 nbb hx63 (fun q e=>Or.elim e (fun e=>Or.inr ⟨_,e ▸ h7,show(0:Nat)≠1 by decide⟩) (fun e=>Or.inl e.1))
   have hS78:=disk_Append_spec H62 d D66 (Spec.fput ⟨#[115,116,97,116,101]⟩ ⟨(Spec.wholeF ht hv si st sc sd l),((Spec.wholeF ht hv si st sc sd l).length:Int),true⟩ dl) k67 ⟨_,_,hr70⟩ (by omega) (⟨#[115,116,97,116,101]⟩) (by first | omega | decide | assumption) bA b bc h83 cb (by omega) (by assumption)
   rw[Spec.app_swap (F:=⟨#[115,116,97,116,101]⟩) (W:=(Spec.wholeF ht hv si st sc sd l)) (b:=b) (l:=dl) (by decide) (by omega)] at hS78;try dsimp only at hS78
   obtain⟨_,H79,hs80,rfl,D84,⟨mb85,ps86,hr87⟩,hb88,hx81⟩:=hS78
   refine⟨_,H79,hs80,?_⟩
   have H79n:H62.next≤H79.next:=hx81.1
   have hno89:¬ D84 k:=fun e=>(hb88 _ e).elim hno75 (fun e=>by omega)
   have hD90:=fun q e=>(hb88 q e).imp (hD76 q) id
   have hS91:∀ q,D84 q→dD q∨(H.next≤q∧q<H79.next):=fun q e=>(hb88 q e).elim (fun e=>(hS77 q e).imp id (fun e=>by omega)) (fun e => .inr (by omega))
   refine st_op (ev_assign rfl) rfl rfl rfl ?_
   refine aw_seq ?_
   refine aw_reg ?_
   refine st_op (ev_move rfl) rfl rfl rfl ?_
   refine st_op (ev_int rfl rfl rfl) rfl rfl rfl ?_
   refine aw_cond (t:=false) rfl ?_
   refine aw_skip ?_
   refine aw_seq ?_
   refine aw_reg ?_
   refine st_op (ev_move rfl) rfl rfl rfl ?_
   refine st_op (ev_nilCheck rfl) rfl rfl rfl ?_
   refine st_op (ev_fieldAddr rfl fa88_2 (o':=8) rfl) rfl rfl rfl ?_
   have h92:=Fr.blk hx81 (by omega) (fun e=>(hno75 e.1)) hB64
   refine st_op (ev_load rfl (lvar_one one3 h92 rfl)) rfl rfl rfl ?_
   refine st_op (ev_move rfl) rfl rfl rfl ?_
   refine st_op (ev_lenSl rfl Try.underlying26) rfl rfl rfl ?_
   refine st_op (ev_int64 (c:=((Spec.wholeF ht hv si st sc sd l).length:Int)+(b.length:Int)) rfl rfl rfl (by omega) (by omega)) rfl rfl rfl ?_
   refine st_op (ev_nilCheck rfl) rfl rfl rfl ?_
   refine st_op (ev_fieldAddr rfl fa88_2 (o':=8) rfl) rfl rfl rfl ?_
   obtain⟨H93,he94,H93n_,hB95,f96⟩:=mem_store (v := .int .i64 (((Spec.wholeF ht hv si st sc sd l).length:Int)+(b.length:Int))) (o:=8) (cs' := [.pointer (some ⟨d,0,none⟩),.int .i64 ht,.int .i64 hv,.int .i64 si,.int .i64 st,.string sc,.string sd,.slice lA l.length lc,.int .i64 (((Spec.wholeF ht hv si st sc sd l).length:Int)+(b.length:Int))]) 1 rfl rfl size3 h92 rfl rfl rfl
   refine st_op0 (he94 _ _ _ _ _ _ _ _ _ rfl rfl) rfl rfl ?_
   have hf97:Fr (fun q=>q=k) H79 H93:=Fr.write H93n_ f96
   have H93n:H79.next≤H93.next:=hf97.1
   refine aw_seq ?_
   refine aw_reg ?_
   refine st_op (ev_move rfl) rfl rfl rfl ?_
   have h98:=Fr.blk hx63 (by omega) (fun e=>Or.elim e (fun e=>(by omega)) (fun e=>(by(first | omega | (replace e:=rd.below _ e.1;omega))))) hB5
   have h99:=Fr.blk hx81 (by omega) (fun e=>(by(first | omega | (replace e:=hD76 _ e.1;omega)))) h98
   have h100:=Fr.blk hf97 (by omega) (fun e=>(by omega)) h99
   refine st_op (ev_load rfl (lvar_part (l := [.int .i64 s_ht,.int .i64 s_hv,.int .i64 s_si,.int .i64 s_st,.string s_sc,.string s_sd,.slice s_lA s_l.length s_lc]) many61 h100 rfl rfl (by decide))) rfl rfl rfl ?_
   refine st_op (ev_nilCheck rfl) rfl rfl rfl ?_
   refine st_op (ev_fieldAddr rfl fa88_1 (o':=1) rfl) rfl rfl rfl ?_
   obtain⟨H101,he102,H101n_,hB103,f104⟩:=mem_store (v := .agg #[.int .i64 s_ht,.int .i64 s_hv,.int .i64 s_si,.int .i64 s_st,.string s_sc,.string s_sd,.slice s_lA s_l.length s_lc]) (o:=1) (cs' := [.pointer (some ⟨d,0,none⟩),.int .i64 s_ht,.int .i64 s_hv,.int .i64 s_si,.int .i64 s_st,.string s_sc,.string s_sd,.slice s_lA s_l.length s_lc,.int .i64 (((Spec.wholeF ht hv si st sc sd l).length:Int)+(b.length:Int))]) 7 rfl rfl size61 hB95 rfl rfl rfl
   refine st_op0 (he102 _ _ _ _ _ _ _ _ _ rfl rfl) rfl rfl ?_
   have hf105:Fr (fun q=>q=k) H93 H101:=Fr.write H101n_ f104
   have H101n:H93.next≤H101.next:=hf105.1
   refine aw_seq ?_
   refine aw_reg ?_
   refine st_op (ev_assign rfl) rfl rfl rfl ?_
   refine aw_ret ?_
   have h106:=DiskR.fr hr87 hf97 (fun q hd e=>(hno89 (e ▸ hd)))
   have h107:=DiskR.fr h106 hf105 (fun q hd e=>(hno89 (e ▸ hd)))
   have hres:((Spec.addF dl sz (Spec.wholeF ht hv si st sc sd l) b).1,(Spec.addF dl sz (Spec.wholeF ht hv si st sc sd l) b).2)=(((Spec.wholeF ht hv si st sc sd l).length:Int)+(b.length:Int),(Spec.fput ⟨#[115,116,97,116,101]⟩ ⟨(Spec.wholeF ht hv si st sc sd l)++b,((Spec.wholeF ht hv si st sc sd l).length:Int),true⟩ dl)):=by first | (rw[Spec.add_lay (by omega)];done) | (rw[Spec.add_app (by omega)];done)
   have he0:(Spec.addF dl sz (Spec.wholeF ht hv si st sc sd l) b).1=((Spec.wholeF ht hv si st sc sd l).length:Int)+(b.length:Int):=congrArg (fun p=>p.1) hres
   have he1:(Spec.addF dl sz (Spec.wholeF ht hv si st sc sd l) b).2=(Spec.fput ⟨#[115,116,97,116,101]⟩ ⟨(Spec.wholeF ht hv si st sc sd l)++b,((Spec.wholeF ht hv si st sc sd l).length:Int),true⟩ dl):=congrArg (fun p=>p.2) hres
   exact⟨.int .i64 0,rfl,rfl,(by first | exact hB103 | (rw[he0];exact hB103) | (rw[he1];exact hB103) | (rw[he0,he1];exact hB103)),(by first | exact⟨D84,(k67+1),⟨_,_,h107⟩,by omega,(fun q e=>(hS91 q e).imp id (fun e=>by omega))⟩ | (rw[he0];exact⟨D84,(k67+1),⟨_,_,h107⟩,by omega,(fun q e=>(hS91 q e).imp id (fun e=>by omega))⟩) | (rw[he1];exact⟨D84,(k67+1),⟨_,_,h107⟩,by omega,(fun q e=>(hS91 q e).imp id (fun e=>by omega))⟩) | (rw[he0,he1];exact⟨D84,(k67+1),⟨_,_,h107⟩,by omega,(fun q e=>(hS91 q e).imp id (fun e=>by omega))⟩)),(Fr.transG (Fr.transG (Fr.transG (Fr.transG (Fr.trans (Fr.refl (fun q=>q=k∨(dD q∧Z01 H q)) H) (hx6.fr fun _=>False) (fun q hq (e:False)=>e.elim)) hx63 (fun q hq hE e=>Or.elim e (fun e=>Or.inl (e)) (fun e=>Or.inr ((⟨e.1,Z01.back hE e.2⟩))))) hx81 (fun q hq hE e=>(Or.elim (hS77 q e.1) (fun d=>Or.inr ((⟨d,Z01.back hE e.2⟩))) (fun d=>absurd hq (by omega))))) hf97 (fun q hq hE e=>Or.inl (e))) hf105 (fun q hq hE e=>Or.inl (e)))⟩
  ·
   rw[Bool.not_eq_true] at hc58;refine aw_condF hc58 rfl ?_
   have hc58:=of_decide_eq_false hc58
   refine aw_skip ?_
   iterate 2 refine aw_seq ?_
   refine aw_reg ?_
   refine st_op (ev_move rfl) rfl rfl rfl ?_
   refine st_op (ev_nilCheck rfl) rfl rfl rfl ?_
   refine st_op (ev_fieldAddr rfl fa88_0 (o':=0) rfl) rfl rfl rfl ?_
   refine st_op (ev_load rfl (lvar_one one24 h7 rfl)) rfl rfl rfl ?_
   refine st_op (ev_move rfl) rfl rfl rfl ?_
   refine st_call rfl rfl rfl ent11 rfl rfl rfl ?_
   have h108:=DiskR.ext rd hx6
   have h113:=Row.ext hb hx6
   have hS109:=disk_Append_spec H2 d dD dl dk ⟨_,_,h108⟩ (by omega) (⟨#[115,116,97,116,101]⟩) (by first | omega | decide | assumption) bA b bc h113 cb (by omega) (by assumption)
   rw[Spec.app_ok (l:=dl) (b:=b) hf (by omega) (by omega)] at hS109;try dsimp only at hS109
   obtain⟨_,H110,hs111,rfl,D114,⟨mb115,ps116,hr117⟩,hb118,hx112⟩:=hS109
   refine⟨_,H110,hs111,?_⟩
   have H110n:H2.next≤H110.next:=hx112.1
   have hap119:=RowA.grow nbb h113 hb118
   have hno120:¬ D114 k:=fun e=>(hb118 _ e).elim nk (fun e=>by omega)
   have hD121:=fun q e=>(hb118 q e).imp (rd.below q) id
   have hS122:∀ q,D114 q→dD q∨(H.next≤q∧q<H110.next):=fun q e=>(hb118 q e).elim (fun e=>(sub_d q e).imp id (fun e=>by omega)) (fun e => .inr (by omega))
   refine st_op (ev_assign rfl) rfl rfl rfl ?_
   refine aw_seq ?_
   refine aw_reg ?_
   refine st_op (ev_move rfl) rfl rfl rfl ?_
   refine st_op (ev_int rfl rfl rfl) rfl rfl rfl ?_
   refine aw_cond (t:=false) rfl ?_
   refine aw_skip ?_
   refine aw_seq ?_
   refine aw_reg ?_
   refine st_op (ev_move rfl) rfl rfl rfl ?_
   refine st_op (ev_nilCheck rfl) rfl rfl rfl ?_
   refine st_op (ev_fieldAddr rfl fa88_2 (o':=8) rfl) rfl rfl rfl ?_
   have h123:=Fr.blk hx112 (by omega) (fun e=>(nk e.1)) h7
   refine st_op (ev_load rfl (lvar_one one3 h123 rfl)) rfl rfl rfl ?_
   refine st_op (ev_move rfl) rfl rfl rfl ?_
   refine st_op (ev_lenSl rfl Try.underlying26) rfl rfl rfl ?_
   refine st_op (ev_int64 (c:=sz+(b.length:Int)) rfl rfl rfl (by omega) (by omega)) rfl rfl rfl ?_
   refine st_op (ev_nilCheck rfl) rfl rfl rfl ?_
   refine st_op (ev_fieldAddr rfl fa88_2 (o':=8) rfl) rfl rfl rfl ?_
   obtain⟨H124,he125,H124n_,hB126,f127⟩:=mem_store (v := .int .i64 (sz+(b.length:Int))) (o:=8) (cs' := [.pointer (some ⟨d,0,none⟩),.int .i64 ht,.int .i64 hv,.int .i64 si,.int .i64 st,.string sc,.string sd,.slice lA l.length lc,.int .i64 (sz+(b.length:Int))]) 1 rfl rfl size3 h123 rfl rfl rfl
   refine st_op0 (he125 _ _ _ _ _ _ _ _ _ rfl rfl) rfl rfl ?_
   have hf128:Fr (fun q=>q=k) H110 H124:=Fr.write H124n_ f127
   have H124n:H110.next≤H124.next:=hf128.1
   refine aw_seq ?_
   refine aw_reg ?_
   refine st_op (ev_move rfl) rfl rfl rfl ?_
   have h129:=Fr.blk hx112 (by omega) (fun e=>(by(first | omega | (replace e:=rd.below _ e.1;omega)))) hB5
   have h130:=Fr.blk hf128 (by omega) (fun e=>(by omega)) h129
   refine st_op (ev_load rfl (lvar_part (l := [.int .i64 s_ht,.int .i64 s_hv,.int .i64 s_si,.int .i64 s_st,.string s_sc,.string s_sd,.slice s_lA s_l.length s_lc]) many61 h130 rfl rfl (by decide))) rfl rfl rfl ?_
   refine st_op (ev_nilCheck rfl) rfl rfl rfl ?_
   refine st_op (ev_fieldAddr rfl fa88_1 (o':=1) rfl) rfl rfl rfl ?_
   obtain⟨H131,he132,H131n_,hB133,f134⟩:=mem_store (v := .agg #[.int .i64 s_ht,.int .i64 s_hv,.int .i64 s_si,.int .i64 s_st,.string s_sc,.string s_sd,.slice s_lA s_l.length s_lc]) (o:=1) (cs' := [.pointer (some ⟨d,0,none⟩),.int .i64 s_ht,.int .i64 s_hv,.int .i64 s_si,.int .i64 s_st,.string s_sc,.string s_sd,.slice s_lA s_l.length s_lc,.int .i64 (sz+(b.length:Int))]) 7 rfl rfl size61 hB126 rfl rfl rfl
   refine st_op0 (he132 _ _ _ _ _ _ _ _ _ rfl rfl) rfl rfl ?_
   have hf135:Fr (fun q=>q=k) H124 H131:=Fr.write H131n_ f134
   have H131n:H124.next≤H131.next:=hf135.1
   refine aw_seq ?_
   refine aw_reg ?_
   refine st_op (ev_assign rfl) rfl rfl rfl ?_
   refine aw_ret ?_
   have h136:=DiskR.fr hr117 hf128 (fun q hd e=>(hno120 (e ▸ hd)))
   have h137:=DiskR.fr h136 hf135 (fun q hd e=>(hno120 (e ▸ hd)))
   have hres:((Spec.addF dl sz (Spec.wholeF ht hv si st sc sd l) b).1,(Spec.addF dl sz (Spec.wholeF ht hv si st sc sd l) b).2)=(sz+(b.length:Int),((Spec.appF dl ⟨#[115,116,97,116,101]⟩ b).2)):=by first | (rw[Spec.add_lay (by omega)];done) | (rw[Spec.add_app (by omega)];done)
   have he0:(Spec.addF dl sz (Spec.wholeF ht hv si st sc sd l) b).1=sz+(b.length:Int):=congrArg (fun p=>p.1) hres
   have he1:(Spec.addF dl sz (Spec.wholeF ht hv si st sc sd l) b).2=((Spec.appF dl ⟨#[115,116,97,116,101]⟩ b).2):=congrArg (fun p=>p.2) hres
   exact⟨.int .i64 0,rfl,rfl,(by first | exact hB133 | (rw[he0];exact hB133) | (rw[he1];exact hB133) | (rw[he0,he1];exact hB133)),(by first | exact⟨D114,(dk+1),⟨_,_,h137⟩,by omega,(fun q e=>(hS122 q e).imp id (fun e=>by omega))⟩ | (rw[he0];exact⟨D114,(dk+1),⟨_,_,h137⟩,by omega,(fun q e=>(hS122 q e).imp id (fun e=>by omega))⟩) | (rw[he1];exact⟨D114,(dk+1),⟨_,_,h137⟩,by omega,(fun q e=>(hS122 q e).imp id (fun e=>by omega))⟩) | (rw[he0,he1];exact⟨D114,(dk+1),⟨_,_,h137⟩,by omega,(fun q e=>(hS122 q e).imp id (fun e=>by omega))⟩)),(Fr.transG (Fr.transG (Fr.transG (Fr.trans (Fr.refl (fun q=>q=k∨(dD q∧Z01 H q)) H) (hx6.fr fun _=>False) (fun q hq (e:False)=>e.elim)) hx112 (fun q hq hE e=>Or.inr ((⟨e.1,Z01.back hE e.2⟩)))) hf128 (fun q hq hE e=>Or.inl (e))) hf135 (fun q hq hE e=>Or.inl (e)))⟩
theorem keep_HardOk_spec (H:Heap) (d dm:Nat) (dD:Nat→Prop) (dl:Files) (dp:List Place) (dk:Int) (rd:DiskR dD H d dm dl dp dk) (kd:dk≤1099511627000) (ht:Int) (hv:Int) (si:Int) (hsi:0≤si∧si≤1099511627776) (st:Int) (sc:ByteArray) (sd:ByteArray) (lA:Option Addr) (l:List Entry) (lc:Nat) (hl:Row H lA lc 4 (l.map Entry.cells)) (cl:l.length≤lc) (ll:l.length≤200) (sz:Int) (hsz:0≤sz∧sz≤1048576) (k:Nat) (hk:k<H.next) (Bk:H.blk k=some ⟨[.pointer (some ⟨d,0,none⟩),.int .i64 ht,.int .i64 hv,.int .i64 si,.int .i64 st,.string sc,.string sd,.slice lA l.length lc,.int .i64 sz],0,false,false⟩) (nk:¬ dD k) (h_term:Int) (h_vote:Int) (hm:Spec.mayF true h_term h_vote 0 0 0 (⟨#[]⟩:ByteArray)=true) (hg:(Spec.wholeF ht hv si st sc sd l).length+(Spec.encodeF true h_term h_vote 0 0 0 (⟨#[]⟩:ByteArray)).length≤1048576) (hf:Spec.FileOk dl sz):∃ v H',Spec Try.prog 23 [.pointer (some ⟨k,0,none⟩),.agg #[.int .i64 h_term,.int .i64 h_vote]] H v H'∧(∃ rA3 rc3,(v = .int .i64 0)∧(My H H' rA3 rc3 4 (l.map Entry.cells))∧(H'.blk k=some ⟨[.pointer (some ⟨d,0,none⟩),.int .i64 h_term,.int .i64 h_vote,.int .i64 si,.int .i64 st,.string sc,.string sd,.slice rA3 l.length rc3,.int .i64 ((Spec.addF dl sz (Spec.wholeF ht hv si st sc sd l) (Spec.encodeF true h_term h_vote 0 0 0 (⟨#[]⟩:ByteArray))).1)],0,false,false⟩)∧(DiskS dD H H' d ((Spec.addF dl sz (Spec.wholeF ht hv si st sc sd l) (Spec.encodeF true h_term h_vote 0 0 0 (⟨#[]⟩:ByteArray))).2) dk 2)∧(Fr (fun q=>q=k∨(dD q∧Z01 H q)) H H')):=by
 have bd:=rd.below _ rd.dp;have bdm:=rd.below _ rd.dm;have zd:=rd.kb
 have sub_d:∀ q,dD q→dD q∨(H.next≤q∧q<H.next):=fun q e => .inl e
 refine spec_go2 E0_ok 23 (f:=23) Try.func23 rfl rfl rfl ?_
 refine aw_seq ?_
 refine aw_reg ?_
 obtain⟨b1,H2,he3,b1e,H2n_,hB5,f4⟩:=mem_box (P:=Try.prog) H (v := .agg #[.int .i64 h_term,.int .i64 h_vote]) (cs := [.int .i64 h_term,.int .i64 h_vote]) rfl rfl
 refine st_op (he3 _ _ _ _ _ _ _ _ _ rfl) rfl rfl rfl ?_
 have hx6:Ext H H2:=Ext.new (by omega) H2n_ f4
 have H2n:H.next≤H2.next:=hx6.1
 refine st_op (ev_assign rfl) rfl rfl rfl ?_
 iterate 2 refine aw_seq ?_
 refine aw_reg ?_
 refine st_op (ev_move rfl) rfl rfl rfl ?_
 refine st_op (ev_nilEq rfl rfl Try.underlying42) rfl rfl rfl ?_
 refine aw_cond (t:=false) rfl ?_
 refine aw_skip ?_
 refine aw_seq ?_
 refine aw_reg ?_
 refine st_op (ev_load rfl (lvar_part (l := [.int .i64 h_term,.int .i64 h_vote]) many41 hB5 rfl rfl (by decide))) rfl rfl rfl ?_
 refine st_op (ev_build zero95 pl95 (parts := [(0,.bool true),(1,.agg #[.int .i64 h_term,.int .i64 h_vote])]) rfl (cs := [.bool true,.int .i64 h_term,.int .i64 h_vote,.int .i64 0,.int .i64 0,.int .i64 0,.string (⟨#[]⟩)]) rfl) rfl rfl rfl ?_
 obtain⟨b7,H8,he9,b7e,H8n_,hB11,f10⟩:=mem_alloc H2 zero95
 refine st_op (he9 _ _ _ _ _ _ _) rfl rfl rfl ?_
 have hx12:Ext H2 H8:=Ext.new (by omega) H8n_ f10
 have H8n:H2.next≤H8.next:=hx12.1
 obtain⟨H13,he14,H13n_,hB15,f16⟩:=mem_store (v := .agg #[.bool true,.int .i64 h_term,.int .i64 h_vote,.int .i64 0,.int .i64 0,.int .i64 0,.string (⟨#[]⟩)]) (o:=0) (cs' := [.bool true,.int .i64 h_term,.int .i64 h_vote,.int .i64 0,.int .i64 0,.int .i64 0,.string (⟨#[]⟩)]) 7 rfl rfl size95 hB11 rfl rfl rfl
 refine st_op0 (he14 _ _ _ _ _ _ _ _ _ rfl rfl) rfl rfl ?_
 have hf17:Fr (fun q=>q=b7) H8 H13:=Fr.write H13n_ f16
 have H13n:H8.next≤H13.next:=hf17.1
 iterate 2 refine aw_seq ?_
 refine aw_reg ?_
 refine st_op (ev_load rfl (lvar_part (l := [.bool true,.int .i64 h_term,.int .i64 h_vote,.int .i64 0,.int .i64 0,.int .i64 0,.string (⟨#[]⟩)]) many95 hB15 rfl rfl (by decide))) rfl rfl rfl ?_
 refine st_call rfl rfl rfl ent43 rfl rfl rfl ?_
 obtain⟨_,H19,hs18,hs18v,hx20⟩:=wal_May_spec H13 true h_term h_vote (0:Int) (0:Int) (0:Int) (⟨#[]⟩:ByteArray)
 rw[hs18v] at hs18;clear hs18v
 refine⟨_,H19,hs18,?_⟩
 have H19n:H13.next≤H19.next:=hx20.1
 refine st_op (ev_not rfl) rfl rfl rfl ?_
 by_cases hc21:(!(Spec.mayF true h_term h_vote (0:Int) (0:Int) (0:Int) (⟨#[]⟩:ByteArray)))=true
 ·
  refine aw_condT hc21 rfl ?_
  replace hc21:(Spec.mayF true h_term h_vote (0:Int) (0:Int) (0:Int) (⟨#[]⟩:ByteArray))=false:=by rw[Bool.not_eq_true'] at hc21;exact hc21
  exact Bool.noConfusion (hc21.symm.trans hm)
 ·
  rw[Bool.not_eq_true] at hc21;refine aw_condF hc21 rfl ?_
  replace hc21:(Spec.mayF true h_term h_vote (0:Int) (0:Int) (0:Int) (⟨#[]⟩:ByteArray))=true:=by rw[Bool.not_eq_false'] at hc21;exact hc21
  have hc21m:=Spec.may_says hc21
  refine aw_skip ?_
  refine aw_seq ?_
  refine aw_reg ?_
  refine st_op (ev_move rfl) rfl rfl rfl ?_
  refine st_call rfl rfl rfl ent26 rfl rfl rfl ?_
  have hx23:Ext H H19:=(Ext.trans (Ext.then (Ext.trans hx6 hx12) hf17 (fun q hq e=>by omega)) hx20)
  have h22:=DiskR.ext rd hx23
  have h24:=Row.ext hl hx23
  have h25:=Ext.blk hx23 (by omega) Bk
  obtain⟨_,H27,hs26,A29,c30,hs26v,hm31,hx28⟩:=keep_State_spec H19 d dm dD dl dp dk h22 (by omega) ht hv si ⟨by omega,by omega⟩ st sc sd lA l lc h24 cl (by omega) sz ⟨by omega,by omega⟩ k (by omega) h25 nk
  rw[hs26v] at hs26;clear hs26v
  refine⟨_,H27,hs26,?_⟩
  have H27n:H19.next≤H27.next:=hx28.1
  obtain⟨b32,H33,he34,b32e,H33n_,hB36,f35⟩:=mem_alloc H27 zero61
  refine st_op (he34 _ _ _ _ _ _ _) rfl rfl rfl ?_
  have hx37:Ext H27 H33:=Ext.new (by omega) H33n_ f35
  have H33n:H27.next≤H33.next:=hx37.1
  obtain⟨H38,he39,H38n_,hB40,f41⟩:=mem_store (v := .agg #[.int .i64 ht,.int .i64 hv,.int .i64 si,.int .i64 st,.string sc,.string sd,.slice A29 l.length c30]) (o:=0) (cs' := [.int .i64 ht,.int .i64 hv,.int .i64 si,.int .i64 st,.string sc,.string sd,.slice A29 l.length c30]) 7 rfl rfl size61 hB36 rfl rfl rfl
  refine st_op0 (he39 _ _ _ _ _ _ _ _ _ rfl rfl) rfl rfl ?_
  have hf42:Fr (fun q=>q=b32) H33 H38:=Fr.write H38n_ f41
  have H38n:H33.next≤H38.next:=hf42.1
  refine aw_seq ?_
  refine aw_reg ?_
  have hx44:Ext H2 H38:=(Ext.then (Ext.trans (Ext.trans (Ext.trans (Ext.then hx12 hf17 (fun q hq e=>by omega)) hx20) hx28) hx37) hf42 (fun q hq e=>by omega))
  have h43:=Ext.blk hx44 (by omega) hB5
  refine st_op (ev_load rfl (lvar_part (l := [.int .i64 h_term,.int .i64 h_vote]) many41 h43 rfl rfl (by decide))) rfl rfl rfl ?_
  refine st_op (ev_fieldAddr rfl fa61_0 (o':=0) rfl) rfl rfl rfl ?_
  obtain⟨H45,he46,H45n_,hB47,f48⟩:=mem_store (v := .agg #[.int .i64 h_term,.int .i64 h_vote]) (o:=0) (cs' := [.int .i64 h_term,.int .i64 h_vote,.int .i64 si,.int .i64 st,.string sc,.string sd,.slice A29 l.length c30]) 2 rfl rfl size41 hB40 rfl rfl rfl
  refine st_op0 (he46 _ _ _ _ _ _ _ _ _ rfl rfl) rfl rfl ?_
  have hf49:Fr (fun q=>q=b32) H38 H45:=Fr.write H45n_ f48
  have H45n:H38.next≤H45.next:=hf49.1
  refine aw_seq ?_
  refine aw_marks (fun b=>b<H45.next) [(false,false),(false,false),(false,true),(true,false),(false,false),(false,false)] mixed (by kernel_rfl) (by kernel_rfl) ?_
  refine sm_op (ev_move rfl) rfl rfl rfl ?_
  have hx51:Ext H13 H45:=(Ext.then (Ext.then (Ext.trans (Ext.trans hx20 hx28) hx37) hf42 (fun q hq e=>by omega)) hf49 (fun q hq e=>by omega))
  have h50:=Ext.blk hx51 (by omega) hB15
  refine sm_op (ev_load rfl (lvar_part (l := [.bool true,.int .i64 h_term,.int .i64 h_vote,.int .i64 0,.int .i64 0,.int .i64 0,.string (⟨#[]⟩)]) many95 h50 rfl rfl (by decide))) rfl rfl rfl ?_
  refine sm_call rfl rfl rfl ent44 rfl rfl rfl ?_
  obtain⟨_,H53,hs52,A55,c56,hs52v,hm57,hq58,hx54⟩:=wal_Encode_spec H45 true h_term h_vote (0:Int) (0:Int) (0:Int) (⟨#[]⟩:ByteArray)
  rw[hs52v] at hs52;clear hs52v
  refine⟨_,H53,hs52,(fun _ b hb=>hx54.2 b (by omega)),?_⟩
  have H53n:H45.next≤H53.next:=hx54.1
  have h59:=Ext.blk hx54 (by omega) hB47
  refine sm_read (ev_load rfl (lvar_part (l := [.int .i64 h_term,.int .i64 h_vote,.int .i64 si,.int .i64 st,.string sc,.string sd,.slice A29 l.length c30]) many61 h59 rfl rfl (by decide))) rfl rfl rfl (fun b hb=>by cases hb;dsimp only <;> omega) ?_
  refine sm_call rfl rfl rfl ent45 rfl rfl rfl ?_
  have hx61:Ext H19 H53:=(Ext.trans (Ext.then (Ext.then (Ext.trans hx28 hx37) hf42 (fun q hq e=>by omega)) hf49 (fun q hq e=>by omega)) hx54)
  have h60:=DiskR.ext h22 hx61
  have h62:=Row.ext h24 hx61
  have h63:=Ext.blk hx61 (by omega) h25
  have hx65:Ext H27 H53:=(Ext.trans (Ext.then (Ext.then hx37 hf42 (fun q hq e=>by omega)) hf49 (fun q hq e=>by omega)) hx54)
  have h64:=My.ext hm31 hx65
  obtain⟨_,H67,hs66,hs66v,hB69,hS70,hx68⟩:=keep_add_spec H53 d dm dD dl dp dk h60 (by omega) ht hv si ⟨by omega,by omega⟩ st sc sd lA l lc h62 cl (by first | omega | (simp only [List.length_append,List.length_cons,List.length_nil,List.length_map,List.length_set,List.length_replicate,Spec.bytesOf_length];omega) | (simp;omega)) sz ⟨by omega,by omega⟩ k (by omega) h63 nk A55 (Spec.encodeF true h_term h_vote (0:Int) (0:Int) (0:Int) (⟨#[]⟩:ByteArray)) c56 (My.row hm57) (My.capF hm57 (by first | omega | (simp only [List.length_append,List.length_cons,List.length_nil,List.length_map,List.length_set,List.length_replicate,Spec.bytesOf_length];omega) | (simp;omega))) (by first | omega | (simp only [List.length_append,List.length_cons,List.length_nil,List.length_map,List.length_set,List.length_replicate,Spec.bytesOf_length];omega) | (simp;omega)) (Spec.encodeF_bytes _ _ _ _ _ _ _) h_term h_vote si st sc sd A29 l c30 (My.row h64) (My.capF h64 (by first | omega | (simp only [List.length_append,List.length_cons,List.length_nil,List.length_map,List.length_set,List.length_replicate,Spec.bytesOf_length];omega) | (simp;omega))) (by first | omega | (simp only [List.length_append,List.length_cons,List.length_nil,List.length_map,List.length_set,List.length_replicate,Spec.bytesOf_length];omega) | (simp;omega)) (RowA.of_my hm57 (fun q e=>by replace e:=rd.below _ e;omega)) (by first | exact hg | (rw[hout];exact hg)) (by exact hf)
  rw[hs66v] at hs66;clear hs66v
  refine⟨_,H67,hs66,(fun h=>nomatch h),?_⟩
  have H67n:H53.next≤H67.next:=hx68.1
  obtain⟨D71,k72,⟨mb73,ps74,hr75⟩,hk76,hb77⟩:=hS70
  have k72b:=hr75.kb
  have hno79:¬ D71 k:=fun e=>(hb77 _ e).elim nk (fun e=>by omega)
  have hD80:=fun q e=>(hb77 q e).imp (rd.below q) id
  have hS81:∀ q,D71 q→dD q∨(H.next≤q∧q<H67.next):=fun q e=>(hb77 q e).elim (fun e=>(sub_d q e).imp id (fun e=>by omega)) (fun e => .inr (by omega))
  refine sm_op (ev_assign rfl) rfl rfl rfl ?_
  refine aw_ret ?_
  have h82:=My.frS h64 hx68 (fun q hq e=>Or.elim e (fun e=>⟨_,e ▸ h63,show(0:Nat)≠4 by decide⟩) (fun e=>(Z01.ne e.2 (show(4:Nat)≠0 by decide) (show(4:Nat)≠1 by decide))))
  have hres:(l,(Spec.addF dl sz (Spec.wholeF ht hv si st sc sd l) (Spec.encodeF true h_term h_vote 0 0 0 (⟨#[]⟩:ByteArray))).1,(Spec.addF dl sz (Spec.wholeF ht hv si st sc sd l) (Spec.encodeF true h_term h_vote 0 0 0 (⟨#[]⟩:ByteArray))).2)=(l,((Spec.addF dl sz (Spec.wholeF ht hv si st sc sd l) (Spec.encodeF true h_term h_vote (0:Int) (0:Int) (0:Int) (⟨#[]⟩:ByteArray))).1),((Spec.addF dl sz (Spec.wholeF ht hv si st sc sd l) (Spec.encodeF true h_term h_vote (0:Int) (0:Int) (0:Int) (⟨#[]⟩:ByteArray))).2)):=by rfl
  have he0:l=l:=congrArg (fun p=>p.1) hres
  have he1:(Spec.addF dl sz (Spec.wholeF ht hv si st sc sd l) (Spec.encodeF true h_term h_vote 0 0 0 (⟨#[]⟩:ByteArray))).1=((Spec.addF dl sz (Spec.wholeF ht hv si st sc sd l) (Spec.encodeF true h_term h_vote (0:Int) (0:Int) (0:Int) (⟨#[]⟩:ByteArray))).1):=congrArg (fun p=>p.2.1) hres
  have he2:(Spec.addF dl sz (Spec.wholeF ht hv si st sc sd l) (Spec.encodeF true h_term h_vote 0 0 0 (⟨#[]⟩:ByteArray))).2=((Spec.addF dl sz (Spec.wholeF ht hv si st sc sd l) (Spec.encodeF true h_term h_vote (0:Int) (0:Int) (0:Int) (⟨#[]⟩:ByteArray))).2):=congrArg (fun p=>p.2.2) hres
  exact⟨.int .i64 0,rfl,A29,c30,rfl,(by first | exact(My.older h82 (by omega)) | (rw[he0];exact(My.older h82 (by omega))) | (rw[he1];exact(My.older h82 (by omega))) | (rw[he2];exact(My.older h82 (by omega))) | (rw[he0,he1];exact(My.older h82 (by omega))) | (simp only [he0,he1,he2];exact(My.older h82 (by omega)))),(by first | exact hB69 | (rw[he0];exact hB69) | (rw[he1];exact hB69) | (rw[he2];exact hB69) | (rw[he0,he1];exact hB69) | (simp only [he0,he1,he2];exact hB69)),(by first | exact⟨D71,k72,⟨_,_,hr75⟩,by omega,(fun q e=>(hS81 q e).imp id (fun e=>by omega))⟩ | (rw[he0];exact⟨D71,k72,⟨_,_,hr75⟩,by omega,(fun q e=>(hS81 q e).imp id (fun e=>by omega))⟩) | (rw[he1];exact⟨D71,k72,⟨_,_,hr75⟩,by omega,(fun q e=>(hS81 q e).imp id (fun e=>by omega))⟩) | (rw[he2];exact⟨D71,k72,⟨_,_,hr75⟩,by omega,(fun q e=>(hS81 q e).imp id (fun e=>by omega))⟩) | (rw[he0,he1];exact⟨D71,k72,⟨_,_,hr75⟩,by omega,(fun q e=>(hS81 q e).imp id (fun e=>by omega))⟩) | (simp only [he0,he1,he2];exact⟨D71,k72,⟨_,_,hr75⟩,by omega,(fun q e=>(hS81 q e).imp id (fun e=>by omega))⟩)),(Fr.transG (Fr.trans (Fr.transG (Fr.transG (Fr.trans (Fr.trans (Fr.trans (Fr.transG (Fr.trans (Fr.trans (Fr.refl (fun q=>q=k∨(dD q∧Z01 H q)) H) (hx6.fr fun _=>False) (fun q hq (e:False)=>e.elim)) (hx12.fr fun _=>False) (fun q hq (e:False)=>e.elim)) hf17 (fun q hq hE e=>absurd hq (by omega))) (hx20.fr fun _=>False) (fun q hq (e:False)=>e.elim)) (hx28.fr fun _=>False) (fun q hq (e:False)=>e.elim)) (hx37.fr fun _=>False) (fun q hq (e:False)=>e.elim)) hf42 (fun q hq hE e=>absurd hq (by omega))) hf49 (fun q hq hE e=>absurd hq (by omega))) (hx54.fr fun _=>False) (fun q hq (e:False)=>e.elim)) hx68 (fun q hq hE e=>Or.elim e (fun e=>Or.inl (e)) (fun e=>Or.inr ((⟨e.1,Z01.back hE e.2⟩)))))⟩

end Go.AM
