/- Part of a machine of its own for this claim: the program's code over memory without draws. -/
import Derived.Test.YtodcgppcmahbkabSAmPKeep2
set_option linter.unusedVariables false
set_option linter.unusedSimpArgs false
set_option linter.unnecessarySimpa false
/- What a server keeps: what was written is read again. -/
set_option linter.unusedSimpArgs false
set_option linter.unusedVariables false
namespace Go.AM.Spec
open Go
def encR (r:Rec):List Int:=encodeF r.hard r.h.term r.h.vote r.e.index r.e.term r.e.kind r.e.data
def encRs (rs:List Rec):List Int:=(rs.map encR).flatten
def mayR (r:Rec):Bool:=mayF r.hard r.h.term r.h.vote r.e.index r.e.term r.e.kind r.e.data
def recH (t v:Int):Rec:=⟨true,⟨t,v⟩,⟨0,0,0,⟨#[]⟩⟩⟩
def recE (e:Entry):Rec:=⟨false,⟨0,0⟩,e⟩
theorem encRs_nil : encRs [] = []:=rfl
theorem encRs_cons (r:Rec) (rs:List Rec):encRs (r :: rs)=encR r++encRs rs:=rfl
theorem encRs_append (a b:List Rec):encRs (a++b)=encRs a++encRs b:=by unfold encRs;rw[List.map_append,List.flatten_append]
theorem encKs_is (w:List Entry):encKs w=encRs (w.map recE):=by
 unfold encKs encRs
 rw[List.map_map]
 rfl
theorem encH_is (t v:Int):encH t v=encRs [recH t v]:=by
 show encH t v=encR (recH t v) ++ []
 rw[List.append_nil]
 rfl
theorem whole_is (S:KSt):wholeS S=snapF S.si S.st S.sc S.sd++encRs (recH S.ht S.hv :: S.l.map recE):=by
 unfold wholeS wholeF
 rw[encKs_is,encRs_cons,List.append_assoc]
 rfl
theorem encR_pos {r:Rec} (h:mayR r=true):6≤(encR r).length:=by
 rw[show encR r=frameF (kindF r.hard) (bodyF r.hard r.h.term r.h.vote r.e.index r.e.term r.e.kind r.e.data) from if_pos h]
 exact frameF_pos _ _
theorem dec_cutR {r:Rec} (h:mayR r=true) {m:Nat} (hm:m<(encR r).length):decF ((encR r).take m)=(false,0,0,0,0,0,⟨#[]⟩,0,2):=by
 have hl:=bodyF_len (show mayF r.hard r.h.term r.h.vote r.e.index r.e.term r.e.kind r.e.data=true from h)
 have hk:1≤kindF r.hard∧kindF r.hard≤255:=by cases r.hard <;> simp [kindF]
 have he:encR r=frameF (kindF r.hard) (bodyF r.hard r.h.term r.h.vote r.e.index r.e.term r.e.kind r.e.data):=if_pos h
 rw[he] at hm ⊢
 have ho:=open_cut hk (by omega) m hm
 unfold decF
 rw[ho]
 rfl
/-- A beginning of records: those that are whole are read. -/
theorem scan_cut : ∀ (rs:List Rec) (m:Nat),(∀ r ∈ rs,mayR r=true)→∃ j,j≤rs.length∧scanW ((encRs rs).take m)=(rs.take j,((encRs (rs.take j)).length:Int),true)∧(encRs (rs.take j)).length≤m∧∀ i,i≤rs.length→(encRs (rs.take i)).length≤m→i≤j
 | [],m,_=>⟨0,Nat.le_refl _,by rw[encRs_nil,List.take_nil];exact scanW_nil,Nat.zero_le _,fun i hi _=>hi⟩
 | r :: rs,m,h=>by
  have hr:=h r List.mem_cons_self
  have hp:=encR_pos hr
  by_cases hm:(encR r).length≤m
  ·
   obtain⟨j,h1,h2,h3,h4⟩:=scan_cut rs (m - (encR r).length) (fun x hx=>h x (List.mem_cons_of_mem _ hx))
   refine⟨j+1,by simp only [List.length_cons];omega,?_,?_,fun i hi hl=>?_⟩
   ·
    rw[encRs_cons,List.take_append,List.take_of_length_le hm]
    have hd:=dec_encode (show mayF r.hard r.h.term r.h.vote r.e.index r.e.term r.e.kind r.e.data=true from hr) ((encRs rs).take (m - (encR r).length))
    change decF (encR r++_)=(_,_,_,_,_,_,_,((encR r).length:Int),0) at hd
    rw[scanW_step (by intro e;have:=congrArg List.length e;rw[List.length_append] at this;simp only [List.length_nil] at this;omega) hd rfl (by show(1:Int)≤((encR r).length:Int);omega)]
    show(_ :: (scanW ((encR r++_).drop (((encR r).length:Int)).toNat)).1,((encR r).length:Int)+(scanW ((encR r++_).drop (((encR r).length:Int)).toNat)).2.1,(scanW ((encR r++_).drop (((encR r).length:Int)).toNat)).2.2)=_
    rw[Int.toNat_natCast,List.drop_left,h2,List.take_succ_cons,encRs_cons,List.length_append]
    simp
   · rw[List.take_succ_cons,encRs_cons,List.length_append];omega
   ·
    cases i with
    | zero=>omega
    | succ i =>
     rw[List.take_succ_cons,encRs_cons,List.length_append] at hl
     have:=h4 i (by simpa using hi) (by omega)
     omega
  ·
   refine⟨0,Nat.zero_le _,?_,Nat.zero_le _,fun i hi hl=>?_⟩
   ·
    rw[encRs_cons,List.take_append,show m - (encR r).length=0 by omega,List.take_zero,List.append_nil]
    by_cases h0:m=0
    · subst h0;rw[List.take_zero];exact scanW_nil
    ·
     rw[scanW_bad (by intro e;have:=congrArg List.length e;rw[List.length_take] at this;simp only [List.length_nil] at this;omega) (dec_cutR hr (by omega)) (by decide)]
     rfl
   ·
    cases i with
    | zero=>omega
    | succ i=>rw[List.take_succ_cons,encRs_cons,List.length_append] at hl;omega
/-! ## what records come to -/
theorem takeA_append {si:Int}:∀ {rs rs2:List Rec} {ht hv ht' hv':Int} {l l':List Entry},takeA si ht hv l rs=(true,ht',hv',l')→takeA si ht hv l (rs++rs2)=takeA si ht' hv' l' rs2
 | [],_,_,_,_,_,_,_,h=>by cases h;rfl
 | r :: rs,rs2,ht,hv,ht',hv',l,l',h=>by
  rw[takeA] at h
  rw[List.cons_append,takeA]
  by_cases c:(takeR ht hv si l r).1=true
  ·
   rw[if_pos c] at h ⊢
   exact takeA_append h
  · rw[if_neg c] at h;cases h
theorem takeA_take {si:Int}:∀ {rs:List Rec} {ht hv ht' hv':Int} {l l':List Entry} (j:Nat),takeA si ht hv l rs=(true,ht',hv',l')→(takeA si ht hv l (rs.take j)).1=true
 | [],_,_,_,_,_,_,_,h=>by rw[List.take_nil,h]
 | r :: rs,ht,hv,ht',hv',l,l',0,h=>rfl
 | r :: rs,ht,hv,ht',hv',l,l',j+1,h=>by
  rw[takeA] at h
  rw[List.take_succ_cons,takeA]
  by_cases c:(takeR ht hv si l r).1=true
  ·
   rw[if_pos c] at h ⊢
   exact takeA_take j h
  · rw[if_neg c] at h;cases h
theorem takeA_hard (si ht hv t v:Int) (l:List Entry) (rs:List Rec):takeA si ht hv l (recH t v :: rs)=takeA si t v l rs:=by
 rw[takeA,show takeR ht hv si l (recH t v)=(true,t,v,l) from rfl,if_pos rfl]
theorem takeA_entry {si ht hv:Int} {l:List Entry} {e:Entry} {rs:List Rec} (h0:0≤e.index - si - 1) (h1:e.index - si - 1≤l.length) (h2:e.index - si - 1<200):takeA si ht hv l (recE e :: rs)=takeA si ht hv (l.take (e.index - si - 1).toNat ++ [e]) rs:=by
 have:takeR ht hv si l (recE e)=(true,ht,hv,l.take (e.index - si - 1).toNat ++ [e]):=takeF_ok rfl (by show ¬ (e.index - si - 1<0∨e.index - si - 1 > l.length∨e.index - si - 1 ≥ 200);omega)
 rw[takeA,this,if_pos rfl]
theorem rowE_cons {b:Int} {e:Entry} {r:List Entry} (h:rowE b (e :: r)=true):mayR (recE e)=true∧e.index=b∧rowE (b+1) r=true:=by
 rw[rowE,Bool.and_eq_true,Bool.and_eq_true,beq_iff_eq] at h
 exact⟨h.1,h.2.1,h.2.2⟩
theorem rowE_may_all : ∀ {b:Int} {l:List Entry},rowE b l=true→∀ r ∈ l.map recE,mayR r=true
 | _,[],_,r,h=>by cases h
 | b,e :: l,h,r,hr=>by
  obtain⟨h1,_,h3⟩:=rowE_cons h
  rcases List.mem_cons.1 hr with rfl | hr
  · exact h1
  · exact rowE_may_all h3 r hr
theorem takeA_row {si ht hv:Int}:∀ {l acc:List Entry} {rs:List Rec},rowE (si+1+acc.length) l=true→acc.length+l.length≤200→takeA si ht hv acc (l.map recE++rs)=takeA si ht hv (acc++l) rs
 | [],acc,rs,_,_=>by simp
 | e :: l,acc,rs,h,hl=>by
  obtain⟨h1,h2,h3⟩:=rowE_cons h
  simp only [List.length_cons] at hl
  rw[List.map_cons,List.cons_append,takeA_entry (by omega) (by omega) (by omega),show(e.index - si - 1).toNat=acc.length by omega,List.take_length,takeA_row (by rw[List.length_append,List.length_singleton];rw[show si+1+((acc.length+1:Nat):Int)=si+1+acc.length+1 by omega];exact h3) (by rw[List.length_append,List.length_singleton];omega)]
  simp
end Go.AM.Spec
namespace Go.AM.Spec
open Go
/-! ## what may be kept; what a file says -/
structure OkS (S:KSt):Prop where
 snap:mayS S.si S.st S.sc S.sd=true
 hard:mayF true S.ht S.hv 0 0 0 (⟨#[]⟩:ByteArray)=true
 row:rowE (S.si+1) S.l=true
 len:S.l.length≤200
/-- The file tells of S. -/
structure FileS_ (S:KSt) (b:List Int) (rs:List Rec):Prop where
 is:b=snapF S.si S.st S.sc S.sd++encRs rs
 may:∀ r ∈ rs,mayR r=true
 take:takeA S.si 0 0 [] rs=(true,S.ht,S.hv,S.l)
def GoodK (S:KSt) (o:Option FileS):Prop:=OkS S∧match o with
 | none=>S=KSt0
 | some f=>∃ rs,FileS_ S f.b rs
theorem ok0 : OkS KSt0:=⟨rfl,by show mayF true 0 0 0 0 0 (⟨#[]⟩:ByteArray)=true;rw[mayH_eq];decide,rfl,by decide⟩
theorem good0 : GoodK KSt0 none:=⟨ok0,rfl⟩
theorem rs_of {S:KSt} (h:OkS S):FileS_ S (wholeS S) (recH S.ht S.hv :: S.l.map recE):=by
 refine⟨whole_is S,fun r hr=>?_,?_⟩
 ·
  rcases List.mem_cons.1 hr with rfl | hr
  · exact h.hard
  · exact rowE_may_all h.row r hr
 ·
  have hl:=h.len
  have:=takeA_row (si:=S.si) (ht:=S.ht) (hv:=S.hv) (l:=S.l) (acc := []) (rs := []) (by simpa using h.row) (by simpa using hl)
  rw[takeA_hard,← List.append_nil (S.l.map recE),this]
  rfl
theorem FileS_.app {S S':KSt} {b:List Int} {rs rs2:List Rec} (h:FileS_ S b rs) (h2:∀ r ∈ rs2,mayR r=true) (e1:S'.si=S.si) (e2:S'.st=S.st) (e3:S'.sc=S.sc) (e4:S'.sd=S.sd) (ht:takeA S.si S.ht S.hv S.l rs2=(true,S'.ht,S'.hv,S'.l)):FileS_ S' (b++encRs rs2) (rs++rs2):=by
 refine⟨?_,fun r hr=>(List.mem_append.1 hr).elim (h.may r) (h2 r),?_⟩
 · rw[h.is,e1,e2,e3,e4,encRs_append,List.append_assoc]
 · rw[e1,takeA_append h.take,ht]
theorem good_add {S S':KSt} {o:Option FileS} {rs2:List Rec} (h:GoodK S o) (h':OkS S') (h2:∀ r ∈ rs2,mayR r=true) (e1:S'.si=S.si) (e2:S'.st=S.st) (e3:S'.sc=S.sc) (e4:S'.sd=S.sd) (ht:takeA S.si S.ht S.hv S.l rs2=(true,S'.ht,S'.hv,S'.l)):GoodK S' (some (addO o (wholeS S) (encRs rs2))):=by
 have hw:=(rs_of h.1).app h2 e1 e2 e3 e4 ht
 refine⟨h',?_⟩
 cases o with
 | none=>exact⟨_,hw⟩
 | some f =>
  obtain⟨rs,hf⟩:=h.2
  unfold addO
  simp only
  split
  · exact⟨_,hw⟩
  · exact⟨_,hf.app h2 e1 e2 e3 e4 ht⟩
theorem good_hard {S:KSt} {o:Option FileS} {t v:Int} (h:GoodK S o) (hm:mayF true t v 0 0 0 (⟨#[]⟩:ByteArray)=true):GoodK (hardS S t v) (some (addO o (wholeS S) (encH t v))):=by
 rw[encH_is]
 exact good_add h ⟨h.1.snap,hm,h.1.row,h.1.len⟩ (fun r hr=>by rw[List.mem_singleton.1 hr];exact hm) rfl rfl rfl rfl (takeA_hard _ _ _ _ _ _ _)
theorem rowE_append {b:Int}:∀ {l r:List Entry},rowE b l=true→rowE (b+l.length) r=true→rowE b (l++r)=true
 | [],r,_,h=>by simpa using h
 | e :: l,r,h,h2=>by
  obtain⟨h1,h3,h4⟩:=rowE_cons h
  rw[List.cons_append,rowE,show mayF false 0 0 e.index e.term e.kind e.data=true from h1,beq_iff_eq.2 h3,rowE_append h4 (by rw[List.length_cons] at h2;rwa [show b+1+(l.length:Int)=b+((l.length+1:Nat):Int) by omega])]
  rfl
theorem rowE_take {b:Int}:∀ {l:List Entry} (n:Nat),rowE b l=true→rowE b (l.take n)=true
 | _,0,_=>rfl
 | [],_+1,_=>rfl
 | e :: l,n+1,h=>by
  obtain⟨h1,h3,h4⟩:=rowE_cons h
  rw[List.take_succ_cons,rowE,show mayF false 0 0 e.index e.term e.kind e.data=true from h1,beq_iff_eq.2 h3,rowE_take n h4]
  rfl
/-- What a write that goes says. -/
theorem writeE_0 {si:Int} {l r:List Entry} {e:Entry} (h:writeE si l (e :: r)=0):(0≤e.index - si - 1∧e.index - si - 1≤l.length)∧rowE e.index (e :: r)=true∧e.index - si - 1+((e :: r).length:Int)≤200:=by
 rw[writeE] at h
 split at h
 · exact absurd h (by decide)
 ·
  rename_i h1
  split at h
  · exact absurd h (by decide)
  ·
   rename_i h2
   split at h
   · exact absurd h (by decide)
   ·
    rename_i h3
    exact⟨Decidable.byContradiction h1,by simpa using h2,by omega⟩
theorem takeA_write {si ht hv:Int} {l w:List Entry} (h:writeE si l w=0) (hw:w ≠ []):takeA si ht hv l (w.map recE)=(true,ht,hv,writeL si l w):=by
 cases w with
 | nil=>exact absurd rfl hw
 | cons e r =>
  obtain⟨h1,h2,h3⟩:=writeE_0 h
  obtain⟨_,_,h5⟩:=rowE_cons h2
  simp only [List.length_cons] at h3
  have hacc:(l.take (e.index - si - 1).toNat ++ [e]).length=(e.index - si - 1).toNat+1:=by rw[List.length_append,List.length_take,List.length_singleton];omega
  rw[List.map_cons,takeA_entry h1.1 h1.2 (by omega),← List.append_nil (r.map recE),takeA_row (by rw[hacc,show si+1+(((e.index - si - 1).toNat+1:Nat):Int)=e.index+1 by omega];exact h5) (by rw[hacc];omega),writeL]
  simp [takeA]
theorem ok_write {S:KSt} {w:List Entry} (h:OkS S) (hw:writeE S.si S.l w=0):OkS { S with l:=writeL S.si S.l w }:=by
 refine⟨h.snap,h.hard,?_,writeL_len hw h.len⟩
 cases w with
 | nil=>exact h.row
 | cons e r =>
  obtain⟨h1,h2,h3⟩:=writeE_0 hw
  refine rowE_append (rowE_take _ h.row) ?_
  rw[List.length_take,show S.si+1+((min (e.index - S.si - 1).toNat S.l.length:Nat):Int)=e.index by omega]
  exact h2
theorem good_write {S:KSt} {o:Option FileS} {w:List Entry} (h:GoodK S o):GoodK (writeS S w) (writeO S o w):=by
 by_cases hw:writeE S.si S.l w=0∧w ≠ []
 ·
  rw[show writeS S w={ S with l:=writeL S.si S.l w } from if_pos hw.1,show writeO S o w=some (addO o (wholeS S) (encKs w)) from if_pos hw,encKs_is]
  refine good_add h (ok_write h.1 hw.1) ?_ rfl rfl rfl rfl (takeA_write hw.1 hw.2)
  obtain⟨e,r,rfl⟩:∃ e r,w=e :: r:=by
   cases w with
   | nil=>exact absurd rfl hw.2
   | cons e r=>exact⟨e,r,rfl⟩
  exact rowE_may_all (writeE_0 hw.1).2.1
 ·
  have hx':writeE S.si S.l w≠0∨w = []:=by
   by_cases hy:writeE S.si S.l w=0
   · exact .inr (Decidable.byContradiction fun c=>hw ⟨hy,c⟩)
   · exact .inl hy
  rw[writeS_no hx',show writeO S o w=o from if_neg hw]
  exact h
theorem good_sync {S:KSt} {o:Option FileS} (h:GoodK S o):GoodK S (syncK o):=by
 unfold syncK
 split
 · exact h
 ·
  cases o with
  | none=>exact h
  | some f=>exact⟨h.1,h.2⟩
/-! ## what is read -/
theorem open_cut_ {S:KSt} {b:List Int} {rs:List Rec} (hs:mayS S.si S.st S.sc S.sd=true) (hf:FileS_ S b rs) (m:Nat) (hm:(snapF S.si S.st S.sc S.sd).length≤m) :
  ∃ j,j≤rs.length∧(openR (b.take m)).1=true∧stateO (b.take m)=⟨(takeA S.si 0 0 [] (rs.take j)).2.1,(takeA S.si 0 0 [] (rs.take j)).2.2.1,S.si,S.st,S.sc,S.sd,(takeA S.si 0 0 [] (rs.take j)).2.2.2⟩ ∧
   sizeR (b.take m)=(snapF S.si S.st S.sc S.sd).length+(encRs (rs.take j)).length∧(snapF S.si S.st S.sc S.sd).length+(encRs (rs.take j)).length≤m∧∀ i,i≤rs.length→(snapF S.si S.st S.sc S.sd).length+(encRs (rs.take i)).length≤m→i≤j:=by
 obtain⟨j,h1,h2,h3,h4⟩:=scan_cut rs (m - (snapF S.si S.st S.sc S.sd).length) hf.may
 have hb:b.take m=snapF S.si S.st S.sc S.sd++(encRs rs).take (m - (snapF S.si S.st S.sc S.sd).length):=by rw[hf.is,List.take_append,List.take_of_length_le hm]
 have hg:=getSnap_put hs ((encRs rs).take (m - (snapF S.si S.st S.sc S.sd).length))
 have ho:openR (b.take m)=((takeA S.si 0 0 [] (rs.take j)).1,(takeA S.si 0 0 [] (rs.take j)).2.1,(takeA S.si 0 0 [] (rs.take j)).2.2.1,S.si,S.st,S.sc,S.sd,(takeA S.si 0 0 [] (rs.take j)).2.2.2,((snapF S.si S.st S.sc S.sd).length:Int)+((encRs (rs.take j)).length:Int)):=by
  rw[hb]
  unfold openR
  simp only [hg,Int.toNat_natCast,List.drop_left,h2]
  simp
 refine⟨j,h1,?_,?_,?_,by omega,fun i hi hl=>h4 i hi (by omega)⟩
 · rw[ho];exact takeA_take j hf.take
 · unfold stateO;rw[ho]
 · unfold sizeR;rw[ho]
theorem open_good {S:KSt} {f:FileS} (h:GoodK S (some f)):(openR f.b).1=true∧stateO f.b=S∧openO f=f:=by
 obtain⟨rs,hf⟩:=h.2
 obtain⟨j,h1,h2,h3,h4,h5,h6⟩:=open_cut_ h.1.snap hf f.b.length (by rw[hf.is,List.length_append];omega)
 rw[List.take_length] at h2 h3 h4
 have hj:j=rs.length:=by
  have:=h6 rs.length (Nat.le_refl _) (by rw[List.take_length,hf.is,List.length_append];exact Nat.le_refl _)
  omega
 subst hj
 rw[List.take_length,hf.take] at h3
 rw[List.take_length] at h4
 refine⟨h2,h3,?_⟩
 unfold openO
 rw[if_neg (by rw[h4];have:=congrArg List.length hf.is;rw[List.length_append] at this;omega)]
end Go.AM.Spec
namespace Go.AM.Spec
open Go
theorem syncK_some {S:KSt} {f:FileS} (h:GoodK S (some f)):syncK (some f)=some ⟨f.b,f.b.length,true⟩:=by
 obtain⟨rs,hf⟩:=h.2
 have h1:=snapF_pos h.1.snap
 have h2:=congrArg List.length hf.is
 rw[List.length_append] at h2
 exact if_neg (by show ¬ ((f.b.length:Int)=0);omega)
theorem crash_synced {b:List Int} {n:Int}:crashF (filesO (some ⟨b,b.length,true⟩)) n=filesO (some ⟨b,b.length,true⟩):=one_crash_whole
theorem writeS_ok {S:KSt} {w:List Entry} (h:writeE S.si S.l w=0):writeS S w=⟨S.ht,S.hv,S.si,S.st,S.sc,S.sd,writeL S.si S.l w⟩:=if_pos h
theorem writeO_ok {S:KSt} {o:Option FileS} {w:List Entry} (h:writeE S.si S.l w=0) (hw:w ≠ []):writeO S o w=some (addO o (wholeS S) (encKs w)):=if_pos ⟨h,hw⟩
/-! ## two hundred entries -/
theorem full_ents {x y z:Int} {d:ByteArray} (h : -9223372036854775808≤x∧x≤9223372036854775807):EntsI [⟨x,y,z,d⟩]:=fun e he=>by rw[List.mem_singleton.1 he];exact h
end Go.AM.Spec
namespace Go.AM.Spec
open Go
theorem GoodK.ok {S:KSt} {o:Option FileS} (h:GoodK S o):OkS S:=h.1
theorem filesO_len (o:Option FileS):(filesO o).length≤1099511627776:=by cases o <;> simp [filesO]
end Go.AM.Spec
namespace Go.AM.Spec
open Go
/-! ## a snapshot of entries -/
end Go.AM.Spec
namespace Go.AM.Spec
open Go
end Go.AM.Spec
namespace Go.AM.Spec
open Go
/-! ## thirty entries, again and again -/
end Go.AM.Spec
