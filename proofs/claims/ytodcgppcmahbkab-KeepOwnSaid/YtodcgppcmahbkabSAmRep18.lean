/- Part of a machine of its own for this claim: the program's code over memory without draws. -/
import Derived.Test.YtodcgppcmahbkabSAmHide
set_option linter.unusedVariables false
set_option linter.unusedSimpArgs false
set_option linter.unnecessarySimpa false
/- An append touches the row's own block alone, and that only where there is room. -/
set_option linter.unusedSimpArgs false
set_option linter.unusedVariables false
namespace Go.AM
open Go
variable {P : Program} {E : TypeId → Bool}
variable {H H' : Heap} {A X : Option Addr} {c cx sz n k m i : Nat} {rows : List (List Value)} {r : List Value} {v : Value} {t : TypeId} {x y : Operand} {R : Regs} {dst : Option Tmp} {ty : TypeId} {pos : String} {af : Array Edge} {g : Option (Nat × Bool)}
theorem mem_append3 {H0 Hm:Heap} {Xv:Value} {α:Type} {f:α→List Value} {old new:List α} {e bytes mx:Nat} (hm:old.length=m) (hmx:new.length=mx) (ht:ElemOk P t e sz bytes) (hz:sz≠0) (ho:My H0 Hm A c sz (old.map f)) (hk:My H0 H A c sz (old.map f)) (h0:H0.next≤H.next)
  (hX:srcCells H sz Xv=some (new.map f).flatten) (hXl:lenA Xv=some mx) (hfl:∀ e,(f e).length=sz) (hf1:∀ e,(f e).all Value.oneCell'=true) (hb:(m+mx) * bytes≤1099511627776) (hb2:m+mx≤1099511627776) :
  ∃ A1 c1 H1 W,(∀ (E:TypeId→Bool) (dst:Option Tmp) (t2:TypeId) (s x:Operand) (ty:TypeId) (pos:String) (af:Array Edge) (g:Option (Nat×Bool)) (R:Regs),R.eval s=some (.slice A m c)→R.eval x=some Xv→isRow P (some t2)=true→evOp P E R H ⟨dst,.call { callee := .builtin .append,args := #[s,x],argTypes := #[t,t2] },ty,pos,af,g⟩=some (.slice A1 (old++new).length c1,H1,W)) ∧
   My H0 H1 A1 c1 sz ((old++new).map f)∧Fr (fun q=>inA A c q∧H0.next≤q∧q<Hm.next∧ZB H q sz) H H1∧(∀ q,inA A1 c1 q→inA A c q∨H.next≤q):=by
 subst hm hmx
 obtain⟨hu,i,q1,q2,q3,q4⟩:=ht
 have h1:(new.map f).flatten.all Value.oneCell'=true:=flat_one hf1 new
 have hnl:(new.map f).flatten.length=new.length * sz:=by rw[flatten_len (new.map f) (map_len hfl new),List.length_map]
 have hol:(old.map f).flatten.length=old.length * sz:=by rw[flatten_len (old.map f) (map_len hfl old),List.length_map]
 have mk:∀ {A1:Option Addr} {c1:Nat} {H1:Heap} {W:List Nat},appendA P H e (.slice A old.length c) Xv=some (.slice A1 (old.length+new.length) c1,H1,W)→My H0 H1 A1 c1 sz ((old++new).map f)→Fr (fun q=>inA A c q∧H0.next≤q∧q<Hm.next∧ZB H q sz) H H1→(∀ q,inA A1 c1 q→inA A c q∨H.next≤q) →
   ∃ A1 c1 H1 W,(∀ (E:TypeId→Bool) (dst:Option Tmp) (t2:TypeId) (s x:Operand) (ty:TypeId) (pos:String) (af:Array Edge) (g:Option (Nat×Bool)) (R:Regs),R.eval s=some (.slice A old.length c)→R.eval x=some Xv→isRow P (some t2)=true→evOp P E R H ⟨dst,.call { callee := .builtin .append,args := #[s,x],argTypes := #[t,t2] },ty,pos,af,g⟩=some (.slice A1 (old++new).length c1,H1,W)) ∧
   My H0 H1 A1 c1 sz ((old++new).map f)∧Fr (fun q=>inA A c q∧H0.next≤q∧q<Hm.next∧ZB H q sz) H H1∧(∀ q,inA A1 c1 q→inA A c q∨H.next≤q):=fun h a b hA=>⟨_,_,_,_,fun E dst t2 s x ty pos af g R hs hx hr=>by rw[List.length_append];exact ev_append hs hx hu hr h,a,b,hA⟩
 have lenNew:∀ {G H1:Heap},G.next=H.next→H1=G.make ⟨((old++new).map f).flatten,sz,false,true⟩→My H0 H1 (Option.some ⟨H.next,0,none⟩) OPEN sz ((old++new).map f):=by
  rintro G H1 hG rfl
  obtain⟨m1,m2,m3⟩:=make_facts G ⟨((old++new).map f).flatten,sz,false,true⟩
  rw[hG] at m1 m2
  exact my_make h0 (by omega) m2 (map_len hfl _) (.inl ⟨rfl,rfl⟩)
 by_cases hn:new.length=0
 ·
  obtain rfl:=List.eq_nil_of_length_eq_zero hn
  refine mk (A1:=A) (c1:=c) (H1:=H) (W := []) ?_ (by simpa using hk) (.refl _ _) (fun q e => .inl e)
  unfold appendA
  simp only [q1,hXl,Option.bind_eq_bind,Option.bind_some,List.length_nil,if_true]
  rfl
 ·
  have start:appendA P H e (.slice A old.length c) Xv=(match A with
   | none=>some (.slice (Option.some ⟨H.next,0,none⟩) (old.length+new.length) OPEN,H.make ⟨(new.map f).flatten,sz,false,true⟩,[])
   | Option.some a =>
    if c<OPEN∧old.length+new.length≤c then do
     let H' ← H.put (a.add (old.length * sz)) (new.map f).flatten
     some (.slice (Option.some a) (old.length+new.length) c,H',[a.block])
    else if c<OPEN then do
     let o ← (if old.length=0 then Option.some [] else H.cells a (old.length * sz))
     some (.slice (Option.some ⟨H.next,0,none⟩) (old.length+new.length) OPEN,H.make ⟨o++(new.map f).flatten,sz,false,true⟩,[])
    else do
     let B ← H.blk a.block
     if B.rd∨B.opn=false∨B.esz≠sz∨a.off+old.length * sz > B.cells.length then none else
     if a.off+(old.length+new.length) * sz≤B.cells.length then do
      let H' ← H.put (a.add (old.length * sz)) (new.map f).flatten
      some (.slice (Option.some a) (old.length+new.length) c,H',[a.block])
     else
      some (.slice (Option.some ⟨H.next,0,none⟩) (old.length+new.length) OPEN,(H.set a.block none).make ⟨(B.cells.drop a.off).take (old.length * sz)++(new.map f).flatten,sz,false,true⟩,[a.block])):=by
   unfold appendA
   simp only [q1,hXl,Option.bind_eq_bind,Option.bind_some,if_neg hn,q2,hX,q3]
   rw[if_neg (by simp only [not_or,Decidable.not_not];exact⟨hz,h1,q4,by omega,by omega⟩)]
   cases A <;> rfl
  have frNew:∀ {H1:Heap} {B:Blk},H1=H.make B→Fr (fun q=>inA A c q∧H0.next≤q∧q<Hm.next∧ZB H q sz) H H1:=by
   rintro H1 B rfl
   obtain⟨m1,m2,m3⟩:=make_facts H B
   exact⟨by omega,fun b hb _=>m3 b (by omega)⟩
  rcases hk with⟨hk1,rfl⟩ | ⟨b,o,cs,opn,rfl,hk3,hk4,hk5,hk6,hk7,hk8,hk9⟩
  ·
   have ho0:old = []:=by simpa using hk1
   subst ho0
   refine mk (A1:=Option.some ⟨H.next,0,none⟩) (c1:=OPEN) (W := []) ?_ (lenNew rfl rfl) (frNew rfl) (fun q ⟨_,a,e,hq⟩=>by cases e;exact .inr (hq ▸ Nat.le_refl _))
   rw[start]
   cases A with
   | none=>simp
   | some a =>
    simp only [List.length_nil,Nat.zero_add]
    rw[if_neg (by omega),if_pos (by decide),if_pos trivial]
    simp
  ·
   rw[List.length_map] at hk7 hk8 hk9
   have inW:c≠0→∀ q,¬ (inA (Option.some (⟨b,o,none⟩:Addr)) c q∧H0.next≤q∧q<Hm.next∧ZB H q sz)→q≠b:=by
    rintro hc0 q hw rfl
    rcases ho with⟨_,e⟩ | ⟨b',o',_,_,e,h7,h8,_⟩
    · exact hc0 e
    ·
     cases e
     exact hw ⟨⟨hc0,_,rfl,rfl⟩,h7,h8,_,hk5,rfl⟩
   have hsum:(old.length+new.length) * sz=old.length * sz+(new.map f).flatten.length:=by rw[hnl,Nat.add_mul]
   have hseg:∀ rest,((cs.take (o+old.length * sz)++(new.map f).flatten++rest).drop o).take (((old++new).map f).length * sz)=((old++new).map f).flatten:=by
    intro rest
    rw[List.length_map,List.length_append,hsum,seg_put hk7 hol hk8,List.map_append,List.flatten_append]
   have hcell:H.cells ⟨b,o,none⟩ (old.length * sz)=Option.some (old.map f).flatten:=by
    unfold Heap.cells
    simp only [hk5]
    rw[if_pos ⟨Blk.notMapS hz,hk8⟩,hk7]
   rcases hk9 with⟨rfl,rfl⟩ | ⟨hc1,hc2,hc3⟩
   ·
    by_cases hfit:o+(old.length+new.length) * sz≤cs.length
    ·
     obtain⟨H1,p1,p2,p3,p4⟩:=put_facts (hm:=Blk.notMapS hz) (o:=o+old.length * sz) (cs':=cs.take (o+old.length * sz)++(new.map f).flatten++cs.drop (o+old.length * sz+(new.map f).flatten.length)) hk5 (by apply Nat.ble_eq_true_of_le;omega) h1 rfl
     refine mk (A1:=Option.some ⟨b,o,none⟩) (c1:=OPEN) (H1:=H1) (W := [b]) ?_ (.inr ⟨b,o,_,true,rfl,hk3,by omega,p3,map_len hfl _,hseg _,?_,.inl ⟨rfl,rfl⟩⟩) ⟨by omega,fun q hq hw=>p4 q (inW (by decide) q hw)⟩ (fun q e => .inl e)
     ·
      rw[start]
      simp only [show ¬ OPEN<OPEN by decide,false_and,if_false,hk5,Option.bind_eq_bind,Option.bind_some]
      rw[if_neg (by simp;omega),if_pos hfit,add_plain _ rfl]
      simp only
      rw[p1]
      rfl
     ·
      simp only [List.length_append,List.length_take,List.length_drop,List.length_map]
      omega
    ·
     obtain⟨m1,m2,m3⟩:=make_facts (H.set b none) ⟨((old++new).map f).flatten,sz,false,true⟩
     refine mk (A1:=Option.some ⟨H.next,0,none⟩) (c1:=OPEN) (H1:=(H.set b none).make ⟨((old++new).map f).flatten,sz,false,true⟩) (W := [b]) ?_ (lenNew (G:=H.set b none) rfl rfl) ⟨by rw[m1];exact Nat.le_succ _,fun q hq hw=>?_⟩ (fun q ⟨_,a,e,hq⟩=>by cases e;exact .inr (hq ▸ Nat.le_refl _))
     ·
      rw[start]
      simp only [show ¬ OPEN<OPEN by decide,false_and,if_false,hk5,Option.bind_eq_bind,Option.bind_some]
      rw[if_neg (by simp;omega),if_neg hfit,hk7]
      simp
     ·
      rw[m3 q (show q≠H.next by omega)]
      simp only [Heap.set,if_neg (inW (by decide) q hw)]
   ·
    by_cases hfit:old.length+new.length≤c
    ·
     have hmul:(old.length+new.length) * sz≤c * sz:=Nat.mul_le_mul_right _ hfit
     obtain⟨H1,p1,p2,p3,p4⟩:=put_facts (hm:=Blk.notMapS hz) (o:=o+old.length * sz) (cs':=cs.take (o+old.length * sz)++(new.map f).flatten++cs.drop (o+old.length * sz+(new.map f).flatten.length)) hk5 (by apply Nat.ble_eq_true_of_le;omega) h1 rfl
     refine mk (A1:=Option.some ⟨b,o,none⟩) (c1:=c) (H1:=H1) (W := [b]) ?_ (.inr ⟨b,o,_,opn,rfl,hk3,by omega,p3,map_len hfl _,hseg _,?_,.inr ⟨hc1,?_,?_⟩⟩) ⟨by omega,fun q hq hw=>p4 q (inW (by omega) q hw)⟩ (fun q e => .inl e)
     ·
      rw[start]
      simp only [hc1,hfit,true_and,if_true,add_plain ⟨b,o,none⟩ rfl]
      rw[p1]
      rfl
     ·
      simp only [List.length_append,List.length_take,List.length_drop,List.length_map]
      omega
     · rw[List.length_map,List.length_append];exact hfit
     ·
      simp only [List.length_append,List.length_take,List.length_drop]
      omega
    ·
     refine mk (A1:=Option.some ⟨H.next,0,none⟩) (c1:=OPEN) (W := []) ?_ (lenNew rfl rfl) (frNew rfl) (fun q ⟨_,a,e,hq⟩=>by cases e;exact .inr (hq ▸ Nat.le_refl _))
     rw[start]
     simp only [hfit,and_false,if_false,hc1,if_true,hcell]
     by_cases h0':old.length=0
     ·
      have:=List.eq_nil_of_length_eq_zero h0'
      subst this
      simp
     · simp [h0']
end Go.AM
namespace Go.AM
open Go
variable {P : Program} {H H0 : Heap} {A A' : Option Addr} {c sz n q k : Nat} {rows : List (List Value)} {t : TypeId}
end Go.AM
