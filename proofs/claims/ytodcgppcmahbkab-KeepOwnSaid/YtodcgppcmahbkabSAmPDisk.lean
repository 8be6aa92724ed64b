/- Part of a machine of its own for this claim: the program's code over memory without draws. -/
import Derived.Test.YtodcgppcmahbkabSAmRep20
import Derived.Test.YtodcgppcmahbkabSAmSortK
import Derived.Test.YtodcgppcmahbkabSAmPWal
import Derived.Test.YtodcgppcmahbkabSAmHide
set_option linter.unusedVariables false
set_option linter.unusedSimpArgs false
set_option linter.unnecessarySimpa false
/- Files that crash: what is reckoned, and what stands in memory. -/
set_option linter.unusedSimpArgs false
namespace Go.AM
open Go
namespace Spec
def lowAll (l:List UInt8):Bool:=l.all fun c=>decide (97≤c.toNat) && decide (c.toNat≤122)
/-- May a name be? -/
def nameF (s:ByteArray):Bool:=lowAll s.data.toList && (decide (1≤s.size) && decide (s.size≤10))
theorem low_step {y:UInt8} {l:List UInt8} (h1:97≤y.toNat) (h2:y.toNat≤122):lowAll (y :: l)=lowAll l:=by
 simp [lowAll,h1,h2]
theorem low_fail {y:UInt8} {l:List UInt8} (h:y.toNat<97∨122<y.toNat):lowAll (y :: l)=false:=by
 simp only [lowAll,List.all_cons,Bool.and_eq_false_iff,decide_eq_false_iff_not]
 exact .inl (by omega)
theorem name_end {s:ByteArray} {i:Nat} (hv:lowAll s.data.toList=lowAll (s.data.toList.drop i)) (hi:¬ (i:Int)<s.size) (hn:s.toList≠(⟨#[]⟩:ByteArray).toList):nameF s=decide ((s.size:Int)≤10):=by
 have hl:s.data.toList.length=s.size:=by rw[Array.length_toList];rfl
 have h1:1≤s.size:=by
  rcases Nat.eq_zero_or_pos s.size with h | h
  ·
   refine absurd ?_ hn
   have:s=⟨#[]⟩:=by
    obtain⟨d⟩:=s
    have:d = #[]:=Array.eq_empty_of_size_eq_zero h
    rw[this]
   rw[this]
  · exact h
 unfold nameF
 rw[hv,List.drop_eq_nil_of_le (by omega),show lowAll []=true from rfl,decide_eq_true h1,Bool.true_and,Bool.true_and]
 congr 1
 exact propext ⟨fun h=>by omega,fun h=>by omega⟩
theorem name_nil {s:ByteArray} (hn:s.toList=(⟨#[]⟩:ByteArray).toList):nameF s=false:=by
 rw[toList_inj hn]
 rfl

end Spec
/-- A file: its bytes, how many of them last, whether it lasts itself. -/
structure FileS where
 b:List Int
 lasts:Int
 there:Bool
abbrev Files := List (ByteArray×FileS)
/-- Where a file stands: its block; its row. -/
abbrev Place := Nat×Option Addr×Nat
namespace Spec
def fget (s:ByteArray):Files→Option FileS
 | []=>none
 | (k,f) :: r=>if (s == k)=true then some f else fget s r
def fput (s:ByteArray) (f:FileS):Files→Files
 | [] => [(s,f)]
 | (k,g) :: r=>if (s == k)=true then(s,f) :: r else(k,g) :: fput s f r
def appF (l:Files) (nm:ByteArray) (b:List Int):Int×Files :=
 if nameF nm=true then
  match fget nm l with
  | some f=>if f.b.length+b.length≤1048576 then(0,fput nm ⟨f.b++b,f.lasts,f.there⟩ l) else(5,l)
  | none=>if b.length≤1048576 then(0,fput nm ⟨b,0,false⟩ l) else(5,l)
 else(1,l)
def syncF (l:Files) (nm:ByteArray):Int×Files :=
 match fget nm l with
 | some f=>(0,fput nm ⟨f.b,f.b.length,true⟩ l)
 | none=>(14,l)
def swapF (l:Files) (nm:ByteArray) (b:List Int):Int×Files :=
 if nameF nm=true then if b.length≤1048576 then(0,fput nm ⟨b,b.length,true⟩ l) else(5,l) else(1,l)
def readF (l:Files) (nm:ByteArray):List Int×Int :=
 match fget nm l with
 | some f=>(f.b,0)
 | none=>([],14)
def looseF (l:Files) (nm:ByteArray):Int :=
 match fget nm l with
 | some f=>f.b.length - f.lasts
 | none=>0
end Spec
open Spec
def cellsM : Files→List Place→List Value
 | e :: l,q :: ps => .string e.1 :: .pointer (some ⟨q.1,0,none⟩) :: cellsM l ps
 | _,_ => []
theorem bytes_eq_of {s k:ByteArray} (h:(s == k)=true):s=k:=(MapKept.bytes_beq s k).1 h
theorem fget_some {s:ByteArray} {f:FileS}:∀ {l:Files} {ps:List Place},l.length=ps.length→fget s l=some f→∃ i q,l[i]?=some (s,f)∧ps[i]?=some q∧mapGet s (cellsM l ps)=some (.pointer (some ⟨q.1,0,none⟩)) ∧
  (∀ g,fput s g l=l.set i (s,g))∧∀ (g:FileS) (q':Place),mapPut s (.pointer (some ⟨q'.1,0,none⟩)) (cellsM l ps)=cellsM (l.set i (s,g)) (ps.set i q')
 | [],_,_,h=>by cases h
 | _ :: _,[],h,_=>by cases h
 | (k,f') :: l,q :: ps,hl,h=>by
  unfold fget at h
  by_cases c:(s == k)=true
  ·
   rw[if_pos c] at h
   cases h
   have e:=bytes_eq_of c
   subst e
   exact⟨0,q,rfl,rfl,by simp [cellsM,mapGet,c],fun g=>by simp [fput,c],fun g q'=>by simp [cellsM,mapPut,c]⟩
  ·
   rw[if_neg c] at h
   obtain⟨i,q2,h1,h2,h3,h4,h5⟩:=fget_some (by simpa using hl) h
   refine⟨i+1,q2,by simpa using h1,by simpa using h2,?_,fun g=>?_,fun g q'=>?_⟩
   · rw[cellsM,mapGet,if_neg c];exact h3
   · rw[fput,if_neg c,h4];rfl
   · rw[cellsM,mapPut,if_neg c,h5 g q'];rfl
theorem fget_none {s:ByteArray}:∀ {l:Files} {ps:List Place},l.length=ps.length→fget s l=none→mapGet s (cellsM l ps)=none∧(∀ g,fput s g l=l ++ [(s,g)])∧(∀ e ∈ l,e.1≠s) ∧
  ∀ (g:FileS) (q':Place),mapPut s (.pointer (some ⟨q'.1,0,none⟩)) (cellsM l ps)=cellsM (l ++ [(s,g)]) (ps ++ [q'])
 | [],[],_,_=>⟨rfl,fun _=>rfl,fun _ h=>(by cases h),fun _ _=>rfl⟩
 | [],_ :: _,h,_=>by cases h
 | _ :: _,[],h,_=>by cases h
 | (k,f') :: l,q :: ps,hl,h=>by
  unfold fget at h
  by_cases c:(s == k)=true
  · rw[if_pos c] at h;cases h
  ·
   rw[if_neg c] at h
   obtain⟨h1,h2,h3,h4⟩:=fget_none (by simpa using hl) h
   refine⟨?_,fun g=>?_,fun e he=>?_,fun g q'=>?_⟩
   · rw[cellsM,mapGet,if_neg c];exact h1
   · rw[fput,if_neg c,h2];rfl
   ·
    rcases List.mem_cons.1 he with rfl | he
    · exact fun e=>c ((MapKept.bytes_beq s k).2 e.symm)
    · exact h3 e he
   · rw[cellsM,mapPut,if_neg c,h4 g q'];rfl
theorem mapPut_same {s:ByteArray}:∀ {v:Value} {M:List Value},mapGet s M=some v→mapPut s v M=M
 | v,[],h=>by cases h
 | v,[_],h=>by unfold mapGet at h;split at h <;> simp_all
 | v,k :: x :: r,h=>by
  unfold mapGet at h
  split at h
  ·
   rename_i k' v' r' e
   cases e
   unfold mapPut
   split at h
   ·
    rename_i c
    cases h
    rw[if_pos c,(MapKept.bytes_beq s k').1 c]
   ·
    rename_i c
    rw[if_neg c,mapPut_same h]
  · cases h
/-- No memory. -/
def H00 : Heap:=⟨0,fun _=>none⟩
structure FileAt (D:Nat→Prop) (H:Heap) (q:Place) (f:FileS):Prop where
 dom:D q.1
 rdom:∀ x,inA q.2.1 q.2.2 x→D x
 blk:H.blk q.1=some ⟨[.slice q.2.1 f.b.length q.2.2,.int .i64 f.lasts,.bool f.there],0,false,false⟩
 row:My H00 H q.2.1 q.2.2 1 (f.b.map u8c)
 bytes:Spec.Bytes f.b
 len:f.b.length≤1048576
 lo:0≤f.lasts
 hi:f.lasts≤f.b.length
structure DiskR (D:Nat→Prop) (H:Heap) (p mb:Nat) (l:Files) (ps:List Place) (k:Int):Prop where
 dp:D p
 dm:D mb
 blk:H.blk p=some ⟨[.map (some mb),.int .i64 k],0,false,false⟩
 mblk:H.blk mb=some ⟨cellsM l ps,0,false,true⟩
 len:l.length=ps.length
 at_:∀ (i:Nat) (e:ByteArray×FileS) (q:Place),l[i]?=some e→ps[i]?=some q→FileAt D H q e.2
 apart:∀ (i j:Nat) (q q':Place),i≠j→ps[i]?=some q→ps[j]?=some q'→q.1≠q'.1∧∀ x,inA q.2.1 q.2.2 x→¬ inA q'.2.1 q'.2.2 x
 names:∀ e ∈ l,Spec.nameF e.1=true
 nodup:(l.map (·.1)).Nodup
 kb:0≤k
 below:∀ q,D q→q<H.next
/-- A disk at p: what it holds, how many changing calls there were; all its blocks are D's. -/
def DiskH (D:Nat→Prop) (H:Heap) (p:Nat) (l:Files) (k:Int):Prop:=∃ mb ps,DiskR D H p mb l ps k
/-- A block of no row, or of a row of bytes (or what is as small). -/
def Z01 (H:Heap) (q:Nat):Prop:=ZB H q 0∨ZB H q 1
theorem Z01.back {H H1:Heap} {b:Nat} (e:H1.blk b=H.blk b) (h:Z01 H1 b):Z01 H b:=h.imp (ZB.back e) (ZB.back e)
theorem Z01.ne {H:Heap} {b sz:Nat} (h:Z01 H b) (h0:sz≠0) (h1:sz≠1):∃ B,H.blk b=some B∧B.esz≠sz:=h.elim (fun h=>h.ne h0.symm) (fun h=>h.ne h1.symm)
/-- What is new as well. -/
def grow (D:Nat→Prop) (H H':Heap):Nat→Prop:=fun q=>D q∨(H.next≤q∧q<H'.next)
section
variable {D : Nat → Prop} {H H' : Heap} {p mb : Nat} {l : Files} {ps : List Place} {k k' : Int} {W : Nat → Prop} {q q' : Place} {f f' : FileS} {e : ByteArray × FileS} {i : Nat}
theorem FileAt.fr (h:FileAt D H q f) (x:Fr W H H') (hl:q.1<H.next) (h1:¬ W q.1) (h2:∀ x,inA q.2.1 q.2.2 x→¬ W x):FileAt D H' q f :=
 ⟨h.dom,h.rdom,(x.2 _ hl h1).trans h.blk,My.hid h.row (Fr.mono x fun y e=>⟨e,fun c=>h2 y c e⟩),h.bytes,h.len,h.lo,h.hi⟩
theorem FileAt.mono {D':Nat→Prop} (h:FileAt D H q f) (hd:∀ x,D x→D' x):FileAt D' H q f:=⟨hd _ h.dom,fun x c=>hd x (h.rdom x c),h.blk,h.row,h.bytes,h.len,h.lo,h.hi⟩
theorem DiskR.fr (h:DiskR D H p mb l ps k) (x:Fr W H H') (hw:∀ q,D q→¬ W q):DiskR D H' p mb l ps k :=
 ⟨h.dp,h.dm,(x.2 _ (h.below _ h.dp) (hw _ h.dp)).trans h.blk,(x.2 _ (h.below _ h.dm) (hw _ h.dm)).trans h.mblk,h.len,
  fun i e q h1 h2=>let z:=h.at_ i e q h1 h2;z.fr x (h.below _ z.dom) (hw _ z.dom) fun y c=>hw _ (z.rdom y c),h.apart,h.names,h.nodup,h.kb,fun q c=>Nat.lt_of_lt_of_le (h.below q c) x.1⟩
theorem DiskH.fr (h:DiskH D H p l k) (x:Fr W H H') (hw:∀ q,D q→¬ W q):DiskH D H' p l k:=let ⟨mb,ps,r⟩:=h;⟨mb,ps,r.fr x hw⟩
theorem DiskH.ext (h:DiskH D H p l k) (x:Ext H H'):DiskH D H' p l k:=h.fr (x.fr fun _=>False) fun _ _ e=>e
theorem FileAt.zb (h:FileAt D H q f) {x:Nat} (c:inA q.2.1 q.2.2 x) {cs:List Value} {o r:Bool} (hB:H.blk x=some ⟨cs,0,r,o⟩):False:=by
 obtain⟨B,h1,h2⟩:=inA.zb h.row x c
 rw[hB] at h1
 cases h1
 cases h2
theorem DiskR.zp (h:DiskR D H p mb l ps k):D p∧Z01 H p:=⟨h.dp,.inl ⟨_,h.blk,rfl⟩⟩
theorem DiskR.zm (h:DiskR D H p mb l ps k):D mb∧Z01 H mb:=⟨h.dm,.inl ⟨_,h.mblk,rfl⟩⟩
theorem FileAt.zf (h:FileAt D H q f):D q.1∧Z01 H q.1:=⟨h.dom,.inl ⟨_,h.blk,rfl⟩⟩
theorem FileAt.zr (h:FileAt D H q f) (x:Nat) (c:inA q.2.1 q.2.2 x):D x∧Z01 H x:=⟨h.rdom x c,.inr (inA.zb h.row x c)⟩
theorem DiskR.ne_m (h:DiskR D H p mb l ps k):mb≠p:=fun e=>by
 have h1:=h.blk
 rw[← e,h.mblk] at h1
 injection h1 with h1
 injection h1 with _ _ _ h4
 cases h4
theorem DiskR.ne_f (h:DiskR D H p mb l ps k) (z:FileAt D H q f):q.1≠p∧q.1≠mb:=by
 refine⟨fun e=>?_,fun e=>?_⟩
 ·
  have h1:=z.blk
  rw[e,h.blk] at h1
  cases h1
 ·
  have h1:=z.blk
  rw[e,h.mblk] at h1
  injection h1 with h1
  injection h1 with _ _ _ h4
  cases h4
/-- What is a file's place does not stand in another's. -/
theorem DiskR.keep (h:DiskR D H p mb l ps k) {j:Nat} {ej:ByteArray×FileS} {qj:Place} (hj:l[j]?=some ej) (hqj:ps[j]?=some qj) {U:Nat→Prop} (hU1:¬ U qj.1) (hU2:∀ x,inA qj.2.1 qj.2.2 x→¬ U x) (x:Fr W H H') (hw:∀ x,x<H.next→W x→x=p∨x=mb∨U x):FileAt (grow D H H') H' qj ej.2:=by
 have z:=h.at_ j ej qj hj hqj
 have hn:=h.ne_f z
 refine(FileAt.fr z x (h.below _ z.dom) (fun c=>?_) (fun y hy c=>?_)).mono fun y => .inl
 ·
  rcases hw _ (h.below _ z.dom) c with e | e | e
  · exact hn.1 e
  · exact hn.2 e
  · exact hU1 e
 ·
  rcases hw y (h.below _ (z.rdom y hy)) c with e | e | e
  · exact z.zb hy (e ▸ h.blk)
  · exact z.zb hy (e ▸ h.mblk)
  · exact hU2 y hy e
theorem DiskR.set (h:DiskR D H p mb l ps k) (hi:l[i]?=some e) (hq:ps[i]?=some q) (x:Fr W H H') (hw:∀ x,x<H.next→W x→x=p∨x=mb∨(x=q.1∨inA q.2.1 q.2.2 x))
  (hp:H'.blk p=some ⟨[.map (some mb),.int .i64 k'],0,false,false⟩) (hm:H'.blk mb=some ⟨cellsM (l.set i (e.1,f')) (ps.set i q'),0,false,true⟩) (hf:FileAt (grow D H H') H' q' f')
  (ha1:q'.1=q.1∨H.next≤q'.1) (ha2:∀ x,inA q'.2.1 q'.2.2 x→inA q.2.1 q.2.2 x∨H.next≤x) (hk:0≤k'):DiskR (grow D H H') H' p mb (l.set i (e.1,f')) (ps.set i q') k':=by
 have zi:=h.at_ i e q hi hq
 have hil:i<l.length:=(List.getElem?_eq_some_iff.1 hi).1
 have hip:i<ps.length:=(List.getElem?_eq_some_iff.1 hq).1
 refine⟨.inl h.dp,.inl h.dm,hp,hm,by simp [h.len],fun j ej qj hj hqj=>?_,fun a b qa qb hab ha hb=>?_,fun e' he'=>?_,?_,hk,fun y hy=>?_⟩
 ·
  by_cases c:i=j
  ·
   subst c
   rw[List.getElem?_set_self hil] at hj
   rw[List.getElem?_set_self hip] at hqj
   cases hj
   cases hqj
   exact hf
  ·
   rw[List.getElem?_set_ne c] at hj hqj
   have z:=h.at_ j ej qj hj hqj
   have ha:=h.apart i j q qj c hq hqj
   exact h.keep hj hqj (U:=fun x=>x=q.1∨inA q.2.1 q.2.2 x) (fun c=>c.elim (fun c=>ha.1 c.symm) (fun c=>zi.zb c z.blk)) (fun y hy c=>c.elim (fun c=>z.zb hy (c ▸ zi.blk)) (fun c=>ha.2 y c hy)) x hw
 ·
  have key:∀ (j:Nat) (qj:Place),i≠j→ps[j]?=some qj→(q'.1≠qj.1)∧∀ x,inA q'.2.1 q'.2.2 x→¬ inA qj.2.1 qj.2.2 x:=by
   intro j qj c hqj
   have hjl:j<l.length:=by rw[h.len];exact(List.getElem?_eq_some_iff.1 hqj).1
   have z:=h.at_ j _ qj (List.getElem?_eq_getElem hjl) hqj
   have ha:=h.apart i j q qj c hq hqj
   refine⟨fun e1=>?_,fun y hy c2=>?_⟩
   ·
    rcases ha1 with h1 | h1
    · exact ha.1 (h1.symm.trans e1)
    · have:=h.below _ z.dom;omega
   ·
    rcases ha2 y hy with h1 | h1
    · exact ha.2 y h1 c2
    · have:=h.below _ (z.rdom y c2);omega
  by_cases ca:i=a
  ·
   subst ca
   rw[List.getElem?_set_self hip] at ha
   rw[List.getElem?_set_ne hab] at hb
   cases ha
   exact key b qb hab hb
  ·
   rw[List.getElem?_set_ne ca] at ha
   by_cases cb:i=b
   ·
    subst cb
    rw[List.getElem?_set_self hip] at hb
    cases hb
    have:=key a qa ca ha
    exact⟨this.1.symm,fun y h1 h2=>this.2 y h2 h1⟩
   ·
    rw[List.getElem?_set_ne cb] at hb
    exact h.apart a b qa qb hab ha hb
 ·
  rcases List.mem_or_eq_of_mem_set he' with h1 | h1
  · exact h.names e' h1
  ·
   subst h1
   exact h.names e (List.mem_of_getElem? hi)
 ·
  rw[List.map_set,show(l.map (·.1)).set i e.1=l.map (·.1) from ?_]
  · exact h.nodup
  ·
   apply List.ext_getElem?
   intro j
   by_cases c:i=j
   ·
    subst c
    rw[List.getElem?_set_self (by simpa using hil),List.getElem?_map,hi];rfl
   · rw[List.getElem?_set_ne c]
 ·
  rcases hy with h1 | h1
  · exact Nat.lt_of_lt_of_le (h.below y h1) x.1
  · exact h1.2
theorem DiskR.add {s:ByteArray} (h:DiskR D H p mb l ps k) (x:Fr W H H') (hw:∀ x,x<H.next→W x→x=p∨x=mb∨False)
  (hp:H'.blk p=some ⟨[.map (some mb),.int .i64 k'],0,false,false⟩) (hm:H'.blk mb=some ⟨cellsM (l ++ [(s,f')]) (ps ++ [q']),0,false,true⟩) (hf:FileAt (grow D H H') H' q' f')
  (ha1:H.next≤q'.1) (ha2:∀ x,inA q'.2.1 q'.2.2 x→H.next≤x) (hk:0≤k') (hs:Spec.nameF s=true) (hn:∀ e ∈ l,e.1≠s):DiskR (grow D H H') H' p mb (l ++ [(s,f')]) (ps ++ [q']) k':=by
 refine⟨.inl h.dp,.inl h.dm,hp,hm,by simp [h.len],fun j ej qj hj hqj=>?_,fun a b qa qb hab ha hb=>?_,fun e' he'=>?_,?_,hk,fun y hy=>?_⟩
 ·
  rcases Nat.lt_trichotomy j l.length with c | c | c
  ·
   rw[List.getElem?_append_left c] at hj
   rw[List.getElem?_append_left (by rw[← h.len];exact c)] at hqj
   exact h.keep hj hqj (U:=fun _=>False) id (fun _ _=>id) x hw
  ·
   subst c
   rw[List.getElem?_append_right (Nat.le_refl _),Nat.sub_self] at hj
   rw[h.len,List.getElem?_append_right (Nat.le_refl _),Nat.sub_self] at hqj
   cases hj
   cases hqj
   exact hf
  ·
   rw[List.getElem?_eq_none (by simp;omega)] at hj
   cases hj
 ·
  have key:∀ (j:Nat) (qj:Place),ps[j]?=some qj→(q'.1≠qj.1)∧∀ x,inA q'.2.1 q'.2.2 x→¬ inA qj.2.1 qj.2.2 x:=by
   intro j qj hqj
   have hjl:j<l.length:=by rw[h.len];exact(List.getElem?_eq_some_iff.1 hqj).1
   have z:=h.at_ j _ qj (List.getElem?_eq_getElem hjl) hqj
   exact⟨fun e1=>by have:=h.below _ z.dom;omega,fun y hy c2=>by have:=ha2 y hy;have:=h.below _ (z.rdom y c2);omega⟩
  have split:∀ (a:Nat) (qa:Place),(ps ++ [q'])[a]?=some qa→(a<ps.length∧ps[a]?=some qa)∨(a=ps.length∧qa=q'):=by
   intro a qa ha
   rcases Nat.lt_trichotomy a ps.length with c | c | c
   · rw[List.getElem?_append_left c] at ha;exact .inl ⟨c,ha⟩
   ·
    subst c
    rw[List.getElem?_append_right (Nat.le_refl _),Nat.sub_self] at ha
    cases ha
    exact .inr ⟨rfl,rfl⟩
   ·
    rw[List.getElem?_eq_none (by simp;omega)] at ha
    cases ha
  rcases split a qa ha with⟨_,ga⟩ | ⟨ea,fa⟩
  ·
   rcases split b qb hb with⟨_,gb⟩ | ⟨eb,fb⟩
   · exact h.apart a b qa qb hab ga gb
   ·
    have:=key a qa ga
    rw[fb]
    exact⟨this.1.symm,fun y h1 h2=>this.2 y h2 h1⟩
  ·
   rcases split b qb hb with⟨_,gb⟩ | ⟨eb,fb⟩
   · rw[fa];exact key b qb gb
   · omega
 ·
  rcases List.mem_append.1 he' with h1 | h1
  · exact h.names e' h1
  · rw[List.mem_singleton.1 h1];exact hs
 ·
  rw[List.map_append,List.nodup_append]
  refine⟨h.nodup,by simp,fun a ha b hb=>?_⟩
  obtain⟨e',he',rfl⟩:=List.mem_map.1 ha
  simp only [List.map_cons,List.map_nil,List.mem_singleton] at hb
  rw[hb]
  exact hn e' he'
 ·
  rcases hy with h1 | h1
  · exact Nat.lt_of_lt_of_le (h.below y h1) x.1
  · exact h1.2
theorem DiskR.same (h:DiskR D H p mb l ps k) (x:Fr W H H') (hw:∀ x,x<H.next→W x→x=p)
  (hp:H'.blk p=some ⟨[.map (some mb),.int .i64 k'],0,false,false⟩) (hm:H'.blk mb=some ⟨cellsM l ps,0,false,true⟩) (hk:0≤k'):DiskR (grow D H H') H' p mb l ps k' :=
 ⟨.inl h.dp,.inl h.dm,hp,hm,h.len,fun j ej qj hj hqj=>h.keep hj hqj (U:=fun _=>False) id (fun _ _=>id) x (fun y h1 h2 => .inl (hw y h1 h2)),h.apart,h.names,h.nodup,hk,fun y hy=>by
  rcases hy with h1 | h1
  · exact Nat.lt_of_lt_of_le (h.below y h1) x.1
  · exact h1.2⟩
/-- A row of one's own, with its place told exactly. -/
theorem My.exact {H0:Heap} {A:Option Addr} {c sz:Nat} {rows:List (List Value)} (h:My H0 H A c sz rows):∃ G M,My G H A c sz rows∧My G M A c sz rows∧M.next≤H.next∧G.next≤H.next∧∀ x,G.next≤x→x<M.next→inA A c x:=by
 by_cases hc:c=0
 ·
  subst hc
  have hr:rows = []:=by
   rcases h with⟨h,_⟩ | ⟨b,o,cs,opn,_,_,_,_,_,_,_,⟨e,_⟩ | ⟨_,h,_⟩⟩
   · exact h
   · cases e
   · exact List.eq_nil_of_length_eq_zero (by omega)
  subst hr
  exact⟨H00,H00,.nil,.nil,Nat.zero_le _,Nat.zero_le _,fun x _ h=>absurd h (Nat.not_lt_zero x)⟩
 ·
  rcases h with⟨_,h⟩ | ⟨b,o,cs,opn,rfl,h1,h2,h3,h4⟩
  · exact absurd h hc
  · exact⟨⟨b,fun _=>none⟩,⟨b+1,H.blk⟩,.inr ⟨b,o,cs,opn,rfl,Nat.le_refl b,h2,h3,h4⟩,.inr ⟨b,o,cs,opn,rfl,Nat.le_refl b,Nat.lt_succ_self b,h3,h4⟩,h2,Nat.le_of_lt h2,fun x g1 g2=>⟨hc,_,rfl,by simp only at g1 g2 ⊢;omega⟩⟩
theorem My.inNew {H0:Heap} {A:Option Addr} {c sz:Nat} {rows:List (List Value)} (h:My H0 H A c sz rows):∀ x,inA A c x→H0.next≤x:=fun x ⟨hc,a,ha,hx⟩=>by
 rcases h with⟨_,h⟩ | ⟨b,o,cs,opn,rfl,h1,_⟩
 · exact absurd h hc
 · cases ha;subst hx;exact h1
end
end Go.AM
