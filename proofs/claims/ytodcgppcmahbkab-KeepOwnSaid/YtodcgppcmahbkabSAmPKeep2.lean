/- Part of a machine of its own for this claim: the program's code over memory without draws. -/
import Derived.Test.YtodcgppcmahbkabSAmPKeep
set_option linter.unusedVariables false
set_option linter.unusedSimpArgs false
set_option linter.unnecessarySimpa false
/- What a server keeps: as one thing in memory. -/
set_option linter.unusedSimpArgs false
set_option linter.unusedVariables false
namespace Go.AM
open Go
/-- What is kept. -/
structure KSt where
 ht:Int
 hv:Int
 si:Int
 st:Int
 sc:ByteArray
 sd:ByteArray
 l:List Entry
namespace Spec
def KSt0 : KSt:=⟨0,0,0,0,⟨#[]⟩,⟨#[]⟩,[]⟩
def wholeS (S:KSt):List Int:=wholeF S.ht S.hv S.si S.st S.sc S.sd S.l
def filesO : Option FileS→Files
 | none => []
 | some f => [(NS,f)]
def sizeO : Option FileS→Int
 | none=>0
 | some f=>f.b.length
def addO (o:Option FileS) (W b:List Int):FileS :=
 match o with
 | none=>⟨W++b,W.length,true⟩
 | some f=>if f.b.length=0∨f.b.length+b.length > 1048576 then⟨W++b,W.length,true⟩ else⟨f.b++b,f.lasts,f.there⟩
theorem filesO_put (o:Option FileS) (f:FileS):fput NS f (filesO o)=filesO (some f):=by
 cases o <;> simp [filesO,fput,ba_self]
theorem filesO_get (o:Option FileS):fget NS (filesO o)=o:=by
 cases o <;> simp [filesO,fget,ba_self]
theorem fileOk_O (o:Option FileS):FileOk (filesO o) (sizeO o):=by
 cases o with
 | none=>exact .inl rfl
 | some f=>exact .inr ⟨f,filesO_get _,rfl⟩
theorem addF_O {o:Option FileS} {W b:List Int} (h:W.length+b.length≤1048576):addF (filesO o) (sizeO o) W b=(sizeO (some (addO o W b)),filesO (some (addO o W b))):=by
 by_cases c:sizeO o=0∨sizeO o+b.length > 1048576
 ·
  rw[add_lay c,filesO_put]
  have:addO o W b=⟨W++b,W.length,true⟩:=by
   cases o with
   | none=>rfl
   | some f=>unfold addO;simp only [sizeO] at c;exact if_pos (by omega)
  rw[this]
  simp [sizeO]
 ·
  rw[add_app c]
  cases o with
  | none=>exact absurd (.inl rfl) c
  | some f =>
   have:addO (some f) W b=⟨f.b++b,f.lasts,f.there⟩:=by
    unfold addO;simp only [sizeO] at c;exact if_neg (by omega)
   rw[this,app_at (by decide) (filesO_get _) (by simp only [sizeO] at c;omega),filesO_put]
   simp [sizeO]
/-! ## how long -/
theorem snapF_small {x y:Int} {c d:ByteArray}:(snapF x y c d).length≤110+8 * d.size:=by
 unfold snapF
 split
 ·
  rename_i h
  have hs:=mayS_says h
  have h1:=@snapHead_len x y c d (by omega) (by omega) hs.2.2.1 hs.2.2.2
  have h2:=frameF_length 3 (snapHead x y c d)
  have h3:=enc_len_small (n:=(snapHead x y c d).length) (by omega)
  have h4:=partsF_len _ (bytesOf d) rfl
  rw[bytesOf_length] at h4
  rw[List.length_append]
  omega
 · simp
theorem whole_small {S:KSt} (h:S.sd.size≤200) (hl:S.l.length≤200):(wholeS S).length≤520000:=by
 have h1:=@snapF_small S.si S.st S.sc S.sd
 have h2:=encodeF_len true S.ht S.hv 0 0 0 (⟨#[]⟩:ByteArray)
 have h3:=encKs_len S.l
 unfold wholeS wholeF encH
 simp only [List.length_append]
 omega
/-! ## what the methods do -/
def hardS (S:KSt) (t v:Int):KSt:={ S with ht:=t,hv:=v }
def writeS (S:KSt) (w:List Entry):KSt:=if writeE S.si S.l w=0 then { S with l:=writeL S.si S.l w } else S
def writeO (S:KSt) (o:Option FileS) (w:List Entry):Option FileS:=if writeE S.si S.l w=0∧w ≠ [] then some (addO o (wholeS S) (encKs w)) else o
theorem writeL_len {si:Int} {l w:List Entry} (h:writeE si l w=0) (hl:l.length≤200):(writeL si l w).length≤200:=by
 cases w with
 | nil=>exact hl
 | cons e r =>
  rw[writeE] at h
  split at h
  · exact absurd h (by decide)
  ·
   split at h
   · exact absurd h (by decide)
   ·
    split at h
    · exact absurd h (by decide)
    ·
     rename_i h1 _ h2
     rw[writeL,List.length_append,List.length_take]
     omega
theorem writeS_no {S:KSt} {w:List Entry} (h:writeE S.si S.l w≠0∨w = []):writeS S w=S:=by
 unfold writeS
 rcases h with h | h
 · rw[if_neg h]
 ·
  subst h
  rw[if_pos (show writeE S.si S.l []=0 from rfl)]
  rfl
def syncO : Option FileS→Option FileS
 | none=>none
 | some f=>some ⟨f.b,f.b.length,true⟩
def stateO (b:List Int):KSt:=⟨(openR b).2.1,(openR b).2.2.1,(openR b).2.2.2.1,(openR b).2.2.2.2.1,(openR b).2.2.2.2.2.1,(openR b).2.2.2.2.2.2.1,(openR b).2.2.2.2.2.2.2.1⟩
def sizeR (b:List Int):Int:=(openR b).2.2.2.2.2.2.2.2
/-- The file behind an opening: what is torn is cut off. -/
def openO (f:FileS):FileS:=if sizeR f.b<f.b.length then⟨f.b.take (sizeR f.b).toNat,((f.b.take (sizeR f.b).toNat).length:Int),true⟩ else f
theorem openL_O {f:FileS}:openL (filesO (some f)) f.b (sizeR f.b)=filesO (some (openO f)):=by
 unfold openL openO
 split
 · rw[filesO_put]
 · rfl
theorem takeR_len {ht hv si:Int} {l:List Entry} {r:Rec} (h:l.length≤200):(takeR ht hv si l r).2.2.2.length≤200:=takeF_len h
theorem takeA_len {si:Int}:∀ {rs:List Rec} {ht hv:Int} {l:List Entry},l.length≤200→(takeA si ht hv l rs).2.2.2.length≤200
 | [],_,_,_,h=>h
 | r :: rs,ht,hv,l,h=>by
  rw[takeA]
  split
  · exact takeA_len (takeR_len h)
  · exact h
theorem stateO_len (b:List Int):(stateO b).l.length≤200:=takeA_len (Nat.zero_le _)
theorem openR_ok {b:List Int} (h:(openR b).1=true):(getSnapF b).2.2.2.2.2=0:=by
 unfold openR at h
 simp only [Bool.and_eq_true,decide_eq_true_eq] at h
 exact h.1
theorem stateO_si {b:List Int} (h:(openR b).1=true):0≤(stateO b).si∧(stateO b).si≤1099511627776:=getSnap_rng (openR_ok h)
theorem sizeR_rng {b:List Int} (hb:Bytes b) (h:(openR b).1=true):0≤sizeR b∧sizeR b≤b.length:=by
 have h1:=(getSnap_ok hb).2
 have h2:=scanW_all _ (b.drop (getSnapF b).2.2.2.2.1.toNat) rfl (hb.drop _)
 have h3:=h2.2.1
 have h4:=h2.2.2.1
 rw[List.length_drop] at h4
 have e:sizeR b=(getSnapF b).2.2.2.2.1+(scanW (b.drop (getSnapF b).2.2.2.2.1.toNat)).2.1:=rfl
 omega
theorem openO_len {f:FileS} (hb:Bytes f.b) (h:(openR f.b).1=true):sizeO (some (openO f))=sizeR f.b:=by
 have h1:=sizeR_rng hb h
 unfold openO
 split
 ·
  show(((f.b.take (sizeR f.b).toNat).length:Nat):Int)=_
  rw[List.length_take]
  omega
 ·
  show(f.b.length:Int)=_
  omega
end Spec
open Spec
/-- A keep at k, on the disk at d. -/
structure KeepR (K:Nat→Prop) (H:Heap) (k d:Nat) (S:KSt) (o:Option FileS) (kc:Int):Prop where
 kk:K k
 ex:∃ D A c,DiskH D H d (filesO o) kc∧(∀ q,D q→K q)∧¬ D k∧H.blk k=some ⟨[.pointer (some ⟨d,0,none⟩),.int .i64 S.ht,.int .i64 S.hv,.int .i64 S.si,.int .i64 S.st,.string S.sc,.string S.sd,.slice A S.l.length c,.int .i64 (sizeO o)],0,false,false⟩∧My H00 H A c 4 (S.l.map Entry.cells)∧∀ q,inA A c q→K q
 lenl:S.l.length≤200
 si:0≤S.si∧S.si≤1099511627776
 below:∀ q,K q→q<H.next
section
variable {K D W : Nat → Prop} {H H' : Heap} {k d : Nat} {S : KSt} {o : Option FileS} {kc : Int}
theorem KeepR.fr (h:KeepR K H k d S o kc) (x:Fr W H H') (hw:∀ q,K q→¬ W q):KeepR K H' k d S o kc:=by
 obtain⟨kk,⟨D,A,c,h1,h2,h3,h4,h5,h6⟩,h7,h8,h9⟩:=h
 exact⟨kk,⟨D,A,c,h1.fr x fun q e=>hw q (h2 q e),h2,h3,(x.2 _ (h9 _ kk) (hw _ kk)).trans h4,My.hid h5 (Fr.mono x fun y e=>⟨e,fun c=>hw y (h6 y c) e⟩),h6⟩,h7,h8,fun q e=>Nat.lt_of_lt_of_le (h9 q e) x.1⟩
theorem KeepR.ext (h:KeepR K H k d S o kc) (x:Ext H H'):KeepR K H' k d S o kc:=h.fr (x.fr fun _=>False) fun _ _ e=>e
theorem KeepR.disk (h:KeepR K H k d S o kc):∃ D,DiskH D H d (filesO o) kc:=let ⟨D,_,_,h1,_⟩:=h.ex;⟨D,h1⟩
/-- A keep behind a call. -/
theorem KeepR.next {S':KSt} {o':Option FileS} {kc':Int} {D':Nat→Prop} {A':Option Addr} {c':Nat} (h:KeepR K H k d S o kc) (hn:H.next≤H'.next) (hd:DiskH D' H' d (filesO o') kc') (hs:∀ q,D' q→D q∨(H.next≤q∧q<H'.next)) (hD:∀ q,D q→K q) (hk:¬ D k)
  (hB:H'.blk k=some ⟨[.pointer (some ⟨d,0,none⟩),.int .i64 S'.ht,.int .i64 S'.hv,.int .i64 S'.si,.int .i64 S'.st,.string S'.sc,.string S'.sd,.slice A' S'.l.length c',.int .i64 (sizeO o')],0,false,false⟩)
  (hm:My H00 H' A' c' 4 (S'.l.map Entry.cells)) (hA:∀ q,inA A' c' q→K q∨(H.next≤q∧q<H'.next)) (hl:S'.l.length≤200) (hi:0≤S'.si∧S'.si≤1099511627776):KeepR (grow K H H') H' k d S' o' kc' :=
 ⟨.inl h.kk,⟨D',A',c',hd,fun q e=>(hs q e).imp (hD q) id,fun e=>(hs k e).elim hk fun e=>by have:=h.below k h.kk;omega,hB,hm,hA⟩,hl,hi,fun q e=>e.elim (fun e=>Nat.lt_of_lt_of_le (h.below q e) hn) fun e=>e.2⟩
theorem KeepR.frame (h:KeepR K H k d S o kc) {c:List Value} (hB:H.blk k=some ⟨c,0,false,false⟩) (hD:∀ q,D q→K q) (x:Fr (fun q=>q=k∨(D q∧Z01 H q)) H H'):Fr (fun q=>K q∧Z01 H q) H H' :=
 Fr.mono x fun q e=>e.elim (fun e=>e ▸ ⟨h.kk,.inl ⟨_,hB,rfl⟩⟩) fun e=>⟨hD q e.1,e.2⟩
end
end Go.AM
namespace Go.AM
open Go Spec
section
variable {K D W : Nat → Prop} {H H' : Heap} {k d mb : Nat} {S : KSt} {o : Option FileS} {kc : Int} {ps : List Place} {f : FileS}
theorem DiskR.fileO (r:DiskR D H d mb (filesO (some f)) ps kc):Spec.Bytes f.b∧f.b.length≤1048576∧0≤f.lasts∧f.lasts≤f.b.length:=by
 have hl:=r.len
 rcases ps with _ | ⟨q,ps⟩
 · simp [filesO] at hl
 ·
  have z:=r.at_ 0 (NS,f) q rfl rfl
  exact⟨z.bytes,z.len,z.lo,z.hi⟩
theorem DiskH.fileO (h:DiskH D H d (filesO (some f)) kc):Spec.Bytes f.b∧f.b.length≤1048576∧0≤f.lasts∧f.lasts≤f.b.length:=let ⟨_,_,r⟩:=h;r.fileO
theorem DiskH.szO (h:DiskH D H d (filesO o) kc):0≤sizeO o∧sizeO o≤1048576:=by
 cases o with
 | none=>exact⟨Int.le_refl _,by decide⟩
 | some f=>have:=h.fileO;simp only [sizeO];omega
def Spec.syncK (o:Option FileS):Option FileS:=if sizeO o=0 then o else syncO o
theorem Ext.frAny (x:Ext H H') (W:Nat→Prop):Fr W H H':=Fr.mono (x.fr fun _=>False) (fun _ e=>e.elim)
theorem KeepR.file (h:KeepR K H k d S (some f) kc):Spec.Bytes f.b∧f.b.length≤1048576∧0≤f.lasts∧f.lasts≤f.b.length:=let ⟨_,hd⟩:=h.disk;hd.fileO
end
end Go.AM
