/- Part of a machine of its own for this claim: the program's code over memory without draws. -/
import Derived.Test.YtodcgppcmahbkabSAmPDisk4
import Derived.Test.YtodcgppcmahbkabSAmPMsg
set_option linter.unusedVariables false
set_option linter.unusedSimpArgs false
set_option linter.unnecessarySimpa false
/- What a server keeps: what is reckoned. -/
set_option linter.unusedSimpArgs false
set_option linter.unusedVariables false
namespace Go.AM
open Go
/-- A disk behind a call: its files; its blocks are those it had, or new. -/
def DiskS (D:Nat→Prop) (H H':Heap) (p:Nat) (l:Files) (k c:Int):Prop:=∃ D' k',DiskH D' H' p l k'∧k'≤k+c∧∀ q,D' q→D q∨(H.next≤q∧q<H'.next)
namespace Spec
/-- The file's name. -/
abbrev NS : ByteArray:=⟨#[115,116,97,116,101]⟩
def encK (e:Entry):List Int:=encodeF false 0 0 e.index e.term e.kind e.data
def encH (t v:Int):List Int:=encodeF true t v 0 0 0 (⟨#[]⟩:ByteArray)
def encKs (l:List Entry):List Int:=(l.map encK).flatten
/-- All that is kept, written. -/
def wholeF (ht hv si st:Int) (sc sd:ByteArray) (l:List Entry):List Int:=snapF si st sc sd++encH ht hv++encKs l
theorem encK_len (e:Entry):(encK e).length≤2550:=encodeF_len _ _ _ _ _ _ _
theorem encKs_step {l:List Entry} {i:Nat} {e:Entry} (h:l[i]?=some e):encKs (l.drop i)=encK e++encKs (l.drop (i+1)):=by
 obtain⟨h1,h2⟩:=List.getElem?_eq_some_iff.1 h
 unfold encKs
 rw[List.drop_eq_getElem_cons h1,List.map_cons,List.flatten_cons,h2]
theorem encKs_len : ∀ l:List Entry,(encKs l).length≤2550 * l.length
 | []=>Nat.le_refl _
 | e :: l=>by
  have h1:=encK_len e
  have h2:=encKs_len l
  unfold encKs at *
  rw[List.map_cons,List.flatten_cons,List.length_append,List.length_cons]
  omega
theorem encKs_bytes (l:List Entry):Bytes (encKs l):=by
 intro x hx
 obtain⟨y,hy,hx⟩:=List.mem_flatten.1 hx
 obtain⟨e,_,rfl⟩:=List.mem_map.1 hy
 exact encodeF_bytes _ _ _ _ _ _ _ x hx
theorem whole_len {ht hv si st:Int} {sc sd:ByteArray} {l:List Entry}:(wholeF ht hv si st sc sd l).length≤1702550+2550 * l.length:=by
 have h1:=snapF_len si st sc sd
 have h2:=encodeF_len true ht hv 0 0 0 (⟨#[]⟩:ByteArray)
 have h3:=encKs_len l
 unfold wholeF encH
 simp only [List.length_append]
 omega
theorem whole_bytes (ht hv si st:Int) (sc sd:ByteArray) (l:List Entry):Bytes (wholeF ht hv si st sc sd l) :=
 ((snapF_bytes _ _ _ _).append (encodeF_bytes _ _ _ _ _ _ _)).append (encKs_bytes l)
/-! ## a file is put -/
theorem fget_fput {s:ByteArray} {f:FileS}:∀ l:Files,fget s (fput s f l)=some f
 | []=>by unfold fput fget;rw[if_pos (ba_self s)]
 | (k,g) :: l=>by
  unfold fput
  by_cases c:(s == k)=true
  · rw[if_pos c];unfold fget;rw[if_pos (ba_self s)]
  · rw[if_neg c];unfold fget;rw[if_neg c];exact fget_fput l
theorem fput_fput {s:ByteArray} {f g:FileS}:∀ l:Files,fput s f (fput s g l)=fput s f l
 | []=>by simp [fput,ba_self]
 | (k,g') :: l=>by
  conv=>lhs;arg 3;rw[fput]
  by_cases c:(s == k)=true
  ·
   rw[if_pos c,fput,if_pos (ba_self s)]
   conv=>rhs;rw[fput,if_pos c]
  ·
   rw[if_neg c,fput,if_neg c,fput_fput l]
   conv=>rhs;rw[fput,if_neg c]
theorem swap_ok {l:Files} {F:ByteArray} {b:List Int} (hF:nameF F=true) (h:b.length≤1048576):swapF l F b=(0,fput F ⟨b,b.length,true⟩ l):=by
 unfold swapF
 rw[if_pos hF,if_pos h]
theorem app_at {l:Files} {F:ByteArray} {f:FileS} {b:List Int} (hF:nameF F=true) (hf:fget F l=some f) (h:f.b.length+b.length≤1048576):appF l F b=(0,fput F ⟨f.b++b,f.lasts,f.there⟩ l):=by
 unfold appF
 rw[if_pos hF,hf]
 exact if_pos h
theorem app_swap {l:Files} {F:ByteArray} {W b:List Int} {z:Int} {t:Bool} (hF:nameF F=true) (h:W.length+b.length≤1048576):appF (fput F ⟨W,z,t⟩ l) F b=(0,fput F ⟨W++b,z,t⟩ l):=by
 rw[app_at hF (fget_fput l) h,fput_fput]
theorem sync_at {l:Files} {F:ByteArray} {f:FileS} (hf:fget F l=some f):syncF l F=(0,fput F ⟨f.b,f.b.length,true⟩ l):=by unfold syncF;rw[hf]
theorem read_at {l:Files} {F:ByteArray} {f:FileS} (hf:fget F l=some f):readF l F=(f.b,0):=by unfold readF;rw[hf]
theorem read_no {l:Files} {F:ByteArray} (hf:fget F l=none):readF l F=([],14):=by unfold readF;rw[hf]
/-- The file is there, as long as is told; or it is told that there is none. -/
def FileOk (l:Files) (sz:Int):Prop:=sz=0∨∃ f,fget NS l=some f∧sz=f.b.length
/-- Bytes are added to the file, of which W tells all that was kept. -/
def addF (l:Files) (sz:Int) (W b:List Int):Int×Files :=
 if sz=0∨sz+b.length > 1048576 then((W.length:Int)+b.length,fput NS ⟨W++b,W.length,true⟩ l) else(sz+b.length,(appF l NS b).2)
theorem app_ok {l:Files} {sz:Int} {b:List Int} (hf:FileOk l sz) (h0:sz≠0) (h:sz+b.length≤1048576):appF l NS b=(0,(appF l NS b).2):=by
 rcases hf with hf | ⟨f,hf,hs⟩
 · exact absurd hf h0
 · rw[app_at (by decide) hf (by omega)]
theorem add_lay {l:Files} {sz:Int} {W b:List Int} (h:sz=0∨sz+b.length > 1048576):addF l sz W b=((W.length:Int)+b.length,fput NS ⟨W++b,W.length,true⟩ l):=if_pos h
theorem add_app {l:Files} {sz:Int} {W b:List Int} (h:¬ (sz=0∨sz+b.length > 1048576)):addF l sz W b=(sz+b.length,(appF l NS b).2):=if_neg h
/-! ## entries -/
/-- Numbers of entries are numbers. -/
def EntsI (l:List Entry):Prop:=∀ x ∈ l,-9223372036854775808≤x.index∧x.index≤9223372036854775807
def rowE : Int→List Entry→Bool
 | _,[]=>true
 | b,e :: r=>mayF false 0 0 e.index e.term e.kind e.data && (e.index == b && rowE (b+1) r)
def writeE (si:Int) (l:List Entry):List Entry→Int
 | []=>0
 | e :: r=>if ¬ (0≤e.index - si - 1∧e.index - si - 1≤l.length) then 1 else if rowE e.index (e :: r)=false then 1 else if e.index - si - 1+((e :: r).length:Int) > 200 then 5 else 0
def writeL (si:Int) (l:List Entry):List Entry→List Entry
 | []=>l
 | e :: r=>l.take (e.index - si - 1).toNat++e :: r
theorem first_is {w:List Entry} {e:Entry} (h:w[0]?=some e):∃ r,w=e :: r:=by
 cases w with
 | nil=>cases h
 | cons a r=>cases h;exact⟨r,rfl⟩
theorem rowE_step {b:Int} {w:List Entry} {i:Nat} {e:Entry} (h:w[i]?=some e) (hm:mayF false 0 0 e.index e.term e.kind e.data=true) (he:e.index=b+(i:Int)):rowE (b+(i:Int)) (w.drop i)=rowE (b+((i+1:Nat):Int)) (w.drop (i+1)):=by
 obtain⟨h1,h2⟩:=List.getElem?_eq_some_iff.1 h
 rw[List.drop_eq_getElem_cons h1,h2,rowE,hm,he,show b+((i+1:Nat):Int)=b+(i:Int)+1 by omega]
 simp
theorem rowE_may {b:Int} {w:List Entry} {i:Nat} {e:Entry} (h:w[i]?=some e) (hm:mayF false 0 0 e.index e.term e.kind e.data=false):rowE (b+(i:Int)) (w.drop i)=false:=by
 obtain⟨h1,h2⟩:=List.getElem?_eq_some_iff.1 h
 rw[List.drop_eq_getElem_cons h1,h2,rowE,hm,Bool.false_and]
theorem rowE_ix {b:Int} {w:List Entry} {i:Nat} {e:Entry} (h:w[i]?=some e) (he:e.index≠b+(i:Int)):rowE (b+(i:Int)) (w.drop i)=false:=by
 obtain⟨h1,h2⟩:=List.getElem?_eq_some_iff.1 h
 rw[List.drop_eq_getElem_cons h1,h2,rowE,beq_eq_false_iff_ne.2 he,Bool.false_and,Bool.and_false]
theorem writeE_out {si:Int} {l w:List Entry} {e:Entry} (h:w[0]?=some e) (ho:¬ (0≤e.index - si - 1∧e.index - si - 1≤l.length)):writeE si l w=1:=by
 obtain⟨r,rfl⟩:=first_is h
 exact if_pos ho
theorem writeE_row {si:Int} {l w:List Entry} {e:Entry} (h:w[0]?=some e) (ho:0≤e.index - si - 1∧e.index - si - 1≤l.length) (hr:rowE e.index w=false):writeE si l w=1:=by
 obtain⟨r,rfl⟩:=first_is h
 rw[writeE]
 rw[if_neg (fun c=>c ho),if_pos hr]
theorem writeE_full {si:Int} {l w:List Entry} {e:Entry} (h:w[0]?=some e) (ho:0≤e.index - si - 1∧e.index - si - 1≤l.length) (hr:rowE e.index w=true) (hf:e.index - si - 1+(w.length:Int) > 200):writeE si l w=5:=by
 obtain⟨r,rfl⟩:=first_is h
 rw[writeE]
 rw[if_neg (fun c=>c ho),if_neg (by rw[hr];decide),if_pos hf]
theorem writeE_ok {si:Int} {l w:List Entry} {e:Entry} (h:w[0]?=some e) (ho:0≤e.index - si - 1∧e.index - si - 1≤l.length) (hr:rowE e.index w=true) (hf:¬ e.index - si - 1+(w.length:Int) > 200):writeE si l w=0:=by
 obtain⟨r,rfl⟩:=first_is h
 rw[writeE]
 rw[if_neg (fun c=>c ho),if_neg (by rw[hr];decide),if_neg hf]
theorem writeL_is {si:Int} {l w:List Entry} {e:Entry} (h:w[0]?=some e):writeL si l w=l.take (e.index - si - 1).toNat++w:=by
 obtain⟨r,rfl⟩:=first_is h
 rfl
theorem mayE_rng {e:Entry} (h:mayF false 0 0 e.index e.term e.kind e.data=true):1≤e.index∧e.index≤1099511627776:=by
 have:=may_entry h
 omega
/-- What stands at a place that is told of numbers of 64 bits. -/
theorem at_wrap {x s:Int} (hx : -9223372036854775808≤x∧x≤9223372036854775807) (hs:0≤s∧s≤1099511627776) :
  (0≤x - s - 1∧x - s - 1≤1099511627776→IntKind.i64.wrap (IntKind.i64.wrap (x - s) - 1)=x - s - 1)∧(0≤IntKind.i64.wrap (IntKind.i64.wrap (x - s) - 1)∧IntKind.i64.wrap (IntKind.i64.wrap (x - s) - 1)≤1099511627776→IntKind.i64.wrap (IntKind.i64.wrap (x - s) - 1)=x - s - 1):=by
 rw[IntKind.wrap_i64,IntKind.wrap_i64]
 constructor <;> intro h <;> omega
end Spec
end Go.AM
namespace Go.AM
open Go
/-- A row that stands in none of the blocks D. -/
def RowA {α:Type} (D:Nat→Prop) (A:Option Addr) (c:Nat) (l:List α):Prop:=(l = []∧c<OPEN)∨∃ b o,A=some ⟨b,o,none⟩∧¬ D b
section
variable {α : Type} {D D1 W : Nat → Prop} {A : Option Addr} {l : List α} {c sz : Nat} {f : α → List Value} {H H0 H1 H' : Heap}
theorem RowA.nil : RowA D A 0 ([]:List α) := .inl ⟨rfl,by decide⟩
theorem RowA.of_my (h:My H0 H A c sz (l.map f)) (hd:∀ q,D q→q<H0.next):RowA D A c l:=by
 rcases h with⟨h,hc⟩ | ⟨b,o,cs,opn,rfl,h1,_⟩
 · exact .inl ⟨List.map_eq_nil_iff.1 h,by rw[hc];decide⟩
 · exact .inr ⟨b,o,rfl,fun e=>by have:=hd b e;omega⟩
theorem RowA.grow (h:RowA D A c l) (hr:Row H A c sz (l.map f)) (hb:∀ q,D1 q→D q∨(H.next≤q∧q<H'.next)):RowA D1 A c l:=by
 rcases h with h | ⟨b,o,rfl,hd⟩
 · exact .inl h
 ·
  rcases hr with⟨h,hc⟩ | ⟨b',o',e,hr⟩
  · exact .inl ⟨List.map_eq_nil_iff.1 h,hc⟩
  ·
   cases e
   exact .inr ⟨b,o,rfl,fun e=>(hb b e).elim hd (fun e=>by have:=hr.1;omega)⟩
theorem Row.apart (hr:Row H A c sz (l.map f)) (h:RowA D A c l) (x:Fr W H H') (hw:∀ q,W q→D q∨∃ B,H.blk q=some B∧B.esz≠sz):Row H' A c sz (l.map f):=by
 rcases hr with hr | ⟨b,o,rfl,hr⟩
 · exact .inl hr
 ·
  rcases h with⟨h,hc⟩ | ⟨b',o',e,hd⟩
  · exact .inl ⟨by rw[h];rfl,hc⟩
  ·
   cases e
   refine .inr ⟨b,o,rfl,hr.next x.1 (x.2 b hr.1 fun q=>?_)⟩
   obtain⟨_,B,e1,e2,_⟩:=hr
   rcases hw b q with h | ⟨B',e3,e4⟩
   · exact hd h
   ·
    rw[e1] at e3
    cases e3
    exact e4 e2
end
end Go.AM
namespace Go.AM
open Go
/-- As DiskS; b is none of its blocks. -/
def DiskX (D:Nat→Prop) (H H':Heap) (p:Nat) (l:Files) (k c:Int) (b:Nat):Prop:=∃ D' k',DiskH D' H' p l k'∧k'≤k+c∧(∀ q,D' q→D q∨(H.next≤q∧q<H'.next))∧¬ D' b
namespace Spec
/-! ## what is kept, opened -/
def takeF (ht hv si:Int) (l:List Entry) (hard:Bool) (rt rv ri ru rq:Int) (rd:ByteArray):Bool×Int×Int×List Entry :=
 if hard=true then(true,rt,rv,l) else if ri - si - 1<0∨ri - si - 1 > l.length∨ri - si - 1 ≥ 200 then(false,ht,hv,l) else(true,ht,hv,l.take (ri - si - 1).toNat ++ [⟨ri,ru,rq,rd⟩])
theorem takeF_hard {ht hv si rt rv ri ru rq:Int} {l:List Entry} {hard:Bool} {rd:ByteArray} (h:hard=true):takeF ht hv si l hard rt rv ri ru rq rd=(true,rt,rv,l):=if_pos h
theorem takeF_no {ht hv si rt rv ri ru rq:Int} {l:List Entry} {hard:Bool} {rd:ByteArray} (h:hard=false) (h2:ri - si - 1<0∨ri - si - 1 > l.length∨ri - si - 1 ≥ 200):takeF ht hv si l hard rt rv ri ru rq rd=(false,ht,hv,l):=by
 unfold takeF
 rw[if_neg (by rw[h];decide),if_pos h2]
theorem takeF_ok {ht hv si rt rv ri ru rq:Int} {l:List Entry} {hard:Bool} {rd:ByteArray} (h:hard=false) (h2:¬ (ri - si - 1<0∨ri - si - 1 > l.length∨ri - si - 1 ≥ 200)):takeF ht hv si l hard rt rv ri ru rq rd=(true,ht,hv,l.take (ri - si - 1).toNat ++ [⟨ri,ru,rq,rd⟩]):=by
 unfold takeF
 rw[if_neg (by rw[h];decide),if_neg h2]
theorem takeF_len {ht hv si rt rv ri ru rq:Int} {l:List Entry} {hard:Bool} {rd:ByteArray} (h:l.length≤200):(takeF ht hv si l hard rt rv ri ru rq rd).2.2.2.length≤200:=by
 unfold takeF
 split
 · exact h
 ·
  split
  · exact h
  · simp only [List.length_append,List.length_take,List.length_singleton];omega
def takeR (ht hv si:Int) (l:List Entry) (r:Rec):Bool×Int×Int×List Entry:=takeF ht hv si l r.hard r.h.term r.h.vote r.e.index r.e.term r.e.kind r.e.data
def takeA (si:Int):Int→Int→List Entry→List Rec→Bool×Int×Int×List Entry
 | ht,hv,l,[]=>(true,ht,hv,l)
 | ht,hv,l,r :: rs=>if (takeR ht hv si l r).1=true then takeA si (takeR ht hv si l r).2.1 (takeR ht hv si l r).2.2.1 (takeR ht hv si l r).2.2.2 rs else(false,ht,hv,l)
theorem takeA_step {si ht hv a b:Int} {l m:List Entry} {rs:List Rec} {r:Rec} {i:Nat} {o:Bool} (h:rs[i]?=some r) (hR:takeF ht hv si l r.hard r.h.term r.h.vote r.e.index r.e.term r.e.kind r.e.data=(o,a,b,m)) (ho:o=true):takeA si ht hv l (rs.drop i)=takeA si a b m (rs.drop (i+1)):=by
 obtain⟨h1,h2⟩:=List.getElem?_eq_some_iff.1 h
 rw[List.drop_eq_getElem_cons h1,h2,takeA,show takeR ht hv si l r=(o,a,b,m) from hR,if_pos ho]
theorem takeA_no {si ht hv a b:Int} {l m:List Entry} {rs:List Rec} {r:Rec} {i:Nat} {o:Bool} (h:rs[i]?=some r) (hR:takeF ht hv si l r.hard r.h.term r.h.vote r.e.index r.e.term r.e.kind r.e.data=(o,a,b,m)) (ho:o=false):takeA si ht hv l (rs.drop i)=(false,ht,hv,l):=by
 subst ho
 obtain⟨h1,h2⟩:=List.getElem?_eq_some_iff.1 h
 rw[List.drop_eq_getElem_cons h1,h2,takeA,show takeR ht hv si l r=(false,a,b,m) from hR,if_neg (by simp)]
/-- What is read of a file: did it go; H; S; the log; how long it is. -/
def openR (b:List Int):Bool×Int×Int×Int×Int×ByteArray×ByteArray×List Entry×Int :=
 let s:=getSnapF b
 let q:=scanW (b.drop s.2.2.2.2.1.toNat)
 let t:=takeA s.1 0 0 [] q.1
 (decide (s.2.2.2.2.2=0) && (q.2.2 && t.1),t.2.1,t.2.2.1,s.1,s.2.1,s.2.2.1,s.2.2.2.1,t.2.2.2,s.2.2.2.2.1+q.2.1)
theorem openR_snap {b:List Int} {x y a e:Int} {c d:ByteArray} (h:getSnapF b=(x,y,c,d,a,e)) (he:e≠0):(openR b).1=false:=by
 unfold openR
 simp only [h]
 rw[decide_eq_false he,Bool.false_and]
theorem openR_torn {b:List Int} {x y a e n:Int} {c d:ByteArray} {rs:List Rec} {o:Bool} (h:getSnapF b=(x,y,c,d,a,e)) (hq:scanW (b.drop a.toNat)=(rs,n,o)) (ho:o=false):(openR b).1=false:=by
 unfold openR
 simp only [h,hq,ho,Bool.false_and,Bool.and_false]
theorem openR_take {b:List Int} {x y a e n:Int} {c d:ByteArray} {rs:List Rec} {o:Bool} (h:getSnapF b=(x,y,c,d,a,e)) (hq:scanW (b.drop a.toNat)=(rs,n,o)) (ht:(takeA x 0 0 [] rs).1=false):(openR b).1=false:=by
 unfold openR
 simp only [h,hq,ht,Bool.and_false]
theorem openR_is {b:List Int} {x y a e n:Int} {c d:ByteArray} {rs:List Rec} {o:Bool} {ht hv:Int} {lg:List Entry} (h:getSnapF b=(x,y,c,d,a,e)) (hq:scanW (b.drop a.toNat)=(rs,n,o)) (hT:takeA x 0 0 [] rs=(true,ht,hv,lg)) (he:e=0) (ho:o=true):openR b=(true,ht,hv,x,y,c,d,lg,a+n):=by
 unfold openR
 simp only [h,hq,hT,he,ho]
 rfl
def openL (l:Files) (b:List Int) (sz:Int):Files:=if sz<b.length then fput NS ⟨b.take sz.toNat,((b.take sz.toNat).length:Int),true⟩ l else l
theorem scanW_all (n:Nat):∀ l:List Int,l.length=n→Bytes l→(∀ r ∈ (scanW l).1,mayF r.hard r.h.term r.h.vote r.e.index r.e.term r.e.kind r.e.data=true)∧0≤(scanW l).2.1∧(scanW l).2.1≤l.length∧(scanW l).1.length≤l.length:=by
 induction n using Nat.strongRecOn with
 | ind n ih =>
  intro l hl hb
  by_cases h0:l = []
  · subst h0;rw[scanW_nil];exact⟨fun r h=>(by cases h),Int.le_refl _,Int.le_refl _,Nat.le_refl _⟩
  ·
   obtain⟨hd1,hd2,hd3⟩:=decF_all hb
   rcases hd:decF l with⟨h,t,v,i,u,q,d,m,e⟩
   rw[hd] at hd1 hd2 hd3
   simp only at hd1 hd2 hd3
   by_cases he:e=0
   ·
    obtain⟨hm,h1,h2,h3⟩:=hd1 he
    have hlp:(l.drop m.toNat).length<n:=by rw[List.length_drop];omega
    obtain⟨i1,i2,i3,i4⟩:=ih _ hlp (l.drop m.toNat) rfl (hb.drop _)
    rw[scanW_step h0 hd he (by omega)]
    refine⟨fun r hr=>?_,by simp only;omega,by simp only;rw[List.length_drop] at i3;omega,by simp only [List.length_cons];rw[List.length_drop] at i4;omega⟩
    rcases List.mem_cons.1 hr with rfl | hr
    · exact hm
    · exact i1 r hr
   ·
    rw[scanW_bad h0 hd he]
    exact⟨fun r h=>(by cases h),Int.le_refl _,by simp,Nat.zero_le _⟩
theorem getSnap_rng {b:List Int} (h:(getSnapF b).2.2.2.2.2=0):0≤(getSnapF b).1∧(getSnapF b).1≤1099511627776:=by
 unfold getSnapF at h ⊢
 by_cases h0:(openF b).2.2.2≠0
 · rw[if_pos h0] at h;exact absurd h h0
 ·
  rw[if_neg h0] at h ⊢
  dsimp only at h ⊢
  split at h
  · exact absurd h (by decide)
  ·
   rename_i hc
   rw[if_neg hc]
   have hm:∀ x y:Int,∀ c:ByteArray,¬ mayS x y c ⟨#[]⟩=false→0≤x∧x≤1099511627776:=fun x y c q=>by
    have:=mayS_says (by simpa using q:mayS x y c ⟨#[]⟩=true)
    exact this.1
   have hr:=hm _ _ _ (fun q=>hc (.inr (.inr (.inl q))))
   split
   · exact⟨by simp [snapBad],by simp [snapBad]⟩
   · exact hr
end Spec
end Go.AM
