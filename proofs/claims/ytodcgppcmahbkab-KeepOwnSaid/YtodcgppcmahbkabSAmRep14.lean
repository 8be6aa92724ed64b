/- Part of a machine of its own for this claim: the program's code over memory without draws. -/
import Derived.Test.YtodcgppcmahbkabSAmPNum2
set_option linter.unusedVariables false
set_option linter.unusedSimpArgs false
set_option linter.unnecessarySimpa false
/- The program's plain records. -/
namespace Go.AM
open Go
structure Hard where
 term:Int
 vote:Int
structure Entry where
 index:Int
 term:Int
 kind:Int
 data:ByteArray
structure Rec where
 hard:Bool
 h:Hard
 e:Entry
structure Snap where
 index:Int
 term:Int
 conf:ByteArray
 data:ByteArray
def Hard.cells (h:Hard):List Value := [.int .i64 h.term,.int .i64 h.vote]
def Entry.cells (e:Entry):List Value := [.int .i64 e.index,.int .i64 e.term,.int .i64 e.kind,.string e.data]
def Rec.cells (r:Rec):List Value := [.bool r.hard,.int .i64 r.h.term,.int .i64 r.h.vote,.int .i64 r.e.index,.int .i64 r.e.term,.int .i64 r.e.kind,.string r.e.data]
def Snap.cells (s:Snap):List Value := [.int .i64 s.index,.int .i64 s.term,.string s.conf,.string s.data]
theorem Hard.cells_len (e:Hard):e.cells.length=2:=rfl
theorem Hard.cells_one (e:Hard):e.cells.all Value.oneCell'=true:=rfl
theorem Entry.cells_len (e:Entry):e.cells.length=4:=rfl
theorem Entry.cells_one (e:Entry):e.cells.all Value.oneCell'=true:=rfl
theorem Rec.cells_len (e:Rec):e.cells.length=7:=rfl
theorem Rec.cells_one (e:Rec):e.cells.all Value.oneCell'=true:=rfl
theorem Snap.cells_len (e:Snap):e.cells.length=4:=rfl
theorem Snap.cells_one (e:Snap):e.cells.all Value.oneCell'=true:=rfl
namespace Spec
theorem may_says {hard:Bool} {t v i u q:Int} {d:ByteArray} (h:mayF hard t v i u q d=true):(0≤t∧t≤1099511627776)∧(0≤v∧v≤7)∧(0≤i∧i≤1099511627776)∧(0≤u∧u≤1099511627776)∧(0≤q∧q≤3)∧d.size≤2500:=by
 cases hard with
 | true =>
  obtain⟨h1,h2,h3,h4,h5,h6⟩:=may_hard h
  have:=toList_nil h6
  subst this
  exact⟨h1,h2,by omega,by omega,by omega,by decide⟩
 | false =>
  obtain⟨h1,h2,h3,h4,h5,h6⟩:=may_entry h
  exact⟨by omega,by omega,by omega,by omega,by omega,h6⟩
theorem ba_empty {d:ByteArray}:d=⟨#[]⟩ ↔ d.toList = []:=⟨fun h=>by rw[h,ByteArray.toList_eq],toList_nil⟩
theorem enc_hard {hard:Bool} {t v i u q:Int} {d:ByteArray} (h:mayF hard t v i u q d=true) (hh:hard=true):encodeF hard t v i u q d=sealF 1 (([]++enc (zig t))++enc (zig v)):=by
 subst hh
 have:=bodyF_len h
 unfold encodeF
 rw[if_pos h]
 unfold sealF
 rw[List.nil_append,if_neg]
 · rfl
 ·
  simp only [bodyF,if_true] at this
  omega
theorem enc_entry {hard:Bool} {t v i u q:Int} {d:ByteArray} (h:mayF hard t v i u q d=true) (hh:hard=false):encodeF hard t v i u q d=sealF 2 ((([]++enc (zig i))++enc (zig u))++enc (zig q)++enc (zig (d.size:Int))++bytesOf d):=by
 subst hh
 have:=bodyF_len h
 unfold encodeF
 rw[if_pos h]
 unfold sealF
 rw[List.nil_append,if_neg]
 · rfl
 ·
  simp only [bodyF,Bool.false_eq_true,if_false] at this
  omega
theorem drop_all (l:List Int) (n:Nat):(l.drop n).take (l.length - n)=l.drop n:=List.take_of_length_le (by simp)
theorem rdN_rng {l:List Int} (h:Bytes l) (bad:Bool) : -9223372036854775808≤(rdN l bad).1∧(rdN l bad).1≤9223372036854775807:=by
 have hn:=numGet_all l h
 unfold rdN
 by_cases h0:(numGet 0 0 l).2.2=0
 · rw[if_pos h0];have:=hn.1 h0;omega
 · rw[if_neg h0];have:=hn.2.2 h0;omega
theorem rdT_size {l:List Int} (h:Bytes l) (bad:Bool):(rdT l bad).1.size≤1048576:=by
 have key:(getText l).1.size≤1048576:=by
  unfold getText
  split
  ·
   split
   · exact Nat.zero_le _
   ·
    split
    · exact Nat.zero_le _
    ·
     rename_i h1 h2 _
     simp only [strOfNums_size,List.length_take]
     omega
  · exact Nat.zero_le _
 unfold rdT
 split <;> exact key
theorem decF_all {l:List Int} (hb:Bytes l):((decF l).2.2.2.2.2.2.2.2=0→mayF (decF l).1 (decF l).2.1 (decF l).2.2.1 (decF l).2.2.2.1 (decF l).2.2.2.2.1 (decF l).2.2.2.2.2.1 (decF l).2.2.2.2.2.2.1=true∧6≤(decF l).2.2.2.2.2.2.2.1∧(decF l).2.2.2.2.2.2.2.1≤l.length∧(decF l).2.2.2.2.2.2.2.1≤4020)∧(0≤(decF l).2.2.2.2.2.2.2.2∧(decF l).2.2.2.2.2.2.2.2≤3)∧((decF l).2.2.2.2.2.2.2.2≠0→(decF l).2.2.2.2.2.2.2.1=0∧decF l=(false,0,0,0,0,0,⟨#[]⟩,0,(decF l).2.2.2.2.2.2.2.2)):=by
 have ho:=open_all hb
 have bad:∀ {e:Int},1≤e→e≤3→∀ {r:Bool×Int×Int×Int×Int×Int×ByteArray×Int×Int},r=(false,0,0,0,0,0,⟨#[]⟩,0,e)→(r.2.2.2.2.2.2.2.2=0→mayF r.1 r.2.1 r.2.2.1 r.2.2.2.1 r.2.2.2.2.1 r.2.2.2.2.2.1 r.2.2.2.2.2.2.1=true∧6≤r.2.2.2.2.2.2.2.1∧r.2.2.2.2.2.2.2.1≤l.length∧r.2.2.2.2.2.2.2.1≤4020)∧(0≤r.2.2.2.2.2.2.2.2∧r.2.2.2.2.2.2.2.2≤3)∧(r.2.2.2.2.2.2.2.2≠0→r.2.2.2.2.2.2.2.1=0∧r=(false,0,0,0,0,0,⟨#[]⟩,0,r.2.2.2.2.2.2.2.2)):=by
  rintro e h1 h2 r rfl
  exact⟨fun h=>absurd h (by show ¬ e=0;omega),⟨by show 0≤e;omega,h2⟩,fun _=>⟨rfl,rfl⟩⟩
 by_cases h0:(openF l).2.2.2=0
 ·
  have h1:=ho.1 h0
  unfold decF
  simp only [if_pos h0]
  split
  ·
   split
   ·
    split
    ·
     rename_i hm
     exact⟨fun _=>⟨hm,h1.2.2.2⟩,⟨Int.le_refl 0,(by decide:(0:Int)≤3)⟩,fun h=>absurd rfl h⟩
    · exact bad (by decide) (by decide) rfl
   · exact bad (by decide) (by decide) rfl
  ·
   split
   ·
    split
    ·
     split
     ·
      rename_i hm
      exact⟨fun _=>⟨hm,h1.2.2.2⟩,⟨Int.le_refl 0,(by decide:(0:Int)≤3)⟩,fun h=>absurd rfl h⟩
     · exact bad (by decide) (by decide) rfl
    · exact bad (by decide) (by decide) rfl
   · exact bad (by decide) (by decide) rfl
 ·
  have h2:=ho.2.1
  have e1:decF l=(false,0,0,0,0,0,⟨#[]⟩,0,(openF l).2.2.2):=by unfold decF;rw[if_neg h0]
  exact bad (e:=(openF l).2.2.2) (by omega) (by omega) e1
theorem drop_at {l L:List Int} {a:Int} {p:Nat} (hp:a=(p:Int)) (h:L=(l.drop a.toNat).take (l.length - a.toNat)):L=l.drop p:=by rw[h,drop_all,hp,Int.toNat_natCast]
/-- Records one behind the other. -/
def scanW (l:List Int):List Rec×Int×Bool :=
 if h:l = [] then([],0,true)
 else if (decF l).2.2.2.2.2.2.2.2=0 then
  have:(l.drop (max 1 (decF l).2.2.2.2.2.2.2.1.toNat)).length<l.length:=by
   rw[List.length_drop];have:=List.length_pos_iff.2 h;omega
  (⟨(decF l).1,⟨(decF l).2.1,(decF l).2.2.1⟩,⟨(decF l).2.2.2.1,(decF l).2.2.2.2.1,(decF l).2.2.2.2.2.1,(decF l).2.2.2.2.2.2.1⟩⟩ :: (scanW (l.drop (max 1 (decF l).2.2.2.2.2.2.2.1.toNat))).1,
   (decF l).2.2.2.2.2.2.2.1+(scanW (l.drop (max 1 (decF l).2.2.2.2.2.2.2.1.toNat))).2.1,(scanW (l.drop (max 1 (decF l).2.2.2.2.2.2.2.1.toNat))).2.2)
 else([],0,(decF l).2.2.2.2.2.2.2.2 == 2)
termination_by l.length
theorem scanW_nil : scanW []=([],0,true):=by rw[scanW,dif_pos rfl]
theorem scanW_bad {l:List Int} {h:Bool} {t v i u q n e:Int} {d:ByteArray} (h0:l ≠ []) (hd:decF l=(h,t,v,i,u,q,d,n,e)) (he:e≠0):scanW l=([],0,e == 2):=by
 rw[scanW,dif_neg h0]
 simp only [hd,if_neg he]
theorem scanW_step {l:List Int} {h:Bool} {t v i u q n e:Int} {d:ByteArray} (h0:l ≠ []) (hd:decF l=(h,t,v,i,u,q,d,n,e)) (he:e=0) (hn:1≤n):scanW l=(⟨h,⟨t,v⟩,⟨i,u,q,d⟩⟩ :: (scanW (l.drop n.toNat)).1,n+(scanW (l.drop n.toNat)).2.1,(scanW (l.drop n.toNat)).2.2):=by
 rw[scanW,dif_neg h0]
 simp only [hd,if_pos he]
 rw[show max 1 n.toNat=n.toNat by omega]
/-- Parts of a snapshot: what they hold, how long they are, what went wrong. -/
def partsR (l:List Int) (left:Int):List Int×Int×Int :=
 if h:left≤0 then([],0,0)
 else if (openF l).2.2.2≠0 then([],0,(openF l).2.2.2)
 else if hb:(openF l).1≠4∨((openF l).2.1.length:Int)≠(if 3000<left then 3000 else left) then([],0,3)
 else
  ((openF l).2.1++(partsR (l.drop (openF l).2.2.1.toNat) (left - (openF l).2.1.length)).1,(openF l).2.2.1+(partsR (l.drop (openF l).2.2.1.toNat) (left - (openF l).2.1.length)).2.1,(partsR (l.drop (openF l).2.2.1.toNat) (left - (openF l).2.1.length)).2.2)
termination_by left.toNat
decreasing_by
 all_goals
  have h1:((openF l).2.1.length:Int)=(if 3000<left then 3000 else left):=Decidable.byContradiction fun q=>hb (.inr q)
  split at h1 <;> omega
theorem partsR_done {l:List Int} {left:Int} (h:left≤0):partsR l left=([],0,0):=by rw[partsR,dif_pos h]
theorem partsR_err {l body:List Int} {left kind n e:Int} (h:¬ left≤0) (ho:openF l=(kind,body,n,e)) (he:e≠0):partsR l left=([],0,e):=by
 rw[partsR,dif_neg h];simp only [ho,if_pos he,ne_eq,not_true_eq_false,he,not_false_eq_true,if_true]
theorem partsR_bad {l body:List Int} {left kind n e:Int} (h:¬ left≤0) (ho:openF l=(kind,body,n,e)) (he:e=0) (hb:kind≠4∨(body.length:Int)≠(if 3000<left then 3000 else left)):partsR l left=([],0,3):=by
 rw[partsR,dif_neg h];simp only [ho,he,ne_eq,not_true_eq_false,if_false];rw[dif_pos hb]
theorem partsR_step {l body:List Int} {left kind n e:Int} (h:¬ left≤0) (ho:openF l=(kind,body,n,e)) (he:e=0) (hk:kind=4) (hb:(body.length:Int)=(if 3000<left then 3000 else left)) :
  partsR l left=(body++(partsR (l.drop n.toNat) (left - body.length)).1,n+(partsR (l.drop n.toNat) (left - body.length)).2.1,(partsR (l.drop n.toNat) (left - body.length)).2.2):=by
 rw[partsR,dif_neg h];simp only [ho,he,ne_eq,not_true_eq_false,if_false];rw[dif_neg (by simp [hk,hb])]
def snapBad (e:Int):Int×Int×ByteArray×ByteArray×Int×Int:=(0,0,⟨#[]⟩,⟨#[]⟩,0,e)
/-- A snapshot, read. -/
def getSnapF (b:List Int):Int×Int×ByteArray×ByteArray×Int×Int :=
 if (openF b).2.2.2≠0 then snapBad (openF b).2.2.2
 else
  let s1:=rdN (openF b).2.1 false
  let s2:=rdN s1.2.1 s1.2.2
  let s3:=rdT s2.2.1 s2.2.2
  let s4:=rdN s3.2.1 s3.2.2
  if (openF b).1≠3∨(!s4.2.2 && s4.2.1.isEmpty)=false∨mayS s1.1 s2.1 s3.1 ⟨#[]⟩=false∨inF 0 200000 [s4.1]=false then snapBad 3
  else
   let q:=partsR (b.drop (openF b).2.2.1.toNat) s4.1
   if q.2.2≠0 then snapBad q.2.2 else(s1.1,s2.1,s3.1,strOfNums q.1,(openF b).2.2.1+q.2.1,0)
theorem inF_one {lo hi n:Int} (h:inF lo hi [n]=true):lo≤n∧n≤hi:=by
 simp only [inF] at h
 by_cases h1:n<lo
 · simp [h1] at h
 ·
  by_cases h2:n > hi
  · simp [h1,h2] at h
  · omega
theorem inF_cons {lo hi n:Int} {l:List Int}:inF lo hi (n :: l)=true ↔ (lo≤n∧n≤hi)∧inF lo hi l=true:=by
 simp only [inF]
 by_cases h1:n<lo
 · simp [h1];omega
 ·
  by_cases h2:n > hi
  · simp [h1,h2];omega
  · simp [h1,h2];omega
theorem inF_two {lo hi a b:Int} (h:inF lo hi [a,b]=true):(lo≤a∧a≤hi)∧(lo≤b∧b≤hi):=⟨(inF_cons.1 h).1,inF_one (inF_cons.1 h).2⟩
theorem inF_oneN {lo hi a:Int} (h:inF lo hi [a]=false):¬ (lo≤a∧a≤hi):=fun q=>Bool.noConfusion (h.symm.trans (inF_cons.2 ⟨q,rfl⟩))
theorem inF_twoN {lo hi a b:Int} (h:inF lo hi [a,b]=false):¬ ((lo≤a∧a≤hi)∧(lo≤b∧b≤hi)):=fun q=>Bool.noConfusion (h.symm.trans (inF_cons.2 ⟨q.1,inF_cons.2 ⟨q.2,rfl⟩⟩))
theorem snapF_bytes (x y:Int) (c d:ByteArray):Bytes (snapF x y c d):=by
 unfold snapF
 split
 · exact(frameF_bytes (by decide) (snapHead_bytes x y c d)).append (partsF_bytes _ _ rfl (bytes_of d))
 · exact Bytes.nil
theorem snapF_len (x y:Int) (c d:ByteArray):(snapF x y c d).length≤1700000:=by
 unfold snapF
 split
 ·
  rename_i h
  obtain⟨h1,h2,h3,h4⟩:=mayS_says h
  have hhl:=snapHead_len (x:=x) (y:=y) (c:=c) (d:=d) (by omega) (by omega) h3 h4
  have hfl:=frameF_length 3 (snapHead x y c d)
  have hz:=enc_len_small (n:=(snapHead x y c d).length) (by omega)
  have hpl:=partsF_len _ (bytesOf d) rfl
  have hbl:=bytesOf_length d
  rw[List.length_append]
  omega
 · exact Nat.zero_le _
theorem snapF_pos {x y:Int} {c d:ByteArray} (h:mayS x y c d=true):0<(snapF x y c d).length:=by
 unfold snapF
 rw[if_pos h,List.length_append]
 have:=frameF_pos 3 (snapHead x y c d)
 omega
theorem snap_head {x y:Int} {c d:ByteArray} (h:mayS x y c d=true):snapF x y c d=sealF 3 ((([]++enc (zig x))++enc (zig y))++enc (zig (c.size:Int))++bytesOf c++enc (zig (d.size:Int)))++partsF (bytesOf d):=by
 obtain⟨h1,h2,h3,h4⟩:=mayS_says h
 have hhl:=snapHead_len (x:=x) (y:=y) (c:=c) (d:=d) (by omega) (by omega) h3 h4
 unfold snapF
 rw[if_pos h]
 unfold sealF
 have e:(([]++enc (zig x))++enc (zig y))++enc (zig (c.size:Int))++bytesOf c++enc (zig (d.size:Int))=snapHead x y c d:=by simp [snapHead]
 rw[e,if_neg (by omega)]
theorem parts_next {s:ByteArray} {z:Int} (h:s.toList≠(⟨#[]⟩:ByteArray).toList) (hz:z=(if 3000<(s.size:Int) then 3000 else(s.size:Int))):0<s.size∧partsF (bytesOf s)=sealF 4 (bytesOf (s.extract 0 z.toNat))++partsF (bytesOf (s.extract z.toNat s.size))∧(s.extract 0 z.toNat).size=z.toNat∧(s.extract z.toNat s.size).size=s.size - z.toNat:=by
 have h0:0<s.size:=by
  rcases Nat.eq_zero_or_pos s.size with h1 | h1
  · exact absurd (by rw[size_zero h1]) h
  · exact h1
 have hbl:=bytesOf_length s
 have hne:bytesOf s ≠ []:=by intro e;rw[e] at hbl;simp at hbl;omega
 have hz1:z.toNat=min 3000 s.size:=by rw[hz];split <;> omega
 refine⟨h0,?_,by rw[ByteArray.size_extract];omega,by rw[ByteArray.size_extract];omega⟩
 rw[partsF_step hne,bytesOf_extract,bytesOf_extract,List.drop_zero,List.take_of_length_le (show(bytesOf s).length≤s.size by omega)]
 have e1:(bytesOf s).take z.toNat=(bytesOf s).take 3000:=by
  rw[List.take_eq_take_iff];omega
 have e2:(bytesOf s).drop z.toNat=(bytesOf s).drop 3000:=by
  rcases Nat.lt_or_ge s.size 3000 with h2 | h2
  · rw[List.drop_eq_nil_of_le (by omega),List.drop_eq_nil_of_le (by omega)]
  · rw[show z.toNat=3000 by omega]
 rw[e1,e2]
 congr 1
 unfold sealF
 rw[if_neg]
 have:((bytesOf s).take 3000).length≤3000:=by rw[List.length_take];omega
 omega
end Spec
end Go.AM
