/- Part of a machine of its own for this claim: the program's code over memory without draws. -/
import Derived.Test.YtodcgppcmahbkabSAmPNet
import Derived.Test.YtodcgppcmahbkabSAmPWal
import Derived.Test.YtodcgppcmahbkabSAmE
set_option linter.unusedVariables false
set_option linter.unusedSimpArgs false
set_option linter.unnecessarySimpa false
/- Messages as bytes. -/
set_option linter.unusedSimpArgs false
namespace Go.AM.Spec
open Go
theorem list_ind {P:List Int→Prop} (h0:P []) (h1:∀ d,d ≠ []→P (d.drop 3000)→P d):∀ d,P d:=by
 intro d
 generalize hn:d.length=n
 induction n using Nat.strongRecOn generalizing d with
 | _ n ih =>
  by_cases h:d = []
  · subst h;exact h0
  ·
   have:=List.length_pos_iff.2 h
   exact h1 d h (ih (d.drop 3000).length (by rw[List.length_drop];omega) _ rfl)
theorem parts_put (rest:List Int):∀ d:List Int,partsR (partsF d++rest) (d.length:Int)=(d,((partsF d).length:Int),0):=by
 refine list_ind ?_ ?_
 · rw[partsF_nil];exact partsR_done (by simp)
 ·
  intro d h ih
  have hp:=List.length_pos_iff.2 h
  have ho:=open_frame (kind:=4) (b:=d.take 3000) (by decide) (by rw[List.length_take];omega) (partsF (d.drop 3000)++rest)
  have hl:((d.take 3000).length:Int)=if 3000<(d.length:Int) then 3000 else(d.length:Int):=by rw[List.length_take];split <;> omega
  rw[partsF_step h,List.append_assoc,partsR_step (by omega) ho rfl rfl hl,Int.toNat_natCast,List.drop_left,show(d.length:Int) - ((d.take 3000).length:Int)=((d.drop 3000).length:Int) by rw[List.length_take,List.length_drop];omega,ih]
  simp only [List.take_append_drop,List.length_append,Prod.mk.injEq,true_and]
  exact⟨by omega,trivial⟩
theorem getSnap_put {x y:Int} {c d:ByteArray} (h:mayS x y c d=true) (rest:List Int):getSnapF (snapF x y c d++rest)=(x,y,c,d,((snapF x y c d).length:Int),0):=by
 obtain⟨h1,h2,h3,h4⟩:=mayS_says h
 have hhl:=snapHead_len (x:=x) (y:=y) (c:=c) (d:=d) (by omega) (by omega) h3 h4
 have ho:=open_frame (kind:=3) (b:=snapHead x y c d) (by decide) (by omega) (partsF (bytesOf d)++rest)
 have e1:rdN (snapHead x y c d) false=(x,enc (zig y)++(enc (zig (c.size:Int))++bytesOf c++(enc (zig (d.size:Int)) ++ [])),false):=rdN_enc (by omega) _
 have e2:rdN (enc (zig y)++(enc (zig (c.size:Int))++bytesOf c++(enc (zig (d.size:Int)) ++ []))) false=(y,enc (zig (c.size:Int))++bytesOf c++(enc (zig (d.size:Int)) ++ []),false):=rdN_enc (by omega) _
 have e3:rdT (enc (zig (c.size:Int))++bytesOf c++(enc (zig (d.size:Int)) ++ [])) false=(c,enc (zig (d.size:Int)) ++ [],false):=rdT_put (by omega) _
 have e4:rdN (enc (zig (d.size:Int)) ++ []) false=((d.size:Int),[],false):=rdN_enc (by omega) _
 have hm:mayS x y c ⟨#[]⟩=true:=by
  rw[mayS_eq]
  exact decide_eq_true ⟨h1,h2,h3,by decide⟩
 have hin:inF 0 200000 [(d.size:Int)]=true:=inF_cons.2 ⟨by omega,rfl⟩
 have hpp:=parts_put rest (bytesOf d)
 rw[bytesOf_length] at hpp
 unfold snapF
 rw[if_pos h,List.append_assoc]
 unfold getSnapF
 rw[ho]
 simp only [e1,e2,e3,e4,hm,hin,Int.toNat_natCast,List.drop_left,hpp,ne_eq,not_true_eq_false,if_false,List.isEmpty_nil,Bool.not_false,Bool.and_true,Bool.true_eq_false,or_false,strOf_bytesOf,List.length_append]
 congr 5
theorem partsR_max (l:List Int) (left:Int) (h:0≤left):((partsR l left).1.length:Int)≤left:=by
 generalize hn:left.toNat=n
 induction n using Nat.strongRecOn generalizing l left with
 | _ n ih =>
  by_cases h0:left≤0
  · rw[partsR_done h0];exact h
  ·
   have ho:openF l=((openF l).1,(openF l).2.1,(openF l).2.2.1,(openF l).2.2.2):=rfl
   by_cases he:(openF l).2.2.2=0
   ·
    by_cases hb:(openF l).1≠4∨((openF l).2.1.length:Int)≠(if 3000<left then 3000 else left)
    · rw[partsR_bad h0 ho he hb];exact h
    ·
     simp only [not_or,ne_eq,Decidable.not_not] at hb
     rw[partsR_step h0 ho he hb.1 hb.2]
     have hp:0<(openF l).2.1.length∧((openF l).2.1.length:Int)≤left:=by have:=hb.2;split at this <;> omega
     have:=ih (left - ((openF l).2.1.length:Int)).toNat (by omega) (l.drop (openF l).2.2.1.toNat) (left - ((openF l).2.1.length:Int)) (by omega) rfl
     simp only [List.length_append]
     omega
   · rw[partsR_err h0 ho he];exact h
theorem getSnap_size {b:List Int} (hb:Bytes b):(getSnapF b).2.2.1.size≤1048576∧(getSnapF b).2.2.2.1.size≤1048576:=by
 have h0:(0:Nat)≤1048576:=by decide
 unfold getSnapF
 split
 · exact⟨h0,h0⟩
 ·
  simp only
  split
  · exact⟨h0,h0⟩
  ·
   rename_i hc
   simp only [not_or,Bool.not_eq_false] at hc
   split
   · exact⟨h0,h0⟩
   ·
    have h1:Bytes (openF b).2.1:=(open_all hb).2.2.2
    refine⟨rdT_size (rdN_bytes (rdN_bytes h1 _) _) _,?_⟩
    have h4:=inF_one hc.2.2.2
    have:=partsR_max (b.drop (openF b).2.2.1.toNat) _ h4.1
    simp only [strOfNums_size]
    omega
section
variable {rl : List Found} {pr : List (Int × List Int)} {i : Nat} {ev : Found} {all b : List Int} {n : Int}
end
theorem open_ok {l:List Int} (hb:Bytes l):(0≤(openF l).2.2.2∧(openF l).2.2.2≤3)∧(0≤(openF l).2.2.1∧(openF l).2.2.1≤4020)∧((openF l).2.2.1≤l.length):=by
 have h:=open_all hb
 by_cases h0:(openF l).2.2.2=0
 · have:=h.1 h0;omega
 · have h2:=h.2.2.1 h0;have h3:=h.2.1;rw[h2.2.2];omega
theorem partsR_n (l:List Int) (hb:Bytes l) (left:Int):(0≤(partsR l left).2.2∧(partsR l left).2.2≤3)∧0≤(partsR l left).2.1∧(partsR l left).2.1≤l.length:=by
 generalize hn:left.toNat=n
 induction n using Nat.strongRecOn generalizing l left with
 | _ n ih =>
  have h1:=open_ok hb
  by_cases h0:left≤0
  · rw[partsR_done h0];simp
  ·
   have ho:openF l=((openF l).1,(openF l).2.1,(openF l).2.2.1,(openF l).2.2.2):=rfl
   by_cases he:(openF l).2.2.2=0
   ·
    by_cases hc:(openF l).1≠4∨((openF l).2.1.length:Int)≠(if 3000<left then 3000 else left)
    · rw[partsR_bad h0 ho he hc];simp
    ·
     simp only [not_or,ne_eq,Decidable.not_not] at hc
     rw[partsR_step h0 ho he hc.1 hc.2]
     have hp:0<(openF l).2.1.length∧((openF l).2.1.length:Int)≤left:=by have:=hc.2;split at this <;> omega
     have:=ih (left - ((openF l).2.1.length:Int)).toNat (by omega) (l.drop (openF l).2.2.1.toNat) (hb.drop _) (left - ((openF l).2.1.length:Int)) rfl
     rw[List.length_drop] at this
     simp only
     omega
   · rw[partsR_err h0 ho he];simp only;omega
theorem getSnap_ok {b:List Int} (hb:Bytes b):(0≤(getSnapF b).2.2.2.2.2∧(getSnapF b).2.2.2.2.2≤3)∧0≤(getSnapF b).2.2.2.2.1∧(getSnapF b).2.2.2.2.1≤b.length:=by
 have h1:=open_ok hb
 unfold getSnapF
 split
 · simp only [snapBad];omega
 ·
  simp only
  split
  · simp only [snapBad];omega
  ·
   split
   ·
    rename_i hq
    have:=partsR_n (b.drop (openF b).2.2.1.toNat) (hb.drop _) (rdN (rdT (rdN (rdN (openF b).2.1 false).2.1 (rdN (openF b).2.1 false).2.2).2.1 (rdN (rdN (openF b).2.1 false).2.1 (rdN (openF b).2.1 false).2.2).2.2).2.1 (rdT (rdN (rdN (openF b).2.1 false).2.1 (rdN (openF b).2.1 false).2.2).2.1 (rdN (rdN (openF b).2.1 false).2.1 (rdN (openF b).2.1 false).2.2).2.2).2.2).1
    simp only [snapBad]
    omega
   ·
    have:=partsR_n (b.drop (openF b).2.2.1.toNat) (hb.drop _) (rdN (rdT (rdN (rdN (openF b).2.1 false).2.1 (rdN (openF b).2.1 false).2.2).2.1 (rdN (rdN (openF b).2.1 false).2.1 (rdN (openF b).2.1 false).2.2).2.2).2.1 (rdT (rdN (rdN (openF b).2.1 false).2.1 (rdN (openF b).2.1 false).2.2).2.1 (rdN (rdN (openF b).2.1 false).2.1 (rdN (openF b).2.1 false).2.2).2.2).2.2).1
    rw[List.length_drop] at this
    simp only
    omega
section
variable {b all l' : List Int} {k f t tm ix lt cm si st : Int} {y bad : Bool} {es : List Entry} {sc sd : ByteArray} {A : Option Addr}
end
section
variable {b : List Int} {k f t tm ix lt cm si st e : Int} {y : Bool} {es : List Entry} {sc sd : ByteArray}
end
section
variable {m : Msg} {k f t tm ix lt cm si st e : Int} {y : Bool} {es : List Entry} {sc sd : ByteArray}
end
end Go.AM.Spec
