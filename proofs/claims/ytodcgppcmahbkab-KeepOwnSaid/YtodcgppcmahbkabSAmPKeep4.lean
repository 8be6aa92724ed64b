/- Part of a machine of its own for this claim: the program's code over memory without draws. -/
import Derived.Test.YtodcgppcmahbkabSAmPKeep3
import Derived.Test.YtodcgppcmahbkabSAmRep21
set_option linter.unusedVariables false
set_option linter.unusedSimpArgs false
set_option linter.unnecessarySimpa false
/- What a server keeps: what the document reckons. -/
set_option linter.unusedSimpArgs false
set_option linter.unusedVariables false
namespace Go.AM.Spec
open Go
def putR (si:Int) (l:List Entry) (i t k:Int) (d:ByteArray):Bool×List Entry :=
 if i≤si∨i > si+l.length+1 then(false,l) else(decide ((l.take (i - si - 1).toNat ++ [(⟨i,t,k,d⟩:Entry)]).length≤200),l.take (i - si - 1).toNat ++ [⟨i,t,k,d⟩])
theorem putR_ok {si i t k:Int} {l:List Entry} {d:ByteArray} (h:¬ (i≤si∨i > si+l.length+1)):putR si l i t k d=(decide ((l.take (i - si - 1).toNat ++ [(⟨i,t,k,d⟩:Entry)]).length≤200),l.take (i - si - 1).toNat ++ [⟨i,t,k,d⟩]):=if_neg h
def refGo (si:Int) (l0:List Entry):List Entry→Option Int→List Entry→Int×List Entry
 | x,_,[]=>if x.length > 200 then(5,l0) else(0,x)
 | x,p,e :: r=>if mayF false 0 0 e.index e.term e.kind e.data=false∨(∃ q,p=some q∧e.index≠q+1)∨e.index≤si∨e.index > si+x.length+1 then(1,l0) else refGo si l0 (x.take (e.index - si - 1).toNat ++ [e]) (some e.index) r
def refW (si:Int) (l w:List Entry):Int×List Entry:=refGo si l l none w
/-- The Index ahead. -/
def prevO (w:List Entry) (i:Nat):Option Int:=if i=0 then none else(w[i - 1]?).map Entry.index
theorem prevO_succ {w:List Entry} {i:Nat} {e:Entry} (h:w[i]?=some e):prevO w (i+1)=some e.index:=by unfold prevO;rw[if_neg (by omega),Nat.add_sub_cancel,h];rfl
theorem refGo_bad {si:Int} {l0 x w:List Entry} {p:Option Int} {i:Nat} {e:Entry} (h:w[i]?=some e) (hb:mayF false 0 0 e.index e.term e.kind e.data=false∨(∃ q,p=some q∧e.index≠q+1)∨e.index≤si∨e.index > si+x.length+1):refGo si l0 x p (w.drop i)=(1,l0):=by
 obtain⟨h1,h2⟩:=List.getElem?_eq_some_iff.1 h
 rw[List.drop_eq_getElem_cons h1,h2,refGo,if_pos hb]
theorem refGo_ok {si:Int} {l0 x w:List Entry} {p:Option Int} {i:Nat} {e:Entry} (h:w[i]?=some e) (hb:¬ (mayF false 0 0 e.index e.term e.kind e.data=false∨(∃ q,p=some q∧e.index≠q+1)∨e.index≤si∨e.index > si+x.length+1)):refGo si l0 x p (w.drop i)=refGo si l0 (x.take (e.index - si - 1).toNat ++ [e]) (some e.index) (w.drop (i+1)):=by
 obtain⟨h1,h2⟩:=List.getElem?_eq_some_iff.1 h
 rw[List.drop_eq_getElem_cons h1,h2,refGo,if_neg hb]
theorem refGo_row {si:Int} {l0:List Entry}:∀ {r x:List Entry} {p:Int},(x.length:Int)=p - si→0≤p - si→refGo si l0 x (some p) r=if rowE (p+1) r=true then(if x.length+r.length > 200 then(5,l0) else(0,x++r)) else(1,l0)
 | [],x,p,hx,hp=>by
  rw[refGo,rowE,if_pos rfl]
  simp
 | e :: r,x,p,hx,hp=>by
  rw[refGo,rowE]
  by_cases hm:mayF false 0 0 e.index e.term e.kind e.data=true
  ·
   by_cases he:e.index=p+1
   ·
    rw[if_neg (by rintro(q | ⟨q,q1,q2⟩ | q | q);(rw[hm] at q;cases q);(cases q1;exact q2 he);omega;omega),hm,beq_iff_eq.2 he,Bool.true_and,Bool.true_and,
     refGo_row (by rw[List.length_append,List.length_take,List.length_singleton];omega) (by omega),he,show(p+1 - si - 1).toNat=x.length by omega,List.take_length]
    simp only [List.length_append,List.length_cons,List.length_singleton,List.append_assoc,List.singleton_append,List.length_nil]
    congr 1
    rw[show x.length+(0+1)+r.length=x.length+(r.length+1) by omega]
   · rw[if_pos (.inr (.inl ⟨p,rfl,he⟩)),beq_eq_false_iff_ne.2 he,Bool.false_and,Bool.and_false,if_neg (by decide)]
  · rw[if_pos (.inl (by simpa using hm)),show mayF false 0 0 e.index e.term e.kind e.data=false by simpa using hm,Bool.false_and,if_neg (by decide)]
/-- The document's write is the program's. -/
theorem refW_eq {si:Int} {l w:List Entry} (hl:l.length≤200):refW si l w=(writeE si l w,if writeE si l w=0 then writeL si l w else l):=by
 unfold refW
 cases w with
 | nil=>rw[refGo,if_neg (by omega)];rfl
 | cons e r =>
  by_cases ho:0≤e.index - si - 1∧e.index - si - 1≤l.length
  ·
   by_cases hm:mayF false 0 0 e.index e.term e.kind e.data=true
   ·
    have hg:refGo si l l none (e :: r)=if rowE (e.index+1) r=true then(if (l.take (e.index - si - 1).toNat ++ [e]).length+r.length > 200 then(5,l) else(0,(l.take (e.index - si - 1).toNat ++ [e])++r)) else(1,l):=by
     rw[refGo,if_neg (by rintro(q | ⟨q,q1,q2⟩ | q | q);(rw[hm] at q;cases q);(cases q1);omega;omega),refGo_row (by rw[List.length_append,List.length_take,List.length_singleton];omega) (by omega)]
    have hrow:rowE e.index (e :: r)=rowE (e.index+1) r:=by rw[rowE,hm,beq_self_eq_true,Bool.true_and,Bool.true_and]
    have hlen:(l.take (e.index - si - 1).toNat ++ [e]).length=(e.index - si - 1).toNat+1:=by rw[List.length_append,List.length_take,List.length_singleton];omega
    rw[hg]
    by_cases hr:rowE (e.index+1) r=true
    ·
     rw[if_pos hr]
     by_cases hf:e.index - si - 1+((e :: r).length:Int) > 200
     · rw[writeE_full (w:=e :: r) rfl ho (hrow.trans hr) hf,if_pos (by rw[List.length_cons] at hf;omega),if_neg (by decide)]
     ·
      rw[writeE_ok (w:=e :: r) rfl ho (hrow.trans hr) hf,if_neg (by rw[List.length_cons] at hf;omega),if_pos rfl,writeL,List.append_assoc]
      rfl
    · rw[writeE_row (w:=e :: r) rfl ho (hrow.trans (by simpa using hr)),if_neg hr,if_neg (by decide)]
   ·
    have hm':mayF false 0 0 e.index e.term e.kind e.data=false:=by simpa using hm
    rw[writeE_row (w:=e :: r) rfl ho (by rw[rowE,hm',Bool.false_and]),refGo,if_pos (.inl hm'),if_neg (by decide)]
  · rw[writeE_out (w:=e :: r) rfl ho,refGo,if_pos (.inr (.inr (by omega))),if_neg (by decide)]
/-- Entries that are not too great. -/
def cutE (e:Entry):Entry:=⟨e.index,e.term,e.kind,cutB e.data 100⟩
def cutL (l:List Entry):List Entry:=(l.take 10).map cutE
theorem cutL_len (l:List Entry):(cutL l).length≤10:=by unfold cutL;rw[List.length_map,List.length_take];omega
theorem cutL_step {l:List Entry} {i:Nat} {e:Entry} (h:l[i]?=some e):(l.take (i+1)).map cutE=(l.take i).map cutE ++ [cutE e]:=by rw[List.take_add_one,h,List.map_append];rfl
theorem cutL_ents {l:List Entry} (h:EntsI l):EntsI (cutL l):=fun e he=>by
 unfold cutL at he
 obtain⟨x,hx,rfl⟩:=List.mem_map.1 he
 exact h x (List.mem_of_mem_take hx)
end Go.AM.Spec
namespace Go.AM.Spec
open Go
theorem own_state (w:List Entry):writeS KSt0 w=⟨0,0,0,0,⟨#[]⟩,⟨#[]⟩,(refW 0 [] w).2⟩∧writeE KSt0.si KSt0.l w=(refW 0 [] w).1:=by
 have h:=refW_eq (si:=0) (l := []) (w:=w) (by decide)
 refine⟨?_,by rw[h];rfl⟩
 rw[h]
 unfold writeS
 show(if writeE 0 [] w=0 then _ else KSt0)=_
 split
 · rfl
 · rfl
end Go.AM.Spec
namespace Go.AM.Spec
open Go
theorem prevO_at {w:List Entry} {i j:Nat} {e:Entry} (h:w[j]?=some e) (h0:0<i) (hj:j=i - 1):prevO w i=some e.index:=by
 unfold prevO
 rw[if_neg (by omega),← hj,h]
 rfl
end Go.AM.Spec
namespace Go.AM.Spec
open Go
theorem putR_len {si i t k:Int} {l:List Entry} {d:ByteArray}:(putR si l i t k d).2.length≤l.length+1:=by
 unfold putR
 split
 · exact Nat.le_succ _
 · simp only [List.length_append,List.length_take,List.length_singleton];omega
theorem refGo_len {si:Int} {l0:List Entry}:∀ {w x:List Entry} {p:Option Int},l0.length≤200→(refGo si l0 x p w).2.length≤200
 | [],x,p,h=>by
  rw[refGo]
  split
  · exact h
  · simp only;omega
 | e :: r,x,p,h=>by
  rw[refGo]
  split
  · exact h
  · exact refGo_len h
end Go.AM.Spec
