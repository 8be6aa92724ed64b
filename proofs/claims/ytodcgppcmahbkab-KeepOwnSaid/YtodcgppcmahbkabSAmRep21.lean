/- Part of a machine of its own for this claim: the program's code over memory without draws. -/
import Derived.Test.YtodcgppcmahbkabSAmRep20
set_option linter.unusedVariables false
set_option linter.unusedSimpArgs false
set_option linter.unnecessarySimpa false
/- Rows that draw, in which a new row comes early, under its own name. -/
set_option linter.unusedSimpArgs false
namespace Go.AM
open Go
variable {P : Program} {E : TypeId → Bool}
theorem freshAt_lit {r:Regs} {n m:Nat} {o:Oper} {t:TypeId} {ps:Array (Nat×Operand)} {parts:List (Nat×Value)} {B:Blk} (ho:o.op = .buildSlice t m ps) (hv:(ps.toList.mapM fun(p:Nat×Operand)=>(r.eval p.2).map fun v=>(p.1,v))=some parts)
  (hb:buildSl P ⟨n,fun _=>none⟩ t m parts=some (.slice (some ⟨n,0,none⟩) m m,(⟨n,fun _=>none⟩:Heap).make B,[])):freshAt P r n o=some (.slice (some ⟨n,0,none⟩) m m,B):=by
 unfold freshAt
 rw[ho]
 simp only [hv,Option.bind_some]
 unfold buildSl at hb
 cases hu:P.underlying t with
 | none=>rw[hu] at hb;cases hb
 | some D =>
  rw[hu] at hb
  cases D <;> simp only at hb ⊢ <;> try (cases hb;done)
  rename_i e
  cases hi:P.info? e with
  | none=>rw[hi] at hb;cases hb
  | some i =>
   rw[hi] at hb
   simp only at hb ⊢
   cases hz:i.zero with
   | none=>rw[hz] at hb;cases hb
   | some z =>
    rw[hz] at hb
    simp only at hb ⊢
    split at hb
    ·
     rename_i hc
     rw[if_pos hc]
     obtain⟨c,h1,h2⟩:=Option.bind_eq_some_iff.1 hb
     rw[h1,Option.bind_some]
     split at h2
     ·
      rename_i hq
      rw[if_pos hq]
      injection h2 with h2
      injection h2 with _ h2
      injection h2 with h2 _
      have h3:=congrArg (fun H:Heap=>H.blk n) h2
      have e1:=(make_facts ⟨n,fun _=>none⟩ ⟨c.toList,i.size,false,false⟩).2.1
      have e2:=(make_facts ⟨n,fun _=>none⟩ B).2.1
      simp only at h3 e1 e2
      rw[e1,e2] at h3
      rw[Option.some.inj h3]
     · cases h2
    · cases hb
section
variable {ops : Array Oper} {n k base : Nat} {r : Slots} {H : Heap} {K : Regs → Heap → Prop} {o : Oper} {d : Tmp} {keep : Nat → Prop} {os : List Oper} {ms : List (Bool × Bool × Bool)} {lr le : Bool}
/-- A new row, under its own name. -/
theorem sn_lit {t e sz bytes m:Nat} {ps:Array (Nat×Operand)} {xs:List Value} {rows:List (List Value)} (i:Nat) (hi:base+k=i) (hm:xs.length=m) (ht:ElemOk P t e sz bytes) (hz:sz≠0) (hsm:m * sz≤16777216) (hzf:∃ i z,P.info? e=some i∧i.zero=some z∧z.cells.toList.all flat=true)
  (hx:xs.map (fun x=>x.cells.toList)=rows) (hl:∀ r ∈ rows,r.length=sz) (h1:rows.flatten.all Value.oneCell'=true) (ho:o.op = .buildSlice t m ps) (hv:(ps.toList.mapM fun(p:Nat×Operand)=>((RL n r).eval p.2).map fun v=>(p.1,v))=some ((xs.zipIdx 0).map fun p=>(p.2,p.1)))
  (hd:o.dst=some d) (hn:Nat.blt d n=true) (hw:wants ops (RL n r) o=some true) (hkeep:le=true→∀ b,keep b→b≠i)
  (q:∀ H1,H1.next=H.next→H1.blk i=some ⟨rows.flatten,sz,false,false⟩→(∀ c,c≠i→H1.blk c=H.blk c)→awLN P E ops base keep (k+1) (zipN os ms) (RL n (.cons d (.slice (some ⟨i,0,none⟩) m m) r)) H1 K):awLN P E ops base keep k (zipN (o :: os) ((lr,le,true) :: ms)) (RL n r) H K:=by
 subst hi hm
 have hb:=buildSl_many (P:=P) (H:=⟨base+k,fun _=>none⟩) ht hz hsm hzf hx hl h1
 have hf:=freshAt_lit (P:=P) (r:=RL n r) (n:=base+k) ho hv hb
 have hr:rdB P (RL n r) o=none:=by unfold rdB;rw[ho]
 refine⟨_,H.set (base+k) (some ⟨rows.flatten,sz,false,false⟩),(fun h=>nomatch h),(fun _=>⟨by unfold still;rw[ho],dst_some hd hn,.inr ⟨hw,_,hf,rfl⟩⟩),(fun _ _ b hb=>by rw[hr] at hb;cases hb),(fun hl b hb=>by simp [Heap.set,hkeep hl b hb]),(fun _ b hb=>by rw[hr] at hb;cases hb),?_⟩
 rw[put_some hd]
 exact q _ rfl (by simp [Heap.set]) (fun c hc=>by simp [Heap.set,hc])
end
end Go.AM
