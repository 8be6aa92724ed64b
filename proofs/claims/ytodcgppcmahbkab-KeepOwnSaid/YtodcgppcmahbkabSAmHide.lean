/- Part of a machine of its own for this claim: the program's code over memory without draws. -/
import Derived.Test.YtodcgppcmahbkabSAmRep17
import Derived.Test.YtodcgppcmahbkabSAmRep15
set_option linter.unusedVariables false
set_option linter.unusedSimpArgs false
set_option linter.unnecessarySimpa false
/- A call does not touch what it is not given: memory may be hidden from it. -/
namespace Go.AM
open Go Classical
variable {P : Program} {H H1 : Heap} {D : Nat → Prop}
/-- Memory without the blocks of D. -/
noncomputable def Heap.hide (H:Heap) (D:Nat→Prop):Heap:=⟨H.next,fun b=>if D b then none else H.blk b⟩
/-- What a call left, with the hidden blocks as they were. -/
noncomputable def Heap.back (H:Heap) (D:Nat→Prop) (H1:Heap):Heap:=⟨H1.next,fun b=>if D b∧b<H.next then H.blk b else H1.blk b⟩
theorem hide_some {b:Nat} {B:Blk} (h:(H.hide D).blk b=some B):¬ D b∧H.blk b=some B:=by
 unfold Heap.hide at h
 by_cases hd:D b
 · simp [hd] at h
 · exact⟨hd,by simpa [hd] using h⟩
theorem hide_blk {b:Nat} (h:¬ D b):(H.hide D).blk b=H.blk b:=by simp [Heap.hide,h]
theorem back_in {b:Nat} (h:D b∧b<H.next):(H.back D H1).blk b=H.blk b:=by simp [Heap.back,h]
theorem back_out {b:Nat} (h:¬ (D b∧b<H.next)):(H.back D H1).blk b=H1.blk b:=by
 unfold Heap.back
 exact if_neg h
theorem Spec.hide {f:FuncId} {args:List Value} {v:Value} (h:Spec P f args (H.hide D) v H1):Spec P f args H v (H.back D H1):=by
 intro ι w args' hR hA
 have hR':R ι (H.hide D) w:=⟨hR.dom,fun b B hb=>hR.live b B (hide_some hb).2,fun b b' B B' L L' hn hb hb'=>hR.apart b b' B B' L L' hn (hide_some hb).2 (hide_some hb').2⟩
 refine Calls.mono (h ι w args' hR' hA) fun e w' he=>?_
 obtain⟨v',ι',rfl,q1,q2,q3⟩:=he
 have nt:∀ b B L,D b→H.blk b=some B→ι b=some L→¬ Tgt ι (H.hide D) L.blk:=by
  rintro b B L hd hb hL ⟨b2,B2,L2,hb2,hL2,hr,e⟩
  obtain⟨hd2,hb2⟩:=hide_some hb2
  exact hR.apart b2 b B2 B L2 L (fun e=>hd2 (e ▸ hd)) hb2 hb hL2 hL hr e
 have same:∀ b B L,D b→H.blk b=some B→ι b=some L→BR ι w B L→w'.heap[L.blk]?=w.heap[L.blk]?:=fun b B L hd hb hL hB=>q3.frame L.blk hB.lt (nt b B L hd hb hL)
 have tgt:∀ c,Tgt ι (H.hide D) c→Tgt ι H c:=fun c ⟨b,B,L,hb,hL,hr,e⟩=>⟨b,B,L,(hide_some hb).2,hL,hr,e⟩
 have old:∀ {b B L},H.blk b=some B→ι' b=some L→ι b=some L∧BR ι w B L:=by
  intro b B L hb hL
  obtain⟨L0,h1,h2⟩:=hR.live b B hb
  have:L=L0:=Option.some.inj (hL.symm.trans (q3.le b L0 h1))
  subst this
  exact⟨h1,h2⟩
 have apart1:∀ b b' B B' L L',D b→H.blk b=some B→ι' b=some L→H1.blk b'=some B'→ι' b'=some L'→b≠b'→B.rd=false∨B'.rd=false→L.blk≠L'.blk:=by
  intro b b' B B' L L' hd hb hL hb' hL' hn hr e
  obtain⟨hL,hBR⟩:=old hb hL
  rcases hB':B'.rd with _ | _
  ·
   rcases q3.own L'.blk ⟨b',B',L',hb',hL',hB',rfl⟩ with h1 | h1
   · exact nt b B L hd hb hL (e ▸ h1)
   ·
    have:=hBR.lt
    omega
  ·
   have h2:=(hide_some (q3.ro b' B' hb' hB')).2
   rcases hr with hr | hr
   · exact hR.apart b b' B B' L L' hn hb h2 hL (old h2 hL').1 hr e
   · rw[hB'] at hr;cases hr
 refine⟨v',ι',rfl,q1,⟨q2.dom,fun b B hb=>?_,fun b b' B B' L L' hn hb hb' hL hL' hr=>?_⟩,⟨q3.le,q3.next,q3.os,q3.tape,q3.output,q3.size,fun c hc ht=>q3.frame c hc fun q=>ht (tgt c q),fun c hc=>?_,fun b B hb hr=>?_,q3.grow⟩⟩
 ·
  by_cases hd:D b∧b<H.next
  ·
   rw[back_in hd] at hb
   obtain⟨L,h1,h2⟩:=hR.live b B hb
   exact⟨L,q3.le b L h1,h2.mono q3.le (same b B L hd.1 hb h1 h2)⟩
  ·
   rw[back_out hd] at hb
   exact q2.live b B hb
 ·
  by_cases hd:D b∧b<H.next
  ·
   rw[back_in hd] at hb
   by_cases hd':D b'∧b'<H.next
   ·
    rw[back_in hd'] at hb'
    exact hR.apart b b' B B' L L' hn hb hb' (old hb hL).1 (old hb' hL').1 hr
   ·
    rw[back_out hd'] at hb'
    exact apart1 b b' B B' L L' hd.1 hb hL hb' hL' hn (.inl hr)
  ·
   rw[back_out hd] at hb
   by_cases hd':D b'∧b'<H.next
   ·
    rw[back_in hd'] at hb'
    exact(apart1 b' b B' B L' L hd'.1 hb' hL' hb hL hn.symm (.inr hr)).symm
   ·
    rw[back_out hd'] at hb'
    exact q2.apart b b' B B' L L' hn hb hb' hL hL' hr
 ·
  obtain⟨b,B,L,hb,hL,hr,e⟩:=hc
  by_cases hd:D b∧b<H.next
  ·
   rw[back_in hd] at hb
   exact .inl ⟨b,B,L,hb,(old hb hL).1,hr,e⟩
  ·
   rw[back_out hd] at hb
   exact(q3.own c ⟨b,B,L,hb,hL,hr,e⟩).imp (tgt c) id
 ·
  by_cases hd:D b∧b<H.next
  · rwa [back_in hd] at hb
  ·
   rw[back_out hd] at hb
   exact(hide_some (q3.ro b B hb hr)).2
end Go.AM
namespace Go.AM
open Go
variable {H H' H1 H2 H0 : Heap} {D : Nat → Prop} {A X : Option Addr} {c cx sz s2 k : Nat} {rows : List (List Value)}
/-- All that stands in one memory stands in the other. -/
def Under (H1 H2:Heap):Prop:=H1.next=H2.next∧∀ b B,H1.blk b=some B→H2.blk b=some B
theorem My.under (h:My H0 H1 A c sz rows) (u:Under H1 H2):My H0 H2 A c sz rows:=h.imp id fun⟨b,o,cs,opn,h1,h2,h3,h4,h5⟩=>⟨b,o,cs,opn,h1,h2,u.1 ▸ h3,u.2 _ _ h4,h5⟩
theorem Each.under {α:Type} {S:Sub α} {l:List α} (h:Each S H0 H1 l) (u:Under H1 H2):Each S H0 H2 l:=fun e he=>(h e he).under u
/-- The block of a row with room. -/
def inA (A:Option Addr) (c q:Nat):Prop:=c≠0∧∃ a,A=some a∧q=a.block
theorem inA.zb (h:My H0 H A c sz rows):∀ q,inA A c q→ZB H q sz:=fun q ⟨hc,a,ha,hq⟩=>by
 rcases h with⟨_,h2⟩ | ⟨b,o,cs,opn,h1,h2,h3,h4,h5⟩
 · exact absurd h2 hc
 · rw[h1] at ha;cases ha;rw[hq];exact⟨_,h4,rfl⟩
theorem inA.lt (h:My H0 H A c sz rows):∀ q,inA A c q→q<H.next:=fun q ⟨hc,a,ha,hq⟩=>by
 rcases h with⟨_,h2⟩ | ⟨b,o,cs,opn,h1,h2,h3,h4,h5⟩
 · exact absurd h2 hc
 · rw[h1] at ha;cases ha;rw[hq];exact h3
/-- A row outlives what happens with its block hidden. -/
theorem My.hid {W:Nat→Prop} (h:My H0 H A c sz rows) (x:Fr (fun q=>W q∧¬ inA A c q) H H'):My H0 H' A c sz rows:=by
 by_cases hc:c=0
 ·
  rcases h with h | ⟨b,o,cs,opn,h1,h2,h3,h4,h5,h6,h7,h8⟩
  · exact .inl h
  ·
   rcases h8 with⟨h8,_⟩ | ⟨_,h8,_⟩
   · rw[hc] at h8;exact absurd h8 (by decide)
   · exact .inl ⟨List.eq_nil_of_length_eq_zero (by omega),hc⟩
 · exact h.frB x fun a ha w=>w.2 ⟨hc,a,ha,rfl⟩
/-- A row apart from another stays so, where that one moves. -/
theorem My.rehide {A1:Option Addr} {c1:Nat} {W:Nat→Prop} (h:My H0 (H.hide (inA A c)) X cx sz rows) (x:Fr W H H') (hw:∀ q,W q→q<H.next→inA A c q) (hA:∀ q,inA A1 c1 q→inA A c q∨H.next≤q):My H0 (H'.hide (inA A1 c1)) X cx sz rows :=
 h.imp id fun⟨b,o,cs,opn,h1,h2,h3,h4,h5⟩=>by
  obtain⟨hd,hb⟩:=hide_some h4
  refine⟨b,o,cs,opn,h1,h2,Nat.lt_of_lt_of_le h3 x.1,(hide_blk fun d=>?_).trans ((x.2 b h3 fun w=>hd (hw b w h3)).trans hb),h5⟩
  rcases hA b d with e | e
  · exact hd e
  · exact absurd h3 (Nat.not_lt.2 e)
theorem My.hext (h:My H0 (H.hide (inA A c)) X cx sz rows) (x:Ext H H'):My H0 (H'.hide (inA A c)) X cx sz rows:=h.rehide (W:=fun _=>False) (x.fr _) (fun _ e=>e.elim) (fun _ e => .inl e)
theorem ZB.hide {b:Nat} (h:ZB (H.hide D) b sz):¬ D b∧ZB H b sz:=by obtain⟨B,h1,h2⟩:=h;exact⟨(hide_some h1).1,B,(hide_some h1).2,h2⟩
end Go.AM
