/- Part of a machine of its own for this claim: the program's code over memory without draws. -/
import Derived.Test.YtodcgppcmahbkabSAmRep18
set_option linter.unusedVariables false
set_option linter.unusedSimpArgs false
set_option linter.unnecessarySimpa false
/- Maps: the rules of a walk. -/
set_option linter.unusedSimpArgs false
namespace Go.AM
open Go
variable {P : Program} {E : TypeId → Bool} {H : Heap} {R : Regs} {dst : Option Tmp} {ty : TypeId} {pos : String} {af : Array Edge} {g : Option (Nat × Bool)} {t : TypeId} {x y z : Operand} {mb : Nat} {M : List Value} {s : ByteArray} {v : Value}
/-- The type of a map whose elements are pointers. -/
def ptrMap (P:Program) (t:TypeId):Bool :=
 match mapOf P t with
 | some e=>match zero? P e with
  | some (.pointer none)=>true
  | _=>false
 | none=>false
theorem ptrMap_of (h:ptrMap P t=true):∃ e,mapOf P t=some e∧zero? P e=some (.pointer none):=by
 unfold ptrMap at h
 split at h
 ·
  rename_i e he
  split at h
  · rename_i hz;exact⟨e,he,hz⟩
  · cases h
 · cases h
theorem ev_lookup (ht:ptrMap P t=true) (hx:R.eval x=some (.map (some mb))) (hy:R.eval y=some (.string s)) (hB:H.blk mb=some ⟨M,0,false,true⟩) (hg:mapGet s M=some v) :
  evOp P E R H ⟨dst,.lookup t x y false,ty,pos,af,g⟩=some (v,H,[]):=by
 obtain⟨e,h1,h2⟩:=ptrMap_of ht
 have:lookupA P H t (.map (some mb)) (.string s) false=some v:=by
  unfold lookupA
  rw[h1]
  simp only [hB,Blk.isMap,BEq.rfl,Bool.and_self,if_true,hg]
  rfl
 simp [evOp,hx,hy,this,pureV]
theorem ev_lookupN (ht:ptrMap P t=true) (hx:R.eval x=some (.map (some mb))) (hy:R.eval y=some (.string s)) (hB:H.blk mb=some ⟨M,0,false,true⟩) (hg:mapGet s M=none) :
  evOp P E R H ⟨dst,.lookup t x y false,ty,pos,af,g⟩=some (.pointer none,H,[]):=by
 obtain⟨e,h1,h2⟩:=ptrMap_of ht
 have:lookupA P H t (.map (some mb)) (.string s) false=some (.pointer none):=by
  unfold lookupA
  rw[h1]
  simp only [hB,Blk.isMap,BEq.rfl,Bool.and_self,if_true,hg,h2]
  rfl
 simp [evOp,hx,hy,this,pureV]
theorem mem_mapUpd (hz:ptrMap P t=true) (hB:H.blk mb=some ⟨M,0,false,true⟩) (hs:s.size≤140737488355328) :
  ∃ H1,(∀ (E:TypeId→Bool) (dst:Option Tmp) (x y z:Operand) (ty:TypeId) (pos:String) (af:Array Edge) (g:Option (Nat×Bool)) (R:Regs),R.eval x=some (.map (some mb))→R.eval y=some (.string s)→R.eval z=some v→evOp P E R H ⟨dst,.mapUpdate t x y z,ty,pos,af,g⟩=some (undef,H1,[mb])) ∧
   H1.next=H.next∧H1.blk mb=some ⟨mapPut s v M,0,false,true⟩∧∀ c,c≠mb→H1.blk c=H.blk c:=by
 obtain⟨e,h1,_⟩:=ptrMap_of hz
 refine⟨H.set mb (some ⟨mapPut s v M,0,false,true⟩),fun E dst x y z ty pos af g R hx hy hv=>?_,rfl,by simp [Heap.set],fun c hc=>by simp [Heap.set,hc]⟩
 have:updA P H t (.map (some mb)) (.string s) v=some (undef,H.set mb (some ⟨mapPut s v M,0,false,true⟩),[mb]):=by
  unfold updA
  rw[h1]
  simp only [hB,Blk.isMap,BEq.rfl,Bool.and_self,true_and,if_pos hs]
 simp [evOp,hx,hy,hv,this]
theorem mem_makeMap (H:Heap) (hz:ptrMap P t=true) :
  ∃ b H1,(∀ (E:TypeId→Bool) (dst:Option Tmp) (ty:TypeId) (pos:String) (af:Array Edge) (g:Option (Nat×Bool)) (R:Regs),evOp P E R H ⟨dst,.makeMap t none,ty,pos,af,g⟩=some (.map (some b),H1,[])) ∧
   b=H.next∧H1.next=b+1∧H1.blk b=some ⟨[],0,false,true⟩∧∀ c,c≠b→H1.blk c=H.blk c:=by
 obtain⟨e,h1,_⟩:=ptrMap_of hz
 obtain⟨p1,p2,p3⟩:=make_facts H ⟨[],0,false,true⟩
 exact⟨_,_,fun _ _ _ _ _ _ _=>by simp [evOp,h1],rfl,p1,p2,p3⟩
end Go.AM
