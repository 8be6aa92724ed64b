/- Part of a machine of its own for this claim: the program's code over memory without draws. -/
import Derived.Test.YtodcgppcmahbkabSAmA
import Derived.Below
import Derived.Carry
set_option linter.unusedVariables false
set_option linter.unusedSimpArgs false
set_option linter.unnecessarySimpa false
/- Calls, rows of operations, code. -/
namespace Go.AM
open Go
variable {P : Program} {E : TypeId → Bool} {ι : Map} {H : Heap} {w : World}

def enters (P:Program) (f:FuncId):Bool :=
 match P.funcs[f]? with
 | some fn => fn.body.isSome && !(fn.name == "runtime.NumGoroutine")
 | none=>false
/-- What a call comes to. -/
def Spec (P:Program) (f:FuncId) (args:List Value) (H:Heap) (v:Value) (H':Heap):Prop :=
 ∀ ι w args',R ι H w→AsR ι args.toArray args'→Calls P f args' w fun e w'=>∃ v' ι',e = .returned v'∧VR ι' v v'∧R ι' H' w'∧Step ι H w ι' H' w'
inductive OpEv (P:Program) (E:TypeId→Bool) (r:Regs) (H:Heap) (o:Oper):Value→Heap→Prop
 | op {v:Value} {H':Heap} {W:List Nat} (h:evOp P E r H o=some (v,H',W)):OpEv P E r H o v H'
 | call {c:Call} {x:Operand} {f:FuncId} {captured:Array Value} {args:List Value} {v:Value} {H':Heap} (ho:o.op = .call c) (hc:c.callee = .value x)
   (hx:r.eval x=some (.func (.func f) #[] captured)) (ha:evals r c.args.toList=some args) (hf:enters P f=true) (h:Spec P f (args++captured.toList) H v H'):OpEv P E r H o v H'
theorem run_callFunc {f:FuncId} (h:enters P f=true) (args:Array Value) (w:World):(callFunc f args).run P w = .ok (.enter f args) w:=by
 unfold enters at h
 cases hf:P.funcs[f]? with
 | none=>rw[hf] at h;cases h
 | some fn =>
  rw[hf] at h
  simp only [Bool.and_eq_true,Bool.not_eq_true'] at h
  have h2 : ¬ fn.name = "runtime.NumGoroutine" := by have := h.2; simpa using this
  have h3:¬ fn.body=none:=by intro hb;rw[hb] at h;simp at h
  simp [callFunc,program,Sem.run,hf,h2,h3]
theorem AsR.append {a b a' b':Array Value} (h:AsR ι a a') (k:AsR ι b b'):AsR ι (a++b) (a'++b'):=by
 refine⟨by simp [h.1,k.1],fun i x y hx hy=>?_⟩
 rw[Array.getElem?_append] at hx hy
 rw[← h.1] at hy
 split at hx
 · rename_i hi;rw[if_pos hi] at hy;exact h.2 i x y hx hy
 · rename_i hi;rw[if_neg hi] at hy;exact k.2 _ x y hx hy
theorem VR.func_inv {fn:Fn} {xs:Array Value} {v':Value} (h:VR ι (.func fn #[] xs) v'):∃ ys,v' = .func fn #[] ys∧AsR ι xs ys:=by
 cases h with
 | func fn hn h=>exact⟨_,rfl,hn,h⟩
theorem OpEv.wp (hE:EqOk P E) {r:Regs} {o:Oper} {v:Value} {H':Heap} (h:OpEv P E r H o v H') (hR:R ι H w) {a:Act} (hr:RegR ι r a.tmps) {K:Act→World→Prop} {Q:Exit→Act→World→Prop}
  (hK:∀ ι' v' w',VR ι' v v'→R ι' H' w'→Step ι H w ι' H' w'→K (a.put o.dst v') w'):o.wp P a w K Q:=by
 unfold Oper.wp
 cases h with
 | op h =>
  obtain⟨ι',v',w',h1,h2,h3,h4⟩:=evOp_next hE hR hr h
  rcases h1 with h1 | ⟨rfl,h1⟩
  · rw[h1];exact hK ι' v' w' h2 h3 h4
  · rw[h1];exact hK ι' undef w' h2 h3 h4
 | call ho hc hx ha hf h =>
  rename_i c x f captured args
  obtain⟨ys,h1,h2⟩:=(hr.eval hx).func_inv
  have h3:=evals_R hr c.args.toList args ha
  have e1:(c.args.toList.map a.eval).toArray=c.args.map a.eval:=by apply Array.ext';simp
  rw[e1] at h3
  have h4:(execOp a.eval o).run P w = .ok (.enter f (c.args.map a.eval++ys)) w:=by
   unfold execOp
   simp only [ho,resolve,hc,h1,Deferred.ofValue,Sem.run_bind,Sem.run_pure,Result.andThen_ok,invoke,run_callFunc hf]
   simp
  rw[h4,Oper.upon_enter]
  have h5:(args++captured.toList).toArray=args.toArray++captured:=by apply Array.ext';simp
  refine Calls.mono (h ι w _ hR (by rw[h5];exact h3.append h2)) fun e w' he=>?_
  obtain⟨v',ι',rfl,q1,q2,q3⟩:=he
  exact hK ι' v' w' q1 q2 q3
theorem wants_run {ops:Array Oper} {r:Regs} {o:Oper} {t:Bool} (h:wants ops r o=some t) {a:Act} (hr:RegR ι r a.tmps):Region.wanted o (yielded ops a.tmps)=t:=by
 unfold wants at h
 unfold Region.wanted
 cases hg:o.guard with
 | none=>rw[hg] at h;cases h;rfl
 | some g =>
  obtain⟨j,want⟩:=g
  rw[hg] at h
  simp only at h ⊢
  unfold yielded
  cases hd:(ops[j]?).bind (·.dst) with
  | none=>rw[hd] at h;cases h
  | some d =>
   rw[hd] at h
   simp only at h
   simp only [Option.bind_some]
   split at h
   ·
    rename_i b hb
    cases h
    obtain⟨v',h1,h2⟩:=hr.2 d _ hb
    rw[h1,h2.bool_inv]
    cases b <;> cases want <;> rfl
   ·
    rename_i vs hb
    split at h
    ·
     cases h
     obtain⟨v',h1,h2⟩:=hr.2 d _ hb
     rw[h1]
     cases h2
     rfl
    · cases h
   · cases h
/-- One operation of a row. -/
def Stp (P:Program) (E:TypeId→Bool) (ops:Array Oper) (i:Nat) (r:Regs) (H:Heap) (v:Value) (H':Heap):Prop :=
 ∃ o,ops[i]?=some o∧dstOk r.n o.dst=true∧((wants ops r o=some false∧v=undef∧H'=H)∨(wants ops r o=some true∧OpEv P E r H o v H'))
def dstOf (ops:Array Oper) (i:Nat):Option Tmp:=(ops[i]?).bind (·.dst)
def awOps (P:Program) (E:TypeId→Bool) (ops:Array Oper):List Nat→Regs→Heap→(Regs→Heap→Prop)→Prop
 | [],r,H,K=>K r H
 | i :: l,r,H,K=>∃ v H',Stp P E ops i r H v H'∧awOps P E ops l (r.put (dstOf ops i) v) H' K
/-- The state, since the beginning. -/
def St (ι0:Map) (H0:Heap) (w0:World) (r:Regs) (H:Heap) (a:Act) (w:World):Prop :=
 ∃ ι,R ι H w∧RegR ι r a.tmps∧a.defers = []∧Step ι0 H0 w0 ι H w
theorem put_defers (a:Act) (d:Option Tmp) (v:Value):(a.put d v).defers=a.defers:=by cases d <;> rfl
theorem Regs.put_n (r:Regs) (d:Option Tmp) (v:Value):(r.put d v).n=r.n:=by cases d <;> rfl
theorem VR.undef : VR ι Go.undef Go.undef := .tuple rfl (fun i x y hx=>by simp at hx)
theorem Stp.wp (hE:EqOk P E) {ops:Array Oper} {i:Nat} {r:Regs} {v:Value} {H':Heap} (h:Stp P E ops i r H v H') {ι0:Map} {H0:Heap} {w0:World} {a:Act} (hs:St ι0 H0 w0 r H a w) {K:Act→World→Prop} {Q:Exit→Act→World→Prop}
  (hK:∀ a' w',St ι0 H0 w0 (r.put (dstOf ops i) v) H' a' w'→K a' w'):wpOp P ops Q i K a w:=by
 obtain⟨o,h1,h2,h3⟩:=h
 obtain⟨ι,q1,q2,q3,q4⟩:=hs
 have hd:dstOf ops i=o.dst:=by simp [dstOf,h1]
 rw[hd] at hK
 unfold wpOp
 simp only [h1]
 rcases h3 with⟨h3,rfl,rfl⟩ | ⟨h3,h4⟩
 ·
  rw[wants_run h3 q2]
  simp only [Bool.false_eq_true,if_false]
  exact hK _ _ ⟨ι,q1,q2.put h2 .undef,(put_defers _ _ _).trans q3,q4⟩
 ·
  rw[wants_run h3 q2]
  simp only [if_true]
  exact .inl (h4.wp hE q1 q2 fun ι' v' w' p1 p2 p3=>hK _ _ ⟨ι',p2,(q2.mono p3.le).put h2 p1,(put_defers _ _ _).trans q3,q4.trans p3⟩)
theorem awOps_wp (hE:EqOk P E) {ops:Array Oper} {ι0:Map} {H0:Heap} {w0:World} {Q:Exit→Act→World→Prop} {K:Regs→Heap→Prop} (hK:∀ r H a w,K r H→St ι0 H0 w0 r H a w→Q .normal a w) :
  ∀ (l:List Nat) {r:Regs} {H:Heap} {a:Act} {w:World},awOps P E ops l r H K→St ι0 H0 w0 r H a w→wpOps P ops Q l a w
 | [],r,H,a,w,h,hs=>by simp only [wpOps];exact hK _ _ _ _ h hs
 | i :: l,r,H,a,w,h,hs=>by
  obtain⟨v,H',h1,h2⟩:=h
  rw[wpOps_cons]
  exact h1.wp hE hs fun a' w' hs'=>awOps_wp hE hK l h2 hs'
end Go.AM

/- Rows of operations in any order that their edges allow. -/
namespace Go.AM
open Go
variable {P : Program} {E : TypeId → Bool}

/-- What must come ahead, as a set of bits. -/
def mask (o:Oper) (acc:List Nat):Nat :=
 o.after.toList.foldl (fun s e=>if Region.binds .any e then s ||| 2 ^ e.on ||| acc.getD e.on 0 else s) 0
def masks : List Oper→List Nat→List Nat
 | [],acc=>acc
 | o :: l,acc=>masks l (acc ++ [mask o acc])
def ahead (m:List Nat) (i j:Nat):Bool:=(m.getD i 0).testBit j
theorem fold_bit (acc:List Nat) (j:Nat):∀ (l:List Edge) (s:Nat),(l.foldl (fun s e=>if Region.binds .any e then s ||| 2 ^ e.on ||| acc.getD e.on 0 else s) s).testBit j=true →
  s.testBit j=true∨∃ e ∈ l,Region.binds .any e=true∧(e.on=j∨(acc.getD e.on 0).testBit j=true)
 | [],s,h => .inl h
 | e :: l,s,h=>by
  rw[List.foldl_cons] at h
  rcases fold_bit acc j l _ h with h | ⟨e',h1,h2⟩
  ·
   split at h
   ·
    rename_i hb
    simp only [Nat.testBit_or,Bool.or_eq_true,Nat.testBit_two_pow,decide_eq_true_eq] at h
    rcases h with(h | h) | h
    · exact .inl h
    · exact .inr ⟨e,by simp,hb,.inl h⟩
    · exact .inr ⟨e,by simp,hb,.inr h⟩
   · exact .inl h
  · exact .inr ⟨e',by simp [h1],h2⟩
theorem masks_get : ∀ (l:List Oper) (acc:List Nat) (i:Nat),i<acc.length→(masks l acc).getD i 0=acc.getD i 0
 | [],acc,i,h=>rfl
 | o :: l,acc,i,h=>by
  rw[masks,masks_get l _ i (by simp;omega)]
  simp only [List.getD_eq_getElem?_getD]
  rw[List.getElem?_append_left h]
theorem masks_at : ∀ (l:List Oper) (acc:List Nat) (k:Nat) (o:Oper),l[k]?=some o→∃ acc',(masks l acc).getD (acc.length+k) 0=mask o acc'∧acc'.length=acc.length+k∧∀ i,i<acc.length+k→acc'.getD i 0=(masks l acc).getD i 0
 | [],acc,k,o,h=>by simp at h
 | o' :: l,acc,0,o,h=>by
  simp at h
  subst h
  refine⟨acc,?_,rfl,fun i hi=>?_⟩
  ·
   rw[masks,masks_get l _ _ (by simp)]
   simp [List.getD_eq_getElem?_getD]
  ·
   rw[masks,masks_get l _ _ (by simp;omega)]
   simp only [List.getD_eq_getElem?_getD]
   rw[List.getElem?_append_left (by omega)]
 | o' :: l,acc,k+1,o,h=>by
  obtain⟨acc',h1,h2,h3⟩:=masks_at l (acc ++ [mask o' acc]) k o (by simpa using h)
  have e1:(acc ++ [mask o' acc]).length+k=acc.length+(k+1):=by simp;omega
  rw[e1] at h1 h2 h3
  exact⟨acc',h1,h2,h3⟩
/-- The edges lead back. -/
def backs (ops:Array Oper):Bool:=(List.range ops.size).all fun i=>match ops[i]? with | some o=>o.after.toList.all fun e => !Region.binds .any e || decide (e.on<i) | none=>true
theorem backs_spec {ops:Array Oper} (h:backs ops=true) {i:Nat} {o:Oper} (ho:ops[i]?=some o) {e:Edge} (he:e ∈ o.after) (hb:Region.binds .any e=true):e.on<i:=by
 have hi:i<ops.size:=(Array.getElem?_eq_some_iff.1 ho).1
 have:=List.all_eq_true.1 h i (List.mem_range.2 hi)
 rw[ho] at this
 have:=List.all_eq_true.1 this e (by simpa using he)
 simpa [hb] using this
theorem ahead_step {ops:Array Oper} (hb:backs ops=true) {i j:Nat} {o:Oper} (ho:ops[i]?=some o) (h:ahead (masks ops.toList []) i j=true) :
  ∃ e ∈ o.after,Region.binds .any e=true∧(e.on=j∨ahead (masks ops.toList []) e.on j=true):=by
 obtain⟨acc',h1,h2,h3⟩:=masks_at ops.toList [] i o (by rw[Array.getElem?_toList];exact ho)
 simp only [List.length_nil,Nat.zero_add] at h1 h2 h3
 unfold ahead at h
 rw[h1] at h
 rcases fold_bit acc' j o.after.toList 0 h with h | ⟨e,h4,h5,h6⟩
 · simp at h
 ·
  refine⟨e,by simpa using h4,h5,h6.imp id fun h6=>?_⟩
  have:=backs_spec hb ho (by simpa using h4) h5
  unfold ahead
  rw[← h3 e.on this]
  exact h6
/-- A set of operations that holds what its members wait for. -/
def Down (ops:Array Oper) (S:Nat→Bool):Prop:=∀ i o,S i=true→ops[i]?=some o→∀ e ∈ o.after,Region.binds .any e=true→S e.on=true
theorem ahead_in {ops:Array Oper} (hb:backs ops=true) {S:Nat→Bool} (hS:Down ops S):∀ (i j:Nat) (o:Oper),ops[i]?=some o→(∀ e ∈ o.after,Region.binds .any e=true→S e.on=true)→ahead (masks ops.toList []) i j=true→S j=true:=by
 intro i
 induction i using Nat.strongRecOn with
 | _ i ih =>
  intro j o ho hp h
  obtain⟨e,h1,h2,h3⟩:=ahead_step hb ho h
  rcases h3 with rfl | h3
  · exact hp e h1 h2
  ·
   have hlt:=backs_spec hb ho h1 h2
   have hi:i<ops.size:=(Array.getElem?_eq_some_iff.1 ho).1
   have ho':ops[e.on]?=some ops[e.on]:=Array.getElem?_eq_getElem (by omega)
   exact ih e.on hlt j _ ho' (fun e' he' hb'=>hS e.on _ (hp e h1 h2) ho' e' he' hb') h3
/-- Operations that only reckon, or only read. -/
def still (P:Program) (o:Oper):Bool :=
 match o.op with
 | .move _ | .assign _ | .pick _ _ _ | .build _ _ | .load _ _ | .nilCheck _ | .binOp _ _ _ _ _ | .unOp _ _ _ | .makeFunc _ _ _ | .slice _ _ _ _ _ | .fieldAddr _ _ _ | .field _ _ _ | .indexAddr _ _ _ | .index _ _ _ | .extract _ _ | .lookup _ _ _ _=>true
 | .convert s d _=>match P.underlying s,P.underlying d with | some .string,some (.slice _)=>false | some (.slice _),some (.slice _)=>false | _,_=>true
 | .call c=>match c.callee with | .builtin .len | .builtin .min | .builtin .max=>true | _=>false
 | _=>false
def isSl (P:Program) (s:TypeId):Bool :=
 match P.underlying s with
 | some (.slice _)=>true
 | _=>false
/-- The block that it reads. -/
def rdB (P:Program) (r:Regs) (o:Oper):Option Nat :=
 match o.op with
 | .load _ a=>((r.eval a).bind ptr?).map (·.block)
 | .slice _ x _ _ _=>match r.eval x with | some (.slice (some a) _ c)=>if c<OPEN then none else some a.block | _=>none
 | .convert s _ x=>if isSl P s then(match r.eval x with | some (.slice (some a) n _)=>if n=0 then none else some a.block | _=>none) else none
 | .lookup _ m _ _=>match r.eval m with | some (.map (some b))=>some b | _=>none
 | _=>none
end Go.AM

/- What still operations see. -/
namespace Go.AM
open Go
variable {P : Program} {E : TypeId → Bool}

theorem evals_congr {r r2:Regs}:∀ {l:List Operand},(∀ x ∈ l,r2.eval x=r.eval x)→evals r2 l=evals r l
 | [],_=>rfl
 | x :: l,h=>by
  have:=evals_congr (l:=l) fun y hy=>h y (by simp [hy])
  simp only [evals] at this ⊢
  simp only [List.mapM_cons,h x (by simp),this]
theorem partsV_congr {r r2:Regs}:∀ {l:List (Nat×Operand)},(∀ x ∈ l,r2.eval x.2=r.eval x.2)→l.mapM (fun(p:Nat×Operand)=>(r2.eval p.2).map fun v=>(p.1,v))=l.mapM (fun(p:Nat×Operand)=>(r.eval p.2).map fun v=>(p.1,v))
 | [],_=>rfl
 | x :: l,h=>by
  have:=partsV_congr (l:=l) fun y hy=>h y (by simp [hy])
  simp only [List.mapM_cons,h x (by simp),this]
theorem optEval_congr {r r2:Regs} {x:Option Operand} (h:∀ y,x=some y→r2.eval y=r.eval y):optEval r2 x=optEval r x:=by
 cases x with
 | none=>rfl
 | some y=>simp [optEval,h y rfl]
theorem evOp_congr {r r2:Regs} {o:Oper} (h:∀ x ∈ o.op.operands,r2.eval x=r.eval x) (H:Heap):evOp P E r2 H o=evOp P E r H o:=by
 obtain⟨dst,op,type,pos,after,guard⟩:=o
 cases op <;> simp only [Op.operands] at h <;> simp only [evOp]
 case build t ps=>rw[partsV_congr (l:=ps.toList) fun x hx=>h x.2 (by simp;exact⟨x.1,by simpa using hx⟩)]
 case buildSlice t n ps=>rw[partsV_congr (l:=ps.toList) fun x hx=>h x.2 (by simp;exact⟨x.1,by simpa using hx⟩)]
 case makeFunc fn first captured=>rw[evals_congr (l:=captured.toList) fun x hx=>h x (by simp at hx;simp [hx])]
 case slice t x lo hi mx =>
  rw[h x (by simp),optEval_congr (x:=lo) fun y hy=>h y (by simp [hy]),optEval_congr (x:=hi) fun y hy=>h y (by simp [hy]),optEval_congr (x:=mx) fun y hy=>h y (by simp [hy])]
 case call c=>rw[evals_congr (l:=c.args.toList) fun x hx=>h x (by simp at hx;simp [Call.operands,hx])]
 case makeMap t rs=>cases rs <;> rfl
 all_goals (first | rfl | (simp_all;done))
theorem OpEv.congr {r r2:Regs} {o:Oper} (h:∀ x ∈ o.op.operands,r2.eval x=r.eval x) {H H':Heap} {v:Value} (k:OpEv P E r H o v H'):OpEv P E r2 H o v H':=by
 cases k with
 | op k=>exact .op (by rw[evOp_congr h];exact k)
 | call ho hc hx ha hf hs =>
  rename_i c x f captured args
  have hm:∀ y ∈ c.operands,r2.eval y=r.eval y:=fun y hy=>h y (by rw[ho];exact hy)
  refine .call ho hc ?_ ?_ hf hs
  · rw[hm x (by simp [Call.operands,hc])];exact hx
  · rw[evals_congr (l:=c.args.toList) fun x hx=>hm x (by simp at hx;simp [Call.operands,hx])];exact ha
theorem cells_congr {H H2:Heap} {a:Addr} (h:H2.blk a.block=H.blk a.block) (n:Nat):H2.cells a n=H.cells a n:=by unfold Heap.cells;rw[h]
theorem lvar_congr {H H2:Heap} {a:Addr} (h:H2.blk a.block=H.blk a.block) (t:TypeId):lvar P H2 t a=lvar P H t a:=by unfold lvar;simp only [cells_congr h]
theorem sliceA_congr {H H2:Heap} {t:TypeId} {x:Value} {lo hi mx:Option Value} (hb:∀ a n c,x = .slice (some a) n c→¬ c<OPEN→H2.blk a.block=H.blk a.block):sliceA P H2 t x lo hi mx=sliceA P H t x lo hi mx:=by
 have he:∀ e a n c,x = .slice a n c→(decide (c<OPEN) || eszB P H2 e a)=(decide (c<OPEN) || eszB P H e a):=fun e a n c h=>by
  cases a with
  | none=>rfl
  | some a =>
   by_cases hc:c<OPEN
   · simp [hc]
   · simp only [eszB,hb a n c h hc]
 unfold sliceA
 split
 · rfl
 · rw[he _ _ _ _ rfl]
 · rfl
 · rfl
theorem wideA_shut {H:Heap} {a:Addr} {n c:Nat} {hi:Option Value} (hc:c<OPEN):wideA H (.slice (some a) n c) hi=none:=by
 unfold wideA
 split
 ·
  rename_i e
  cases e
  split
  · rw[if_neg (fun q=>absurd q.1 (Nat.not_le_of_lt hc))]
  · rfl
 · rfl
theorem wideA_sl {H:Heap} {x y:Value} {hi:Option Value} (h:wideA H x hi=some y):∃ a n m c,x = .slice (some a) n c∧y = .slice (some a) m c:=by
 unfold wideA at h
 split at h
 ·
  split at h
  ·
   split at h
   · cases h;exact⟨_,_,_,_,rfl,rfl⟩
   · cases h
  · cases h
 · cases h
theorem sliceX_congr {H H2:Heap} {t:TypeId} {x:Value} {lo hi mx:Option Value} (hb:∀ a n c,x = .slice (some a) n c→¬ c<OPEN→H2.blk a.block=H.blk a.block):sliceX P H2 t x lo hi mx=sliceX P H t x lo hi mx:=by
 have hw:wideA H2 x hi=wideA H x hi:=by
  cases x
  case slice A n c =>
   cases A with
   | none=>rfl
   | some a =>
    by_cases hc:c<OPEN
    · rw[wideA_shut hc,wideA_shut hc]
    ·
     have e:=hb a n c rfl hc
     unfold wideA
     cases hi with
     | none=>rfl
     | some v=>cases v <;> first | rfl | (simp only [e])
  all_goals rfl
 unfold sliceX
 rw[sliceA_congr hb,hw]
 split
 · rfl
 ·
  cases hx:wideA H x hi with
  | none=>rfl
  | some y =>
   obtain⟨a,n,m,c,rfl,rfl⟩:=wideA_sl hx
   exact sliceA_congr fun a2 n2 c2 e hc2=>by cases e;exact hb a n c rfl hc2
theorem lookupA_congr {H H2:Heap} {t:TypeId} {m k:Value} {ok:Bool} (h:∀ b,m = .map (some b)→H2.blk b=H.blk b):lookupA P H2 t m k ok=lookupA P H t m k ok:=by
 unfold lookupA
 split
 · rfl
 · rw[h _ rfl]
 · rfl
theorem still_ev {r:Regs} {o:Oper} {H H':Heap} {v:Value} {W:List Nat} (hs:still P o=true) (h:evOp P E r H o=some (v,H',W)) :
  H'=H∧∀ H2:Heap,(∀ b,rdB P r o=some b→H2.blk b=H.blk b)→evOp P E r H2 o=some (v,H2,W):=by
 unfold evOp at h ⊢
 unfold still at hs
 unfold rdB
 have pv:∀ {x:Option Value},pureV H x=some (v,H',W)→H'=H∧∀ H2:Heap,pureV H2 x=some (v,H2,W):=fun {x} h=>by
  obtain⟨y,rfl,e⟩:=pureV_some h
  cases e
  exact⟨rfl,fun _=>rfl⟩
 split at h
 all_goals rename_i ho
 all_goals simp only [ho] at hs ⊢
 case h_1=>exact⟨(pv h).1,fun H2 _=>(pv h).2 H2⟩
 case h_2=>exact⟨(pv h).1,fun H2 _=>(pv h).2 H2⟩
 case h_3 =>
  split at h
  · exact⟨(pv h).1,fun H2 _=>(pv h).2 H2⟩
  · cases h
 case h_4=>cases hs
 case h_5=>cases hs
 case h_6 =>
  obtain⟨vs,h1,h2⟩:=Option.bind_eq_some_iff.1 h
  rw[h1]
  simp only [Option.bind_some]
  unfold buildA at h2 ⊢
  split at h2
  ·
   split at h2
   ·
    rename_i hfl
    obtain⟨c,h3,h4⟩:=Option.map_eq_some_iff.1 h2
    cases h4
    exact⟨rfl,fun H2 _=>by rw[h3,if_pos hfl];rfl⟩
   · cases h2
  · cases h2
 case h_7=>cases hs
 case h_8 =>
  refine⟨(pv h).1,fun H2 hb=>?_⟩
  obtain⟨y,h1,h2⟩:=pureV_some h
  obtain⟨a,h3,h4⟩:=Option.bind_eq_some_iff.1 h1
  rw[h3] at hb ⊢
  simp only [Option.bind_some]
  rw[lvar_congr (hb a.block rfl),h4]
  cases h2
  rfl
 case h_9=>cases hs
 case h_10 =>
  split at h
  · cases h;exact⟨rfl,fun _ _=>rfl⟩
  · cases h
 case h_11 =>
  obtain⟨u,h1,h⟩:=Option.bind_eq_some_iff.1 h
  obtain⟨u2,h2,h⟩:=Option.bind_eq_some_iff.1 h
  exact⟨(pv h).1,fun H2 _=>by rw[h1,h2];exact(pv h).2 H2⟩
 case h_12 =>
  obtain⟨u,h1,h⟩:=Option.bind_eq_some_iff.1 h
  exact⟨(pv h).1,fun H2 _=>by rw[h1];exact(pv h).2 H2⟩
 case h_13 s d x =>
  obtain⟨u,h1,h⟩:=Option.bind_eq_some_iff.1 h
  rw[h1]
  simp only [Option.bind_some]
  unfold convA at h ⊢
  split at h
  · cases h;exact⟨rfl,fun _ _=>rfl⟩
  · cases h;exact⟨rfl,fun _ _=>rfl⟩
  ·
   split at h
   ·
    rename_i hu
    cases h;exact⟨rfl,fun _ _=>by simp only [if_pos hu]⟩
   · cases h
  ·
   split at h
   ·
    rename_i hu
    obtain⟨l,h2,h3⟩:=Option.bind_eq_some_iff.1 h
    obtain⟨b,h4,h5⟩:=Option.map_eq_some_iff.1 h3
    cases h5
    refine⟨rfl,fun H2 hb=>?_⟩
    rename_i _ e a n c hs1 _ _
    have hc2:(if n=0 then some [] else H2.cells a n)=(if n=0 then some [] else H.cells a n):=by
     by_cases h0:n=0
     · simp [h0]
     · rw[if_neg h0,if_neg h0,cells_congr (hb _ (by simp [isSl,hs1,h0]))]
    rw[if_pos hu,hc2,h2]
    simp [h4]
   · cases h
  ·
   rename_i e s hd he
   rw[hd,he] at hs
   cases hs
  ·
   rename_i e a n c hd he
   rw[hd,he] at hs
   cases hs
  · cases h
 case h_14 =>
  split at h
  ·
   rename_i h0
   obtain⟨l,h1,h2⟩:=Option.map_eq_some_iff.1 h
   cases h2
   exact⟨rfl,fun H2 _=>by rw[h1,if_pos h0];rfl⟩
  · cases h
 case h_15=>cases hs
 case h_16 t _ _ _ _ =>
  obtain⟨u,h1,h⟩:=Option.bind_eq_some_iff.1 h
  obtain⟨u1,h2,h⟩:=Option.bind_eq_some_iff.1 h
  obtain⟨u2,h3,h⟩:=Option.bind_eq_some_iff.1 h
  obtain⟨u3,h4,h⟩:=Option.bind_eq_some_iff.1 h
  refine⟨(pv h).1,fun H2 hb=>?_⟩
  rw[h1] at hb ⊢
  rw[h2,h3,h4]
  simp only [Option.bind_some]
  obtain⟨y,h5,h6⟩:=pureV_some h
  have:sliceX P H2 t u u1 u2 u3=sliceX P H t u u1 u2 u3:=sliceX_congr fun a n c e hc=>hb a.block (by rw[e];simp only [if_neg hc])
  rw[this,h5]
  cases h6
  rfl
 case h_17 =>
  obtain⟨u,h1,h⟩:=Option.bind_eq_some_iff.1 h
  exact⟨(pv h).1,fun H2 _=>by rw[h1];exact(pv h).2 H2⟩
 case h_18 =>
  obtain⟨u,h1,h⟩:=Option.bind_eq_some_iff.1 h
  exact⟨(pv h).1,fun H2 _=>by rw[h1];exact(pv h).2 H2⟩
 case h_19 =>
  obtain⟨u,h1,h⟩:=Option.bind_eq_some_iff.1 h
  obtain⟨u2,h2,h⟩:=Option.bind_eq_some_iff.1 h
  exact⟨(pv h).1,fun H2 _=>by rw[h1,h2];exact(pv h).2 H2⟩
 case h_20 =>
  obtain⟨u,h1,h⟩:=Option.bind_eq_some_iff.1 h
  obtain⟨u2,h2,h⟩:=Option.bind_eq_some_iff.1 h
  exact⟨(pv h).1,fun H2 _=>by rw[h1,h2];exact(pv h).2 H2⟩
 case h_21 =>
  split at h
  · exact⟨(pv h).1,fun H2 _=>(pv h).2 H2⟩
  · cases h
 case h_22 =>
  obtain⟨args,h1,h⟩:=Option.bind_eq_some_iff.1 h
  rw[h1]
  simp only [Option.bind_some]
  split at h
  ·
   rename_i b hb
   rw[hb] at hs
   unfold builtinA at h ⊢
   split at h
   · exact⟨(pv h).1,fun H2 _=>(pv h).2 H2⟩
   · cases hs
   · cases hs
   · cases hs
   · exact⟨(pv h).1,fun H2 _=>(pv h).2 H2⟩
   · exact⟨(pv h).1,fun H2 _=>(pv h).2 H2⟩
   · cases h
  · cases h
 case h_23=>cases hs
 case h_24 =>
  obtain⟨u,h1,h⟩:=Option.bind_eq_some_iff.1 h
  obtain⟨u2,h2,h⟩:=Option.bind_eq_some_iff.1 h
  rw[h1,h2]
  refine⟨(pv h).1,fun H2 hb=>?_⟩
  have e:∀ t ok,lookupA P H2 t u u2 ok=lookupA P H t u u2 ok:=fun t ok=>lookupA_congr fun b hbb=>by subst hbb;exact hb b (by simp [h1])
  simp only [Option.bind_some,e]
  exact(pv h).2 H2
 case h_25=>cases hs
 case h_26=>cases h
theorem still_opEv {r r2:Regs} {o:Oper} {H H':Heap} {v:Value} (hs:still P o=true) (h:OpEv P E r H o v H') (hr:∀ x ∈ o.op.operands,r2.eval x=r.eval x) :
  H'=H∧∀ H2:Heap,(∀ b,rdB P r o=some b→H2.blk b=H.blk b)→OpEv P E r2 H2 o v H2:=by
 cases h with
 | op h =>
  obtain⟨h1,h2⟩:=still_ev hs h
  exact⟨h1,fun H2 hb=>(OpEv.op (h2 H2 hb)).congr hr⟩
 | call ho hc hx ha hf h=>simp [still,ho,hc] at hs
end Go.AM

/- Rows in any order: one result. -/
namespace Go.AM
open Go
variable {P : Program} {E : TypeId → Bool}

def stillAt (P:Program) (ops:Array Oper) (i:Nat):Bool:=match ops[i]? with | some o=>still P o | none=>true
def apartAt (ops:Array Oper) (i j:Nat):Bool:=match ops[i]?,ops[j]? with | some a,some b=>a.apart ops b | _,_=>true
def drawOkM (P:Program) (ops:Array Oper) (m:List Nat):Bool :=
 (List.range ops.size).all fun j=>(List.range j).all fun i=>ahead m j i || (apartAt ops i j && (stillAt P ops i || stillAt P ops j))
/-- What is asked of a row, once. -/
def drawOk (P:Program) (ops:Array Oper):Bool:=backs ops && drawOkM P ops (masks ops.toList [])
/-- A row as it is run from the first to the last. -/
structure Run (P:Program) (E:TypeId→Bool) (ops:Array Oper) (rs:Nat→Regs) (Hs:Nat→Heap) (vs:Nat→Value):Prop where
 step:∀ i,i<ops.size→Stp P E ops i (rs i) (Hs i) (vs i) (Hs (i+1))∧rs (i+1)=(rs i).put (dstOf ops i) (vs i)
 ok:drawOk P ops=true
 dyn:∀ i j,i<ops.size→j<ops.size→stillAt P ops i=true→stillAt P ops j=false→ahead (masks ops.toList []) i j=false→ahead (masks ops.toList []) j i=false →
  ∀ o b,ops[i]?=some o→wants ops (rs i) o=some true→rdB P (rs i) o=some b→(Hs (j+1)).blk b=(Hs j).blk b
variable {ops : Array Oper} {rs : Nat → Regs} {Hs : Nat → Heap} {vs : Nat → Value}

theorem apart_looks {o o':Oper} (h:o.apart ops o'=true) {t:Tmp}:(t ∈ o'.looksAt ops→o.dst≠some t)∧(t ∈ o.looksAt ops→o'.dst≠some t)∧(∀ d,o.dst=some d→o'.dst≠some d):=by
 obtain⟨h1,h2,h3⟩:=Oper.apart_spec h
 exact⟨fun ht hd=>h1 t hd ht,fun ht hd=>h3 t hd ht,h2⟩
theorem put_other (r:Regs) {d:Option Tmp} {t:Tmp} (h:d≠some t) (v:Value):(r.put d v).f t=r.f t:=by
 cases d with
 | none=>rfl
 | some d=>simp only [Regs.put];rw[if_neg (fun e=>h (by rw[e]))]
namespace Run
variable (h : Run P E ops rs Hs vs)
include h
theorem backs' : backs ops=true:=by have:=h.ok;unfold drawOk at this;simp only [Bool.and_eq_true] at this;exact this.1
theorem lt_of_ahead {i j:Nat} {o:Oper} (ho:ops[i]?=some o) (ha:ahead (masks ops.toList []) i j=true):j<i:=by
 have key:∀ i j o,ops[i]?=some o→ahead (masks ops.toList []) i j=true→j<i:=by
  intro i
  induction i using Nat.strongRecOn with
  | _ i ih =>
   intro j o ho ha
   obtain⟨e,h1,h2,h3⟩:=ahead_step h.backs' ho ha
   have hlt:=backs_spec h.backs' ho h1 h2
   rcases h3 with rfl | h3
   · exact hlt
   ·
    have hi:i<ops.size:=(Array.getElem?_eq_some_iff.1 ho).1
    have:=ih e.on hlt j _ (Array.getElem?_eq_getElem (by omega)) h3
    omega
 exact key i j o ho ha
theorem pair {i j:Nat} (hj:j<ops.size) (hij:i<j):ahead (masks ops.toList []) j i=true∨(apartAt ops i j=true∧(stillAt P ops i=true∨stillAt P ops j=true)):=by
 have:=h.ok
 unfold drawOk drawOkM at this
 simp only [Bool.and_eq_true,List.all_eq_true,List.mem_range,Bool.or_eq_true] at this
 rcases this.2 j hj i hij with h1 | ⟨h1,h2⟩
 · exact .inl h1
 · exact .inr ⟨h1,h2⟩
theorem nEq : ∀ i,i≤ops.size→(rs i).n=(rs 0).n
 | 0,_=>rfl
 | i+1,hi=>by rw[(h.step i (by omega)).2,Regs.put_n,nEq i (by omega)]
theorem heap_still {i:Nat} (hi:i<ops.size) (hs:stillAt P ops i=true):Hs (i+1)=Hs i:=by
 obtain⟨o,h1,h2,h3⟩:=(h.step i hi).1
 rcases h3 with⟨_,_,h3⟩ | ⟨_,h3⟩
 · exact h3
 ·
  have:still P o=true:=by simpa [stillAt,h1] using hs
  exact(still_opEv this h3 fun _ _=>rfl).1
theorem heap_same : ∀ (q p:Nat),p≤q→q≤ops.size→(∀ j,p≤j→j<q→stillAt P ops j=true)→Hs q=Hs p
 | 0,p,hp,_,_=>by
   have:p=0:=by omega
   rw[this]
 | q+1,p,hp,hq,hs=>by
  rcases Nat.lt_or_ge p (q+1) with hlt | hge
  · rw[h.heap_still (by omega) (hs q (by omega) (by omega)),heap_same q p (by omega) (by omega) fun j h1 h2=>hs j h1 (by omega)]
  ·
   have:p=q+1:=by omega
   rw[this]
omit h in
theorem blk_same {b:Nat}:∀ (q p:Nat),p≤q→q≤ops.size→(∀ j,p≤j→j<q→(Hs (j+1)).blk b=(Hs j).blk b)→(Hs q).blk b=(Hs p).blk b
 | 0,p,hp,_,_=>by
   have:p=0:=by omega
   rw[this]
 | q+1,p,hp,hq,hs=>by
  rcases Nat.lt_or_ge p (q+1) with hlt | hge
  · rw[hs q (by omega) (by omega),blk_same q p (by omega) (by omega) fun j h1 h2=>hs j h1 (by omega)]
  ·
   have:p=q+1:=by omega
   rw[this]
end Run
/-- The slots, when those of S are done. -/
def regsOf (ops:Array Oper) (rs:Nat→Regs) (vs:Nat→Value) (S:Nat→Bool):Nat→Regs
 | 0=>rs 0
 | k+1=>if S k then(regsOf ops rs vs S k).put (dstOf ops k) (vs k) else regsOf ops rs vs S k
theorem regsOf_n (S:Nat→Bool):∀ k,(regsOf ops rs vs S k).n=(rs 0).n
 | 0=>rfl
 | k+1=>by unfold regsOf;split <;> simp [Regs.put_n,regsOf_n S k]
theorem dstOf_some {k:Nat} {o:Oper} (h:ops[k]?=some o):dstOf ops k=o.dst:=by simp [dstOf,h]
section
variable (h : Run P E ops rs Hs vs) {S : Nat → Bool} (hS : Down ops S) {i : Nat} {o : Oper} (ho : ops[i]? = some o) (hi : S i = false) (hp : ∀ e ∈ o.after, Region.binds .any e = true → S e.on = true)
include h hS ho hi hp
omit hp in
theorem later_apart {k:Nat} {ok:Oper} (hk:ops[k]?=some ok) (hik:i<k) (hSk:S k=true):o.apart ops ok=true:=by
 rcases h.pair (Array.getElem?_eq_some_iff.1 hk).1 hik with h1 | h1
 ·
  have:=ahead_in h.backs' hS k i ok hk (fun e he hb=>hS k ok hSk hk e he hb) h1
  rw[hi] at this;cases this
 · simpa [apartAt,ho,hk] using h1.1
omit hi in
theorem ealier_apart {k:Nat} {ok:Oper} (hk:ops[k]?=some ok) (hki:k<i) (hSk:S k=false):ok.apart ops o=true:=by
 rcases h.pair (Array.getElem?_eq_some_iff.1 ho).1 hki with h1 | h1
 ·
  have:=ahead_in h.backs' hS i k o ho hp h1
  rw[hSk] at this;cases this
 · simpa [apartAt,ho,hk] using h1.1
theorem regsOf_looks {t:Tmp} (ht:t ∈ o.looksAt ops):(regsOf ops rs vs S ops.size).f t=(rs i).f t:=by
 have hlt:i<ops.size:=(Array.getElem?_eq_some_iff.1 ho).1
 have up:∀ k,k≤i→(regsOf ops rs vs S k).f t=(rs k).f t:=by
  intro k
  induction k with
  | zero=>intro _;rfl
  | succ k ih =>
   intro hk
   have hk':ops[k]?=some ops[k]:=Array.getElem?_eq_getElem (by omega)
   rw[(h.step k (by omega)).2]
   unfold regsOf
   split
   ·
    by_cases hd:dstOf ops k=some t
    · rw[hd];simp [Regs.put]
    · rw[put_other _ hd,put_other _ hd];exact ih (by omega)
   ·
    rename_i hSk
    have:=(apart_looks (t:=t) (ealier_apart h hS ho hp hk' (by omega) (by simpa using hSk))).1 ht
    rw[put_other _ (by rw[dstOf_some hk'];exact this)]
    exact ih (by omega)
 have down:∀ d,i+d≤ops.size→(regsOf ops rs vs S (i+d)).f t=(regsOf ops rs vs S i).f t:=by
  intro d
  induction d with
  | zero=>intro _;rfl
  | succ d ih =>
   intro hd
   rw[show regsOf ops rs vs S (i+(d+1))=if S (i+d) then(regsOf ops rs vs S (i+d)).put (dstOf ops (i+d)) (vs (i+d)) else regsOf ops rs vs S (i+d) from rfl]
   split
   ·
    rename_i hSk
    have hk':ops[i+d]?=some ops[i+d]:=Array.getElem?_eq_getElem (by omega)
    have hne:d≠0:=fun e=>by subst e;rw[Nat.add_zero] at hSk;rw[hi] at hSk;cases hSk
    have:=(apart_looks (t:=t) (later_apart h hS ho hi hk' (by omega) hSk)).2.1 ht
    rw[put_other _ (by rw[dstOf_some hk'];exact this)]
    exact ih (by omega)
   · exact ih (by omega)
 have:=down (ops.size - i) (by omega)
 rw[show i+(ops.size - i)=ops.size by omega] at this
 rw[this,up i (Nat.le_refl _)]
omit hp in
theorem regsOf_put : regsOf ops rs vs (fun k=>if k=i then true else S k) ops.size=(regsOf ops rs vs S ops.size).put (dstOf ops i) (vs i):=by
 have hlt:i<ops.size:=(Array.getElem?_eq_some_iff.1 ho).1
 have up:∀ k,k≤i→regsOf ops rs vs (fun k=>if k=i then true else S k) k=regsOf ops rs vs S k:=by
  intro k
  induction k with
  | zero=>intro _;rfl
  | succ k ih =>
   intro hk
   unfold regsOf
   rw[ih (by omega),if_neg (show ¬ k=i by omega)]
 have down:∀ d,i+1+d≤ops.size→regsOf ops rs vs (fun k=>if k=i then true else S k) (i+1+d)=(regsOf ops rs vs S (i+1+d)).put (dstOf ops i) (vs i):=by
  intro d
  induction d with
  | zero =>
   intro _
   show regsOf ops rs vs (fun k=>if k=i then true else S k) (i+1)=_
   rw[regsOf,if_pos (by simp),up i (Nat.le_refl _)]
   show _=(regsOf ops rs vs S (i+1)).put _ _
   rw[regsOf,if_neg (by simp [hi])]
  | succ d ih =>
   intro hd
   show regsOf ops rs vs (fun k=>if k=i then true else S k) (i+1+d+1)=(regsOf ops rs vs S (i+1+d+1)).put _ _
   rw[regsOf,regsOf,ih (by omega),if_neg (show ¬ i+1+d=i by omega)]
   split
   ·
    rename_i hSk
    have hk':ops[i+1+d]?=some ops[i+1+d]:=Array.getElem?_eq_getElem (by omega)
    have:=(apart_looks (t:=0) (later_apart h hS ho hi hk' (by omega) hSk)).2.2
    rw[dstOf_some ho,dstOf_some hk']
    cases h1:o.dst with
    | none=>rfl
    | some a =>
     cases h2:(ops[i+1+d]).dst with
     | none=>rfl
     | some b =>
      have hne:a≠b:=fun e=>this a h1 (by rw[h2,e])
      simp only [Regs.put]
      congr 1
      funext t
      by_cases e1:t=b
      · rw[if_pos e1,if_pos e1,if_neg (fun e2=>hne (e2.symm.trans e1))]
      · rw[if_neg e1,if_neg e1]
   · rfl
 have:=down (ops.size - (i+1)) (by omega)
 rw[show i+1+(ops.size - (i+1))=ops.size by omega] at this
 exact this
end
end Go.AM

/- Rows in any order: what the given machine does. -/
namespace Go.AM
open Go
variable {P : Program} {E : TypeId → Bool} {ops : Array Oper} {rs : Nat → Regs} {Hs : Nat → Heap} {vs : Nat → Value}

def member (listed:Array Bool) (i:Nat):Bool:=listed.getD i false
/-- Where a drawn row stands. -/
structure Stands (P:Program) (ops:Array Oper) (rs:Nat→Regs) (Hs:Nat→Heap) (vs:Nat→Value) (ι0:Map) (H0:Heap) (w0:World) (listed:Array Bool) (m:Nat) (a:Act) (w:World):Prop where
 size:listed.size=ops.size
 down:Down ops (member listed)
 le:m≤ops.size
 effs:∀ j,j<ops.size→stillAt P ops j=false→(member listed j=true ↔ j<m)
 st:St ι0 H0 w0 (regsOf ops rs vs (member listed) ops.size) (Hs m) a w
theorem looks_oper {o:Oper} {r r2:Regs} (h:∀ t ∈ o.looksAt ops,r2.f t=r.f t):∀ x ∈ o.op.operands,r2.eval x=r.eval x:=by
 intro x hx
 cases x with
 | tmp t=>exact h t (List.mem_append_left _ (List.mem_filterMap.2 ⟨.tmp t,by simpa using hx,rfl⟩))
 | _=>rfl
theorem looks_wants {o:Oper} {r r2:Regs} (h:∀ t ∈ o.looksAt ops,r2.f t=r.f t):wants ops r2 o=wants ops r o:=by
 unfold wants
 cases hg:o.guard with
 | none=>rfl
 | some g =>
  obtain⟨j,want⟩:=g
  simp only
  cases hd:(ops[j]?).bind (·.dst) with
  | none=>rfl
  | some d =>
   simp only
   rw[h d (List.mem_append_right _ (by simp [hg,hd]))]
theorem member_set {listed:Array Bool} {i:Nat} (hi:i<listed.size):member (listed.setIfInBounds i true)=fun k=>if k=i then true else member listed k:=by
 funext k
 simp only [member,Array.getD_eq_getD_getElem?]
 by_cases e:k=i
 ·
  subst e
  rw[if_pos rfl,Array.getElem?_setIfInBounds_self_of_lt hi]
  rfl
 · rw[if_neg e,Array.getElem?_setIfInBounds_ne (fun x=>e x.symm)]
theorem Stands.next (hE:EqOk P E) (hr:Run P E ops rs Hs vs) {ι0:Map} {H0:Heap} {w0:World} {listed:Array Bool} {m:Nat} {a:Act} {w:World} (h:Stands P ops rs Hs vs ι0 H0 w0 listed m a w) {i:Nat} (hi:i ∈ Region.ready .any ops listed)
  {K:Act→World→Prop} {Q:Exit→Act→World→Prop} (hK:∀ m' a' w',Stands P ops rs Hs vs ι0 H0 w0 (listed.setIfInBounds i true) m' a' w'→K a' w'):wpOp P ops Q i K a w:=by
 obtain⟨hun,o,ho,hpre⟩:=mem_ready.1 hi
 have hlt:i<ops.size:=(Array.getElem?_eq_some_iff.1 ho).1
 have hin:i<listed.size:=by rw[h.size];exact hlt
 have hun':member listed i=false:=by
  simp only [Array.getD_eq_getD_getElem?,member,Array.getElem?_eq_getElem hin] at hun ⊢
  exact hun
 have hp:∀ e ∈ o.after,Region.binds .any e=true→member listed e.on=true:=fun e he hb=>hpre e he hb
 have hlook:∀ t ∈ o.looksAt ops,(regsOf ops rs vs (member listed) ops.size).f t=(rs i).f t:=fun t ht=>regsOf_looks hr h.down ho hun' hp ht
 have hset:=member_set (i:=i) hin
 have hdown:Down ops (member (listed.setIfInBounds i true)):=by
  intro k ok hk hok e he hb
  rw[hset] at hk ⊢
  simp only at hk ⊢
  split
  · rfl
  ·
   by_cases e1:k=i
   ·
    subst e1
    rw[ho] at hok;cases hok
    exact hp e he hb
   ·
    rw[if_neg e1] at hk
    exact h.down k ok hk hok e he hb
 have hput:=regsOf_put hr h.down ho hun' (rs:=rs) (vs:=vs)
 obtain⟨o',q1,q2,q3⟩:=(hr.step i hlt).1
 rw[ho] at q1
 cases q1
 have hn:dstOk (regsOf ops rs vs (member listed) ops.size).n o.dst=true:=by rw[regsOf_n,← hr.nEq i (by omega)];exact q2
 by_cases hst:stillAt P ops i=true
 ·
  -- still
  have hso:still P o=true:=by simpa [stillAt,ho] using hst
  have heap:=hr.heap_still hlt hst
  have hstp:Stp P E ops i (regsOf ops rs vs (member listed) ops.size) (Hs m) (vs i) (Hs m):=by
   refine⟨o,ho,hn,?_⟩
   rw[looks_wants hlook]
   rcases q3 with⟨q3,q4,_⟩ | ⟨q3,q4⟩
   · exact .inl ⟨q3,q4,rfl⟩
   ·
    refine .inr ⟨q3,(still_opEv hso q4 (looks_oper hlook)).2 (Hs m) fun b hb=>?_⟩
    have hd:=fun j (hj:j<ops.size) (hsj:stillAt P ops j=false) h1 h2=>hr.dyn i j hlt hj hst hsj h1 h2 o b ho q3 hb
    rcases Nat.lt_trichotomy i m with him | him | him
    ·
     refine Run.blk_same (ops:=ops) m i (by omega) h.le fun j hj1 hj2=>?_
     by_cases hsj:stillAt P ops j=true
     · rw[hr.heap_still (by have:=h.le;omega) hsj]
     ·
      have hsj:stillAt P ops j=false:=by simpa using hsj
      have hjn:j<ops.size:=by have:=h.le;omega
      have hSj:=(h.effs j hjn hsj).2 hj2
      have hok:ops[j]?=some ops[j]:=Array.getElem?_eq_getElem hjn
      refine hd j hjn hsj ?_ ?_
      ·
       cases hc:ahead (masks ops.toList []) i j with
       | false=>rfl
       | true=>have:=hr.lt_of_ahead ho hc;omega
      ·
       cases hc:ahead (masks ops.toList []) j i with
       | false=>rfl
       | true =>
        have:=ahead_in hr.backs' h.down j i _ hok (fun e he hb=>h.down j _ hSj hok e he hb) hc
        rw[hun'] at this;cases this
    · rw[him]
    ·
     refine(Run.blk_same (ops:=ops) i m (by omega) (by omega) fun j hj1 hj2=>?_).symm
     by_cases hsj:stillAt P ops j=true
     · rw[hr.heap_still (by omega) hsj]
     ·
      have hsj:stillAt P ops j=false:=by simpa using hsj
      have hjn:j<ops.size:=by omega
      have hSj:member listed j=false:=by
       cases hc:member listed j with
       | false=>rfl
       | true=>have:=(h.effs j hjn hsj).1 hc;omega
      have hok:ops[j]?=some ops[j]:=Array.getElem?_eq_getElem hjn
      refine hd j hjn hsj ?_ ?_
      ·
       cases hc:ahead (masks ops.toList []) i j with
       | false=>rfl
       | true =>
        have:=ahead_in hr.backs' h.down i j o ho hp hc
        rw[hSj] at this;cases this
      ·
       cases hc:ahead (masks ops.toList []) j i with
       | false=>rfl
       | true=>have:=hr.lt_of_ahead hok hc;omega
  refine hstp.wp hE h.st fun a' w' hs'=>hK m a' w' ⟨by simp [h.size],hdown,h.le,fun j hj hsj=>?_,?_⟩
  ·
   rw[hset]
   have hne:j≠i:=fun e=>by rw[e,hst] at hsj;cases hsj
   simp only [if_neg hne]
   exact h.effs j hj hsj
  ·
   rw[hset,hput]
   exact hs'
 ·
  -- it acts
  have hst:stillAt P ops i=false:=by simpa using hst
  have hmi:m≤i:=by
   rcases Nat.lt_or_ge i m with hc | hc
   ·
    have:=(h.effs i hlt hst).2 hc
    rw[hun'] at this;cases this
   · exact hc
  have hnone:∀ j,m≤j→j<i→stillAt P ops j=true:=by
   intro j hj1 hj2
   rcases hr.pair hlt hj2 with hc | ⟨_,hc⟩
   ·
    have h1:=ahead_in hr.backs' h.down i j o ho hp hc
    cases hsj:stillAt P ops j with
    | true=>rfl
    | false=>have:=(h.effs j (by omega) hsj).1 h1;omega
   ·
    rcases hc with hc | hc
    · exact hc
    · rw[hst] at hc;cases hc
  have heap:=hr.heap_same i m hmi (by omega) hnone
  have hstp:Stp P E ops i (regsOf ops rs vs (member listed) ops.size) (Hs m) (vs i) (Hs (i+1)):=by
   rw[← heap]
   refine⟨o,ho,hn,?_⟩
   rw[looks_wants hlook]
   rcases q3 with⟨q3,q4,q5⟩ | ⟨q3,q4⟩
   · exact .inl ⟨q3,q4,q5⟩
   · exact .inr ⟨q3,q4.congr (looks_oper hlook)⟩
  refine hstp.wp hE h.st fun a' w' hs'=>hK (i+1) a' w' ⟨by simp [h.size],hdown,hlt,fun j hj hsj=>?_,?_⟩
  ·
   rw[hset]
   by_cases e:j=i
   · subst e;simp
   ·
    simp only [if_neg e]
    rw[h.effs j hj hsj]
    constructor
    · intro hjm;omega
    ·
     intro hji
     rcases Nat.lt_or_ge j m with hc | hc
     · exact hc
     · rw[hnone j hc (by omega)] at hsj;cases hsj
  ·
   rw[hset,hput]
   exact hs'
def left (listed:Array Bool) (n:Nat):Nat:=((List.range n).filter fun i => !member listed i).length
theorem left_set {listed:Array Bool} {i n:Nat} (hi:i<n) (hn:n≤listed.size) (hm:member listed i=false):left (listed.setIfInBounds i true) n+1=left listed n:=by
 unfold left
 rw[member_set (by omega)]
 induction n with
 | zero=>omega
 | succ n ih =>
  simp only [List.range_succ,List.filter_append,List.length_append]
  by_cases e:i=n
  ·
   subst e
   have e1:(List.range i).filter (fun k => !(if k=i then true else member listed k))=(List.range i).filter (fun k => !member listed k):=by
    refine List.filter_congr fun k hk=>?_
    have:=List.mem_range.1 hk
    rw[if_neg (by omega)]
   rw[e1]
   simp [hm]
  ·
   have:=ih (by omega) (by omega)
   simp only [List.filter_cons,List.filter_nil]
   rw[show(if n=i then true else member listed n)=member listed n from if_neg (by omega)]
   simp only [] at this
   omega
theorem left_zero {listed:Array Bool} {n:Nat} (h:left listed n=0):∀ i,i<n→member listed i=true:=by
 intro i hi
 have:=List.eq_nil_of_length_eq_zero h
 cases hm:member listed i with
 | true=>rfl
 | false =>
  have:i ∈ (List.range n).filter fun i => !member listed i:=List.mem_filter.2 ⟨List.mem_range.2 hi,by simp [hm]⟩
  rw[List.eq_nil_of_length_eq_zero h] at this
  cases this
theorem none_ready (hb:backs ops=true) {listed:Array Bool} (hsz:listed.size=ops.size) (h:Region.ready .any ops listed = []):∀ i,i<ops.size→member listed i=true:=by
 intro i
 induction i using Nat.strongRecOn with
 | _ i ih =>
  intro hi
  cases hm:member listed i with
  | true=>rfl
  | false =>
   have:i ∈ Region.ready .any ops listed:=by
    refine mem_ready.2 ⟨?_,ops[i],Array.getElem?_eq_getElem hi,fun e he hb'=>?_⟩
    ·
     simp only [Array.getD_eq_getD_getElem?,member,Array.getElem?_eq_getElem (show i<listed.size by omega)] at hm ⊢
     exact hm
    ·
     have:=backs_spec hb (Array.getElem?_eq_getElem hi) he hb'
     exact ih e.on this (by omega)
   rw[h] at this
   cases this
theorem Stands.wp (hE:EqOk P E) (hr:Run P E ops rs Hs vs) {ι0:Map} {H0:Heap} {w0:World} {Q:Exit→Act→World→Prop} (hQ:∀ a w,St ι0 H0 w0 (rs ops.size) (Hs ops.size) a w→Q .normal a w) :
  ∀ (fuel:Nat) {listed:Array Bool} {m:Nat} {a:Act} {w:World},left listed ops.size=fuel→Stands P ops rs Hs vs ι0 H0 w0 listed m a w→wpAny P .any ops Q fuel listed a w:=by
 have fin:∀ {listed:Array Bool} {m:Nat} {a:Act} {w:World},Stands P ops rs Hs vs ι0 H0 w0 listed m a w→(∀ i,i<ops.size→member listed i=true)→Q .normal a w:=by
  intro listed m a w h hall
  have h1:∀ k,k≤ops.size→regsOf ops rs vs (member listed) k=rs k:=by
   intro k
   induction k with
   | zero=>intro _;rfl
   | succ k ih =>
    intro hk
    rw[regsOf,if_pos (hall k (by omega)),ih (by omega),(hr.step k (by omega)).2]
  have h2:Hs ops.size=Hs m:=hr.heap_same _ _ h.le (Nat.le_refl _) fun j hj1 hj2=>by
   cases hs:stillAt P ops j with
   | true=>rfl
   | false=>have:=(h.effs j hj2 hs).1 (hall j hj2);omega
  have:=h.st
  rw[h1 _ (Nat.le_refl _),← h2] at this
  exact hQ a w this
 intro fuel
 induction fuel with
 | zero =>
  intro listed m a w hl h
  refine⟨?_,fin h (left_zero hl)⟩
  cases hrd:Region.ready .any ops listed with
  | nil=>rfl
  | cons i rest =>
   have hi:i ∈ Region.ready .any ops listed:=by rw[hrd];simp
   obtain⟨hun,o,ho,_⟩:=mem_ready.1 hi
   have hlt:i<ops.size:=(Array.getElem?_eq_some_iff.1 ho).1
   have:=left_zero hl i hlt
   simp only [Array.getD_eq_getD_getElem?,member,Array.getElem?_eq_getElem (show i<listed.size by rw[h.size];exact hlt),Option.getD_some] at hun this
   rw[hun] at this;cases this
 | succ fuel ih =>
  intro listed m a w hl h
  refine⟨fun hrd=>fin h (none_ready hr.backs' h.size hrd),fun i hi=>?_⟩
  refine h.next hE hr hi fun m' a' w' h'=>ih ?_ h'
  obtain⟨hun,o,ho,_⟩:=mem_ready.1 hi
  have hlt:i<ops.size:=(Array.getElem?_eq_some_iff.1 ho).1
  have hm:member listed i=false:=by
   simp only [Array.getD_eq_getD_getElem?,member,Array.getElem?_eq_getElem (show i<listed.size by rw[h.size];exact hlt)] at hun ⊢
   exact hun
  have:=left_set (n:=ops.size) hlt (by rw[h.size];exact Nat.le_refl _) hm
  omega
theorem Run.wp (hE:EqOk P E) (hm:P.follows .mixedOrders=true) (hr:Run P E ops rs Hs vs) {ι0:Map} {H0:Heap} {w0:World} {a:Act} {w:World} (hs:St ι0 H0 w0 (rs 0) (Hs 0) a w) {Q:Exit→Act→World→Prop} (hQ:∀ a w,St ι0 H0 w0 (rs ops.size) (Hs ops.size) a w→Q .normal a w) (id:Nat):(Code.region id ops true).wp P Q a w:=by
 have hmem:∀ i,member (Array.replicate ops.size false) i=false:=by
  intro i
  simp only [member,Array.getD_eq_getD_getElem?,Array.getElem?_replicate]
  split <;> rfl
 refine wp_region_any hm (Stands.wp hE hr hQ ops.size (m:=0) ?_ ⟨by simp,fun i o hi=>?_,Nat.zero_le _,fun j hj _=>?_,?_⟩)
 ·
  unfold left
  have e:∀ n,((List.range n).filter fun i => !member (Array.replicate ops.size false) i).length=n:=by
   intro n
   rw[List.filter_eq_self.2 (fun i _=>by simp [hmem i])]
   simp
  exact e _
 · rw[hmem] at hi;cases hi
 · rw[hmem];simp
 ·
  have e:∀ k,regsOf ops rs vs (member (Array.replicate ops.size false)) k=rs 0:=by
   intro k
   induction k with
   | zero=>rfl
   | succ k ih=>rw[regsOf,if_neg (by simp [hmem]),ih]
  rw[e]
  obtain⟨ι,q1,q2,q3,q4⟩:=hs
  exact⟨ι,⟨q1.dom,fun b B hb=>let ⟨L,a,c⟩:=q1.live b B hb;⟨L,a,⟨c.esz,c.off,c.len,c.shut,c.mapo,c.obj⟩⟩,q1.apart⟩,q2,q3,q4.le,q4.next,q4.os,q4.tape,q4.output,q4.size,q4.frame,q4.own,q4.ro,q4.grow⟩
end Go.AM

/- Rows in any order, in which new blocks may come early: they have names of their own. -/
namespace Go.AM
open Go
variable {P : Program} {E : TypeId → Bool}

/-- A new block, under a name that is told. -/
def freshAt (P:Program) (r:Regs) (n:Nat) (o:Oper):Option (Value×Blk) :=
 match o.op with
 | .alloc e=>(zero? P e).bind fun z=>if z.cells.toList.all flat=true∧z.cells.toList.all Value.oneCell'=true then some (.pointer (some ⟨n,0,none⟩),⟨z.cells.toList,0,false,false⟩) else none
 | .buildSlice t len ps=>(ps.toList.mapM fun(p:Nat×Operand)=>(r.eval p.2).map fun v=>(p.1,v)).bind fun vs =>
  match P.underlying t with
  | some (.slice e) =>
   match P.info? e with
   | some i =>
    match i.zero with
    | some z=>if i.size≠0∧len * i.size≤16777216∧z.cells.size≠0∧z.cells.toList.all flat=true then
      (Instr.fill (fun k=>some (k * i.size,i.size)) ((Array.range (len * i.size)).map (z.cells[· % z.cells.size]!)) vs).bind fun c =>
       if c.toList.all Value.oneCell' then some (.slice (some ⟨n,0,none⟩) len len,⟨c.toList,i.size,false,false⟩) else none
     else none
    | none=>none
   | none=>none
  | _=>none
 | _=>none
theorem freshAt_does {ι:Map} {r:Regs} {a:Act} (hr:RegR ι r a.tmps) {n:Nat} {o:Oper} {v:Value} {B:Blk} (h:freshAt P r n o=some (v,B)) (w:World) :
  ∃ v' C el,(execOp a.eval o).run P w = .ok (.value v') { w with heap:=w.heap.push (.cells C el (0,0)) }∧(∀ ι':Map,ι' n=some ⟨w.heap.size,0,B.esz,C.size⟩→VR ι' v v')∧AsR ι B.cells.toArray C∧B.rd=false∧B.opn=false:=by
 unfold freshAt at h
 unfold execOp
 split at h
 ·
  rename_i e ho
  obtain⟨z,hz,h⟩:=Option.bind_eq_some_iff.1 h
  split at h
  ·
   rename_i hf
   cases h
   refine⟨.pointer (some ⟨w.heap.size,0,none⟩),z.cells,e,?_,fun ι' hn => .ptr ⟨rfl,_,hn,by simp⟩,?_,rfl,rfl⟩
   ·
    simp only [ho,Instr.alloc,Sem.run_bind,run_zeroValue hz,Result.andThen_ok]
    simp [newVar,newRow,newObj,Sem.run]
   ·
    have:=AsR.of_flat' (ι:=ι) hf.1
    simpa using this
  · cases h
 ·
  rename_i t len ps ho
  obtain⟨vs,h1,h⟩:=Option.bind_eq_some_iff.1 h
  have hp:=hr.parts ps.toList h1
  split at h
  ·
   rename_i e hu
   split at h
   ·
    rename_i i hi
    split at h
    ·
     rename_i z hz
     split at h
     ·
      rename_i hg
      obtain⟨g1,g2,g5,g4⟩:=hg
      obtain⟨c,h2,h3⟩:=Option.bind_eq_some_iff.1 h
      split at h3
      ·
       cases h3
       have hbase:AsR ι ((Array.range (len * i.size)).map (z.cells[· % z.cells.size]!)) ((Array.range (len * i.size)).map (z.cells[· % z.cells.size]!)):=by
        exact AsR.of_flat' (made_R g4 (len * i.size) (fun e=>absurd e g5))
       obtain⟨c',h3,h4⟩:=fill_R _ hp hbase h2
       have hrun:=run_buildSl (P:=P) w hu hi hz (by omega) h3
       have e1:(ps.map fun(i,x)=>(i,a.eval x))=(ps.toList.map fun p=>(p.1,a.eval p.2)).toArray:=by apply Array.ext';simp
       refine⟨.slice (some ⟨w.heap.size,0,none⟩) len len,c',e,?_,fun ι' hn => .sl ⟨rfl,Nat.le_refl _,fun _=>rfl,_,hn,fun _=>by simp,fun x=>?_⟩,?_,rfl,rfl⟩
       ·
        simp only [ho,e1,Sem.run_bind,hrun,Result.andThen_ok]
        rfl
       ·
        exfalso
        have:len≤len * i.size:=Nat.le_mul_of_pos_right _ (by omega)
        unfold OPEN at x
        omega
       · simpa using h4
      · cases h3
     · cases h
    · cases h
   · cases h
  · cases h
 · cases h
/-! What has been made, but does not stand in our memory yet. -/
def Pend (ι:Map) (H:Heap) (w w0:World) (n:Nat) (B:Blk):Prop :=
 ∃ L,ι n=some L∧BR ι w B L∧w0.heap.size≤L.blk∧B.rd=false∧∀ b B' L',H.blk b=some B'→ι b=some L'→L'.blk≠L.blk
section
variable {ι ι' ι0 : Map} {H H' H0 : Heap} {w w' w0 : World} {n : Nat} {B : Blk}
theorem Step.was (hs:Step ι H w ι' H' w') (hn:n<H.next) {L:Loc} (h:ι' n=some L):ι n=some L:=(hs.grow n L h).resolve_right (by omega)
theorem Pend.not_tgt {L:Loc} (h:∀ b B' L',H.blk b=some B'→ι b=some L'→L'.blk≠L.blk):¬ Tgt ι H L.blk:=fun⟨b,B',L',h1,h2,_,h4⟩=>h b B' L' h1 h2 h4
theorem Pend.live (hp:Pend ι H w w0 n B) (hR':R ι' H' w') (hR:R ι H w) (hs:Step ι H w ι' H' w') {L:Loc} (hL:ι n=some L) (hlt:L.blk<w.heap.size) (hnl:∀ b B' L',H.blk b=some B'→ι b=some L'→L'.blk≠L.blk):∀ b B' L',H'.blk b=some B'→ι' b=some L'→L'.blk≠L.blk:=by
 intro b B' L' hb hl e
 cases hrd:B'.rd with
 | true =>
  have h1:=hs.ro b B' hb hrd
  obtain⟨L2,h2,_⟩:=hR.live b B' h1
  have:=hs.le b L2 h2
  rw[hl] at this
  cases this
  exact hnl b B' L' h1 h2 e
 | false =>
  rcases hs.own L.blk ⟨b,B',L',hb,hl,hrd,e⟩ with h1 | h1
  · exact Pend.not_tgt hnl h1
  · omega
theorem Pend.step (hp:Pend ι H w w0 n B) (hR':R ι' H' w') (hR:R ι H w) (hs:Step ι H w ι' H' w'):Pend ι' H' w' w0 n B:=by
 have hp0:=hp
 obtain⟨L,h1,h2,h3,h4,h5⟩:=hp
 exact⟨L,hs.le n L h1,h2.mono hs.le (hs.frame L.blk h2.lt (Pend.not_tgt h5)),h3,h4,hp0.live hR' hR hs h1 h2.lt h5⟩
theorem Pend.gone (hp:Pend ι H w w0 n B) (hR':R ι' H' w') (hR:R ι H w) (hs:Step ι H w ι' H' w'):H'.blk n=none:=by
 obtain⟨L,h1,h2,h3,h4,h5⟩:=hp
 cases hb:H'.blk n with
 | none=>rfl
 | some B' =>
  have:=Pend.live ⟨L,h1,h2,h3,h4,h5⟩ hR' hR hs h1 h2.lt h5 n B' L hb (hs.le n L h1)
  exact absurd rfl this
theorem R.real (h:R ι H w) (hp:Pend ι H w w0 n B) (hn:n<H.next):R ι (H.set n (some B)) w:=by
 obtain⟨L,h1,h2,h3,h4,h5⟩:=hp
 refine⟨h.dom,fun b B' hb=>?_,fun b b' B1 B2 L1 L2 hne hb hb' hl hl' hrd=>?_⟩
 ·
  simp only [Heap.set] at hb
  split at hb
  ·
   rename_i e
   cases hb
   exact⟨L,by rw[e];exact h1,h2⟩
  · exact h.live b B' hb
 ·
  simp only [Heap.set] at hb hb'
  split at hb
  ·
   rename_i e1
   rw[e1,h1] at hl
   cases hl
   rw[if_neg (fun e2=>hne (e1.trans e2.symm))] at hb'
   exact fun x=>h5 b' B2 L2 hb' hl' x.symm
  ·
   split at hb'
   ·
    rename_i e2
    rw[e2,h1] at hl'
    cases hl'
    exact h5 b B1 L1 hb hl
   · exact h.apart b b' B1 B2 L1 L2 hne hb hb' hl hl' hrd
theorem Step.real (hs:Step ι0 H0 w0 ι H w) (hp:Pend ι H w w0 n B):Step ι0 H0 w0 ι (H.set n (some B)) w:=by
 obtain⟨L,h1,h2,h3,h4,h5⟩:=hp
 refine⟨hs.le,hs.next,hs.os,hs.tape,hs.output,hs.size,hs.frame,fun c hc=>?_,fun b B' hb hr=>?_,hs.grow⟩
 ·
  obtain⟨b,B',L',p,q,r,s⟩:=hc
  simp only [Heap.set] at p
  split at p
  ·
   rename_i e
   rw[e,h1] at q
   cases q
   exact .inr (by omega)
  · exact hs.own c ⟨b,B',L',p,q,r,s⟩
 ·
  simp only [Heap.set] at hb
  split at hb
  · cases hb;rw[h4] at hr;cases hr
  · exact hs.ro b B' hb hr
/-- The given machine makes a block; ours has a name for it. -/
theorem R.push (h:R ι H w) {L:Loc} (hn:n<H.next) (hin:ι n=none) (hb:H.blk n=none) (hold:∀ c,c<w.heap.size→w'.heap[c]?=w.heap[c]?):R (ι.set n L) H w':=by
 have hle:ι.le (ι.set n L):=fun b L' hb'=>by
  simp only [Map.set]
  rw[if_neg (fun e=>by rw[e,hin] at hb';cases hb')]
  exact hb'
 refine⟨fun b L' hb'=>?_,fun b B' hb'=>?_,fun b b' B1 B2 L1 L2 hne hb1 hb2 hl hl' hrd=>?_⟩
 ·
  simp only [Map.set] at hb'
  split at hb'
  · omega
  · exact h.dom b L' hb'
 ·
  obtain⟨L',h1,h2⟩:=h.live b B' hb'
  exact⟨L',hle b L' h1,h2.mono hle (hold _ h2.lt)⟩
 ·
  simp only [Map.set] at hl hl'
  rw[if_neg (fun e=>by rw[e,hb] at hb1;cases hb1)] at hl
  rw[if_neg (fun e=>by rw[e,hb] at hb2;cases hb2)] at hl'
  exact h.apart b b' B1 B2 L1 L2 hne hb1 hb2 hl hl' hrd
theorem Step.push (hs:Step ι0 H0 w0 ι H w) {L:Loc} (hg:H0.next≤n) (hin:ι n=none) (hb:H.blk n=none) (hold:∀ c,c<w.heap.size→w'.heap[c]?=w.heap[c]?) (ho:w'.os=w.os) (ht:w'.tape=w.tape) (hu:w'.output=w.output) (hsz:w.heap.size≤w'.heap.size):Step ι0 H0 w0 (ι.set n L) H w':=by
 have hle:ι.le (ι.set n L):=fun b L' hb'=>by
  simp only [Map.set]
  rw[if_neg (fun e=>by rw[e,hin] at hb';cases hb')]
  exact hb'
 refine⟨hs.le.trans hle,hs.next,ho.trans hs.os,ht.trans hs.tape,hu.trans hs.output,Nat.le_trans hs.size hsz,fun c hc hT=>(hold c (Nat.lt_of_lt_of_le hc hs.size)).trans (hs.frame c hc hT),fun c hc=>?_,hs.ro,fun b L' hb'=>?_⟩
 ·
  obtain⟨b,B',L',p,q,r,s⟩:=hc
  simp only [Map.set] at q
  rw[if_neg (fun e=>by rw[e,hb] at p;cases p)] at q
  exact hs.own c ⟨b,B',L',p,q,r,s⟩
 ·
  simp only [Map.set] at hb'
  split at hb'
  · exact .inr (by omega)
  · exact hs.grow b L' hb'
theorem Pend.push (hp:Pend ι H w w0 n B) {n2:Nat} {L:Loc} (hin:ι n2=none) (hb:H.blk n2=none) (hold:∀ c,c<w.heap.size→w'.heap[c]?=w.heap[c]?):Pend (ι.set n2 L) H w' w0 n B:=by
 have hle:ι.le (ι.set n2 L):=fun b L' hb'=>by
  simp only [Map.set]
  rw[if_neg (fun e=>by rw[e,hin] at hb';cases hb')]
  exact hb'
 obtain⟨L1,h1,h2,h3,h4,h5⟩:=hp
 refine⟨L1,hle n L1 h1,h2.mono hle (hold _ h2.lt),h3,h4,fun b B' L' hb' hl=>?_⟩
 simp only [Map.set] at hl
 rw[if_neg (fun e=>by rw[e,hb] at hb';cases hb')] at hl
 exact h5 b B' L' hb' hl
end
end Go.AM

/- Rows in any order, in which new blocks may come early: what the given machine does. -/
namespace Go.AM
open Go
variable {P : Program} {E : TypeId → Bool} {ops : Array Oper} {rs : Nat → Regs} {Hs : Nat → Heap} {vs : Nat → Value}

structure Base (ops:Array Oper) (rs:Nat→Regs) (vs:Nat→Value):Prop where
 backs':backs ops=true
 pair:∀ {i j:Nat},j<ops.size→i<j→ahead (masks ops.toList []) j i=true∨apartAt ops i j=true
 put:∀ i,i<ops.size→rs (i+1)=(rs i).put (dstOf ops i) (vs i)
section
variable (h : Base ops rs vs) {S : Nat → Bool} (hS : Down ops S) {i : Nat} {o : Oper} (ho : ops[i]? = some o) (hi : S i = false) (hp : ∀ e ∈ o.after, Region.binds .any e = true → S e.on = true)
include h hS ho hi hp
omit hp in
theorem later_apart' {k:Nat} {ok:Oper} (hk:ops[k]?=some ok) (hik:i<k) (hSk:S k=true):o.apart ops ok=true:=by
 rcases h.pair (Array.getElem?_eq_some_iff.1 hk).1 hik with h1 | h1
 ·
  have:=ahead_in h.backs' hS k i ok hk (fun e he hb=>hS k ok hSk hk e he hb) h1
  rw[hi] at this;cases this
 · simpa [apartAt,ho,hk] using h1
omit hi in
theorem ealier_apart' {k:Nat} {ok:Oper} (hk:ops[k]?=some ok) (hki:k<i) (hSk:S k=false):ok.apart ops o=true:=by
 rcases h.pair (Array.getElem?_eq_some_iff.1 ho).1 hki with h1 | h1
 ·
  have:=ahead_in h.backs' hS i k o ho hp h1
  rw[hSk] at this;cases this
 · simpa [apartAt,ho,hk] using h1
theorem regsOf_looks' {t:Tmp} (ht:t ∈ o.looksAt ops):(regsOf ops rs vs S ops.size).f t=(rs i).f t:=by
 have hlt:i<ops.size:=(Array.getElem?_eq_some_iff.1 ho).1
 have up:∀ k,k≤i→(regsOf ops rs vs S k).f t=(rs k).f t:=by
  intro k
  induction k with
  | zero=>intro _;rfl
  | succ k ih =>
   intro hk
   have hk':ops[k]?=some ops[k]:=Array.getElem?_eq_getElem (by omega)
   rw[h.put k (by omega)]
   unfold regsOf
   split
   ·
    by_cases hd:dstOf ops k=some t
    · rw[hd];simp [Regs.put]
    · rw[put_other _ hd,put_other _ hd];exact ih (by omega)
   ·
    rename_i hSk
    have:=(apart_looks (t:=t) (ealier_apart' h hS ho hp hk' (by omega) (by simpa using hSk))).1 ht
    rw[put_other _ (by rw[dstOf_some hk'];exact this)]
    exact ih (by omega)
 have down:∀ d,i+d≤ops.size→(regsOf ops rs vs S (i+d)).f t=(regsOf ops rs vs S i).f t:=by
  intro d
  induction d with
  | zero=>intro _;rfl
  | succ d ih =>
   intro hd
   rw[show regsOf ops rs vs S (i+(d+1))=if S (i+d) then(regsOf ops rs vs S (i+d)).put (dstOf ops (i+d)) (vs (i+d)) else regsOf ops rs vs S (i+d) from rfl]
   split
   ·
    rename_i hSk
    have hk':ops[i+d]?=some ops[i+d]:=Array.getElem?_eq_getElem (by omega)
    have hne:d≠0:=fun e=>by subst e;rw[Nat.add_zero] at hSk;rw[hi] at hSk;cases hSk
    have:=(apart_looks (t:=t) (later_apart' h hS ho hi hk' (by omega) hSk)).2.1 ht
    rw[put_other _ (by rw[dstOf_some hk'];exact this)]
    exact ih (by omega)
   · exact ih (by omega)
 have:=down (ops.size - i) (by omega)
 rw[show i+(ops.size - i)=ops.size by omega] at this
 rw[this,up i (Nat.le_refl _)]
omit hp in
theorem regsOf_put' : regsOf ops rs vs (fun k=>if k=i then true else S k) ops.size=(regsOf ops rs vs S ops.size).put (dstOf ops i) (vs i):=by
 have hlt:i<ops.size:=(Array.getElem?_eq_some_iff.1 ho).1
 have up:∀ k,k≤i→regsOf ops rs vs (fun k=>if k=i then true else S k) k=regsOf ops rs vs S k:=by
  intro k
  induction k with
  | zero=>intro _;rfl
  | succ k ih =>
   intro hk
   unfold regsOf
   rw[ih (by omega),if_neg (show ¬ k=i by omega)]
 have down:∀ d,i+1+d≤ops.size→regsOf ops rs vs (fun k=>if k=i then true else S k) (i+1+d)=(regsOf ops rs vs S (i+1+d)).put (dstOf ops i) (vs i):=by
  intro d
  induction d with
  | zero =>
   intro _
   show regsOf ops rs vs (fun k=>if k=i then true else S k) (i+1)=_
   rw[regsOf,if_pos (by simp),up i (Nat.le_refl _)]
   show _=(regsOf ops rs vs S (i+1)).put _ _
   rw[regsOf,if_neg (by simp [hi])]
  | succ d ih =>
   intro hd
   show regsOf ops rs vs (fun k=>if k=i then true else S k) (i+1+d+1)=(regsOf ops rs vs S (i+1+d+1)).put _ _
   rw[regsOf,regsOf,ih (by omega),if_neg (show ¬ i+1+d=i by omega)]
   split
   ·
    rename_i hSk
    have hk':ops[i+1+d]?=some ops[i+1+d]:=Array.getElem?_eq_getElem (by omega)
    have:=(apart_looks (t:=0) (later_apart' h hS ho hi hk' (by omega) hSk)).2.2
    rw[dstOf_some ho,dstOf_some hk']
    cases h1:o.dst with
    | none=>rfl
    | some a =>
     cases h2:(ops[i+1+d]).dst with
     | none=>rfl
     | some b =>
      have hne:a≠b:=fun e=>this a h1 (by rw[h2,e])
      simp only [Regs.put]
      congr 1
      funext t
      by_cases e1:t=b
      · rw[if_pos e1,if_pos e1,if_neg (fun e2=>hne (e2.symm.trans e1))]
      · rw[if_neg e1,if_neg e1]
   · rfl
 have:=down (ops.size - (i+1)) (by omega)
 rw[show i+1+(ops.size - (i+1))=ops.size by omega] at this
 exact this
end

/-- What is asked of a row, once: those of nm are new blocks. -/
def drawOkN (P:Program) (ops:Array Oper) (nm:Nat→Bool):Bool :=
 backs ops && ((List.range ops.size).all fun j=>(List.range j).all fun i=>ahead (masks ops.toList []) j i || (apartAt ops i j && (stillAt P ops i || stillAt P ops j || nm j)))
/-- A row as it is run from the first to the last, new blocks under names of their own. -/
structure RunN (P:Program) (E:TypeId→Bool) (ops:Array Oper) (nm:Nat→Bool) (base:Nat) (rs:Nat→Regs) (Hs:Nat→Heap) (vs:Nat→Value) (Bs:Nat→Option Blk):Prop where
 step:∀ i,i<ops.size→nm i=false→Stp P E ops i (rs i) (Hs i) (vs i) (Hs (i+1))
 made:∀ i,i<ops.size→nm i=true→stillAt P ops i=false∧∃ o,ops[i]?=some o∧dstOk (rs i).n o.dst=true∧((wants ops (rs i) o=some false∧vs i=undef∧Bs i=none∧Hs (i+1)=Hs i) ∨
  (wants ops (rs i) o=some true∧∃ B,freshAt P (rs i) (base+i) o=some (vs i,B)∧Bs i=some B∧Hs (i+1)=(Hs i).set (base+i) (some B)))
 put:∀ i,i<ops.size→rs (i+1)=(rs i).put (dstOf ops i) (vs i)
 ok:drawOkN P ops nm=true
 dyn:∀ i j,i<ops.size→j<ops.size→stillAt P ops i=true→stillAt P ops j=false→ahead (masks ops.toList []) i j=false→ahead (masks ops.toList []) j i=false →
  ∀ o b,ops[i]?=some o→wants ops (rs i) o=some true→rdB P (rs i) o=some b→(Hs (j+1)).blk b=(Hs j).blk b
 own:∀ i j,i<ops.size→j<ops.size→stillAt P ops i=true→nm j=true→ahead (masks ops.toList []) i j=true→∀ o b,ops[i]?=some o→wants ops (rs i) o=some true→rdB P (rs i) o=some b→b≠base+j
variable {nm : Nat → Bool} {base : Nat} {Bs : Nat → Option Blk}
namespace RunN
variable (h : RunN P E ops nm base rs Hs vs Bs)
include h
theorem pair3 {i j:Nat} (hj:j<ops.size) (hij:i<j):ahead (masks ops.toList []) j i=true∨(apartAt ops i j=true∧(stillAt P ops i=true∨stillAt P ops j=true∨nm j=true)):=by
 have:=h.ok
 unfold drawOkN at this
 simp only [Bool.and_eq_true,List.all_eq_true,List.mem_range,Bool.or_eq_true] at this
 rcases this.2 j hj i hij with h1 | ⟨h1,(h2 | h2) | h2⟩
 · exact .inl h1
 · exact .inr ⟨h1,.inl h2⟩
 · exact .inr ⟨h1,.inr (.inl h2)⟩
 · exact .inr ⟨h1,.inr (.inr h2)⟩
theorem base_ : Base ops rs vs where
 backs':=by have:=h.ok;unfold drawOkN at this;simp only [Bool.and_eq_true] at this;exact this.1
 pair:=fun hj hij=>(h.pair3 hj hij).imp id And.left
 put:=h.put
theorem back_lt {i j:Nat} {o:Oper} (ho:ops[i]?=some o) (ha:ahead (masks ops.toList []) i j=true):j<i:=by
 have key:∀ i j o,ops[i]?=some o→ahead (masks ops.toList []) i j=true→j<i:=by
  intro i
  induction i using Nat.strongRecOn with
  | _ i ih =>
   intro j o ho ha
   obtain⟨e,h1,h2,h3⟩:=ahead_step h.base_.backs' ho ha
   have hlt:=backs_spec h.base_.backs' ho h1 h2
   rcases h3 with rfl | h3
   · exact hlt
   ·
    have hi:i<ops.size:=(Array.getElem?_eq_some_iff.1 ho).1
    have:=ih e.on hlt j _ (Array.getElem?_eq_getElem (by omega)) h3
    omega
 exact key i j o ho ha
theorem nEq : ∀ i,i≤ops.size→(rs i).n=(rs 0).n
 | 0,_=>rfl
 | i+1,hi=>by rw[h.put i (by omega),Regs.put_n,nEq i (by omega)]
theorem heap_still {i:Nat} (hi:i<ops.size) (hn:nm i=false) (hs:stillAt P ops i=true):Hs (i+1)=Hs i:=by
 obtain⟨o,h1,h2,h3⟩:=h.step i hi hn
 rcases h3 with⟨_,_,h3⟩ | ⟨_,h3⟩
 · exact h3
 ·
  have:still P o=true:=by simpa [stillAt,h1] using hs
  exact(still_opEv this h3 fun _ _=>rfl).1
theorem still_nm {i:Nat} (hi:i<ops.size) (hs:stillAt P ops i=true):nm i=false:=by
 cases hn:nm i with
 | false=>rfl
 | true=>have:=(h.made i hi hn).1;rw[hs] at this;cases this
end RunN
/-- The state of the given machine, while a drawn row is run. -/
structure SB (ops:Array Oper) (nm:Nat→Bool) (base:Nat) (rs:Nat→Regs) (Hs:Nat→Heap) (vs:Nat→Value) (Bs:Nat→Option Blk) (ι0:Map) (H0:Heap) (w0:World) (listed:Array Bool) (m:Nat) (a:Act) (w:World) (ι:Map):Prop where
 r:R ι (Hs m) w
 regs:RegR ι (regsOf ops rs vs (member listed) ops.size) a.tmps
 defers:a.defers = []
 step:Step ι0 H0 w0 ι (Hs m) w
 room:base+ops.size≤(Hs m).next
 low:H0.next≤base
 names:∀ j,j<ops.size→nm j=true→m≤j→(Hs m).blk (base+j)=none∧(member listed j=false∨Bs j=none→ι (base+j)=none)∧(member listed j=true→∀ B,Bs j=some B→Pend ι (Hs m) w w0 (base+j) B)
 two:∀ j k L L',j<ops.size→k<ops.size→nm j=true→nm k=true→m≤j→m≤k→j≠k→ι (base+j)=some L→ι (base+k)=some L'→L.blk≠L'.blk
/-- Where a drawn row stands. -/
structure Stands2 (P:Program) (ops:Array Oper) (nm:Nat→Bool) (base:Nat) (rs:Nat→Regs) (Hs:Nat→Heap) (vs:Nat→Value) (Bs:Nat→Option Blk) (ι0:Map) (H0:Heap) (w0:World) (listed:Array Bool) (m:Nat) (a:Act) (w:World):Prop where
 size:listed.size=ops.size
 down:Down ops (member listed)
 le:m≤ops.size
 effs:∀ j,j<ops.size→stillAt P ops j=false→nm j=false→(member listed j=true ↔ j<m)
 nmd:∀ j,j<m→nm j=true→member listed j=true
 st:∃ ι,SB ops nm base rs Hs vs Bs ι0 H0 w0 listed m a w ι
variable {ι0 : Map} {H0 : Heap} {w0 : World} {listed : Array Bool} {m : Nat} {a : Act} {w : World}
theorem Stands2.adv (hr:RunN P E ops nm base rs Hs vs Bs) (h:Stands2 P ops nm base rs Hs vs Bs ι0 H0 w0 listed m a w) (hm:m<ops.size) (hc:stillAt P ops m=true∨(nm m=true∧member listed m=true)):Stands2 P ops nm base rs Hs vs Bs ι0 H0 w0 listed (m+1) a w:=by
 have heffs:∀ j,j<ops.size→stillAt P ops j=false→nm j=false→(member listed j=true ↔ j<m+1):=fun j hj hs hn=>by
  rw[h.effs j hj hs hn]
  have hne:j≠m:=fun e=>by
   subst e
   rcases hc with hc | ⟨hc,_⟩
   · rw[hs] at hc;cases hc
   · rw[hn] at hc;cases hc
  omega
 have same:Hs (m+1)=Hs m→(nm m=true→member listed m=true)→Stands2 P ops nm base rs Hs vs Bs ι0 H0 w0 listed (m+1) a w:=fun e hl=>by
  refine⟨h.size,h.down,hm,heffs,fun j hj hn=>?_,?_⟩
  ·
   by_cases e2:j=m
   · subst e2;exact hl hn
   · exact h.nmd j (by omega) hn
  ·
   obtain⟨ι,q1,q2,q3,q4,q5,q6,q7,q8⟩:=h.st
   exact⟨ι,by rw[e];exact q1,q2,q3,by rw[e];exact q4,by rw[e];exact q5,q6,fun j hj hn hmj=>by rw[e];exact q7 j hj hn (by omega),fun j k L L' a1 a2 a3 a4 a5 a6=>q8 j k L L' a1 a2 a3 a4 (by omega) (by omega)⟩
 cases hn:nm m with
 | false =>
  have hs:stillAt P ops m=true:=hc.resolve_right (fun x=>by rw[hn] at x;exact absurd x.1 (by simp))
  exact same (hr.heap_still hm hn hs) (fun x=>by rw[hn] at x;cases x)
 | true =>
  have hl:member listed m=true:=by
   rcases hc with hc | hc
   · have:=(hr.made m hm hn).1;rw[hc] at this;cases this
   · exact hc.2
  obtain⟨_,o,h1,h2,h3⟩:=hr.made m hm hn
  rcases h3 with⟨_,_,_,h3⟩ | ⟨_,B,_,h3,h4⟩
  · exact same h3 (fun _=>hl)
  ·
   refine⟨h.size,h.down,hm,heffs,fun j hj hn'=>?_,?_⟩
   ·
    by_cases e2:j=m
    · subst e2;exact hl
    · exact h.nmd j (by omega) hn'
   ·
    obtain⟨ι,q1,q2,q3,q4,q5,q6,q7,q8⟩:=h.st
    have hp:=(q7 m hm hn (Nat.le_refl _)).2.2 hl B h3
    refine⟨ι,by rw[h4];exact q1.real hp (by omega),q2,q3,by rw[h4];exact q4.real hp,by rw[h4];exact q5,q6,fun j hj hn' hmj=>?_,fun j k L L' a1 a2 a3 a4 a5 a6=>q8 j k L L' a1 a2 a3 a4 (by omega) (by omega)⟩
    rw[h4]
    obtain⟨r1,r2,r3⟩:=q7 j hj hn' (by omega)
    refine⟨?_,r2,fun hlj B' hB'=>?_⟩
    · simp only [Heap.set];rw[if_neg (by omega)];exact r1
    ·
     obtain⟨L,p1,p2,p3,p4,p5⟩:=r3 hlj B' hB'
     refine⟨L,p1,p2,p3,p4,fun b B1 L1 hb hl1=>?_⟩
     simp only [Heap.set] at hb
     split at hb
     ·
      rename_i e
      rw[e] at hl1
      exact q8 m j L1 L hm hj hn hn' (Nat.le_refl _) (by omega) (by omega) hl1 p1
     · exact p5 b B1 L1 hb hl1
theorem Stands2.advTo (hr:RunN P E ops nm base rs Hs vs Bs):∀ (d m:Nat),Stands2 P ops nm base rs Hs vs Bs ι0 H0 w0 listed m a w→m+d≤ops.size→(∀ j,m≤j→j<m+d→stillAt P ops j=true∨(nm j=true∧member listed j=true))→Stands2 P ops nm base rs Hs vs Bs ι0 H0 w0 listed (m+d) a w
 | 0,m,h,_,_=>h
 | d+1,m,h,hd,hj=>by
  have:=Stands2.advTo hr d m h (by omega) fun j a b=>hj j a (by omega)
  exact this.adv hr (show m+d<ops.size by omega) (hj (m+d) (by omega) (by omega))
/-- An operation that is none of the new blocks: what it leaves. -/
theorem Stands2.after (h:Stands2 P ops nm base rs Hs vs Bs ι0 H0 w0 listed m a w) {ι:Map} (hb:SB ops nm base rs Hs vs Bs ι0 H0 w0 listed m a w ι) {i:Nat} {m':Nat} {a':Act} {w':World} (hin:i<listed.size) (hdown:Down ops (member (listed.setIfInBounds i true))) (hle:m'≤ops.size) (hmm:m≤m')
  (hni:nm i=false) (heffs:∀ j,j<ops.size→stillAt P ops j=false→nm j=false→(member (listed.setIfInBounds i true) j=true ↔ j<m')) (hnmd:∀ j,j<m'→nm j=true→member listed j=true)
  (hst:St ι (Hs m) w (regsOf ops rs vs (member (listed.setIfInBounds i true)) ops.size) (Hs m') a' w') :
  Stands2 P ops nm base rs Hs vs Bs ι0 H0 w0 (listed.setIfInBounds i true) m' a' w':=by
 have hset:=member_set (i:=i) hin
 obtain⟨q1,q2,q3,q4,q5,q6,q7,q8⟩:=hb
 obtain⟨ι',p1,p2,p3,p4⟩:=hst
 refine⟨by simp [h.size],hdown,hle,heffs,fun j hj hn=>?_,ι',p1,p2,p3,q4.trans p4,Nat.le_trans q5 p4.next,q6,fun j hj hn hmj=>?_,fun j k L L' a1 a2 a3 a4 a5 a6 a7 a8 a9=>?_⟩
 ·
  rw[hset];simp only;split
  · rfl
  · exact hnmd j hj hn
 ·
  obtain⟨r1,r2,r3⟩:=q7 j hj hn (by omega)
  have hne:j≠i:=fun e=>by rw[e,hni] at hn;cases hn
  have hmem:member (listed.setIfInBounds i true) j=member listed j:=by rw[hset];simp only [if_neg hne]
  rw[hmem]
  have hnone:∀ L,ι' (base+j)=some L→ι (base+j)=some L:=fun L hL=>p4.was (by omega) hL
  refine⟨?_,fun hl=>?_,fun hl B hB=>(r3 hl B hB).step p1 q1 p4⟩
  ·
   cases hb:(Hs m').blk (base+j) with
   | none=>rfl
   | some B' =>
    exfalso
    obtain⟨L,hL,_⟩:=p1.live _ _ hb
    have hL':=hnone L hL
    cases hl:member listed j with
    | false=>rw[r2 (.inl hl)] at hL';cases hL'
    | true =>
     cases hB:Bs j with
     | some B=>rw[(r3 hl B hB).gone p1 q1 p4] at hb;cases hb
     | none=>rw[r2 (.inr hB)] at hL';cases hL'
  ·
   cases hc:ι' (base+j) with
   | none=>rfl
   | some L=>have:=hnone L hc;rw[r2 hl] at this;cases this
 · exact q8 j k L L' a1 a2 a3 a4 (by omega) (by omega) a7 (p4.was (by omega) a8) (p4.was (by omega) a9)
theorem Stands2.next (hE:EqOk P E) (hr:RunN P E ops nm base rs Hs vs Bs) (h:Stands2 P ops nm base rs Hs vs Bs ι0 H0 w0 listed m a w) {i:Nat} (hi:i ∈ Region.ready .any ops listed)
  {K:Act→World→Prop} {Q:Exit→Act→World→Prop} (hK:∀ m' a' w',Stands2 P ops nm base rs Hs vs Bs ι0 H0 w0 (listed.setIfInBounds i true) m' a' w'→K a' w'):wpOp P ops Q i K a w:=by
 obtain⟨hun,o,ho,hpre⟩:=mem_ready.1 hi
 have hlt:i<ops.size:=(Array.getElem?_eq_some_iff.1 ho).1
 have hin:i<listed.size:=by rw[h.size];exact hlt
 have hun':member listed i=false:=by
  simp only [Array.getD_eq_getD_getElem?,member,Array.getElem?_eq_getElem hin] at hun ⊢
  exact hun
 have hp:∀ e ∈ o.after,Region.binds .any e=true→member listed e.on=true:=fun e he hb=>hpre e he hb
 have hlook:∀ t ∈ o.looksAt ops,(regsOf ops rs vs (member listed) ops.size).f t=(rs i).f t:=fun t ht=>regsOf_looks' hr.base_ h.down ho hun' hp ht
 have hset:=member_set (i:=i) hin
 have hdown:Down ops (member (listed.setIfInBounds i true)):=by
  intro k ok hk hok e he hb
  rw[hset] at hk ⊢
  simp only at hk ⊢
  split
  · rfl
  ·
   by_cases e1:k=i
   ·
    subst e1
    rw[ho] at hok;cases hok
    exact hp e he hb
   ·
    rw[if_neg e1] at hk
    exact h.down k ok hk hok e he hb
 have hput:=regsOf_put' hr.base_ h.down ho hun' (rs:=rs) (vs:=vs)
 cases hni:nm i with
 | true =>
  -- a new block
  have hmi:m≤i:=by
   rcases Nat.lt_or_ge i m with hc | hc
   · have:=h.nmd i hc hni;rw[hun'] at this;cases this
   · exact hc
  obtain⟨hst,o',q1,q2,q3⟩:=hr.made i hlt hni
  rw[ho] at q1
  cases q1
  have hn:dstOk (regsOf ops rs vs (member listed) ops.size).n o.dst=true:=by rw[regsOf_n,← hr.nEq i (by omega)];exact q2
  have hd:dstOf ops i=o.dst:=dstOf_some ho
  obtain⟨ι,p1,p2,p3,p4,p5,p6,p7,p8⟩:=h.st
  have heffs:∀ j,j<ops.size→stillAt P ops j=false→nm j=false→(member (listed.setIfInBounds i true) j=true ↔ j<m):=fun j hj hs hn'=>by
   rw[hset]
   simp only
   rw[if_neg (fun e=>by rw[e,hni] at hn';cases hn')]
   exact h.effs j hj hs hn'
  have hnmd:∀ j,j<m→nm j=true→member (listed.setIfInBounds i true) j=true:=fun j hj hn'=>by
   rw[hset];simp only;split
   · rfl
   · exact h.nmd j hj hn'
  have hmem:∀ j,j≠i→member (listed.setIfInBounds i true) j=member listed j:=fun j hne=>by rw[hset];simp only [if_neg hne]
  have hmemi:member (listed.setIfInBounds i true) i=true:=by rw[hset];simp
  unfold wpOp
  simp only [ho]
  rcases q3 with⟨q3,q4,q5,_⟩ | ⟨q3,B,q4,q5,_⟩
  ·
   rw[← looks_wants hlook] at q3
   rw[wants_run q3 p2]
   simp only [Bool.false_eq_true,if_false]
   refine hK m _ _ ⟨by simp [h.size],hdown,h.le,heffs,hnmd,ι,p1,?_,(put_defers _ _ _).trans p3,p4,p5,p6,fun j hj hn' hmj=>?_,p8⟩
   · rw[hset,hput,hd,q4];exact p2.put hn .undef
   ·
    obtain⟨r1,r2,r3⟩:=p7 j hj hn' hmj
    by_cases e:j=i
    ·
     subst e
     refine⟨r1,fun _=>r2 (.inl hun'),fun _ B hB=>by rw[q5] at hB;cases hB⟩
    · rw[hmem j e];exact⟨r1,r2,r3⟩
  ·
   rw[← looks_wants hlook] at q3
   rw[wants_run q3 p2]
   simp only [if_true]
   have q4':freshAt P (regsOf ops rs vs (member listed) ops.size) (base+i) o=some (vs i,B):=by
    rw[← q4]
    have hop:=looks_oper hlook
    unfold freshAt
    split
    · rfl
    ·
     rename_i t len ps hop2
     rw[partsV_congr (l:=ps.toList) fun x hx=>hop x.2 (by rw[hop2];simp only [Op.operands];simp;exact⟨x.1,by simpa using hx⟩)]
    · rfl
   obtain⟨v',C,el,s1,s2,s3,s4,s5⟩:=freshAt_does p2 q4' w
   obtain⟨r1,r2,_⟩:=p7 i hlt hni hmi
   have hin0:=r2 (.inl hun')
   have hold:∀ c,c<w.heap.size→(w.heap.push (.cells C el (0,0)))[c]?=w.heap[c]?:=fun c hc=>by rw[Array.getElem?_push,if_neg (by omega)]
   have hnew:(w.heap.push (.cells C el (0,0)))[w.heap.size]?=some (.cells C el (0,0)):=by simp
   have hle:ι.le (ι.set (base+i) ⟨w.heap.size,0,B.esz,C.size⟩):=fun b L' hb'=>by
    simp only [Map.set]
    rw[if_neg (fun e=>by rw[e,hin0] at hb';cases hb')]
    exact hb'
   have hCl:C.size=B.cells.length:=by have:=s3.1;simpa using this.symm
   have hind:∀ b B' L',(Hs m).blk b=some B'→ι b=some L'→L'.blk<w.heap.size:=fun b B' L' hb hl=>by
    obtain⟨L2,hL2,hbr⟩:=p1.live b B' hb
    rw[hl] at hL2
    cases hL2
    exact hbr.lt
   refine .inl ?_
   unfold Oper.wp
   rw[s1]
   refine hK m _ _ ⟨by simp [h.size],hdown,h.le,heffs,hnmd,ι.set (base+i) ⟨w.heap.size,0,B.esz,C.size⟩,p1.push (by omega) hin0 r1 hold,?_,(put_defers _ _ _).trans p3,p4.push (by omega) hin0 r1 hold rfl rfl rfl (by simp),p5,p6,fun j hj hn' hmj=>?_,?_⟩
   ·
    rw[hset,hput,hd]
    exact(p2.mono hle).put hn (s2 _ (by simp [Map.set]))
   ·
    obtain⟨t1,t2,t3⟩:=p7 j hj hn' hmj
    by_cases e:j=i
    ·
     subst e
     refine⟨t1,fun hc=>?_,fun _ B' hB'=>?_⟩
     ·
      rcases hc with hc | hc
      · rw[hmemi] at hc;cases hc
      · rw[q5] at hc;cases hc
     ·
      rw[q5] at hB'
      cases hB'
      refine⟨⟨w.heap.size,0,B.esz,C.size⟩,by simp [Map.set],⟨rfl,fun _ _=>rfl,fun _=>by simp only;omega,fun _ _=>by simp only;omega,fun hm=>by simp [Blk.isMap,s5] at hm,fun _=>⟨C,el,0,0,hnew,by simp only;omega,fun k v hv=>?_,fun _=>⟨by simp,.inl rfl⟩⟩⟩,by simp only;exact p4.size,s4,fun b B1 L1 hb hl1=>?_⟩
      ·
       obtain⟨y,y1,y2⟩:=s3.get (i:=k) (x:=v) (by rw[List.getElem?_toArray];exact hv)
       exact⟨y,by simpa using y1,y2.mono hle⟩
      ·
       simp only [Map.set] at hl1
       rw[if_neg (fun e=>by rw[e,r1] at hb;cases hb)] at hl1
       have:=hind b B1 L1 hb hl1
       simp only
       omega
    ·
     rw[hmem j e]
     refine⟨t1,fun hc=>?_,fun hl B' hB'=>(t3 hl B' hB').push hin0 r1 hold⟩
     simp only [Map.set]
     rw[if_neg (by omega)]
     exact t2 hc
   ·
    intro j k L L' a1 a2 a3 a4 a5 a6 a7 a8 a9
    have lt:∀ j,j<ops.size→nm j=true→m≤j→j≠i→∀ L,ι (base+j)=some L→L.blk<w.heap.size:=fun j hj hn' hmj e L hL=>by
     obtain⟨t1,t2,t3⟩:=p7 j hj hn' hmj
     cases hl:member listed j with
     | false=>rw[t2 (.inl hl)] at hL;cases hL
     | true =>
      cases hB:Bs j with
      | none=>rw[t2 (.inr hB)] at hL;cases hL
      | some B' =>
       obtain⟨L2,y1,y2,_⟩:=t3 hl B' hB
       rw[hL] at y1
       cases y1
       exact y2.lt
    simp only [Map.set] at a8 a9
    by_cases e1:j=i
    ·
     rw[if_pos (by omega)] at a8
     cases a8
     rw[if_neg (by omega)] at a9
     have:=lt k a2 a4 a6 (by omega) L' a9
     simp only
     omega
    ·
     rw[if_neg (by omega)] at a8
     by_cases e2:k=i
     ·
      rw[if_pos (by omega)] at a9
      cases a9
      have:=lt j a1 a3 a5 e1 L a8
      simp only
      omega
     ·
      rw[if_neg (by omega)] at a9
      exact p8 j k L L' a1 a2 a3 a4 a5 a6 a7 a8 a9
 | false =>
  obtain⟨o',q1,q2,q3⟩:=hr.step i hlt hni
  rw[ho] at q1
  cases q1
  have hn:dstOk (regsOf ops rs vs (member listed) ops.size).n o.dst=true:=by rw[regsOf_n,← hr.nEq i (by omega)];exact q2
  by_cases hst:stillAt P ops i=true
  ·
   -- still
   have hso:still P o=true:=by simpa [stillAt,ho] using hst
   have hother:∀ j,j<ops.size→nm j=true→∀ B,Bs j=some B→∀ b,b≠base+j→(Hs (j+1)).blk b=(Hs j).blk b:=fun j hj hn' B hB b hb=>by
    obtain⟨_,oj,_,_,hc⟩:=hr.made j hj hn'
    rcases hc with⟨_,_,hc,_⟩ | ⟨_,B',_,_,hc⟩
    · rw[hB] at hc;cases hc
    · rw[hc];simp only [Heap.set];rw[if_neg hb]
   have hskip:∀ j,j<ops.size→nm j=true→Bs j=none→Hs (j+1)=Hs j:=fun j hj hn' hB=>by
    obtain⟨_,oj,_,_,hc⟩:=hr.made j hj hn'
    rcases hc with⟨_,_,_,hc⟩ | ⟨_,B',_,hc,_⟩
    · exact hc
    · rw[hB] at hc;cases hc
   have one:∀ b,wants ops (rs i) o=some true→rdB P (rs i) o=some b→∀ j,j<ops.size→((j<m∧i≤j)∨(m≤j∧j<i))→(Hs (j+1)).blk b=(Hs j).blk b:=by
    intro b hw hb j hj hjj
    by_cases hsj:stillAt P ops j=true
    · rw[hr.heap_still hj (hr.still_nm hj hsj) hsj]
    ·
     have hsj:stillAt P ops j=false:=by simpa using hsj
     have hok:ops[j]?=some ops[j]:=Array.getElem?_eq_getElem hj
     cases h1:ahead (masks ops.toList []) i j with
     | false =>
      cases h2:ahead (masks ops.toList []) j i with
      | false=>exact hr.dyn i j hlt hj hst hsj h1 h2 o b ho hw hb
      | true =>
       exfalso
       have hlj:member listed j=false:=by
        cases hc:member listed j with
        | false=>rfl
        | true =>
         have:=ahead_in hr.base_.backs' h.down j i _ hok (fun e he hb'=>h.down j _ hc hok e he hb') h2
         rw[hun'] at this;cases this
       rcases hjj with⟨hjm,_⟩ | ⟨_,hji⟩
       ·
        cases hnj:nm j with
        | true=>have:=h.nmd j hjm hnj;rw[hlj] at this;cases this
        | false=>have:=(h.effs j hj hsj hnj).2 hjm;rw[hlj] at this;cases this
       · have:=hr.back_lt hok h2;omega
     | true =>
      have hlj:=ahead_in hr.base_.backs' h.down i j o ho hp h1
      have hjlt:=hr.back_lt ho h1
      rcases hjj with⟨_,hij⟩ | ⟨hmj,_⟩
      · omega
      ·
       cases hnj:nm j with
       | false=>have:=(h.effs j hj hsj hnj).1 hlj;omega
       | true =>
        cases hB:Bs j with
        | none=>rw[hskip j hj hnj hB]
        | some B=>exact hother j hj hnj B hB b (hr.own i j hlt hj hst hnj h1 o b ho hw hb)
   have hstp:Stp P E ops i (regsOf ops rs vs (member listed) ops.size) (Hs m) (vs i) (Hs m):=by
    refine⟨o,ho,hn,?_⟩
    rw[looks_wants hlook]
    rcases q3 with⟨q3,q4,_⟩ | ⟨q3,q4⟩
    · exact .inl ⟨q3,q4,rfl⟩
    ·
     refine .inr ⟨q3,(still_opEv hso q4 (looks_oper hlook)).2 (Hs m) fun b hb=>?_⟩
     rcases Nat.lt_trichotomy i m with him | him | him
     · exact Run.blk_same (ops:=ops) m i (by omega) h.le fun j hj1 hj2=>one b q3 hb j (by have:=h.le;omega) (.inl ⟨hj2,hj1⟩)
     · rw[him]
     · exact(Run.blk_same (ops:=ops) i m (by omega) (by omega) fun j hj1 hj2=>one b q3 hb j (by omega) (.inr ⟨hj1,hj2⟩)).symm
   obtain⟨ι,hb⟩:=h.st
   refine hstp.wp hE ⟨ι,hb.r,hb.regs,hb.defers,.refl _ _ _⟩ fun a' w' hs'=>hK m a' w' (h.after hb hin hdown h.le (Nat.le_refl _) hni (fun j hj hsj hnj=>?_) h.nmd ?_)
   ·
    rw[hset]
    have hne:j≠i:=fun e=>by rw[e,hst] at hsj;cases hsj
    simp only [if_neg hne]
    exact h.effs j hj hsj hnj
   ·
    rw[hset,hput]
    exact hs'
  ·
   -- it acts
   have hst:stillAt P ops i=false:=by simpa using hst
   have hmi:m≤i:=by
    rcases Nat.lt_or_ge i m with hc | hc
    ·
     have:=(h.effs i hlt hst hni).2 hc
     rw[hun'] at this;cases this
    · exact hc
   have hbetw:∀ j,m≤j→j<m+(i - m)→stillAt P ops j=true∨(nm j=true∧member listed j=true):=by
    intro j hj1 hj2
    have hji:j<i:=by omega
    cases hsj:stillAt P ops j with
    | true=>exact .inl rfl
    | false =>
     have hl:member listed j=true:=by
      rcases hr.pair3 hlt hji with hc | ⟨_,hc⟩
      · exact ahead_in hr.base_.backs' h.down i j o ho hp hc
      ·
       rcases hc with hc | hc | hc
       · rw[hsj] at hc;cases hc
       · rw[hst] at hc;cases hc
       · rw[hni] at hc;cases hc
     cases hnj:nm j with
     | true=>exact .inr ⟨rfl,hl⟩
     | false=>have:=(h.effs j (by omega) hsj hnj).1 hl;omega
   have h2:=Stands2.advTo hr (i - m) m h (by omega) hbetw
   rw[show m+(i - m)=i by omega] at h2
   have hstp:Stp P E ops i (regsOf ops rs vs (member listed) ops.size) (Hs i) (vs i) (Hs (i+1)):=by
    refine⟨o,ho,hn,?_⟩
    rw[looks_wants hlook]
    rcases q3 with⟨q3,q4,q5⟩ | ⟨q3,q4⟩
    · exact .inl ⟨q3,q4,q5⟩
    · exact .inr ⟨q3,q4.congr (looks_oper hlook)⟩
   obtain⟨ι,hb⟩:=h2.st
   refine hstp.wp hE ⟨ι,hb.r,hb.regs,hb.defers,.refl _ _ _⟩ fun a' w' hs'=>hK (i+1) a' w' (h2.after hb hin hdown hlt (by omega) hni (fun j hj hsj hnj=>?_) (fun j hj hnj=>?_) ?_)
   ·
    rw[hset]
    by_cases e:j=i
    · subst e;simp
    ·
     simp only [if_neg e]
     rw[h2.effs j hj hsj hnj]
     omega
   ·
    by_cases e:j=i
    · rw[e,hni] at hnj;cases hnj
    · exact h2.nmd j (by omega) hnj
   ·
    rw[hset,hput]
    exact hs'
theorem Stands2.wp (hE:EqOk P E) (hr:RunN P E ops nm base rs Hs vs Bs) {Q:Exit→Act→World→Prop} (hQ:∀ a w,St ι0 H0 w0 (rs ops.size) (Hs ops.size) a w→Q .normal a w) :
  ∀ (fuel:Nat) {listed:Array Bool} {m:Nat} {a:Act} {w:World},left listed ops.size=fuel→Stands2 P ops nm base rs Hs vs Bs ι0 H0 w0 listed m a w→wpAny P .any ops Q fuel listed a w:=by
 have fin:∀ {listed:Array Bool} {m:Nat} {a:Act} {w:World},Stands2 P ops nm base rs Hs vs Bs ι0 H0 w0 listed m a w→(∀ i,i<ops.size→member listed i=true)→Q .normal a w:=by
  intro listed m a w h hall
  have h1:∀ k,k≤ops.size→regsOf ops rs vs (member listed) k=rs k:=by
   intro k
   induction k with
   | zero=>intro _;rfl
   | succ k ih =>
    intro hk
    rw[regsOf,if_pos (hall k (by omega)),ih (by omega),hr.put k (by omega)]
  have h2:=Stands2.advTo hr (ops.size - m) m h (by have:=h.le;omega) fun j hj1 hj2=>by
   have hj:j<ops.size:=by have:=h.le;omega
   cases hs:stillAt P ops j with
   | true=>exact .inl rfl
   | false =>
    cases hnj:nm j with
    | true=>exact .inr ⟨rfl,hall j hj⟩
    | false=>have:=(h.effs j hj hs hnj).1 (hall j hj);omega
  rw[show m+(ops.size - m)=ops.size by have:=h.le;omega] at h2
  obtain⟨ι,hb⟩:=h2.st
  have:=hb.regs
  rw[h1 _ (Nat.le_refl _)] at this
  exact hQ a w ⟨ι,hb.r,this,hb.defers,hb.step⟩
 intro fuel
 induction fuel with
 | zero =>
  intro listed m a w hl h
  refine⟨?_,fin h (left_zero hl)⟩
  cases hrd:Region.ready .any ops listed with
  | nil=>rfl
  | cons i rest =>
   have hi:i ∈ Region.ready .any ops listed:=by rw[hrd];simp
   obtain⟨hun,o,ho,_⟩:=mem_ready.1 hi
   have hlt:i<ops.size:=(Array.getElem?_eq_some_iff.1 ho).1
   have:=left_zero hl i hlt
   simp only [Array.getD_eq_getD_getElem?,member,Array.getElem?_eq_getElem (show i<listed.size by rw[h.size];exact hlt),Option.getD_some] at hun this
   rw[hun] at this;cases this
 | succ fuel ih =>
  intro listed m a w hl h
  refine⟨fun hrd=>fin h (none_ready hr.base_.backs' h.size hrd),fun i hi=>?_⟩
  refine h.next hE hr hi fun m' a' w' h'=>ih ?_ h'
  obtain⟨hun,o,ho,_⟩:=mem_ready.1 hi
  have hlt:i<ops.size:=(Array.getElem?_eq_some_iff.1 ho).1
  have hm:member listed i=false:=by
   simp only [Array.getD_eq_getD_getElem?,member,Array.getElem?_eq_getElem (show i<listed.size by rw[h.size];exact hlt)] at hun ⊢
   exact hun
  have:=left_set (n:=ops.size) hlt (by rw[h.size];exact Nat.le_refl _) hm
  omega
/-- Room for names. -/
def Heap.room (H:Heap) (n:Nat):Heap:={ H with next:=H.next+n }
theorem RunN.wp (hE:EqOk P E) (hm:P.follows .mixedOrders=true) {H:Heap} (hH:Hs 0=H.room ops.size) (hb:base=H.next) (hr:RunN P E ops nm base rs Hs vs Bs) {ι0:Map} {H0:Heap} {w0:World} {a:Act} {w:World} (hs:St ι0 H0 w0 (rs 0) H a w) {Q:Exit→Act→World→Prop} (hQ:∀ a w,St ι0 H0 w0 (rs ops.size) (Hs ops.size) a w→Q .normal a w) (id:Nat):(Code.region id ops true).wp P Q a w:=by
 have hmem:∀ i,member (Array.replicate ops.size false) i=false:=by
  intro i
  simp only [member,Array.getD_eq_getD_getElem?,Array.getElem?_replicate]
  split <;> rfl
 obtain⟨ι,q1,q2,q3,q4⟩:=hs
 -- the names are new: seen from here
 have hQ':∀ a' w',St ι H w (rs ops.size) (Hs ops.size) a' w'→Q .normal a' w':=fun a' w' ⟨ι',p1,p2,p3,p4⟩=>hQ a' w' ⟨ι',p1,p2,p3,q4.trans p4⟩
 refine wp_region_any hm (Stands2.wp hE hr hQ' ops.size (m:=0) ?_ ⟨by simp,fun i o hi=>?_,Nat.zero_le _,fun j hj _ _=>?_,fun j hj=>?_,ι,?_,?_,q3,?_,?_,?_,fun j hj hn _=>⟨?_,fun _=>?_,fun hl=>?_⟩,fun j k L L' a1 a2 a3 a4 a5 a6 a7 a8 a9=>?_⟩)
 ·
  unfold left
  have e:∀ n,((List.range n).filter fun i => !member (Array.replicate ops.size false) i).length=n:=by
   intro n
   rw[List.filter_eq_self.2 (fun i _=>by simp [hmem i])]
   simp
  exact e _
 · rw[hmem] at hi;cases hi
 · rw[hmem];simp
 · omega
 ·
  rw[hH]
  exact⟨fun b L hb=>by have:=q1.dom b L hb;simp only [Heap.room];omega,fun b B hb=>let ⟨L,a,c⟩:=q1.live b B hb;⟨L,a,⟨c.esz,c.off,c.len,c.shut,c.mapo,c.obj⟩⟩,q1.apart⟩
 ·
  have e:∀ k,regsOf ops rs vs (member (Array.replicate ops.size false)) k=rs 0:=by
   intro k
   induction k with
   | zero=>rfl
   | succ k ih=>rw[regsOf,if_neg (by simp [hmem]),ih]
  rw[e];exact q2
 ·
  rw[hH]
  exact⟨.refl ι,by simp [Heap.room],rfl,rfl,rfl,Nat.le_refl _,fun _ _ _=>rfl,fun c h => .inl h,fun _ _ h _=>h,fun _ _ h => .inl h⟩
 · rw[hH,hb];exact Nat.le_refl _
 · omega
 ·
  rw[hH,hb]
  cases hc:(H.room ops.size).blk (H.next+j) with
  | none=>rfl
  | some B =>
   obtain⟨L,hL,_⟩:=q1.live _ _ (show H.blk (H.next+j)=some B from hc)
   have:=q1.dom _ _ hL
   omega
 ·
  cases hc:ι (base+j) with
  | none=>rfl
  | some L=>have:=q1.dom _ _ hc;omega
 · rw[hmem] at hl;cases hl
 · have:=q1.dom _ _ a8;omega
end Go.AM

/- Code: what it does in our memory, and in the given machine. -/
namespace Go.AM
open Go
variable {P : Program} {E : TypeId → Bool}

inductive Ex
 | normal
 | exit (id:Nat)
 | ret
def Ex.out : Ex→Exit
 | .normal => .normal
 | .exit id => .exit id
 | .ret => .ret
inductive Ev (P:Program) (E:TypeId→Bool):Code→Regs→Heap→Ex→Regs→Heap→Prop
 | skip {r H}:Ev P E .skip r H .normal r H
 | label {l r H}:Ev P E (.label l) r H .normal r H
 | exit {id r H}:Ev P E (.exit id) r H (.exit id) r H
 | ret {r H}:Ev P E .ret r H .ret r H
 | region {id ops r H r' H'} (h:awOps P E ops (List.range ops.size) r H fun a b=>a=r'∧b=H'):Ev P E (.region id ops false) r H .normal r' H'
 | drawn {id ops rs Hs vs} (hm:P.follows .mixedOrders=true) (h:Run P E ops rs Hs vs):Ev P E (.region id ops true) (rs 0) (Hs 0) .normal (rs ops.size) (Hs ops.size)
 | drawnN {id ops nm base rs Hs vs Bs H} (hm:P.follows .mixedOrders=true) (hH:Hs 0=H.room ops.size) (hb:base=H.next) (h:RunN P E ops nm base rs Hs vs Bs):Ev P E (.region id ops true) (rs 0) H .normal (rs ops.size) (Hs ops.size)
 | seq {x y r H r1 H1 e r' H'} (h:Ev P E x r H .normal r1 H1) (k:Ev P E y r1 H1 e r' H'):Ev P E (.seq x y) r H e r' H'
 | seqOut {x y r H e r' H'} (h:Ev P E x r H e r' H') (he:e ≠ .normal):Ev P E (.seq x y) r H e r' H'
 | cond {c x y r H t e r' H'} (hc:r.eval c=some (.bool t)) (h:Ev P E (if t then x else y) r H e r' H'):Ev P E (.cond c x y) r H e r' H'
 | block {id c r H r' H'} (h:Ev P E c r H (.exit id) r' H'):Ev P E (.block id c) r H .normal r' H'
 | blockOut {id c r H e r' H'} (h:Ev P E c r H e r' H') (he:e ≠ .exit id):Ev P E (.block id c) r H e r' H'
 | loop {c r H r1 H1 e r' H'} (h:Ev P E c r H .normal r1 H1) (k:Ev P E (.loop c) r1 H1 e r' H'):Ev P E (.loop c) r H e r' H'
 | loopOut {c r H e r' H'} (h:Ev P E c r H e r' H') (he:e ≠ .normal):Ev P E (.loop c) r H e r' H'
/-- A loop that has been entered. -/
def InLoop (P:Program) (c:Code) (Q:Exit→Act→World→Prop) (a:Act) (w:World):Prop :=
 ∀ (b:Frame) (k:List Item) (cs:List Frame),∃ e a' w',Q e a' w'∧Arrives P (lone (b.at a (.code c :: .inLoop c :: k)) cs w) b k cs e a' w'
theorem InLoop.wp {c:Code} {Q:Exit→Act→World→Prop} {a:Act} {w:World} (h:InLoop P c Q a w):(Code.loop c).wp P Q a w :=
 fun b k cs=>let ⟨e,a',w',q,r⟩:=h b k cs;⟨e,a',w',q,.of_steps (.one step_loop) r⟩
theorem InLoop.round {c:Code} {Q:Exit→Act→World→Prop} {a:Act} {w:World} (h:c.wp P (Exit.then (InLoop P c Q) Q) a w):InLoop P c Q a w:=by
 intro b k cs
 obtain⟨e,a₁,w₁,hq,harr⟩:=h b (.inLoop c :: k) cs
 cases e with
 | normal =>
  obtain⟨e₂,a₂,w₂,hq₂,harr₂⟩:=hq b k cs
  exact⟨e₂,a₂,w₂,hq₂,.of_steps (Steps.trans harr (.one step_inLoop)) harr₂⟩
 | exit id=>exact⟨_,a₁,w₁,hq,.pass (x := .inLoop c) rfl (fun _ _ => .inl (by simp)) harr⟩
 | goto l=>exact⟨_,a₁,w₁,hq,.pass (x := .inLoop c) rfl (fun _ _ => .inl (by simp)) harr⟩
 | ret=>exact⟨_,a₁,w₁,hq,.pass (x := .inLoop c) rfl (fun _ _ => .inl (by simp)) harr⟩
 | panic ch=>exact⟨_,a₁,w₁,hq,.pass (x := .inLoop c) rfl (fun _ _ => .inl (by simp)) harr⟩
 | outgrown=>exact⟨_,a₁,w₁,hq,.pass (x := .inLoop c) rfl (fun _ _ => .inl (by simp)) harr⟩
def After (ι0:Map) (H0:Heap) (w0:World) (e:Ex) (r:Regs) (H:Heap):Exit→Act→World→Prop:=fun x a w=>x=e.out∧St ι0 H0 w0 r H a w
theorem Ev.wp (hE:EqOk P E) {ι0:Map} {H0:Heap} {w0:World} {c:Code} {r r':Regs} {H H':Heap} {e:Ex} (h:Ev P E c r H e r' H') :
  (∀ a w,St ι0 H0 w0 r H a w→c.wp P (After ι0 H0 w0 e r' H') a w)∧∀ c0,c = .loop c0→∀ a w,St ι0 H0 w0 r H a w→InLoop P c0 (After ι0 H0 w0 e r' H') a w:=by
 induction h with
 | skip=>exact⟨fun a w hs=>wp_skip ⟨rfl,hs⟩,fun c0 h=>by cases h⟩
 | label=>exact⟨fun a w hs=>wp_label ⟨rfl,hs⟩,fun c0 h=>by cases h⟩
 | exit=>exact⟨fun a w hs=>wp_exit ⟨rfl,hs⟩,fun c0 h=>by cases h⟩
 | ret=>exact⟨fun a w hs=>wp_ret ⟨rfl,hs⟩,fun c0 h=>by cases h⟩
 | region h=>exact⟨fun a w hs=>wp_region (awOps_wp hE (fun r H a w hk hs=>by obtain⟨rfl,rfl⟩:=hk;exact⟨rfl,hs⟩) _ h hs),fun c0 h=>by cases h⟩
 | drawn hm h=>exact⟨fun a w hs=>h.wp hE hm hs (fun a w hs=>⟨rfl,hs⟩) _,fun c0 h=>by cases h⟩
 | drawnN hm hH hb h=>exact⟨fun a w hs=>h.wp hE hm hH hb hs (fun a w hs=>⟨rfl,hs⟩) _,fun c0 h=>by cases h⟩
 | seq h k ih1 ih2 =>
  refine⟨fun a w hs=>wp_seq (wp_mono (ih1.1 a w hs) fun x a' w' hx=>?_),fun c0 h=>by cases h⟩
  obtain⟨rfl,hx⟩:=hx
  exact ih2.1 a' w' hx
 | seqOut h he ih =>
  refine⟨fun a w hs=>wp_seq (wp_mono (ih.1 a w hs) fun x a' w' hx=>?_),fun c0 h=>by cases h⟩
  obtain⟨rfl,hx⟩:=hx
  rename_i e _ _
  cases e with
  | normal=>exact absurd rfl he
  | exit id=>exact⟨rfl,hx⟩
  | ret=>exact⟨rfl,hx⟩
 | cond hc h ih =>
  refine⟨fun a w hs=>?_,fun c0 h=>by cases h⟩
  obtain⟨ι,q1,q2,q3,q4⟩:=hs
  exact wp_cond ((q2.eval hc).bool_inv) (ih.1 a w ⟨ι,q1,q2,q3,q4⟩)
 | block h ih =>
  refine⟨fun a w hs=>wp_block (wp_mono (ih.1 a w hs) fun x a' w' hx=>?_),fun c0 h=>by cases h⟩
  obtain⟨rfl,hx⟩:=hx
  simp only [Ex.out,Exit.inBlock,if_true]
  exact⟨rfl,hx⟩
 | blockOut h he ih =>
  refine⟨fun a w hs=>wp_block (wp_mono (ih.1 a w hs) fun x a' w' hx=>?_),fun c0 h=>by cases h⟩
  obtain⟨rfl,hx⟩:=hx
  rename_i id _ _ _ e _ _
  cases e with
  | normal=>exact⟨rfl,hx⟩
  | exit id' =>
   simp only [Ex.out,Exit.inBlock]
   rw[if_neg (fun e=>he (by rw[e]))]
   exact⟨rfl,hx⟩
  | ret=>exact⟨rfl,hx⟩
 | loop h k ih1 ih2 =>
  have key:∀ a w,St ι0 H0 w0 _ _ a w→InLoop P _ (After ι0 H0 w0 _ _ _) a w:=fun a w hs=>InLoop.round (wp_mono (ih1.1 a w hs) fun x a' w' hx=>by
   obtain⟨rfl,hx⟩:=hx
   exact ih2.2 _ rfl a' w' hx)
  exact⟨fun a w hs=>(key a w hs).wp,fun c0 h a w hs=>by cases h;exact key a w hs⟩
 | loopOut h he ih =>
  rename_i c r H e r' H'
  have key:∀ a w,St ι0 H0 w0 r H a w→InLoop P c (After ι0 H0 w0 e r' H') a w:=fun a w hs=>InLoop.round (wp_mono (ih.1 a w hs) fun x a' w' hx=>by
   obtain⟨rfl,hx⟩:=hx
   cases e with
   | normal=>exact absurd rfl he
   | exit id=>exact⟨rfl,hx⟩
   | ret=>exact⟨rfl,hx⟩)
  exact⟨fun a w hs=>(key a w hs).wp,fun c0 h a w hs=>by cases h;exact key a w hs⟩
/-- Code, by what is to hold behind it. -/
def aw (P:Program) (E:TypeId→Bool) (c:Code) (r:Regs) (H:Heap) (Q:Ex→Regs→Heap→Prop):Prop:=∃ e r' H',Ev P E c r H e r' H'∧Q e r' H'
section
variable {r : Regs} {H : Heap} {Q : Ex → Regs → Heap → Prop}
theorem aw_skip (h:Q .normal r H):aw P E .skip r H Q:=⟨_,_,_,.skip,h⟩
theorem aw_exit {id:Nat} (h:Q (.exit id) r H):aw P E (.exit id) r H Q:=⟨_,_,_,.exit,h⟩
theorem aw_ret (h:Q .ret r H):aw P E .ret r H Q:=⟨_,_,_,.ret,h⟩
def Ex.then (K:Regs→Heap→Prop) (Q:Ex→Regs→Heap→Prop):Ex→Regs→Heap→Prop
 | .normal,r,H=>K r H
 | e,r,H=>Q e r H
theorem aw_seq {x y:Code} (h:aw P E x r H (Ex.then (fun r H=>aw P E y r H Q) Q)):aw P E (.seq x y) r H Q:=by
 obtain⟨e,r1,H1,h1,h2⟩:=h
 cases e with
 | normal=>obtain⟨e2,r2,H2,h3,h4⟩:=h2;exact⟨e2,r2,H2,.seq h1 h3,h4⟩
 | exit id=>exact⟨_,_,_,.seqOut h1 (by simp),h2⟩
 | ret=>exact⟨_,_,_,.seqOut h1 (by simp),h2⟩
theorem aw_cond {c:Operand} {x y:Code} {t:Bool} (hc:r.eval c=some (.bool t)) (h:aw P E (if t then x else y) r H Q):aw P E (.cond c x y) r H Q :=
 let ⟨e,r',H',h1,h2⟩:=h;⟨e,r',H',.cond hc h1,h2⟩
def Ex.inBlock (id:Nat) (Q:Ex→Regs→Heap→Prop):Ex→Regs→Heap→Prop
 | .exit id',r,H=>if id'=id then Q .normal r H else Q (.exit id') r H
 | e,r,H=>Q e r H
theorem aw_block {id:Nat} {c:Code} (h:aw P E c r H (Ex.inBlock id Q)):aw P E (.block id c) r H Q:=by
 obtain⟨e,r1,H1,h1,h2⟩:=h
 cases e with
 | normal=>exact⟨_,_,_,.blockOut h1 (by simp),h2⟩
 | exit id' =>
  simp only [Ex.inBlock] at h2
  split at h2
  · rename_i e;subst e;exact⟨_,_,_,.block h1,h2⟩
  · rename_i e;exact⟨_,_,_,.blockOut h1 (by simpa using e),h2⟩
 | ret=>exact⟨_,_,_,.blockOut h1 (by simp),h2⟩
theorem aw_loop {c:Code} (h:aw P E c r H (Ex.then (fun r H=>aw P E (.loop c) r H Q) Q)):aw P E (.loop c) r H Q:=by
 obtain⟨e,r1,H1,h1,h2⟩:=h
 cases e with
 | normal=>obtain⟨e2,r2,H2,h3,h4⟩:=h2;exact⟨e2,r2,H2,.loop h1 h3,h4⟩
 | exit id=>exact⟨_,_,_,.loopOut h1 (by simp),h2⟩
 | ret=>exact⟨_,_,_,.loopOut h1 (by simp),h2⟩
theorem awOps_ex {ops:Array Oper} {K:Regs→Heap→Prop}:∀ (l:List Nat) {r:Regs} {H:Heap},awOps P E ops l r H K→∃ r' H',K r' H'∧awOps P E ops l r H fun a b=>a=r'∧b=H'
 | [],r,H,h=>⟨r,H,h,rfl,rfl⟩
 | i :: l,r,H,h=>by
  obtain⟨v,H1,h1,h2⟩:=h
  obtain⟨r',H',h3,h4⟩:=awOps_ex l h2
  exact⟨r',H',h3,v,H1,h1,h4⟩
theorem aw_region {id:Nat} {ops:Array Oper} (h:awOps P E ops (List.range ops.size) r H fun r H=>Q .normal r H):aw P E (.region id ops false) r H Q:=by
 obtain⟨r',H',h1,h2⟩:=awOps_ex _ h
 exact⟨_,_,_,.region h2,h1⟩
/-- Does it read what may lie elsewhere? -/
def noRead (P:Program) (ops:Array Oper) (i:Nat):Bool:=match ops[i]? with | some o=>(match o.op with | .load _ _ | .slice _ _ _ _ _ | .lookup _ _ _ _=>false | .convert s _ _ => !isSl P s | _=>true) | none=>true
def looseM (P:Program) (ops:Array Oper) (m:List Nat) (i j:Nat):Bool:=stillAt P ops i && !noRead P ops i && !stillAt P ops j && !ahead m i j && !ahead m j i
/-- Is i read beside an operation that acts? Does j act beside one that reads? -/
def looseR (P:Program) (ops:Array Oper) (i:Nat):Bool:=(List.range ops.size).any fun j=>looseM P ops (masks ops.toList []) i j
def looseE (P:Program) (ops:Array Oper) (j:Nat):Bool:=(List.range ops.size).any fun i=>looseM P ops (masks ops.toList []) i j
/-- As 'awOps', where what is read beside what acts is kept. -/
def awOpsD (P:Program) (E:TypeId→Bool) (ops:Array Oper) (keep:Nat→Prop):List Nat→Regs→Heap→(Regs→Heap→Prop)→Prop
 | [],r,H,K=>K r H
 | i
   :: l,r,H,K=>∃ v H',Stp P E ops i r H v H'∧(looseR P ops i=true→∀ o b,ops[i]?=some o→wants ops r o=some true→rdB P r o=some b→keep b)∧(looseE P ops i=true→∀ b,keep b→H'.blk b=H.blk b) ∧
   awOpsD P E ops keep l (r.put (dstOf ops i) v) H' K
theorem awOpsD_run {ops:Array Oper} {keep:Nat→Prop} {K:Regs→Heap→Prop}:∀ (d k:Nat) {r:Regs} {H:Heap},k+d=ops.size→awOpsD P E ops keep (List.range' k d) r H K →
  ∃ (rs:Nat→Regs) (Hs:Nat→Heap) (vs:Nat→Value),rs k=r∧Hs k=H∧(∀ i,k≤i→i<ops.size→(Stp P E ops i (rs i) (Hs i) (vs i) (Hs (i+1))∧rs (i+1)=(rs i).put (dstOf ops i) (vs i)) ∧
   (looseR P ops i=true→∀ o b,ops[i]?=some o→wants ops (rs i) o=some true→rdB P (rs i) o=some b→keep b)∧(looseE P ops i=true→∀ b,keep b→(Hs (i+1)).blk b=(Hs i).blk b))∧K (rs ops.size) (Hs ops.size)
 | 0,k,r,H,hk,h=>⟨fun _=>r,fun _=>H,fun _=>undef,rfl,rfl,fun i h1 h2=>by omega,h⟩
 | d+1,k,r,H,hk,h=>by
  obtain⟨v,H1,h1,h2,h3,h4⟩:=h
  obtain⟨rs,Hs,vs,q1,q2,q3,q4⟩:=awOpsD_run d (k+1) (by omega) h4
  refine⟨fun i=>if i=k then r else rs i,fun i=>if i=k then H else Hs i,fun i=>if i=k then v else vs i,by simp,by simp,fun i hi1 hi2=>?_,?_⟩
  ·
   by_cases e:i=k
   ·
    subst e
    simp only [if_true,if_neg (show ¬ i+1=i by omega)]
    rw[q1,q2]
    exact⟨⟨h1,rfl⟩,h2,h3⟩
   ·
    simp only [if_neg e,if_neg (show ¬ i+1=k by omega)]
    exact q3 i (by omega) hi2
  ·
   simp only [if_neg (show ¬ ops.size=k by omega)]
   exact q4
theorem aw_drawn {id:Nat} {ops:Array Oper} (hm:P.follows .mixedOrders=true) (hd:drawOk P ops=true) (keep:Nat→Prop) (h:awOpsD P E ops keep (List.range ops.size) r H fun r H=>Q .normal r H):aw P E (.region id ops true) r H Q:=by
 rw[List.range_eq_range'] at h
 obtain⟨rs,Hs,vs,q1,q2,q3,q4⟩:=awOpsD_run ops.size 0 (by omega) h
 subst q1 q2
 have hrun:Run P E ops rs Hs vs:=by
  refine⟨fun i hi=>(q3 i (by omega) hi).1,hd,?_⟩
  intro i j hi hj si sj a1 a2 o b ho hw hb
  have hno:noRead P ops i=false:=by
   unfold noRead
   rw[ho]
   unfold rdB at hb
   simp only
   cases hop:o.op <;> rw[hop] at hb <;> simp_all
  have hl:looseM P ops (masks ops.toList []) i j=true:=by simp [looseM,si,sj,a1,a2,hno]
  have hR:looseR P ops i=true:=List.any_eq_true.2 ⟨j,List.mem_range.2 hj,hl⟩
  have hE':looseE P ops j=true:=List.any_eq_true.2 ⟨i,List.mem_range.2 hi,hl⟩
  exact(q3 j (by omega) hj).2.2 hE' b ((q3 i (by omega) hi).2.1 hR o b ho hw hb)
 exact⟨_,_,_,.drawn hm hrun,q4⟩
end
/-! Slots that nobody looks at any more. -/
def Regs.le (r r':Regs):Prop:=r.n=r'.n∧∀ t v,r.f t=some v→r'.f t=some v
theorem Regs.le.refl (r:Regs):r.le r:=⟨rfl,fun _ _ h=>h⟩
theorem Regs.le.put {r r':Regs} (h:r.le r') (d:Option Tmp) (v:Value):(r.put d v).le (r'.put d v):=by
 refine⟨by rw[Regs.put_n,Regs.put_n];exact h.1,fun t u hu=>?_⟩
 cases d with
 | none=>exact h.2 t u hu
 | some d =>
  simp only [Regs.put] at hu ⊢
  split at hu
  · rename_i e;rw[if_pos e];exact hu
  · rename_i e;rw[if_neg e];exact h.2 t u hu
theorem Regs.le.eval {r r':Regs} (h:r.le r') {x:Operand} {v:Value} (hv:r.eval x=some v):r'.eval x=some v:=by
 cases x with
 | tmp t=>exact h.2 t v hv
 | _=>exact hv
theorem Regs.le.evals {r r':Regs} (h:r.le r'):∀ {l:List Operand} {vs:List Value},evals r l=some vs→evals r' l=some vs
 | [],vs,hv=>hv
 | x :: l,vs,hv=>by
  simp only [AM.evals,List.mapM_cons,Option.bind_eq_bind,Option.bind_eq_some_iff,Option.pure_def,Option.some.injEq] at hv ⊢
  obtain⟨v,h1,l',h2,rfl⟩:=hv
  exact⟨v,h.eval h1,l',h.evals h2,rfl⟩
theorem Regs.le.parts {r r':Regs} (h:r.le r'):∀ {l:List (Nat×Operand)} {vs:List (Nat×Value)},l.mapM (fun(p:Nat×Operand)=>(r.eval p.2).map fun v=>(p.1,v))=some vs→l.mapM (fun(p:Nat×Operand)=>(r'.eval p.2).map fun v=>(p.1,v))=some vs
 | [],vs,hv=>hv
 | x :: l,vs,hv=>by
  simp only [List.mapM_cons,Option.bind_eq_bind,Option.bind_eq_some_iff,Option.pure_def,Option.some.injEq] at hv ⊢
  obtain⟨y,h1,l',h2,rfl⟩:=hv
  obtain⟨v,h3,h4⟩:=Option.map_eq_some_iff.1 h1
  exact⟨y,by rw[h.eval h3];exact congrArg some h4,l',h.parts h2,rfl⟩
theorem Regs.le.opt {r r':Regs} (h:r.le r') {x:Option Operand} {v:Option Value} (hv:optEval r x=some v):optEval r' x=some v:=by
 cases x with
 | none=>exact hv
 | some x =>
  obtain⟨y,h1,h2⟩:=Option.map_eq_some_iff.1 hv
  subst h2
  simp [optEval,h.eval h1]
end Go.AM

/- More slots do no harm. -/
namespace Go.AM
open Go
variable {P : Program} {E : TypeId → Bool}

theorem evOp_le {r r':Regs} (hl:r.le r') {H:Heap} {o:Oper} {e:Eff} (h:evOp P E r H o=some e):evOp P E r' H o=some e:=by
 unfold evOp at h ⊢
 split at h
 all_goals rename_i ho
 all_goals try simp only [ho]
 case h_1=>obtain⟨v,h1,rfl⟩:=pureV_some h;rw[hl.eval h1];rfl
 case h_2=>obtain⟨v,h1,rfl⟩:=pureV_some h;rw[hl.eval h1];rfl
 case h_3 =>
  split at h
  ·
   rename_i t hc
   rw[hl.eval hc]
   obtain⟨v,h1,rfl⟩:=pureV_some h
   cases t
   · simp only [Bool.false_eq_true,if_false] at h1 ⊢;rw[hl.eval h1];rfl
   · simp only [if_true] at h1 ⊢;rw[hl.eval h1];rfl
  · cases h
 case h_4=>exact h
 case h_5=>obtain⟨v,h1,h2⟩:=Option.bind_eq_some_iff.1 h;rw[hl.eval h1];exact h2
 case h_6=>obtain⟨v,h1,h2⟩:=Option.bind_eq_some_iff.1 h;rw[hl.parts h1];exact h2
 case h_7=>obtain⟨v,h1,h2⟩:=Option.bind_eq_some_iff.1 h;rw[hl.parts h1];exact h2
 case h_8 =>
  obtain⟨v,h1,rfl⟩:=pureV_some h
  obtain⟨a,h2,h3⟩:=Option.bind_eq_some_iff.1 h1
  obtain⟨u,h4,h5⟩:=Option.bind_eq_some_iff.1 h2
  rw[hl.eval h4]
  simp only [Option.bind_some,h5,h3]
  rfl
 case h_9 =>
  obtain⟨a,h2,h3⟩:=Option.bind_eq_some_iff.1 h
  obtain⟨u,h4,h5⟩:=Option.bind_eq_some_iff.1 h2
  obtain⟨x,h6,h7⟩:=Option.bind_eq_some_iff.1 h3
  rw[hl.eval h4,hl.eval h6]
  simp only [Option.bind_some,h5]
  exact h7
 case h_10 =>
  split at h
  · rename_i b hb;rw[hl.eval hb];exact h
  · cases h
 case h_11=>obtain⟨u,h1,h⟩:=Option.bind_eq_some_iff.1 h;obtain⟨v,h2,h⟩:=Option.bind_eq_some_iff.1 h;rw[hl.eval h1,hl.eval h2];exact h
 case h_12=>obtain⟨u,h1,h⟩:=Option.bind_eq_some_iff.1 h;rw[hl.eval h1];exact h
 case h_13=>obtain⟨u,h1,h⟩:=Option.bind_eq_some_iff.1 h;rw[hl.eval h1];exact h
 case h_14 =>
  split at h
  ·
   rename_i h0
   obtain⟨l,h1,h2⟩:=Option.map_eq_some_iff.1 h
   rw[if_pos h0,hl.evals h1]
   exact congrArg some h2
  · cases h
 case h_15=>obtain⟨u,h1,h⟩:=Option.bind_eq_some_iff.1 h;obtain⟨v,h2,h⟩:=Option.bind_eq_some_iff.1 h;rw[hl.eval h1,hl.eval h2];exact h
 case h_16 =>
  obtain⟨u,h1,h⟩:=Option.bind_eq_some_iff.1 h
  obtain⟨u1,h2,h⟩:=Option.bind_eq_some_iff.1 h
  obtain⟨u2,h3,h⟩:=Option.bind_eq_some_iff.1 h
  obtain⟨u3,h4,h⟩:=Option.bind_eq_some_iff.1 h
  rw[hl.eval h1,hl.opt h2,hl.opt h3,hl.opt h4]
  exact h
 case h_17=>obtain⟨u,h1,h⟩:=Option.bind_eq_some_iff.1 h;rw[hl.eval h1];exact h
 case h_18=>obtain⟨u,h1,h⟩:=Option.bind_eq_some_iff.1 h;rw[hl.eval h1];exact h
 case h_19=>obtain⟨u,h1,h⟩:=Option.bind_eq_some_iff.1 h;obtain⟨v,h2,h⟩:=Option.bind_eq_some_iff.1 h;rw[hl.eval h1,hl.eval h2];exact h
 case h_20=>obtain⟨u,h1,h⟩:=Option.bind_eq_some_iff.1 h;obtain⟨v,h2,h⟩:=Option.bind_eq_some_iff.1 h;rw[hl.eval h1,hl.eval h2];exact h
 case h_21 =>
  split at h
  · rename_i vs hx;rw[hl.eval hx];exact h
  · cases h
 case h_22=>obtain⟨u,h1,h⟩:=Option.bind_eq_some_iff.1 h;rw[hl.evals h1];exact h
 case h_23=>exact h
 case h_24=>obtain⟨u,h1,h⟩:=Option.bind_eq_some_iff.1 h;obtain⟨v,h2,h⟩:=Option.bind_eq_some_iff.1 h;rw[hl.eval h1,hl.eval h2];exact h
 case h_25=>obtain⟨u,h1,h⟩:=Option.bind_eq_some_iff.1 h;obtain⟨v,h2,h⟩:=Option.bind_eq_some_iff.1 h;obtain⟨x,h3,h⟩:=Option.bind_eq_some_iff.1 h;rw[hl.eval h1,hl.eval h2,hl.eval h3];exact h
 case h_26=>exact h
theorem OpEv.le {r r':Regs} (hl:r.le r') {H H':Heap} {o:Oper} {v:Value} (h:OpEv P E r H o v H'):OpEv P E r' H o v H':=by
 cases h with
 | op h=>exact .op (evOp_le hl h)
 | call ho hc hx ha hf hs=>exact .call ho hc (hl.eval hx) (hl.evals ha) hf hs
theorem wants_le {ops:Array Oper} {r r':Regs} (hl:r.le r') {o:Oper} {t:Bool} (h:wants ops r o=some t):wants ops r' o=some t:=by
 unfold wants at h ⊢
 cases hg:o.guard with
 | none=>rw[hg] at h;exact h
 | some g =>
  obtain⟨j,want⟩:=g
  rw[hg] at h
  simp only at h ⊢
  cases hd:(ops[j]?).bind (·.dst) with
  | none=>rw[hd] at h;cases h
  | some d =>
   rw[hd] at h
   simp only at h ⊢
   cases hf:r.f d with
   | none=>rw[hf] at h;cases h
   | some v=>rw[hl.2 d v hf];rw[hf] at h;exact h
theorem dstOk_le {r r':Regs} (hl:r.le r') {d:Option Tmp} (h:dstOk r.n d=true):dstOk r'.n d=true:=by rw[← hl.1];exact h
theorem Stp.le {ops:Array Oper} {i:Nat} {r r':Regs} (hl:r.le r') {H H':Heap} {v:Value} (h:Stp P E ops i r H v H'):Stp P E ops i r' H v H':=by
 obtain⟨o,h1,h2,h3⟩:=h
 exact⟨o,h1,dstOk_le hl h2,h3.imp (fun⟨a,b⟩=>⟨wants_le hl a,b⟩) (fun⟨a,b⟩=>⟨wants_le hl a,b.le hl⟩)⟩
theorem awOps_le {ops:Array Oper} {K:Regs→Heap→Prop} (hK:∀ r r' H,r.le r'→K r H→K r' H):∀ (l:List Nat) {r r':Regs} {H:Heap},r.le r'→awOps P E ops l r H K→awOps P E ops l r' H K
 | [],r,r',H,hl,h=>hK r r' H hl h
 | _ :: l,_,_,_,hl,h=>let ⟨v,H',h1,h2⟩:=h;⟨v,H',h1.le hl,awOps_le hK l (hl.put _ _) h2⟩
def regsFrom (ops:Array Oper) (vs:Nat→Value) (r:Regs):Nat→Regs
 | 0=>r
 | i+1=>(regsFrom ops vs r i).put (dstOf ops i) (vs i)
theorem regsFrom_le {ops:Array Oper} {rs:Nat→Regs} {vs:Nat→Value} {r':Regs} (hl:(rs 0).le r'):∀ i,(∀ k,k<i→rs (k+1)=(rs k).put (dstOf ops k) (vs k))→(rs i).le (regsFrom ops vs r' i)
 | 0,_=>hl
 | i+1,h=>by rw[h i (by omega)];exact(regsFrom_le hl i fun k hk=>h k (by omega)).put _ _
theorem rdB_le {r r':Regs} (hl:r.le r') {H H':Heap} {o:Oper} {v:Value} (h:OpEv P E r H o v H') {b:Nat} (hb:rdB P r' o=some b):rdB P r o=some b:=by
 cases h with
 | call ho hc hx ha hf hs=>simp [rdB,ho] at hb
 | op h =>
  have key:∀ x v,r.eval x=some v→r'.eval x=some v:=fun x v hx=>hl.eval hx
  unfold rdB at hb ⊢
  unfold evOp at h
  split at hb
  ·
   rename_i ho
   try rw[ho] at h
   obtain⟨v,h1,_⟩:=pureV_some h
   obtain⟨a,h2,h3⟩:=Option.bind_eq_some_iff.1 h1
   obtain⟨u,h4,h5⟩:=Option.bind_eq_some_iff.1 h2
   try simp only [ho]
   rw[key _ _ h4] at hb
   rw[h4];exact hb
  ·
   rename_i ho
   try rw[ho] at h
   obtain⟨u,h1,_⟩:=Option.bind_eq_some_iff.1 h
   try simp only [ho]
   rw[key _ _ h1] at hb
   rw[h1];exact hb
  ·
   rename_i ho
   try rw[ho] at h
   obtain⟨u,h1,_⟩:=Option.bind_eq_some_iff.1 h
   try simp only [ho]
   rw[key _ _ h1] at hb
   rw[h1];exact hb
  ·
   rename_i ho
   try rw[ho] at h
   obtain⟨u,h1,_⟩:=Option.bind_eq_some_iff.1 h
   try simp only [ho]
   rw[key _ _ h1] at hb
   rw[h1];exact hb
  · cases hb
theorem freshAt_le {r r':Regs} (hl:r.le r') {n:Nat} {o:Oper} {x:Value×Blk} (h:freshAt P r n o=some x):freshAt P r' n o=some x:=by
 unfold freshAt at h ⊢
 split
 · rename_i e ho;rw[ho] at h;exact h
 ·
  rename_i t len ps ho
  rw[ho] at h
  obtain⟨vs,h1,h2⟩:=Option.bind_eq_some_iff.1 h
  rw[hl.parts h1]
  exact h2
 ·
  rename_i h1 h2
  split at h
  · rename_i e ho;exact absurd ho (h1 e)
  · rename_i t len ps ho;exact absurd ho (h2 t len ps)
  · cases h
theorem Ev.le {c:Code} {r r' r1:Regs} {H H1:Heap} {e:Ex} (h:Ev P E c r H e r1 H1):r.le r'→∃ r1',r1.le r1'∧Ev P E c r' H e r1' H1:=by
 induction h generalizing r' with
 | skip=>exact fun hl=>⟨_,hl,.skip⟩
 | label=>exact fun hl=>⟨_,hl,.label⟩
 | exit=>exact fun hl=>⟨_,hl,.exit⟩
 | ret=>exact fun hl=>⟨_,hl,.ret⟩
 | region h =>
  intro hl
  rename_i ops r H r1 H1
  have:=awOps_le (K:=fun a b=>r1.le a∧b=H1) (fun a b H hl h=>⟨⟨h.1.1.trans hl.1,fun t v ht=>hl.2 t v (h.1.2 t v ht)⟩,h.2⟩) _ hl (by
   obtain⟨ra,Ha,⟨rfl,rfl⟩,k⟩:=awOps_ex _ h
   refine(fun k=>?_) k
   have:∀ (l:List Nat) {r:Regs} {H:Heap},awOps P E ops l r H (fun a b=>a=ra∧b=Ha)→awOps P E ops l r H fun a b=>ra.le a∧b=Ha:=by
    intro l
    induction l with
    | nil=>intro r H h;obtain⟨rfl,rfl⟩:=h;exact⟨.refl _,rfl⟩
    | cons i l ih=>intro r H h;obtain⟨v,H',h1,h2⟩:=h;exact⟨v,H',h1,ih h2⟩
   exact this _ k)
  obtain⟨ra,Ha,⟨k1,rfl⟩,k2⟩:=awOps_ex _ this
  exact⟨ra,k1,.region k2⟩
 | drawn hm h =>
  rename_i ops rs Hs vs
  intro hl
  have hrs:∀ i,i≤ops.size→(rs i).le (regsFrom ops vs r' i):=fun i hi=>regsFrom_le hl i fun k hk=>(h.step k (by omega)).2
  refine⟨_,hrs _ (Nat.le_refl _),Ev.drawn (rs:=regsFrom ops vs r') (Hs:=Hs) (vs:=vs) hm ⟨fun i hi=>⟨(h.step i hi).1.le (hrs i (by omega)),rfl⟩,h.ok,fun i j hi hj si sj a1 a2 o b ho hw hb=>?_⟩⟩
  obtain⟨o',q1,q2,q3⟩:=(h.step i hi).1
  rw[ho] at q1
  cases q1
  rcases q3 with⟨q3,_⟩ | ⟨q3,q4⟩
  · rw[wants_le (hrs i (by omega)) q3] at hw;cases hw
  · exact h.dyn i j hi hj si sj a1 a2 o b ho q3 (rdB_le (hrs i (by omega)) q4 hb)
 | drawnN hm hH hb h =>
  rename_i ops nm base rs Hs vs Bs H
  intro hl
  have hrs:∀ i,i≤ops.size→(rs i).le (regsFrom ops vs r' i):=fun i hi=>regsFrom_le hl i fun k hk=>h.put k (by omega)
  refine⟨_,hrs _ (Nat.le_refl _),Ev.drawnN (nm:=nm) (rs:=regsFrom ops vs r') (Hs:=Hs) (vs:=vs) (Bs:=Bs) hm hH hb ⟨fun i hi hn=>(h.step i hi hn).le (hrs i (by omega)),fun i hi hn=>?_,fun i hi=>rfl,h.ok,fun i j hi hj si sj a1 a2 o b ho hw hb'=>?_,fun i j hi hj si nj a1 o b ho hw hb'=>?_⟩⟩
  ·
   obtain⟨s0,o,s1,s2,s3⟩:=h.made i hi hn
   refine⟨s0,o,s1,by rw[← (hrs i (by omega)).1];exact s2,?_⟩
   rcases s3 with⟨t1,t2,t3,t4⟩ | ⟨t1,B,t2,t3,t4⟩
   · exact .inl ⟨wants_le (hrs i (by omega)) t1,t2,t3,t4⟩
   · exact .inr ⟨wants_le (hrs i (by omega)) t1,B,freshAt_le (hrs i (by omega)) t2,t3,t4⟩
  ·
   obtain⟨o',q1,q2,q3⟩:=h.step i hi (h.still_nm hi si)
   rw[ho] at q1
   cases q1
   rcases q3 with⟨q3,_⟩ | ⟨q3,q4⟩
   · rw[wants_le (hrs i (by omega)) q3] at hw;cases hw
   · exact h.dyn i j hi hj si sj a1 a2 o b ho q3 (rdB_le (hrs i (by omega)) q4 hb')
  ·
   obtain⟨o',q1,q2,q3⟩:=h.step i hi (h.still_nm hi si)
   rw[ho] at q1
   cases q1
   rcases q3 with⟨q3,_⟩ | ⟨q3,q4⟩
   · rw[wants_le (hrs i (by omega)) q3] at hw;cases hw
   · exact h.own i j hi hj si nj a1 o b ho q3 (rdB_le (hrs i (by omega)) q4 hb')
 | seq h k ih1 ih2=>intro hl;obtain⟨ra,a1,a2⟩:=ih1 hl;obtain⟨rb,b1,b2⟩:=ih2 a1;exact⟨rb,b1,.seq a2 b2⟩
 | seqOut h he ih=>intro hl;obtain⟨ra,a1,a2⟩:=ih hl;exact⟨ra,a1,.seqOut a2 he⟩
 | cond hc h ih=>intro hl;obtain⟨ra,a1,a2⟩:=ih hl;exact⟨ra,a1,.cond (hl.eval hc) a2⟩
 | block h ih=>intro hl;obtain⟨ra,a1,a2⟩:=ih hl;exact⟨ra,a1,.block a2⟩
 | blockOut h he ih=>intro hl;obtain⟨ra,a1,a2⟩:=ih hl;exact⟨ra,a1,.blockOut a2 he⟩
 | loop h k ih1 ih2=>intro hl;obtain⟨ra,a1,a2⟩:=ih1 hl;obtain⟨rb,b1,b2⟩:=ih2 a1;exact⟨rb,b1,.loop a2 b2⟩
 | loopOut h he ih=>intro hl;obtain⟨ra,a1,a2⟩:=ih hl;exact⟨ra,a1,.loopOut a2 he⟩
/-- What holds behind holds with more slots, too. -/
def Up (Q:Ex→Regs→Heap→Prop):Prop:=∀ e r r' H,r.le r'→Q e r H→Q e r' H
theorem aw_le {c:Code} {r r':Regs} {H:Heap} {Q:Ex→Regs→Heap→Prop} (hQ:Up Q) (hl:r.le r') (h:aw P E c r H Q):aw P E c r' H Q:=by
 obtain⟨e,r1,H1,h1,h2⟩:=h
 obtain⟨r2,a1,a2⟩:=h1.le hl
 exact⟨e,r2,H1,a2,hQ _ _ _ _ a1 h2⟩
theorem Up.then {c:Code} {Q:Ex→Regs→Heap→Prop} (hQ:Up Q):Up (Ex.then (fun r H=>aw P E c r H Q) Q):=by
 intro e r r' H hl h
 cases e with
 | normal=>exact aw_le hQ hl h
 | exit id=>exact hQ _ _ _ _ hl h
 | ret=>exact hQ _ _ _ _ hl h
theorem Up.inBlock {id:Nat} {Q:Ex→Regs→Heap→Prop} (hQ:Up Q):Up (Ex.inBlock id Q):=by
 intro e r r' H hl h
 cases e with
 | normal=>exact hQ _ _ _ _ hl h
 | exit id' =>
  simp only [Ex.inBlock] at h ⊢
  split
  · rename_i e;rw[if_pos e] at h;exact hQ _ _ _ _ hl h
  · rename_i e;rw[if_neg e] at h;exact hQ _ _ _ _ hl h
 | ret=>exact hQ _ _ _ _ hl h
end Go.AM

/- Functions; and a law's function, as the given machine calls it. -/
namespace Go.AM
open Go
variable {P : Program} {E : TypeId → Bool}

def initR (args:List Value) (n:Nat):Regs:={ n:=args.length+(n - args.length),f:=fun t=>args[t]? }
def resOne (P:Program) (r:Regs) (H:Heap):ResultVar→Option Value
 | .tmp t=>r.f t
 | .cell a t=>((r.f a).bind ptr?).bind (lvar P H t)
def oneOrAll : List Value→Value
 | [v]=>v
 | l => .tuple l.toArray
def resA (P:Program) (fn:Func) (r:Regs) (H:Heap):Option Value:=(fn.results.toList.mapM (resOne P r H)).map oneOrAll
def Done (P:Program) (fn:Func) (Q:Value→Heap→Prop):Ex→Regs→Heap→Prop
 | .exit _,_,_=>False
 | _,r,H=>∃ v,resA P fn r H=some v∧Q v H
def resRun (tmps:Array Value):ResultVar→Sem Value
 | .tmp t=>pure (tmps.getD t undef)
 | .cell a t=>do loadVar t (← asAddr (tmps.getD a undef))
theorem resOne_run {ι:Map} {H:Heap} {w:World} (h:R ι H w) {r:Regs} {tmps:Array Value} (hr:RegR ι r tmps) {x:ResultVar} {v:Value} (hv:resOne P r H x=some v) :
  ∃ v',(resRun tmps x).run P w = .ok v' w∧VR ι v v':=by
 cases x with
 | tmp t =>
  obtain⟨v',h1,h2⟩:=hr.2 t v hv
  exact⟨v',by simp [resRun,Array.getD_eq_getD_getElem?,h1],h2⟩
 | cell a t =>
  obtain⟨b,h1,h2⟩:=Option.bind_eq_some_iff.1 hv
  obtain⟨u,h3,h4⟩:=Option.bind_eq_some_iff.1 h1
  obtain rfl:=ptr?_some h4
  obtain⟨u',h5,h6⟩:=hr.2 a _ h3
  obtain⟨b',rfl,h7⟩:=h6.ptr_inv
  obtain⟨v',q1,q2⟩:=load_does (P:=P) h h7 h2
  refine⟨v',?_,q2⟩
  simpa [resRun,Array.getD_eq_getD_getElem?,h5,asAddr,Instr.loadAt,Instr.sureAddr] using q1
theorem results_run {ι:Map} {H:Heap} {w:World} (h:R ι H w) {r:Regs} {tmps:Array Value} (hr:RegR ι r tmps):∀ (l:List ResultVar) {vs:List Value},l.mapM (resOne P r H)=some vs →
  ∃ vs':List Value,(l.mapM (resRun tmps)).run P w = .ok vs' w∧AsR ι vs.toArray vs'.toArray
 | [],vs,hv=>by
  simp at hv
  subst hv
  exact⟨[],by simp,rfl,fun i x y hx=>by simp at hx⟩
 | x :: l,vs,hv=>by
  simp only [List.mapM_cons,Option.bind_eq_bind,Option.bind_eq_some_iff,Option.pure_def,Option.some.injEq] at hv
  obtain⟨v,h1,l1,h2,rfl⟩:=hv
  obtain⟨v',q1,q2⟩:=resOne_run h hr h1
  obtain⟨vs',q3,q4⟩:=results_run h hr l h2
  refine⟨v' :: vs',?_,?_⟩
  · simp only [List.mapM_cons,Sem.run_bind,q1,Result.andThen_ok,q3,Sem.run_pure]
  ·
   obtain⟨e1,e2⟩:=q4.of_list
   refine⟨by simp;omega,fun i p q hp hq=>?_⟩
   cases i with
   | zero=>simp at hp hq;subst hp hq;exact q2
   | succ i=>simp at hp hq;exact e2 i p q hp hq
theorem oneOrAll_R {ι:Map} {vs vs':List Value} (h:AsR ι vs.toArray vs'.toArray):VR ι (oneOrAll vs) (if h:vs'.toArray.size=1 then vs'.toArray[0] else .tuple vs'.toArray):=by
 obtain⟨e1,e2⟩:=h.of_list
 match vs,vs',e1 with
 | [x],[y],_=>exact e2 0 _ _ rfl rfl
 | [],[],_=>exact .tuple h.1 h.2
 | x :: x2 :: l,y :: y2 :: l',_ =>
  rw[dif_neg (by simp)]
  exact .tuple h.1 h.2
theorem spec_of (hE:EqOk P E) {f:FuncId} {fn:Func} {c:Code} {args:List Value} {H:Heap} {Q:Value→Heap→Prop} (hf:P.funcs[f]?=some fn) (hb:fn.body=some c)
  (h:aw P E c (initR args fn.ntmps) H (Done P fn Q)):∃ v H',Spec P f args H v H'∧Q v H':=by
 obtain⟨e,r',H',h1,h2⟩:=h
 have:∃ v,resA P fn r' H'=some v∧Q v H'∧(e = .normal∨e = .ret):=by
  cases e with
  | normal=>obtain⟨v,a,b⟩:=h2;exact⟨v,a,b,.inl rfl⟩
  | exit id=>exact h2.elim
  | ret=>obtain⟨v,a,b⟩:=h2;exact⟨v,a,b,.inr rfl⟩
 obtain⟨v,h3,h4,h5⟩:=this
 refine⟨v,H',fun ι w args' hR ha=>?_,h4⟩
 have hsz:args.length=args'.size:=by have:=ha.1;simpa using this
 have st:St ι H w (initR args fn.ntmps) H { tmps:=args'++Array.replicate (fn.ntmps - args'.size) undef,defers := [] } w:=by
  refine⟨ι,hR,⟨?_,fun t x hx=>?_⟩,rfl,.refl ι H w⟩
  · simp [initR,hsz]
  ·
   obtain⟨y,q1,q2⟩:=ha.get (i:=t) (x:=x) (by rw[List.getElem?_toArray];exact hx)
   have:=(Array.getElem?_eq_some_iff.1 q1).1
   exact⟨y,by rw[Array.getElem?_append,if_pos this];exact q1,q2⟩
 refine calls_of_wp hf hb (wp_mono ((h1.wp hE).1 _ w st) fun x a w' hx=>?_)
 obtain⟨rfl,ι',q1,q2,q3,q4⟩:=hx
 obtain⟨vs,q5,q6⟩:=Option.map_eq_some_iff.1 h3
 obtain⟨vs',q7,q8⟩:=results_run q1 q2 fn.results.toList q5
 have hres:∃ v',(results fn a.tmps).run P w' = .ok v' w'∧VR ι' v v':=by
  subst q6
  refine⟨_,?_,oneOrAll_R q8⟩
  have e1:results fn a.tmps=(do let vs ← fn.results.mapM (resRun a.tmps);pure (if h:vs.size=1 then vs[0] else .tuple vs)):=by
   unfold results
   congr 1
  rw[e1]
  simp only [Sem.run_bind,Array.mapM_eq_mapM_toList,Sem.run_map,q7]
  rfl
 obtain⟨v',q9,q10⟩:=hres
 rcases h5 with rfl | rfl
 · exact⟨q3,v',q9,v',ι',rfl,q10,q1,q4⟩
 · exact⟨q3,v',q9,v',ι',rfl,q10,q1,q4⟩
/-- Nothing there yet. -/
def Heap.nil : Heap:=⟨0,fun _=>none⟩
theorem R.nil (w:World):R (fun _=>none) Heap.nil w:=⟨fun b L h=>(by cases h),fun b B h=>(by cases h),fun b b' B B' L L' _ h=>(by cases h)⟩
end Go.AM

/- What a law is handed, laid into our memory. -/
namespace Go.AM
open Go
variable {H : Type}

def impL (f:TypeId→DataW H→Nat→Option (List Value×List (Option Blk))):List TypeId→List (DataW H)→Nat→Option (List Value×List (Option Blk))
 | [],[],_=>some ([],[])
 | t :: ts,d :: ds,n=>(f t d n).bind fun x=>(impL f ts ds (n+x.2.length)).map fun y=>(x.1++y.1,x.2++y.2)
 | _,_,_=>none
/-- Fields that lie one behind the other. -/
def contig (P:Program):List Field→Nat→Option Nat
 | [],n=>some n
 | f :: fs,n=>if f.offset=n then contig P fs (n+P.cellsOf f.type) else none
def impOne (P:Program):Nat→TypeId→DataW H→Nat→Option (List Value×List (Option Blk))
 | 0,_,_,_=>none
 | m+1,t,d,n =>
  match P.underlying t,d with
  | some .bool,.lit (.bool b)=>some ([.bool b],[])
  | some (.int _),.lit (.int k x)=>some ([.int k x],[])
  | some .string,.lit (.string bs)=>some ([.string ⟨bs.toArray⟩],[])
  | some (.slice _),.nil=>some ([.slice none 0 0],[])
  | some (.slice e),.slice els rest =>
   if P.cellsOf e=0 then none else
   (impL (impOne P m) (List.replicate els.length e) els (n+1)).map fun x=>([.slice (some ⟨n,0,none⟩) els.length (els.length+rest.length)],(if els.isEmpty then none else some ⟨x.1,P.cellsOf e,true,false⟩) :: x.2)
  | some (.struct fs),.agg ds=>if contig P fs.toList 0=some (P.cellsOf t) then impL (impOne P m) (fs.toList.map (·.type)) ds n else none
  | _,_=>none
variable {P : Program} {w : World}
def Good (w:World) (ι0:Map) (n:Nat) (vs:List Value) (bs:List (Option Blk)) (cs:List Value):Prop :=
 ∃ ι,ι0.le ι∧(∀ b L,ι b=some L→b<n+bs.length)∧AsR ι vs.toArray cs.toArray∧∀ j B,bs[j]?=some (some B)→B.rd=true∧∃ L,ι (n+j)=some L∧BR ι w B L
theorem Good.plain {ι0:Map} {n:Nat} (hd:∀ b L,ι0 b=some L→b<n) {v:Value} (hv:flat v=true):Good w ι0 n [v] [] [v] :=
 ⟨ι0,.refl ι0,fun b L h=>by have:=hd b L h;simpa using this,AsR.of_flat (by simpa using hv),fun j B h=>by simp at h⟩
theorem Good.append {ι0:Map} {n:Nat} {vs1 vs2:List Value} {bs1 bs2:List (Option Blk)} {cs1 cs2:List Value} (h:Good w ι0 n vs1 bs1 cs1)
  (k:∀ ι,(∀ b L,ι b=some L→b<n+bs1.length)→Good w ι (n+bs1.length) vs2 bs2 cs2):Good w ι0 n (vs1++vs2) (bs1++bs2) (cs1++cs2):=by
 obtain⟨ι1,a1,a2,a3,a4⟩:=h
 obtain⟨ι2,b1,b2,b3,b4⟩:=k ι1 a2
 refine⟨ι2,a1.trans b1,fun b L hb=>by have:=b2 b L hb;simp only [List.length_append];omega,?_,fun j B hj=>?_⟩
 ·
  have:=(a3.mono b1).append b3
  simpa using this
 ·
  rw[List.getElem?_append] at hj
  split at hj
  ·
   obtain⟨c1,L,c2,c3⟩:=a4 j B hj
   exact⟨c1,L,b1 _ _ c2,c3.mono b1 rfl⟩
  ·
   rename_i hlt
   obtain⟨c1,L,c2,c3⟩:=b4 _ B hj
   rw[show n+bs1.length+(j - bs1.length)=n+j by omega] at c2
   exact⟨c1,L,c2,c3⟩
/-- Rows of things that are laid each. -/
theorem impL_good {f:TypeId→DataW H→Nat→Option (List Value×List (Option Blk))}:∀ (ts:List TypeId) (ds:List (DataW H)) (css:List (List Value)) (n:Nat) {vs:List Value} {bs:List (Option Blk)},
  css.length=ds.length→(∀ (k:Nat) (t:TypeId) (d:DataW H) (cs:List Value),ts[k]?=some t→ds[k]?=some d→css[k]?=some cs→∀ n vs bs,f t d n=some (vs,bs)→∀ ι0:Map,(∀ b L,ι0 b=some L→b<n)→Good w ι0 n vs bs cs) →
  impL f ts ds n=some (vs,bs)→∀ ι0:Map,(∀ b L,ι0 b=some L→b<n)→Good w ι0 n vs bs css.flatten
 | [],[],css,n,vs,bs,hl,_,h,ι0,hd=>by
  simp only [impL,Option.some.injEq,Prod.mk.injEq] at h
  obtain⟨rfl,rfl⟩:=h
  have:css = []:=List.eq_nil_of_length_eq_zero hl
  subst this
  exact⟨ι0,.refl ι0,fun b L h=>by simpa using hd b L h,⟨rfl,fun i x y hx=>by simp at hx⟩,fun j B h=>by simp at h⟩
 | t :: ts,d :: ds,css,n,vs,bs,hl,hf,h,ι0,hd=>by
  simp only [impL,Option.bind_eq_some_iff] at h
  obtain⟨x,h1,h2⟩:=h
  obtain⟨y,h3,h4⟩:=Option.map_eq_some_iff.1 h2
  cases h4
  cases css with
  | nil=>simp at hl
  | cons cs css =>
   simp only [List.flatten_cons]
   refine Good.append (hf 0 t d cs rfl rfl rfl n x.1 x.2 h1 ι0 hd) fun ι hι=>?_
   exact impL_good ts ds css _ (by simpa using hl) (fun k t d cs a b c=>hf (k+1) t d cs (by simpa using a) (by simpa using b) (by simpa using c)) h3 ι hι
 | [],_ :: _,_,_,_,_,_,_,h,_,_=>by simp [impL] at h
 | _ :: _,[],_,_,_,_,_,_,h,_,_=>by simp [impL] at h

theorem mapM_some {α β:Type} {f:α→Option β}:∀ {l:List α} {r:List β},l.mapM f=some r→r.length=l.length∧∀ (k:Nat) (a:α) (b:β),l[k]?=some a→r[k]?=some b→f a=some b
 | [],r,h=>by simp at h;subst h;exact⟨rfl,fun k a b h=>by simp at h⟩
 | x :: l,r,h=>by
  simp only [List.mapM_cons,Option.bind_eq_bind,Option.bind_eq_some_iff,Option.pure_def,Option.some.injEq] at h
  obtain⟨y,h1,r',h2,rfl⟩:=h
  obtain⟨e1,e2⟩:=mapM_some h2
  refine⟨by simp [e1],fun k a b ha hb=>?_⟩
  cases k with
  | zero=>simp at ha hb;subst ha hb;exact h1
  | succ k=>simp at ha hb;exact e2 k a b ha hb
/-- Cells, as what stands in the row. -/
theorem cells?_some {base:Nat} {a:Addr} {n:Nat} {cs:List Value} (h:w.cells? base a n=some cs):cs.length=n∧∀ j v,cs[j]?=some v→w.cell? (a.add j)=some v:=by
 unfold World.cells? at h
 split at h
 ·
  obtain⟨e1,e2⟩:=mapM_some h
  simp only [List.length_range] at e1
  refine⟨e1,fun j v hj=>?_⟩
  have hlt:j<n:=by
   rcases Nat.lt_or_ge j n with h | h
   · exact h
   · rw[List.getElem?_eq_none (by omega)] at hj;cases hj
  exact e2 j j v (List.getElem?_range hlt) hj
 · cases h
theorem cell?_plain {a:Addr} {v:Value} (h:w.cell? a=some v):a.spot=none∧∃ C el fr,w.heap[a.block]?=some (.cells C el fr)∧C[a.off]?=some v:=by
 unfold World.cell? at h
 split at h
 ·
  rename_i C el fr hc
  split at h
  · cases h
  ·
   rename_i hs
   refine⟨?_,C,el,fr,hc,h⟩
   cases hsp:a.spot with
   | none=>rfl
   | some x=>rw[hsp] at hs;simp at hs
 · cases h
theorem flatten_at {sz:Nat}:∀ (css:List (List Value)) (k j:Nat) (cs:List Value),(∀ c ∈ css,c.length=sz)→css[k]?=some cs→j<sz→css.flatten[k * sz+j]?=cs[j]?
 | [],k,j,cs,_,h,_=>by simp at h
 | c :: css,0,j,cs,hl,h,hj=>by
  simp at h
  subst h
  have:=hl c (by simp)
  rw[List.flatten_cons,List.getElem?_append_left (by omega)]
  simp
 | c :: css,k+1,j,cs,hl,h,hj=>by
  have hc:=hl c (by simp)
  rw[List.flatten_cons,List.getElem?_append_right (by rw[hc,Nat.succ_mul];omega),hc,show(k+1) * sz+j - sz=k * sz+j by rw[Nat.succ_mul];omega]
  exact flatten_at css k j cs (fun c hc=>hl c (by simp [hc])) (by simpa using h) hj
theorem flatten_len {sz:Nat}:∀ (css:List (List Value)),(∀ c ∈ css,c.length=sz)→css.flatten.length=css.length * sz
 | [],_=>by simp
 | c :: css,h=>by
  rw[List.flatten_cons,List.length_append,h c (by simp),flatten_len css fun c hc=>h c (by simp [hc]),List.length_cons,Nat.succ_mul]
  omega
theorem contig_flat (cs:List Value):∀ (fs:List Field) (n m:Nat),contig P fs n=some m→n≤m∧((cs.take m).drop n)=(fs.map fun f=>(cs.drop f.offset).take (P.cellsOf f.type)).flatten
 | [],n,m,h=>by
  simp only [contig,Option.some.injEq] at h
  subst h
  refine⟨Nat.le_refl _,?_⟩
  simp
 | f :: fs,n,m,h=>by
  rw[contig] at h
  split at h
  ·
   rename_i e
   subst e
   obtain⟨h1,h2⟩:=contig_flat cs fs _ m h
   refine⟨by omega,?_⟩
   rw[List.map_cons,List.flatten_cons,← h2]
   rw[List.drop_take,List.drop_take,← List.drop_drop]
   have:=List.take_append_drop (P.cellsOf f.type) ((cs.drop f.offset).take (m - f.offset))
   rw[← this,List.take_take,List.drop_take]
   congr 1
   · congr 1;omega
   · congr 1;omega
  · cases h
section
variable {enc : TypeId × Value → H} {base : Nat} {sp : Nat → Bool} {held : Bool} {g : Nat} {t e : TypeId} {cs : List Value} {ps : List MemPlace}
theorem trod_bool (hu:P.underlying t=some .bool) {b:Bool} (h:DataW.trod enc P w base sp held (g+1) t cs=some (.lit (.bool b),ps)):cs = [.bool b]:=by
 unfold DataW.trod at h
 rw[hu] at h
 match cs,h with
 | [],h=>simp at h
 | [v],h=>cases v <;> simp at h;simp [h]
 | _ :: _ :: _,h=>simp at h
theorem trod_int {k k':IntKind} (hu:P.underlying t=some (.int k)) {x:Int} (h:DataW.trod enc P w base sp held (g+1) t cs=some (.lit (.int k' x),ps)):cs = [.int k' x]:=by
 unfold DataW.trod at h
 rw[hu] at h
 match cs,h with
 | [],h=>simp at h
 | [v],h=>cases v <;> simp at h;obtain⟨⟨h1,_⟩,⟨h2,h3⟩,_⟩:=h;simp [← h2,← h3,h1]
 | _ :: _ :: _,h=>simp at h
theorem trod_string (hu:P.underlying t=some .string) {x:List UInt8} (h:DataW.trod enc P w base sp held (g+1) t cs=some (.lit (.string x),ps)):cs = [.string ⟨x.toArray⟩]:=by
 unfold DataW.trod at h
 rw[hu] at h
 match cs,h with
 | [],h=>simp at h
 | [v],h=>cases v <;> simp at h;obtain⟨_,h,_⟩:=h;subst h;simp
 | _ :: _ :: _,h=>simp at h
theorem trod_slnil (hu:P.underlying t=some (.slice e)) (h:DataW.trod enc P w base sp held (g+1) t cs=some (.nil,ps)):cs = [.slice none 0 0]:=by
 unfold DataW.trod at h
 rw[hu] at h
 match cs,h with
 | [],h=>simp at h
 | [v],h =>
  cases v <;> simp at h
  rename_i a n c
  cases a with
  | none =>
   cases n <;> cases c <;> simp at h <;> rfl
  | some a =>
   simp only at h
   split at h
   · simp [Option.bind_eq_some_iff] at h
   · cases h
 | _ :: _ :: _,h=>simp at h
theorem trod_slice (hu:P.underlying t=some (.slice e)) {els rest:List (DataW H)} (h:DataW.trod enc P w base (fun _=>true) held (g+1) t cs=some (.slice els rest,ps)) :
  ∃ a len cap,cs = [.slice (some a) len cap]∧len≤cap∧els.length=len∧len+rest.length=cap∧cap≤maxLen ∧
   ∀ (k:Nat) (d:DataW H),(els++rest)[k]?=some d→∃ c p,w.cells? base (a.add (k * P.cellsOf e)) (P.cellsOf e)=some c∧DataW.trod enc P w base (fun _=>true) held g e c=some (d,p):=by
 unfold DataW.trod at h
 rw[hu] at h
 match cs,h with
 | [],h=>simp at h
 | [v],h =>
  cases v <;> simp only [reduceCtorEq] at h
  rename_i a n c
  cases a with
  | none=>cases n <;> cases c <;> simp at h
  | some a =>
   simp only at h
   split at h
   ·
    rename_i hc
    simp only [Option.bind_eq_some_iff] at h
    obtain⟨xs,h1,h2⟩:=h
    obtain⟨ys,h3,h4⟩:=Option.map_eq_some_iff.1 h2
    simp only [if_true] at h3
    simp only [Prod.mk.injEq,DataW.slice.injEq] at h4
    obtain⟨⟨rfl,rfl⟩,_⟩:=h4
    obtain⟨e1,e2⟩:=mapM_some h1
    obtain⟨e3,e4⟩:=mapM_some h3
    simp only [List.length_range] at e1 e3
    refine⟨a,n,c,rfl,hc.2.1,by simp [e1],by simp [e3];omega,hc.2.2,fun k d hk=>?_⟩
    rw[List.getElem?_append] at hk
    split at hk
    ·
     rename_i hlt
     simp only [List.length_map] at hlt
     rw[List.getElem?_map] at hk
     obtain⟨x,q1,q2⟩:=Option.map_eq_some_iff.1 hk
     have:=e2 k k x (List.getElem?_range (by omega)) q1
     obtain⟨c,q3,q4⟩:=Option.bind_eq_some_iff.1 this
     exact⟨c,x.2,q3,by rw[q4,← q2]⟩
    ·
     rename_i hlt
     simp only [List.length_map] at hlt hk
     rw[List.getElem?_map] at hk
     obtain⟨x,q1,q2⟩:=Option.map_eq_some_iff.1 hk
     have hlt2:k - xs.length<ys.length:=(List.getElem?_eq_some_iff.1 q1).1
     have:=e4 (k - xs.length) (k - xs.length) x (List.getElem?_range (by omega)) q1
     obtain⟨c,q3,q4⟩:=Option.bind_eq_some_iff.1 this
     rw[show n+(k - xs.length)=k by omega] at q3
     exact⟨c,x.2,q3,by rw[q4,← q2]⟩
   · cases h
 | _ :: _ :: _,h=>simp at h
theorem trod_struct {fs:Array Field} (hu:P.underlying t=some (.struct fs)) {ds:List (DataW H)} (h:DataW.trod enc P w base sp held (g+1) t cs=some (.agg ds,ps)) :
  cs.length=P.cellsOf t∧ds.length=fs.toList.length∧∀ (k:Nat) (f:Field) (d:DataW H),fs.toList[k]?=some f→ds[k]?=some d→∃ p,DataW.trod enc P w base sp held g f.type ((cs.drop f.offset).take (P.cellsOf f.type))=some (d,p):=by
 unfold DataW.trod at h
 rw[hu] at h
 simp only at h
 split at h
 ·
  rename_i hl
  obtain⟨xs,h1,h2⟩:=Option.map_eq_some_iff.1 h
  simp only [Prod.mk.injEq,DataW.agg.injEq] at h2
  obtain⟨rfl,_⟩:=h2
  obtain⟨e1,e2⟩:=mapM_some h1
  refine⟨hl,by simp [e1],fun k f d hk hd=>?_⟩
  rw[List.getElem?_map] at hd
  obtain⟨x,q1,q2⟩:=Option.map_eq_some_iff.1 hd
  exact⟨x.2,by rw[e2 k f x hk q1,← q2]⟩
 · cases h
end
/-- What a law is handed, there. -/
theorem imp_good (enc:TypeId×Value→H):∀ (g:Nat) (t:TypeId) (cs:List Value) (d:DataW H) (ps:List MemPlace),DataW.trod enc P w 0 (fun _=>true) true g t cs=some (d,ps) →
  ∀ (m n:Nat) (vs:List Value) (bs:List (Option Blk)),impOne P m t d n=some (vs,bs)→∀ ι0:Map,(∀ b L,ι0 b=some L→b<n)→Good w ι0 n vs bs cs:=by
 intro g
 induction g with
 | zero=>intro t cs d ps h;simp [DataW.trod] at h
 | succ g ih =>
  intro t cs d ps h m n vs bs hi ι0 hd
  cases m with
  | zero=>simp [impOne] at hi
  | succ m =>
   unfold impOne at hi
   split at hi
   · rename_i b hu;cases hi;rw[trod_bool hu h];exact .plain hd rfl
   · rename_i k0 k x hu;cases hi;rw[trod_int hu h];exact .plain hd rfl
   · rename_i x hu;cases hi;rw[trod_string hu h];exact .plain hd rfl
   · rename_i e hu;cases hi;rw[trod_slnil hu h];exact .plain hd rfl
   ·
    rename_i e els rest hu
    split at hi
    · cases hi
    ·
     rename_i hsz
     obtain⟨x,h1,h2⟩:=Option.map_eq_some_iff.1 hi
     cases h2
     obtain⟨a,len,cap,rfl,c1,c2,c3,c4,c5⟩:=trod_slice hu h
     have hcap:len+rest.length<OPEN:=by
       have:maxLen<OPEN:=by decide
       omega
     -- the elements' cells
     have hcss:∃ css:List (List Value),css.length=els.length∧(∀ c ∈ css,c.length=P.cellsOf e)∧(∀ (k:Nat) (d:DataW H) (c:List Value),els[k]?=some d→css[k]?=some c →
       w.cells? 0 (a.add (k * P.cellsOf e)) (P.cellsOf e)=some c∧∃ p,DataW.trod enc P w 0 (fun _=>true) true g e c=some (d,p)):=by
      refine⟨(List.range els.length).map fun k=>(w.cells? 0 (a.add (k * P.cellsOf e)) (P.cellsOf e)).getD [],by simp,fun c hc=>?_,fun k d c hk hc=>?_⟩
      ·
       obtain⟨k,hk,rfl⟩:=List.mem_map.1 hc
       have hk:=List.mem_range.1 hk
       obtain⟨c,p,q1,q2⟩:=c5 k els[k] (by rw[List.getElem?_append_left hk];exact List.getElem?_eq_getElem hk)
       rw[q1]
       exact(cells?_some q1).1
      ·
       have hlt:k<els.length:=(List.getElem?_eq_some_iff.1 hk).1
       rw[List.getElem?_map,List.getElem?_range hlt] at hc
       simp only [Option.map_some,Option.some.injEq] at hc
       obtain⟨c',p,q1,q2⟩:=c5 k d (by rw[List.getElem?_append_left hlt];exact hk)
       rw[q1] at hc
       simp only [Option.getD_some] at hc
       subst hc
       exact⟨q1,p,q2⟩
     obtain⟨css,k1,k2,k3⟩:=hcss
     have hd1:∀ b L,(ι0.set n ⟨a.block,a.off,P.cellsOf e,cap * P.cellsOf e⟩) b=some L→b<n+1:=by
      intro b L hb
      simp only [Map.set] at hb
      split at hb
      · omega
      · have:=hd b L hb;omega
     obtain⟨ι,g1,g2,g3,g4⟩:=impL_good (w:=w) (List.replicate els.length e) els css (n+1) k1 (fun k t' d c hk1 hk2 hk3 n' vs' bs' hi' ι1 hd'=>by
      have:t'=e:=by
       rw[List.getElem?_replicate] at hk1
       split at hk1
       · cases hk1;rfl
       · cases hk1
      subst this
      obtain⟨_,p,q⟩:=k3 k d c hk2 hk3
      exact ih _ _ _ _ q m n' vs' bs' hi' ι1 hd') h1 _ hd1
     have hle:ι0.le ι:=(Map.le_set hd).trans g1
     have hn:ι n=some ⟨a.block,a.off,P.cellsOf e,cap * P.cellsOf e⟩:=g1 n _ (by simp [Map.set])
     have first:∀ k,k<cap→∃ v,w.cell? (a.add (k * P.cellsOf e))=some v:=by
      intro k hk
      have hlt:k<(els++rest).length:=by simp;omega
      obtain⟨c,p,q1,q2⟩:=c5 k _ (List.getElem?_eq_getElem hlt)
      obtain⟨q3,q4⟩:=cells?_some q1
      have:c[0]?=some c[0]:=List.getElem?_eq_getElem (by omega)
      have:=q4 0 _ this
      rw[Addr.add_zero'] at this
      exact⟨_,this⟩
     have hspot:cap≠0→a=⟨a.block,a.off,none⟩:=by
      intro hc
      obtain⟨v,hv⟩:=first 0 (by omega)
      rw[Nat.zero_mul,Addr.add_zero'] at hv
      have:=(cell?_plain hv).1
      cases a;simp_all
     refine⟨ι,hle,fun b L hb=>by have:=g2 b L hb;simp only [List.length_cons];omega,⟨rfl,fun i x y hx hy=>?_⟩,fun j B hj=>?_⟩
     ·
      have hi0:i=0:=by
       rcases Nat.lt_or_ge i 1 with h | h
       · omega
       · rw[Array.getElem?_eq_none (by simpa using h)] at hx;cases hx
      subst hi0
      simp at hx hy
      subst hx hy
      rw[c2,c3]
      refine .sl ⟨rfl,c1,fun _=>rfl,_,hn,fun hc=>?_,fun hc=>absurd hc (by omega)⟩
      rw[hspot hc]
      rfl
     ·
      cases j with
      | zero =>
       simp only [List.getElem?_cons_zero,Option.some.injEq] at hj
       split at hj
       · cases hj
       ·
        rename_i hne
        cases hj
        refine⟨rfl,_,hn,⟨rfl,(fun x=>nomatch x),fun _=>?_,(fun x=>nomatch x),(fun x=>nomatch x),fun _=>?_⟩⟩
        ·
         have e1:=g3.1
         simp only [List.size_toArray] at e1
         simp only
         rw[e1,flatten_len css k2,k1,c2]
         exact Nat.mul_le_mul_right _ c1
        ·
         have hlen:els.length≠0:=fun e0=>hne (by simp [List.eq_nil_of_length_eq_zero e0])
         obtain⟨v0,hv0⟩:=first 0 (by omega)
         rw[Nat.zero_mul,Addr.add_zero'] at hv0
         obtain⟨hsp,C,el,fr,hC,hC0⟩:=cell?_plain hv0
         obtain⟨lo,hi⟩:=fr
         have hat:∀ i v,css.flatten[i]?=some v→C[a.off+i]?=some v:=by
          intro i v hv
          have hil:i<css.length * P.cellsOf e:=by rw[← flatten_len css k2];exact(List.getElem?_eq_some_iff.1 hv).1
          have hpos:0<P.cellsOf e:=by omega
          have hq:i / P.cellsOf e<css.length:=(Nat.div_lt_iff_lt_mul hpos).2 hil
          have hr:i % P.cellsOf e<P.cellsOf e:=Nat.mod_lt _ hpos
          have hdm:i / P.cellsOf e * P.cellsOf e+i % P.cellsOf e=i:=by rw[Nat.mul_comm];exact Nat.div_add_mod _ _
          have hcs:css[i / P.cellsOf e]?=some css[i / P.cellsOf e]:=List.getElem?_eq_getElem hq
          have hfl:=flatten_at css _ _ _ k2 hcs hr
          rw[hdm] at hfl
          rw[hfl] at hv
          obtain⟨q1,_⟩:=k3 _ _ _ (List.getElem?_eq_getElem (by omega)) hcs
          have:=(cells?_some q1).2 _ _ hv
          rw[add_plain a hsp,add_plain _ rfl] at this
          obtain⟨_,C',el',fr',hC',hv'⟩:=cell?_plain this
          simp only at hC' hv'
          rw[hC] at hC'
          cases hC'
          rw[← hv']
          congr 1
          omega
         refine⟨C,el,lo,hi,hC,?_,fun i v hv=>?_,fun x=>by cases x⟩
         ·
          have e1:=g3.1
          simp only [List.size_toArray] at e1
          simp only
          rw[e1]
          have hpos2:0<css.flatten.length:=by rw[flatten_len css k2];exact Nat.mul_pos (by omega) (by omega)
          have:=hat (css.flatten.length - 1) _ (List.getElem?_eq_getElem (by omega))
          have:=(Array.getElem?_eq_some_iff.1 this).1
          omega
         ·
          obtain⟨y,p,q⟩:=g3.get (i:=i) (x:=v) (by rw[List.getElem?_toArray];exact hv)
          rw[List.getElem?_toArray] at p
          exact⟨y,hat i y p,q⟩
      | succ j =>
       simp only [List.getElem?_cons_succ] at hj
       obtain⟨q1,L,q2,q3⟩:=g4 j B hj
       rw[show n+1+j=n+(j+1) by omega] at q2
       exact⟨q1,L,q2,q3⟩
   ·
    rename_i fs ds hu
    split at hi
    ·
     rename_i hcon
     obtain⟨h1,h2,h3⟩:=trod_struct hu h
     obtain⟨_,h4⟩:=contig_flat cs fs.toList 0 _ hcon
     have h5:cs=(fs.toList.map fun f=>(cs.drop f.offset).take (P.cellsOf f.type)).flatten:=by
      rw[← h4,List.drop_zero,List.take_of_length_le (by omega)]
     rw[h5]
     refine impL_good (w:=w) (fs.toList.map (·.type)) ds _ n (by simp [h2]) (fun k t' d c hk1 hk2 hk3 n' vs' bs' hi' ι1 hd'=>?_) hi ι0 hd
     rw[List.getElem?_map] at hk1 hk3
     obtain⟨f,q1,q2⟩:=Option.map_eq_some_iff.1 hk1
     rw[q1] at hk3
     simp only [Option.map_some,Option.some.injEq] at hk3
     obtain⟨p,q⟩:=h3 k f d q1 hk2
     subst q2
     rw[hk3] at q
     exact ih _ _ _ _ q m n' vs' bs' hi' ι1 hd'
    · cases hi
   · cases hi
end Go.AM

/- A law's function, whatever it is handed. -/
namespace Go.AM
open Go
variable {H : Type} {P : Program} {w : World}

def argV (P:Program) (t:TypeId) (vs:List Value):Option Value :=
 match P.underlying t with
 | some (.struct _) | some (.array _ _)=>some (.agg vs.toArray)
 | _=>match vs with
  | [v]=>some v
  | _=>none
def impArgs (P:Program) (m:Nat):List TypeId→List (DataW H)→Nat→Option (List Value×List (Option Blk))
 | [],[],_=>some ([],[])
 | t :: ts,d :: ds,n=>(impOne P m t d n).bind fun x=>(argV P t x.1).bind fun v=>(impArgs P m ts ds (n+x.2.length)).map fun y=>(v :: y.1,x.2++y.2)
 | _,_,_=>none
def Heap.ofList (bs:List (Option Blk)):Heap:=⟨bs.length,fun b=>(bs[b]?).join⟩
theorem okWide_plain {r:Reach} {base:Nat} {t:TypeId} {v:Value} (hd:∀ fs,P.underlying t≠some (.struct fs)) (hd2:∀ n e,P.underlying t≠some (.array n e)) (h:Value.okWide P w r base t v):∀ cs,v ≠ .agg cs:=by
 intro cs hv
 subst hv
 unfold Value.okWide at h
 split at h
 · rename_i fs hu;exact hd _ hu
 · rename_i n e hu;exact hd2 _ _ hu
 ·
  unfold Cell.okWide at h
  split at h
  all_goals first
   | (rename_i hc;cases hc;done)
   | (unfold Cell.ok at h;split at h <;> first | exact h.elim | (rename_i hc;cases hc))
   | simp_all
theorem cells_one {v:Value} (h:∀ cs,v ≠ .agg cs):v.cells = #[v]:=by
 cases v <;> first | rfl | exact absurd rfl (h _)
theorem argV_R {ι:Map} {t:TypeId} {vs:List Value} {x v:Value} {r:Reach} {base:Nat} (hx:argV P t vs=some x) (hv:Value.okWide P w r base t v) (h:AsR ι vs.toArray v.cells.toList.toArray):VR ι x v:=by
 have agg:(∃ cs,v = .agg cs∧cs.size=P.cellsOf t∧Row.okWide P w r base t cs)→VR ι (.agg vs.toArray) v:=by
  rintro⟨cs,rfl,_⟩
  have:(Value.agg cs).cells=cs:=rfl
  rw[this] at h
  have e:cs.toList.toArray=cs:=by simp
  rw[e] at h
  exact .agg h.1 h.2
 unfold argV at hx
 split at hx
 ·
  rename_i fs hu
  cases hx
  unfold Value.okWide at hv
  rw[hu] at hv
  exact agg hv
 ·
  rename_i n e hu
  cases hx
  unfold Value.okWide at hv
  rw[hu] at hv
  exact agg hv
 ·
  rename_i h1 h2
  have hone:=cells_one (okWide_plain (fun fs hu=>h1 fs hu) (fun n e hu=>h2 n e hu) hv)
  rw[hone] at h
  split at hx
  ·
   cases hx
   exact h.2 0 _ _ rfl rfl
  · cases hx
theorem impArgs_good {enc:TypeId×Value→H} {m:Nat} {r:Reach} {base:Nat}:∀ (ts:List TypeId) (args:List Value) (ds:List (DataW H)) (ps:List MemPlace) (n:Nat) {vs:List Value} {bs:List (Option Blk)},DataW.TrodAll enc P w 0 (fun _=>true) true ts args ds ps →
  (∀ (j:Nat) (t:TypeId) (v:Value),ts[j]?=some t→args[j]?=some v→Value.okWide P w r base t v)→impArgs P m ts ds n=some (vs,bs)→∀ ι0:Map,(∀ b L,ι0 b=some L→b<n)→Good w ι0 n vs bs args
 | [],[],[],ps,n,vs,bs,_,_,h,ι0,hd=>by
  simp only [impArgs,Option.some.injEq,Prod.mk.injEq] at h
  obtain⟨rfl,rfl⟩:=h
  exact⟨ι0,.refl ι0,fun b L h=>by simpa using hd b L h,⟨rfl,fun i x y hx=>by simp at hx⟩,fun j B h=>by simp at h⟩
 | t :: ts,v :: args,d :: ds,ps,n,vs,bs,hT,hok,h,ι0,hd=>by
  obtain⟨p,q,⟨g,h1⟩,h2,_⟩:=hT
  simp only [impArgs,Option.bind_eq_some_iff] at h
  obtain⟨x,h3,y,h4,h5⟩:=h
  obtain⟨z,h6,h7⟩:=Option.map_eq_some_iff.1 h5
  cases h7
  have g1:=imp_good enc g t _ d p h1 m n x.1 x.2 h3 ι0 hd
  have hv:=hok 0 t v rfl rfl
  have g2:Good w ι0 n [y] x.2 [v]:=by
   obtain⟨ι,a1,a2,a3,a4⟩:=g1
   refine⟨ι,a1,a2,⟨rfl,fun i p q hp hq=>?_⟩,a4⟩
   have hi:i=0:=by
    rcases Nat.lt_or_ge i 1 with h | h
    · omega
    · rw[Array.getElem?_eq_none (by simpa using h)] at hp;cases hp
   subst hi
   simp at hp hq
   subst hp hq
   exact argV_R h4 hv a3
  exact Good.append g2 fun ι hι=>impArgs_good ts args ds q _ h2 (fun j t v a b=>hok (j+1) t v (by simpa using a) (by simpa using b)) h6 ι hι
/-- A law: it returns a bool; all that was there is as it was. -/
theorem law_go {enc:TypeId×Value→H} {m:Nat} {r:Reach} {base:Nat} {ts:List TypeId} {args:Array Value} {ds:List (DataW H)} {ps:List MemPlace} {vs:List Value} {bs:List (Option Blk)} {f:FuncId} {v:Value} {H':Heap}
  (hT:DataW.TrodAll enc P w 0 (fun _=>true) true ts args.toList ds ps) (hok:∀ (j:Nat) (t:TypeId) (v:Value),ts[j]?=some t→args[j]?=some v→Value.okWide P w r base t v) (hi:impArgs P m ts ds 0=some (vs,bs))
  (hs:Spec P f vs (Heap.ofList bs) v H') (hv:flat v=true):Calls P f args w fun e w'=>e = .returned v∧Go.RowKit.Below w.heap.size w w':=by
 obtain⟨ι,a1,a2,a3,a4⟩:=impArgs_good (r:=r) (base:=base) ts args.toList ds ps 0 hT (fun j t v x y=>hok j t v x (by rw[← Array.getElem?_toList];exact y)) hi (fun _=>none) (fun b L h=>by cases h)
 have hblk:∀ b B,(Heap.ofList bs).blk b=some B→bs[b]?=some (some B):=by
  intro b B hb
  simp only [Heap.ofList] at hb
  cases hc:bs[b]? with
  | none=>rw[hc] at hb;cases hb
  | some o=>rw[hc] at hb;simp at hb;rw[hb]
 have hR:R ι (Heap.ofList bs) w:=by
  refine⟨fun b L h=>by have:=a2 b L h;simpa [Heap.ofList] using this,fun b B hb=>?_,fun b b' B B' L L' _ hb _ _ _ hrd=>?_⟩
  ·
   obtain⟨_,L,q1,q2⟩:=a4 b B (hblk b B hb)
   exact⟨L,by simpa using q1,q2⟩
  ·
   have:=(a4 b B (hblk b B hb)).1
   rw[this] at hrd;cases hrd
 have e1:args.toList.toArray=args:=by simp
 rw[e1] at a3
 refine Calls.mono (hs ι w args hR a3) fun e w' he=>?_
 obtain⟨v',ι',rfl,q1,q2,q3⟩:=he
 refine⟨by rw[flat_eq hv q1],q3.os,q3.tape,q3.output,q3.size,fun k hk=>q3.frame k hk ?_⟩
 rintro⟨b,B,L,h1,_,hrd,_⟩
 have:=(a4 b B (hblk b B h1)).1
 rw[this] at hrd;cases hrd
end Go.AM
