/- Part of a machine of its own for this claim: the program's code over memory without draws. -/
import Derived.Test.YtodcgppcmahbkabSAmB
import Derived.Laws.BitsLemmas
set_option linter.unusedVariables false
set_option linter.unusedSimpArgs false
set_option linter.unnecessarySimpa false
/- Walking through code: one rule for each kind of operation. -/
namespace Go.AM
open Go
variable {P : Program} {E : TypeId → Bool}

/-- Slots: the last one written stands first. -/
inductive Slots
 | nil
 | cons (t:Tmp) (v:Value) (l:Slots)
def lk : Slots→Tmp→Option Value
 | .nil,_=>none
 | .cons d v l,t=>match Nat.beq t d with
  | true=>some v
  | false=>lk l t
def RL (n:Nat) (l:Slots):Regs:=⟨n,lk l⟩
theorem lk_cons (d:Tmp) (v:Value) (l:Slots) (t:Tmp):lk (.cons d v l) t=if t=d then some v else lk l t:=by
 simp only [lk]
 by_cases h:t=d
 · subst h;rw[if_pos rfl,show Nat.beq t t=true from Nat.beq_refl t]
 · rw[if_neg h,show Nat.beq t d=false from by cases hb:Nat.beq t d with | false=>rfl | true=>exact absurd (Nat.eq_of_beq_eq_true hb) h]
theorem RL_put (n:Nat) (l:Slots) (d:Tmp) (v:Value):(RL n l).put (some d) v=RL n (.cons d v l):=by
 simp only [RL,Regs.put]
 congr 1
 funext t
 rw[lk_cons]
/-- Those of the slots that are still looked at. -/
def keepOf (l:Slots):List Tmp→Slots
 | [] => .nil
 | t :: ts=>match lk l t with
  | some v => .cons t v (keepOf l ts)
  | none=>keepOf l ts
theorem keepOf_le (n:Nat) (l:Slots) (ts:List Tmp):(RL n (keepOf l ts)).le (RL n l):=by
 refine⟨rfl,fun t v h=>?_⟩
 simp only [RL] at h ⊢
 induction ts with
 | nil=>simp [keepOf,lk] at h
 | cons x ts ih =>
  simp only [keepOf] at h
  split at h
  ·
   rename_i u hu
   rw[lk_cons] at h
   split at h
   · rename_i e;subst e;rw[hu];exact h
   · exact ih h
  · exact ih h
theorem aw_keep (ts:List Tmp) {n:Nat} {l l':Slots} {c:Code} {H:Heap} {Q:Ex→Regs→Heap→Prop} (hQ:Up Q) (hk:keepOf l ts=l') (h:aw P E c (RL n l') H Q):aw P E c (RL n l) H Q:=aw_le hQ (keepOf_le n l ts) (by rw[hk];exact h)
theorem Up.done {fn:Func} {Q:Value→Heap→Prop}:Up (Done P fn Q):=by
 have key:∀ r r' H v,Regs.le r r'→resA P fn r H=some v→resA P fn r' H=some v:=by
  intro r r' H v hl h
  obtain⟨l,h1,rfl⟩:=Option.map_eq_some_iff.1 h
  have:∀ (xs:List ResultVar) {l:List Value},xs.mapM (resOne P r H)=some l→xs.mapM (resOne P r' H)=some l:=by
   intro xs
   induction xs with
   | nil=>intro l h;exact h
   | cons x xs ih =>
    intro l h
    simp only [List.mapM_cons,Option.bind_eq_bind,Option.bind_eq_some_iff,Option.pure_def,Option.some.injEq] at h ⊢
    obtain⟨v,h1,l',h2,rfl⟩:=h
    refine⟨v,?_,l',ih h2,rfl⟩
    cases x with
    | tmp t=>exact hl.2 t v h1
    | cell a t =>
     obtain⟨b,h3,h4⟩:=Option.bind_eq_some_iff.1 h1
     obtain⟨u,h5,h6⟩:=Option.bind_eq_some_iff.1 h3
     simp only [resOne,hl.2 a u h5,Option.bind_some,h6,h4]
  simp only [resA,this _ h1,Option.map_some]
 intro e r r' H hl h
 cases e with
 | normal=>obtain⟨v,h1,h2⟩:=h;exact⟨v,key _ _ _ _ hl h1,h2⟩
 | exit id=>exact h
 | ret=>obtain⟨v,h1,h2⟩:=h;exact⟨v,key _ _ _ _ hl h1,h2⟩
def slotsOf : List Value→Nat→Slots
 | [],_ => .nil
 | v :: l,i => .cons i v (slotsOf l (i+1))
theorem initR_slots (args:List Value) (n:Nat):initR args n=RL (args.length+(n - args.length)) (slotsOf args 0):=by
 have key:∀ (l:List Value) (i t:Nat),lk (slotsOf l i) t=if i≤t then l[t - i]? else none:=by
  intro l
  induction l with
  | nil=>intro i t;simp [slotsOf,lk]
  | cons v l ih =>
   intro i t
   rw[slotsOf,lk_cons,ih]
   by_cases h:t=i
   · subst h;simp
   ·
    rw[if_neg h]
    by_cases h2:i≤t
    ·
     rw[if_pos h2,if_pos (by omega)]
     rw[show t - i=(t - (i+1))+1 by omega]
     simp
    · rw[if_neg h2,if_neg (by omega)]
 simp only [initR,RL]
 congr 1
 funext t
 rw[key]
 simp
/-- A function's call, from its code. -/
theorem spec_go (hE:EqOk P E) {f:FuncId} {fn:Func} {c:Code} {args:List Value} {H:Heap} {Q:Value→Heap→Prop} {n:Nat} {l:Slots} (hf:P.funcs[f]?=some fn) (hb:fn.body=some c) (hn:args.length+(fn.ntmps - args.length)=n) (hl:slotsOf args 0=l)
  (h:aw P E c (RL n l) H (Done P fn Q)):∃ v H',Spec P f args H v H'∧Q v H':=spec_of hE hf hb (by rw[initR_slots,hn,hl];exact h)
theorem spec_go0 (hE:EqOk P E) {f:FuncId} {fn:Func} {c:Code} {H:Heap} {Q:Value→Heap→Prop} (n:Nat) (hf:P.funcs[f]?=some fn) (hb:fn.body=some c) (hn:Nat.beq fn.ntmps n=true)
  (h:aw P E c (RL n .nil) H (Done P fn Q)):∃ v H',Spec P f [] H v H'∧Q v H':=spec_go hE hf hb (by have:=Nat.eq_of_beq_eq_true hn;simp [this]) rfl h
theorem spec_go1 (hE:EqOk P E) {f:FuncId} {fn:Func} {c:Code} {a:Value} {H:Heap} {Q:Value→Heap→Prop} (n:Nat) (hf:P.funcs[f]?=some fn) (hb:fn.body=some c) (hn:Nat.beq fn.ntmps n=true) (h1:Nat.ble 1 n=true)
  (h:aw P E c (RL n (.cons 0 a .nil)) H (Done P fn Q)):∃ v H',Spec P f [a] H v H'∧Q v H':=spec_go hE hf hb (by have:=Nat.eq_of_beq_eq_true hn;have:=Nat.le_of_ble_eq_true h1;simp;omega) rfl h
theorem spec_go2 (hE:EqOk P E) {f:FuncId} {fn:Func} {c:Code} {a b:Value} {H:Heap} {Q:Value→Heap→Prop} (n:Nat) (hf:P.funcs[f]?=some fn) (hb:fn.body=some c) (hn:Nat.beq fn.ntmps n=true) (h1:Nat.ble 2 n=true)
  (h:aw P E c (RL n (.cons 0 a (.cons 1 b .nil))) H (Done P fn Q)):∃ v H',Spec P f [a,b] H v H'∧Q v H':=spec_go hE hf hb (by have:=Nat.eq_of_beq_eq_true hn;have:=Nat.le_of_ble_eq_true h1;simp;omega) rfl h
theorem spec_go3 (hE:EqOk P E) {f:FuncId} {fn:Func} {c:Code} {a b d:Value} {H:Heap} {Q:Value→Heap→Prop} (n:Nat) (hf:P.funcs[f]?=some fn) (hb:fn.body=some c) (hn:Nat.beq fn.ntmps n=true) (h1:Nat.ble 3 n=true)
  (h:aw P E c (RL n (.cons 0 a (.cons 1 b (.cons 2 d .nil)))) H (Done P fn Q)):∃ v H',Spec P f [a,b,d] H v H'∧Q v H':=spec_go hE hf hb (by have:=Nat.eq_of_beq_eq_true hn;have:=Nat.le_of_ble_eq_true h1;simp;omega) rfl h
/-- One operation, as a term. -/
def StpO (P:Program) (E:TypeId→Bool) (ops:Array Oper) (o:Oper) (r:Regs) (H:Heap) (v:Value) (H':Heap):Prop :=
 dstOk r.n o.dst=true∧((wants ops r o=some false∧v=undef∧H'=H)∨(wants ops r o=some true∧OpEv P E r H o v H'))
/-- A row, its operations as they stand in a list. -/
def awL (P:Program) (E:TypeId→Bool) (ops:Array Oper):List Oper→Regs→Heap→(Regs→Heap→Prop)→Prop
 | [],r,H,K=>K r H
 | o :: l,r,H,K=>∃ v H',StpO P E ops o r H v H'∧awL P E ops l (r.put o.dst v) H' K
theorem awL_ops {ops:Array Oper} {K:Regs→Heap→Prop}:∀ (l:List Oper) (k:Nat) {r:Regs} {H:Heap},(∀ (j:Nat) (o:Oper),l[j]?=some o→ops[k+j]?=some o)→awL P E ops l r H K→awOps P E ops (List.range' k l.length) r H K
 | [],k,r,H,_,h=>h
 | o :: l,k,r,H,hl,h=>by
  obtain⟨v,H',h1,h2⟩:=h
  have ho:ops[k]?=some o:=by have:=hl 0 o rfl;simpa using this
  refine⟨v,H',⟨o,ho,h1⟩,?_⟩
  rw[dstOf_some ho]
  exact awL_ops l (k+1) (fun j o' hj=>by have:=hl (j+1) o' (by simpa using hj);rw[← this];congr 1;omega) h2
theorem aw_reg {id:Nat} {os:List Oper} {r:Regs} {H:Heap} {Q:Ex→Regs→Heap→Prop} (h:awL P E os.toArray os r H fun r H=>Q .normal r H):aw P E (.region id os.toArray false) r H Q:=by
 refine aw_region ?_
 rw[List.range_eq_range']
 have:=awL_ops (ops:=os.toArray) os 0 (fun j o hj=>by simpa using hj) h
 simpa using this
/-- The same of a row that draws. -/
def awLD (P:Program) (E:TypeId→Bool) (ops:Array Oper) (keep:Nat→Prop):List (Oper×Bool×Bool)→Regs→Heap→(Regs→Heap→Prop)→Prop
 | [],r,H,K=>K r H
 | (o,lr,le) :: l,r,H,K=>∃ v H',StpO P E ops o r H v H'∧(lr=true→wants ops r o=some true→∀ b,rdB P r o=some b→keep b)∧(le=true→∀ b,keep b→H'.blk b=H.blk b)∧awLD P E ops keep l (r.put o.dst v) H' K
def flags (P:Program) (ops:Array Oper):List Oper→Nat→List (Oper×Bool×Bool)
 | [],_ => []
 | o :: l,i=>(o,looseR P ops i,looseE P ops i) :: flags P ops l (i+1)
theorem awLD_ops {ops:Array Oper} {keep:Nat→Prop} {K:Regs→Heap→Prop}:∀ (l:List Oper) (k:Nat) {r:Regs} {H:Heap},(∀ (j:Nat) (o:Oper),l[j]?=some o→ops[k+j]?=some o)→awLD P E ops keep (flags P ops l k) r H K→awOpsD P E ops keep (List.range' k l.length) r H K
 | [],k,r,H,_,h=>h
 | o :: l,k,r,H,hl,h=>by
  obtain⟨v,H',h1,h2,h3,h4⟩:=h
  have ho:ops[k]?=some o:=by have:=hl 0 o rfl;simpa using this
  refine⟨v,H',⟨o,ho,h1⟩,fun a o' b ho' hw hb=>h2 a (by rw[ho] at ho';cases ho';exact hw) b (by rw[ho] at ho';cases ho';exact hb),h3,?_⟩
  rw[dstOf_some ho]
  exact awLD_ops l (k+1) (fun j o' hj=>by have:=hl (j+1) o' (by simpa using hj);rw[← this];congr 1;omega) h4
/-- The marks, told: 'ms' says for each operation whether it reads beside what acts, or acts beside what is read. -/
theorem aw_drw {id:Nat} {os:List Oper} {fl:List (Oper×Bool×Bool)} {r:Regs} {H:Heap} {Q:Ex→Regs→Heap→Prop} (keep:Nat→Prop) (hm:P.follows .mixedOrders=true) (hd:drawOk P os.toArray=true) (hfl:flags P os.toArray os 0=fl)
  (h:awLD P E os.toArray keep fl r H fun r H=>Q .normal r H):aw P E (.region id os.toArray true) r H Q:=by
 refine aw_drawn hm hd keep ?_
 rw[List.range_eq_range']
 have:=awLD_ops (ops:=os.toArray) os 0 (fun j o hj=>by simpa using hj) (by rw[hfl];exact h)
 simpa using this
section ops
variable {ops : Array Oper} {l : List Oper} {n : Nat} {r : Slots} {H H' : Heap} {K : Regs → Heap → Prop} {o : Oper} {v : Value} {W : List Nat} {d : Tmp}
theorem put_some (h:o.dst=some d):(RL n r).put o.dst v=RL n (.cons d v r):=by rw[h];exact RL_put n r d v
theorem dst_some (h:o.dst=some d) (hn:Nat.blt d n=true):dstOk (RL n r).n o.dst=true:=by
 rw[h]
 simp only [dstOk,RL]
 exact decide_eq_true (Nat.le_of_ble_eq_true hn)
/-- One operation that is no call. -/
theorem st_op (he:evOp P E (RL n r) H o=some (v,H',W)) (hd:o.dst=some d) (hn:Nat.blt d n=true) (hw:wants ops (RL n r) o=some true) (k:awL P E ops l (RL n (.cons d v r)) H' K):awL P E ops (o :: l) (RL n r) H K :=
 ⟨v,H',⟨dst_some hd hn,.inr ⟨hw,.op he⟩⟩,by rw[put_some hd];exact k⟩
theorem st_op0 (he:evOp P E (RL n r) H o=some (v,H',W)) (hd:o.dst=none) (hw:wants ops (RL n r) o=some true) (k:awL P E ops l (RL n r) H' K):awL P E ops (o :: l) (RL n r) H K :=
 ⟨v,H',⟨by rw[hd];rfl,.inr ⟨hw,.op he⟩⟩,by rw[hd];exact k⟩
theorem st_skip (hw:wants ops (RL n r) o=some false) (hd:o.dst=some d) (hn:Nat.blt d n=true) (k:awL P E ops l (RL n (.cons d undef r)) H K):awL P E ops (o :: l) (RL n r) H K :=
 ⟨undef,H,⟨dst_some hd hn,.inl ⟨hw,rfl,rfl⟩⟩,by rw[put_some hd];exact k⟩
theorem st_call {c:Call} {f:FuncId} {args:List Value} (ho:o.op = .call c) (hc:c.callee = .value (.func f)) (ha:evals (RL n r) c.args.toList=some args) (hf:enters P f=true) (hd:o.dst=some d) (hn:Nat.blt d n=true) (hw:wants ops (RL n r) o=some true)
  (h:∃ v H',Spec P f args H v H'∧awL P E ops l (RL n (.cons d v r)) H' K):awL P E ops (o :: l) (RL n r) H K:=by
 obtain⟨v,H',h,k⟩:=h
 exact⟨v,H',⟨dst_some hd hn,.inr ⟨hw,.call ho hc rfl ha hf (by simpa using h)⟩⟩,by rw[put_some hd];exact k⟩
/-- In a row that draws. -/
theorem sd_op {keep:Nat→Prop} {ld:List (Oper×Bool×Bool)} (he:evOp P E (RL n r) H o=some (v,H',W)) (hd:o.dst=some d) (hn:Nat.blt d n=true) (hw:wants ops (RL n r) o=some true) (k:awLD P E ops keep ld (RL n (.cons d v r)) H' K):awLD P E ops keep ((o,false,false) :: ld) (RL n r) H K :=
 ⟨v,H',⟨dst_some hd hn,.inr ⟨hw,.op he⟩⟩,(fun h=>nomatch h),(fun h=>nomatch h),by rw[put_some hd];exact k⟩
theorem sd_skip {keep:Nat→Prop} {ld:List (Oper×Bool×Bool)} {lr le:Bool} (hw:wants ops (RL n r) o=some false) (hd:o.dst=some d) (hn:Nat.blt d n=true) (k:awLD P E ops keep ld (RL n (.cons d undef r)) H K):awLD P E ops keep ((o,lr,le) :: ld) (RL n r) H K :=
 ⟨undef,H,⟨dst_some hd hn,.inl ⟨hw,rfl,rfl⟩⟩,(fun _ h=>by rw[hw] at h;cases h),(fun _ _ _=>rfl),by rw[put_some hd];exact k⟩
/-- What is read beside what acts. -/
theorem sd_read {keep:Nat→Prop} {ld:List (Oper×Bool×Bool)} (he:evOp P E (RL n r) H o=some (v,H',W)) (hd:o.dst=some d) (hn:Nat.blt d n=true) (hw:wants ops (RL n r) o=some true) (hk:∀ b,rdB P (RL n r) o=some b→keep b) (k:awLD P E ops keep ld (RL n (.cons d v r)) H' K):awLD P E ops keep ((o,true,false) :: ld) (RL n r) H K :=
 ⟨v,H',⟨dst_some hd hn,.inr ⟨hw,.op he⟩⟩,(fun _ _=>hk),(fun h=>nomatch h),by rw[put_some hd];exact k⟩
theorem sd_call {keep:Nat→Prop} {ld:List (Oper×Bool×Bool)} {le:Bool} {c:Call} {f:FuncId} {args:List Value} (ho:o.op = .call c) (hc:c.callee = .value (.func f)) (ha:evals (RL n r) c.args.toList=some args) (hf:enters P f=true) (hd:o.dst=some d) (hn:Nat.blt d n=true) (hw:wants ops (RL n r) o=some true)
  (h:∃ v H',Spec P f args H v H'∧(le=true→∀ b,keep b→H'.blk b=H.blk b)∧awLD P E ops keep ld (RL n (.cons d v r)) H' K):awLD P E ops keep ((o,false,le) :: ld) (RL n r) H K:=by
 obtain⟨v,H',h,hk,k⟩:=h
 exact⟨v,H',⟨dst_some hd hn,.inr ⟨hw,.call ho hc rfl ha hf (by simpa using h)⟩⟩,(fun h=>nomatch h),hk,by rw[put_some hd];exact k⟩
theorem RL_bool {b:Bool} (h:lk r d=some (.bool b)):RL n r=RL n (.cons d (.bool b) r):=by
 simp only [RL]
 congr 1
 funext t
 rw[lk_cons]
 split
 · rename_i e;rw[e,h]
 · rfl
/-- A slot that is true or false. -/
theorem st_bool (d:Tmp) {b:Bool} (h:lk r d=some (.bool b)) (ht:b=true→awL P E ops l (RL n (.cons d (.bool true) r)) H K) (hf:b=false→awL P E ops l (RL n (.cons d (.bool false) r)) H K):awL P E ops l (RL n r) H K:=by
 rw[RL_bool h]
 cases b
 · exact hf rfl
 · exact ht rfl
theorem sd_bool {keep:Nat→Prop} {ld:List (Oper×Bool×Bool)} (d:Tmp) {b:Bool} (h:lk r d=some (.bool b)) (ht:b=true→awLD P E ops keep ld (RL n (.cons d (.bool true) r)) H K) (hf:b=false→awLD P E ops keep ld (RL n (.cons d (.bool false) r)) H K):awLD P E ops keep ld (RL n r) H K:=by
 rw[RL_bool h]
 cases b
 · exact hf rfl
 · exact ht rfl
/-- What the operations do, one by one. -/
theorem ev_move {dst:Option Tmp} {x:Operand} {ty:TypeId} {pos:String} {af:Array Edge} {g:Option (Nat×Bool)} {R:Regs} (h:R.eval x=some v):evOp P E R H ⟨dst,.move x,ty,pos,af,g⟩=some (v,H,[]):=by simp only [evOp,h];rfl
theorem ev_assign {dst:Option Tmp} {x:Operand} {ty:TypeId} {pos:String} {af:Array Edge} {g:Option (Nat×Bool)} {R:Regs} (h:R.eval x=some v):evOp P E R H ⟨dst,.assign x,ty,pos,af,g⟩=some (v,H,[]):=by simp only [evOp,h];rfl
theorem ev_pickT {dst:Option Tmp} {c x y:Operand} {ty:TypeId} {pos:String} {af:Array Edge} {g:Option (Nat×Bool)} {R:Regs} (hc:R.eval c=some (.bool true)) (h:R.eval x=some v):evOp P E R H ⟨dst,.pick c x y,ty,pos,af,g⟩=some (v,H,[]):=by simp only [evOp,hc,h];rfl
theorem ev_pickF {dst:Option Tmp} {c x y:Operand} {ty:TypeId} {pos:String} {af:Array Edge} {g:Option (Nat×Bool)} {R:Regs} (hc:R.eval c=some (.bool false)) (h:R.eval y=some v):evOp P E R H ⟨dst,.pick c x y,ty,pos,af,g⟩=some (v,H,[]):=by simp only [evOp,hc,h];rfl
theorem ev_nilCheck {dst:Option Tmp} {x:Operand} {ty:TypeId} {pos:String} {af:Array Edge} {g:Option (Nat×Bool)} {R:Regs} {a:Addr} (h:R.eval x=some (.pointer (some a))):evOp P E R H ⟨dst,.nilCheck x,ty,pos,af,g⟩=some (.pointer (some a),H,[]):=by simp only [evOp,h]
theorem ev_int {dst:Option Tmp} {op:BinOp} {t t2:TypeId} {x y:Operand} {ty:TypeId} {pos:String} {af:Array Edge} {g:Option (Nat×Bool)} {R:Regs} {k:IntKind} {a b:Int} (hx:R.eval x=some (.int k a)) (hy:R.eval y=some (.int k b)) (h:intBin op k a b=some v) :
  evOp P E R H ⟨dst,.binOp op t x y t2,ty,pos,af,g⟩=some (v,H,[]):=by
 simp only [evOp,hx,hy,Option.bind_some,bin]
 cases op <;> simp_all [pureV,intBin]
/-- Whole numbers that do not run over. -/
def bare (op:BinOp) (a b:Int):Option Int :=
 match op with
 | .add=>some (a+b)
 | .sub=>some (a - b)
 | .mul=>some (a * b)
 | _=>none
theorem ev_int64 {dst:Option Tmp} {op:BinOp} {t t2:TypeId} {x y:Operand} {ty:TypeId} {pos:String} {af:Array Edge} {g:Option (Nat×Bool)} {R:Regs} {a b c:Int} (hx:R.eval x=some (.int .i64 a)) (hy:R.eval y=some (.int .i64 b)) (h:bare op a b=some c)
  (h1 : -9223372036854775808≤c) (h2:c≤9223372036854775807):evOp P E R H ⟨dst,.binOp op t x y t2,ty,pos,af,g⟩=some (.int .i64 c,H,[]):=by
 have hw:IntKind.i64.wrap c=c:=by rw[IntKind.wrap_i64];omega
 refine ev_int hx hy ?_
 cases op <;> simp only [bare,Option.some.injEq,reduceCtorEq] at h
 all_goals subst h;simp only [intBin,hw]
theorem ev_extract {dst:Option Tmp} {x:Operand} {i:Nat} {ty:TypeId} {pos:String} {af:Array Edge} {g:Option (Nat×Bool)} {R:Regs} {vs:Array Value} (hx:R.eval x=some (.tuple vs)) (h:vs[i]?=some v):evOp P E R H ⟨dst,.extract x i,ty,pos,af,g⟩=some (v,H,[]):=by
 simp only [evOp,hx,h,pureV,Option.map_some]
theorem ev_nilEq {dst:Option Tmp} {t t2 e:TypeId} {x y:Operand} {ty:TypeId} {pos:String} {af:Array Edge} {g:Option (Nat×Bool)} {R:Regs} {a:Option Addr} (hx:R.eval x=some (.pointer a)) (hy:R.eval y=some (.pointer none)) (hu:P.underlying t=some (.pointer e)) :
  evOp P E R H ⟨dst,.binOp .eql t x y t2,ty,pos,af,g⟩=some (.bool a.isNone,H,[]):=by
 cases a <;> simp [evOp,hx,hy,bin,eqA,hu,pureV]
theorem ev_not {dst:Option Tmp} {t:TypeId} {x:Operand} {ty:TypeId} {pos:String} {af:Array Edge} {g:Option (Nat×Bool)} {R:Regs} {b:Bool} (hx:R.eval x=some (.bool b)):evOp P E R H ⟨dst,.unOp .not t x,ty,pos,af,g⟩=some (.bool !b,H,[]):=by simp [evOp,hx,un,pureV]
/-- A field's place, told. -/
def fieldIs (P:Program) (t:TypeId) (f off:Nat):Bool :=
 match P.underlying t with
 | some (.struct fs)=>match fs[f]? with
  | some fd=>Nat.beq fd.offset off && posB (size? P fd.type)
  | none=>false
 | _=>false
theorem ev_fieldAddr {dst:Option Tmp} {t:TypeId} {x:Operand} {f:Nat} {ty:TypeId} {pos:String} {af:Array Edge} {g:Option (Nat×Bool)} {R:Regs} {b o off o':Nat} (hx:R.eval x=some (.pointer (some ⟨b,o,none⟩))) (hf:fieldIs P t f off=true) (ho:o+off=o') :
  evOp P E R H ⟨dst,.fieldAddr t x f,ty,pos,af,g⟩=some (.pointer (some ⟨b,o',none⟩),H,[]):=by
 unfold fieldIs at hf
 simp only [evOp,hx,Option.bind_some,fieldAd]
 split at hf
 ·
  rename_i fs hu
  split at hf
  ·
   rename_i fd hfd
   simp only [Bool.and_eq_true] at hf
   simp only [hu,hfd,hf.2,if_true,pureV,Option.map_some]
   rw[add_plain _ rfl,Nat.eq_of_beq_eq_true hf.1]
   simp only [ho]
  · cases hf
 · cases hf
theorem ev_load {dst:Option Tmp} {t:TypeId} {x:Operand} {ty:TypeId} {pos:String} {af:Array Edge} {g:Option (Nat×Bool)} {R:Regs} {a:Addr} (hx:R.eval x=some (.pointer (some a))) (h:lvar P H t a=some v):evOp P E R H ⟨dst,.load t x,ty,pos,af,g⟩=some (v,H,[]):=by
 simp only [evOp,hx,Option.bind_some,ptr?,h];rfl
theorem ev_lenSl {dst:Option Tmp} {t e:TypeId} {x:Operand} {ty:TypeId} {pos:String} {af:Array Edge} {g:Option (Nat×Bool)} {R:Regs} {a:Option Addr} {m c:Nat} (hx:R.eval x=some (.slice a m c)) (hu:P.underlying t=some (.slice e)) :
  evOp P E R H ⟨dst,.call { callee := .builtin .len,args := #[x],argTypes := #[t] },ty,pos,af,g⟩=some (.int .i64 m,H,[]):=by
 simp [evOp,evals,hx,builtinA,lenB,hu,pureV]
end ops
/-- A plain cell of a block. -/
def oneB (P:Program) (t:TypeId):Bool :=
 match P.underlying t with
 | some d => !isAggB d && (size? P t).isSome
 | none=>false
theorem lvar_one {H:Heap} {t:TypeId} {b o:Nat} {B:Blk} {v:Value} (hu:oneB P t=true) (hB:H.blk b=some B) (hv:B.cells[o]?=some v) (hm:B.isMap=false:=by rfl):lvar P H t ⟨b,o,none⟩=some v:=by
 unfold oneB at hu
 unfold lvar
 split at hu
 ·
  rename_i d hd
  simp only [Bool.and_eq_true,Bool.not_eq_true'] at hu
  have hi:=hu.2
  unfold size? at hi
  cases hp:P.info? t with
  | none=>rw[hp] at hi;cases hi
  | some i =>
   rw[hd]
   simp only [hu.1,Bool.false_eq_true,if_false,Heap.cells,hB]
   have hlt:o<B.cells.length:=(List.getElem?_eq_some_iff.1 hv).1
   rw[if_pos ⟨hm,by omega⟩]
   simp [List.head?_take,List.head?_drop,hv]
 · cases hu
end Go.AM

/- Rows in our memory. -/
namespace Go.AM
open Go
variable {P : Program} {E : TypeId → Bool}

/-- From an address on there stand these rows of cells. -/
def RowIn (H:Heap) (b o sz:Nat) (rows:List (List Value)):Prop :=
 b<H.next∧∃ B,H.blk b=some B∧B.esz=sz∧(∀ r ∈ rows,r.length=sz)∧∀ (j:Nat) (v:Value),rows.flatten[j]?=some v→B.cells[o+j]?=some v
/-- A slice's rows. -/
def Row (H:Heap) (A:Option Addr) (c sz:Nat) (rows:List (List Value)):Prop:=(rows = []∧c<OPEN)∨∃ b o,A=some ⟨b,o,none⟩∧RowIn H b o sz rows
theorem Row.nil {H:Heap} {A:Option Addr} {sz:Nat}:Row H A 0 sz [] := .inl ⟨rfl,by decide⟩
theorem Row.at_ {H:Heap} {A:Option Addr} {c sz:Nat} {rows:List (List Value)} (h:Row H A c sz rows) {i:Nat} {r:List Value} (hi:rows[i]?=some r):∃ b o,A=some ⟨b,o,none⟩∧RowIn H b o sz rows:=by
 rcases h with⟨rfl,_⟩ | h
 · simp at hi
 · exact h
theorem RowIn.cell {H:Heap} {b o sz:Nat} {rows:List (List Value)} (h:RowIn H b o sz rows) {i k:Nat} {r:List Value} {v:Value} (hi:rows[i]?=some r) (hk:r[k]?=some v):∃ B,H.blk b=some B∧B.isMap=false∧B.cells[o+i * sz+k]?=some v:=by
 obtain⟨_,B,h1,hz,h2,h3⟩:=h
 refine⟨B,h1,Blk.notMap (by
   have:k<sz:=by(rw[← h2 r (List.mem_of_getElem? hi)];exact(List.getElem?_eq_some_iff.1 hk).1)
   omega),?_⟩
 have hlt:k<sz:=by rw[← h2 r (List.mem_of_getElem? hi)];exact(List.getElem?_eq_some_iff.1 hk).1
 rw[Nat.add_assoc]
 exact h3 _ _ (by rw[flatten_at rows i k r h2 hi hlt];exact hk)
theorem RowIn.lvar {H:Heap} {b o sz:Nat} {rows:List (List Value)} (h:RowIn H b o sz rows) {i k:Nat} {r:List Value} {v:Value} {t:TypeId} (ht:oneB P t=true) (hi:rows[i]?=some r) (hk:r[k]?=some v):lvar P H t ⟨b,o+i * sz+k,none⟩=some v:=by
 obtain⟨B,h1,hm,h2⟩:=h.cell hi hk
 exact lvar_one ht h1 h2 hm
/-- A struct of so many cells. -/
def manyB (P:Program) (t n:Nat):Bool :=
 match P.underlying t with
 | some d=>isAggB d && (match size? P t with | some s=>Nat.beq s n | none=>false)
 | none=>false
theorem lvar_many {H:Heap} {t:TypeId} {b o n:Nat} {B:Blk} {l:List Value} (hu:manyB P t n=true) (hB:H.blk b=some B) (hl:l.length=n) (hv:∀ j v,l[j]?=some v→B.cells[o+j]?=some v) (hn:n≠0) (hm:B.isMap=false:=by rfl):lvar P H t ⟨b,o,none⟩=some (.agg l.toArray):=by
 unfold manyB at hu
 unfold lvar
 split at hu
 ·
  rename_i d hd
  simp only [Bool.and_eq_true] at hu
  have hi:=hu.2
  unfold size? at hi
  cases hp:P.info? t with
  | none=>rw[hp] at hi;cases hi
  | some i =>
   rw[hp] at hi
   simp only [Option.map_some] at hi
   have hs:=Nat.eq_of_beq_eq_true hi
   rw[hd]
   simp only [hu.1,if_true,Heap.cells,hB,hs]
   have hlast:B.cells[o+(n - 1)]?=some l[n - 1]:=hv (n - 1) _ (List.getElem?_eq_getElem (by omega))
   have hlt:=(List.getElem?_eq_some_iff.1 hlast).1
   rw[if_pos ⟨hm,by omega⟩]
   simp only [Option.map_some,Option.some.injEq,Value.agg.injEq]
   congr 1
   refine List.ext_getElem? fun j=>?_
   rw[List.getElem?_take]
   split
   ·
    rename_i hj
    rw[List.getElem?_drop,hv j _ (List.getElem?_eq_getElem (by omega)),List.getElem?_eq_getElem (by omega)]
   · rw[List.getElem?_eq_none (by omega)]
 · cases hu
theorem RowIn.agg {H:Heap} {b o sz:Nat} {rows:List (List Value)} (h:RowIn H b o sz rows) {i:Nat} {r:List Value} {t:TypeId} (ht:manyB P t sz=true) (hz:sz≠0) (hi:rows[i]?=some r):AM.lvar P H t ⟨b,o+i * sz,none⟩=some (.agg r.toArray):=by
 obtain⟨_,B,h1,he,h2,h3⟩:=h
 have hl:=h2 r (List.mem_of_getElem? hi)
 refine lvar_many ht h1 hl (fun j v hj=>?_) hz (Blk.notMap (he ▸ hz))
 rw[Nat.add_assoc]
 exact h3 _ _ (by rw[flatten_at rows i j r h2 hi (by rw[← hl];exact(List.getElem?_eq_some_iff.1 hj).1)];exact hj)
/-- All that was there is there. -/
def Ext (H H':Heap):Prop:=H.next≤H'.next∧∀ b,b<H.next→H'.blk b=H.blk b
theorem Ext.refl (H:Heap):Ext H H:=⟨Nat.le_refl _,fun _ _=>rfl⟩
theorem Ext.trans {H H' H'':Heap} (h:Ext H H') (k:Ext H' H''):Ext H H'':=⟨Nat.le_trans h.1 k.1,fun b hb=>(k.2 b (Nat.lt_of_lt_of_le hb h.1)).trans (h.2 b hb)⟩
/-- A block more, or a new block that is written. -/
theorem Ext.step {H H1 H2:Heap} {b:Nat} (h:Ext H H1) (hb:H.next≤b) (hn:H1.next≤H2.next) (hf:∀ c,c≠b→H2.blk c=H1.blk c):Ext H H2 :=
 ⟨Nat.le_trans h.1 hn,fun c hc=>(hf c (by omega)).trans (h.2 c hc)⟩
theorem RowIn.ext {H H':Heap} {b o sz:Nat} {rows:List (List Value)} (h:RowIn H b o sz rows) (he:Ext H H'):RowIn H' b o sz rows:=by
 obtain⟨h0,B,h1,h2⟩:=h
 exact⟨Nat.lt_of_lt_of_le h0 he.1,B,(he.2 _ h0).trans h1,h2⟩
theorem Row.ext {H H':Heap} {A:Option Addr} {c sz:Nat} {rows:List (List Value)} (h:Row H A c sz rows) (he:Ext H H'):Row H' A c sz rows :=
 h.imp id fun⟨b,o,h1,h2⟩=>⟨b,o,h1,h2.ext he⟩
/-- Elements of so many cells. -/
def elemIs (P:Program) (t sz:Nat):Bool :=
 match P.underlying t with
 | some (.slice e)=>match size? P e with
  | some s=>Nat.beq s sz
  | none=>false
 | _=>false
section
variable {n : Nat} {r : Slots} {H : Heap} {v : Value}
theorem ev_indexAddr {dst:Option Tmp} {t:TypeId} {x i:Operand} {ty:TypeId} {pos:String} {af:Array Edge} {g:Option (Nat×Bool)} {R:Regs} {b o sz m c o':Nat} {k:IntKind} {j:Int} (hx:R.eval x=some (.slice (some ⟨b,o,none⟩) m c)) (hi:R.eval i=some (.int k j)) (h0:0≤j) (h1:j<m)
  (hs:elemIs P t sz=true) (ho:o+j.toNat * sz=o'):evOp P E R H ⟨dst,.indexAddr t x i,ty,pos,af,g⟩=some (.pointer (some ⟨b,o',none⟩),H,[]):=by
 unfold elemIs at hs
 simp only [evOp,hx,hi,Option.bind_some,indexAd]
 split at hs
 ·
  rename_i e hu
  split at hs
  ·
   rename_i s hsz
   rw[hu]
   simp only [hsz,h0,h1,and_self,if_true,pureV,Option.map_some]
   rw[add_plain _ rfl,Nat.eq_of_beq_eq_true hs]
   simp only [ho]
  · cases hs
 · cases hs
end
theorem flatten_drop {sz:Nat}:∀ (rows:List (List Value)) (l:Nat),(∀ r ∈ rows,r.length=sz)→(rows.drop l).flatten=rows.flatten.drop (l * sz)
 | rows,0,_=>by simp
 | [],l+1,_=>by simp
 | r :: rows,l+1,h=>by
  have hr:=h r (by simp)
  rw[List.drop_succ_cons,flatten_drop rows l fun x hx=>h x (by simp [hx]),List.flatten_cons,Nat.succ_mul,Nat.add_comm (l * sz) sz,← hr,List.drop_append]
  simp
theorem RowIn.drop {H:Heap} {b o sz:Nat} {rows:List (List Value)} (h:RowIn H b o sz rows) (l k:Nat):RowIn H b (o+l * sz) sz ((rows.drop l).take k):=by
 obtain⟨h0,B,h1,h4,h2,h3⟩:=h
 refine⟨h0,B,h1,h4,fun r hr=>h2 r (List.mem_of_mem_drop (List.mem_of_mem_take hr)),fun j v hj=>?_⟩
 rw[Nat.add_assoc]
 refine h3 _ _ ?_
 have hd:=flatten_drop rows l h2
 have hp:∀ (xs:List (List Value)) (k j:Nat) (v:Value),(xs.take k).flatten[j]?=some v→xs.flatten[j]?=some v:=by
  intro xs k j v hv
  have e:=List.take_append_drop k xs
  rw[← e,List.flatten_append,List.getElem?_append_left (List.getElem?_eq_some_iff.1 hv).1]
  exact hv
 have:=hp _ k j v hj
 rw[hd,List.getElem?_drop] at this
 exact this
/-- A row's part. -/
theorem sliceA_row {H:Heap} {A:Option Addr} {c sz:Nat} {rows:List (List Value)} {t:TypeId} (hs:elemIs P t sz=true) (hz:sz≠0) (hr:Row H A c sz rows) (hc:rows.length≤c) {lo hi:Option Value} {l h:Nat}
  (hh:(if hi.isSome then bound hi rows.length rows.length else some rows.length)=some h) (hl:bound lo h 0=some l) (hlh:l≤h) (hhn:h≤rows.length) :
  ∃ A' c',sliceA P H t (.slice A rows.length c) lo hi none=some (.slice A' (h - l) c')∧Row H A' c' sz ((rows.drop l).take (h - l))∧h - l≤c':=by
 unfold elemIs at hs
 split at hs
 ·
  rename_i e hu
  split at hs
  ·
   rename_i s hsz
   have hse:=Nat.eq_of_beq_eq_true hs
   subst hse
   unfold sliceA
   simp only [hu]
   have hcond:(decide (c<OPEN) || eszB P H e A)=true:=by
    rcases hr with⟨_,hlt⟩ | ⟨b,o,rfl,_,B,h1,h2,_⟩
    · simp [hlt]
    · simp [eszB,h1,hsz,h2]
   rw[if_pos hcond]
   have hb2:(if hi.isSome then bound hi (if c<OPEN then c else rows.length) rows.length else some rows.length)=some h:=by
    cases hi with
    | none=>exact hh
    | some x =>
     simp only [Option.isSome_some,if_true] at hh ⊢
     unfold bound at hh ⊢
     split at hh
     · cases hh;rfl
     ·
      split at hh
      ·
       rename_i hcd
       cases hh
       rw[if_pos]
       refine⟨hcd.1,?_⟩
       split <;> omega
      · cases hh
     · cases hh
   have hcut:cutA P e A rows.length c lo hi none=(match A with | none=>some (.slice none 0 0) | some a=>if s=0 then none else some (.slice (some (a.add (l * s))) (h - l) (if c<OPEN then c - l else c))):=by
    unfold cutA
    simp only [hsz,Option.bind_eq_bind,Option.bind_some,Option.isSome_none,Bool.false_eq_true,if_false,hb2,hl,false_and,or_false]
    cases A <;> rfl
   rw[hcut]
   have hle:h - l≤(if c<OPEN then c - l else c):=by split <;> omega
   rcases hr with⟨rfl,hlt⟩ | ⟨b,o,rfl,hr⟩
   ·
    have h0:h=0:=by simpa using hhn
    subst h0
    have l0:l=0:=by omega
    subst l0
    cases A with
    | none=>exact⟨none,0,rfl,.inl ⟨by simp,by decide⟩,Nat.le_refl _⟩
    | some a =>
     simp only [if_neg hz]
     exact⟨_,_,rfl,.inl ⟨by simp,by rw[if_pos hlt];omega⟩,hle⟩
   ·
    simp only [if_neg hz]
    exact⟨_,_,rfl,.inr ⟨b,o+l * s,by rw[add_plain _ rfl],hr.drop l (h - l)⟩,hle⟩
  · cases hs
 · cases hs
theorem ev_slice {H:Heap} {v:Value} {dst:Option Tmp} {t:TypeId} {x:Operand} {lo hi mx:Option Operand} {ty:TypeId} {pos:String} {af:Array Edge} {g:Option (Nat×Bool)} {R:Regs} {X:Value} {l h m:Option Value} (hx:R.eval x=some X) (h1:optEval R lo=some l) (h2:optEval R hi=some h) (h3:optEval R mx=some m)
  (hs:sliceA P H t X l h m=some v):evOp P E R H ⟨dst,.slice t x lo hi mx,ty,pos,af,g⟩=some (v,H,[]):=by
 simp only [evOp,hx,h1,h2,h3,Option.bind_some,sliceX_of hs];rfl
end Go.AM

/- Rules for what changes memory; loops. -/
namespace Go.AM
open Go
variable {P : Program} {E : TypeId → Bool}

def sizeIs (P:Program) (t k:Nat):Bool:=match size? P t with | some s=>Nat.beq s k | none=>false
def ZeroIs (P:Program) (e:TypeId) (zc:List Value):Prop:=∃ z,zero? P e=some z∧z.cells.toList=zc∧zc.all flat=true∧zc.all Value.oneCell'=true
section
variable {ops : Array Oper} {l : List Oper} {n : Nat} {r : Slots} {H : Heap} {K : Regs → Heap → Prop} {v : Value} {d : Tmp}
theorem ev_alloc {dst:Option Tmp} {e:TypeId} {ty:TypeId} {pos:String} {af:Array Edge} {g:Option (Nat×Bool)} {R:Regs} {zc:List Value} (hz:ZeroIs P e zc) :
  evOp P E R H ⟨dst,.alloc e,ty,pos,af,g⟩=some (.pointer (some ⟨H.next,0,none⟩),H.make ⟨zc,0,false,false⟩,[]):=by
 obtain⟨z,h1,h2,h3,h4⟩:=hz
 subst h2
 simp only [evOp,h1,Option.bind_some,h3,if_true,newv,h4,mk]
theorem make_facts (H:Heap) (B:Blk):(H.make B).next=H.next+1∧(H.make B).blk H.next=some B∧∀ c,c≠H.next→(H.make B).blk c=H.blk c :=
 ⟨rfl,by simp [Heap.make],fun c hc=>by simp [Heap.make,hc]⟩
theorem put_facts {H:Heap} {b o:Nat} {cs cs' vs:List Value} {sz:Nat} {opn:Bool} (hB:H.blk b=some ⟨cs,sz,false,opn⟩) (hle:Nat.ble (o+vs.length) cs.length=true) (h1:vs.all Value.oneCell'=true) (hc:cs.take o++vs++cs.drop (o+vs.length)=cs') (hm:(Blk.mk cs sz false opn).isMap=false:=by rfl) :
  ∃ H1,H.put ⟨b,o,none⟩ vs=some H1∧H1.next=H.next∧H1.blk b=some ⟨cs',sz,false,opn⟩∧∀ c,c≠b→H1.blk c=H.blk c:=by
 refine⟨H.set b (some ⟨cs',sz,false,opn⟩),?_,rfl,?_,fun c hc=>?_⟩
 ·
  unfold Heap.put
  simp only [hB]
  rw[if_pos ⟨hm,trivial,Nat.le_of_ble_eq_true hle,h1⟩,hc]
 · simp [Heap.set]
 · simp only [Heap.set];rw[if_neg hc]
theorem ev_store {dst:Option Tmp} {t:TypeId} {a x:Operand} {ty:TypeId} {pos:String} {af:Array Edge} {g:Option (Nat×Bool)} {R:Regs} {ad:Addr} {vs:List Value} {k:Nat} {H1:Heap} (ha:R.eval a=some (.pointer (some ad))) (hx:R.eval x=some v) (hv:v.cells.toList=vs) (hk:vs.length=k) (hs:sizeIs P t k=true) (hp:H.put ad vs=some H1) :
  evOp P E R H ⟨dst,.store t a x,ty,pos,af,g⟩=some (undef,H1,[ad.block]):=by
 unfold sizeIs at hs
 split at hs
 ·
  rename_i s hsz
  have:=Nat.eq_of_beq_eq_true hs
  unfold size? at hsz
  obtain⟨i,hi,rfl⟩:=Option.map_eq_some_iff.1 hsz
  have hsize:v.cells.size=i.size:=by rw[this,← hk,← hv];simp
  simp only [evOp,ha,hx,Option.bind_some,ptr?,svar,hi,hsize,if_true,hv,hp,Option.map_some]
 · cases hs
end
/-- A loop: α is what turns from round to round. -/
theorem aw_iter {α:Type} (μ:α→Nat) (S:α→Slots) (HS:α→Heap) (Inv:α→Prop) {n:Nat} {c:Code} {Q:Ex→Regs→Heap→Prop} (a0:α) (h0:Inv a0)
  (step:∀ a,Inv a→(∀ b,Inv b→μ b<μ a→aw P E (.loop c) (RL n (S b)) (HS b) Q)→aw P E c (RL n (S a)) (HS a) (Ex.then (fun r H=>aw P E (.loop c) r H Q) Q)):aw P E (.loop c) (RL n (S a0)) (HS a0) Q:=by
 have key:∀ m a,μ a=m→Inv a→aw P E (.loop c) (RL n (S a)) (HS a) Q:=by
  intro m
  induction m using Nat.strongRecOn with
  | _ m ih =>
   intro a hm ha
   exact aw_loop (step a ha fun b hb hlt=>ih (μ b) (hm ▸ hlt) b rfl hb)
 exact key _ a0 rfl h0
end Go.AM

/- Rows that grow. -/
namespace Go.AM
open Go
variable {P : Program} {E : TypeId → Bool}

theorem cells_of {H:Heap} {b o:Nat} {B:Blk} {l:List Value} (hB:H.blk b=some B) (hv:∀ j v,l[j]?=some v→B.cells[o+j]?=some v) (hn:l.length≠0) (hm:B.isMap=false):H.cells ⟨b,o,none⟩ l.length=some l:=by
 unfold Heap.cells
 simp only [hB]
 have hlast:B.cells[o+(l.length - 1)]?=some l[l.length - 1]:=hv _ _ (List.getElem?_eq_getElem (by omega))
 have hlt:=(List.getElem?_eq_some_iff.1 hlast).1
 rw[if_pos ⟨hm,by omega⟩]
 congr 1
 refine List.ext_getElem? fun j=>?_
 rw[List.getElem?_take]
 split
 ·
  rename_i hj
  rw[List.getElem?_drop,hv j _ (List.getElem?_eq_getElem hj),List.getElem?_eq_getElem hj]
 · rw[List.getElem?_eq_none (by omega)]
theorem RowIn.lens {H:Heap} {b o sz:Nat} {rows:List (List Value)} (h:RowIn H b o sz rows):rows.flatten.length=rows.length * sz:=by
 obtain⟨_,B,_,_,h2,_⟩:=h
 exact flatten_len rows h2
/-- What is there to be copied. -/
theorem Row.src {H:Heap} {A:Option Addr} {c sz:Nat} {rows:List (List Value)} (h:Row H A c sz rows) (hz:sz≠0):srcCells H sz (.slice A rows.length c)=some rows.flatten:=by
 rcases h with⟨rfl,_⟩ | ⟨b,o,rfl,h⟩
 · cases A <;> simp [srcCells]
 ·
  by_cases hn:rows.length=0
  ·
   have:=List.eq_nil_of_length_eq_zero hn
   subst this
   simp [srcCells]
  ·
   have hl:=h.lens
   obtain⟨_,B,h1,he,h2,h3⟩:=h
   simp only [srcCells,if_neg hn]
   rw[← hl]
   exact cells_of h1 h3 (by rw[hl];exact Nat.mul_ne_zero hn hz) (Blk.notMap (he ▸ hz))
/-- A row of one's own, with room behind it. -/
structure Own (H:Heap) (b sz:Nat) (rows:List (List Value)):Prop where
 lt:b<H.next
 blk:H.blk b=some ⟨rows.flatten,sz,false,true⟩
 len:∀ r ∈ rows,r.length=sz
theorem Own.row {H:Heap} {b sz:Nat} {rows:List (List Value)} (h:Own H b sz rows):Row H (some ⟨b,0,none⟩) OPEN sz rows :=
 .inr ⟨b,0,rfl,h.lt,_,h.blk,rfl,h.len,fun j v hj=>by simpa using hj⟩
/-- What is asked of the elements' type. -/
def ElemOk (P:Program) (t e sz bytes:Nat):Prop :=
 P.underlying t=some (.slice e)∧∃ i,P.info? e=some i∧i.size=sz∧i.bytes=bytes∧(i.zero.map fun z=>z.cells.size)=some sz
theorem ev_append {H H':Heap} {v S X:Value} {W:List Nat} {dst:Option Tmp} {t t2 e:TypeId} {s x:Operand} {ty:TypeId} {pos:String} {af:Array Edge} {g:Option (Nat×Bool)} {R:Regs} (hs:R.eval s=some S) (hx:R.eval x=some X) (hu:P.underlying t=some (.slice e)) (hr:isRow P (some t2)=true)
  (ha:appendA P H e S X=some (v,H',W)):evOp P E R H ⟨dst,.call { callee := .builtin .append,args := #[s,x],argTypes := #[t,t2] },ty,pos,af,g⟩=some (v,H',W):=by
 simp [evOp,evals,hs,hx,builtinA,hu,hr,ha]
theorem fold_seg (off:Nat):∀ (l:List Value) (k:Nat) (cs:Array Value),off+k+l.length≤cs.size →
  ((l.zipIdx k).foldl (fun cs (p:Value×Nat)=>cs.setIfInBounds (off+p.2) p.1) cs).toList=cs.toList.take (off+k)++l++cs.toList.drop (off+k+l.length)
 | [],k,cs,_=>by simp
 | v :: l,k,cs,h=>by
  simp only [List.length_cons] at h
  rw[List.zipIdx_cons,List.foldl_cons,fold_seg off l (k+1) _ (by simp;omega)]
  have e:=list_seg_step cs.toList (off+k) v l (by simp;omega)
  simpa [Array.toList_setIfInBounds,Nat.add_assoc] using e
section
variable {ops : Array Oper} {l : List Oper} {n : Nat} {r : Slots} {H : Heap} {K : Regs → Heap → Prop} {d : Tmp}
end
end Go.AM

/- Rows of what has a type. -/
namespace Go.AM
open Go
variable {P : Program} {E : TypeId → Bool}

theorem sliceA_typed {α:Type} (cells:α→List Value) {H:Heap} {A:Option Addr} {c sz:Nat} {es:List α} {t:TypeId} (hs:elemIs P t sz=true) (hz:sz≠0) (hr:Row H A c sz (es.map cells)) (hc:es.length≤c) {lo hi:Option Value} {l h:Nat}
  (hh:(if hi.isSome then bound hi es.length es.length else some es.length)=some h) (hl:bound lo h 0=some l) (hlh:l≤h) (hhn:h≤es.length) :
  ∃ A' c' L',L'=(es.drop l).take (h - l)∧L'.length=h - l∧sliceA P H t (.slice A es.length c) lo hi none=some (.slice A' L'.length c')∧Row H A' c' sz (L'.map cells)∧L'.length≤c':=by
 have hlen:((es.drop l).take (h - l)).length=h - l:=by rw[List.length_take,List.length_drop];omega
 obtain⟨A',c',q1,q2,q3⟩:=sliceA_row hs hz hr (by simpa using hc) (lo:=lo) (hi:=hi) (l:=l) (h:=h) (by simpa using hh) hl hlh (by simpa using hhn)
 refine⟨A',c',_,rfl,hlen,?_,?_,by rw[hlen];exact q3⟩
 ·
  rw[hlen]
  simpa using q1
 ·
  rw[← List.map_drop,← List.map_take] at q2
  exact q2
theorem bound_int {k:IntKind} {i:Int} {y d n:Nat} (h0:0≤i) (h1:i≤y) (hn:i.toNat=n):bound (some (.int k i)) y d=some n:=by
 unfold bound
 simp only
 rw[if_pos ⟨h0,h1⟩,hn]
end Go.AM

/- Rows that draw, in which some read beside what acts. -/
namespace Go.AM
open Go
variable {P : Program} {E : TypeId → Bool}

def marksB (P:Program) (ops:Array Oper):Nat→Nat→List (Bool×Bool)
 | 0,_ => []
 | k+1,i=>(looseR P ops i,looseE P ops i) :: marksB P ops k (i+1)
def zipM : List Oper→List (Bool×Bool)→List (Oper×Bool×Bool)
 | o :: os,m :: ms=>(o,m.1,m.2) :: zipM os ms
 | _,_ => []
theorem flags_zip (P:Program) (ops:Array Oper):∀ (os:List Oper) (i:Nat),flags P ops os i=zipM os (marksB P ops os.length i)
 | [],_=>rfl
 | o :: os,i=>by simp only [flags,List.length_cons,marksB,zipM,flags_zip P ops os (i+1)]
theorem aw_marks {id:Nat} {os:List Oper} {r:Regs} {H:Heap} {Q:Ex→Regs→Heap→Prop} (keep:Nat→Prop) (ms:List (Bool×Bool)) (hm:P.follows .mixedOrders=true) (hd:drawOk P os.toArray=true) (hms:marksB P os.toArray os.length 0=ms)
  (h:awLD P E os.toArray keep (zipM os ms) r H fun r H=>Q .normal r H):aw P E (.region id os.toArray true) r H Q :=
 aw_drw keep hm hd rfl (by rw[flags_zip,hms];exact h)
section
variable {ops : Array Oper} {n : Nat} {r : Slots} {H H' : Heap} {K : Regs → Heap → Prop} {o : Oper} {v : Value} {W : List Nat} {d : Tmp} {keep : Nat → Prop} {os : List Oper} {ms : List (Bool × Bool)}
theorem sm_op (he:evOp P E (RL n r) H o=some (v,H',W)) (hd:o.dst=some d) (hn:Nat.blt d n=true) (hw:wants ops (RL n r) o=some true) (k:awLD P E ops keep (zipM os ms) (RL n (.cons d v r)) H' K):awLD P E ops keep (zipM (o :: os) ((false,false) :: ms)) (RL n r) H K:=sd_op he hd hn hw k
/-- An operation that leaves memory as it is, whatever its mark for acting. -/
theorem sm_skip {m:Bool×Bool} (hw:wants ops (RL n r) o=some false) (hd:o.dst=some d) (hn:Nat.blt d n=true) (k:awLD P E ops keep (zipM os ms) (RL n (.cons d undef r)) H K):awLD P E ops keep (zipM (o :: os) (m :: ms)) (RL n r) H K:=sd_skip hw hd hn k
theorem sm_read (he:evOp P E (RL n r) H o=some (v,H',W)) (hd:o.dst=some d) (hn:Nat.blt d n=true) (hw:wants ops (RL n r) o=some true) (hk:∀ b,rdB P (RL n r) o=some b→keep b) (k:awLD P E ops keep (zipM os ms) (RL n (.cons d v r)) H' K):awLD P E ops keep (zipM (o :: os) ((true,false) :: ms)) (RL n r) H K:=sd_read he hd hn hw hk k
theorem sm_call {le:Bool} {c:Call} {f:FuncId} {args:List Value} (ho:o.op = .call c) (hc:c.callee = .value (.func f)) (ha:evals (RL n r) c.args.toList=some args) (hf:enters P f=true) (hd:o.dst=some d) (hn:Nat.blt d n=true) (hw:wants ops (RL n r) o=some true)
  (h:∃ v H',Spec P f args H v H'∧(le=true→∀ b,keep b→H'.blk b=H.blk b)∧awLD P E ops keep (zipM os ms) (RL n (.cons d v r)) H' K):awLD P E ops keep (zipM (o :: os) ((false,le) :: ms)) (RL n r) H K:=sd_call ho hc ha hf hd hn hw h
theorem sm_bool (d:Tmp) {b:Bool} {ld:List (Oper×Bool×Bool)} (h:lk r d=some (.bool b)) (ht:b=true→awLD P E ops keep ld (RL n (.cons d (.bool true) r)) H K) (hf:b=false→awLD P E ops keep ld (RL n (.cons d (.bool false) r)) H K):awLD P E ops keep ld (RL n r) H K:=sd_bool d h ht hf
end
/-- All that was there is as it was, but one block. -/
def Ext1 (p:Nat) (H H':Heap):Prop:=H.next≤H'.next∧∀ b,b<H.next→b≠p→H'.blk b=H.blk b
theorem Ext.one {H H':Heap} (h:Ext H H') (p:Nat):Ext1 p H H':=⟨h.1,fun b hb _=>h.2 b hb⟩
theorem Ext1.refl (p:Nat) (H:Heap):Ext1 p H H:=⟨Nat.le_refl _,fun _ _ _=>rfl⟩
theorem Ext1.trans {p:Nat} {H H' H'':Heap} (h:Ext1 p H H') (k:Ext1 p H' H''):Ext1 p H H'':=⟨Nat.le_trans h.1 k.1,fun b hb hp=>(k.2 b (Nat.lt_of_lt_of_le hb h.1) hp).trans (h.2 b hb hp)⟩
theorem Ext1.step {p b:Nat} {H H1 H2:Heap} (h:Ext1 p H H1) (hb:H.next≤b∨b=p) (hn:H1.next≤H2.next) (hf:∀ c,c≠b→H2.blk c=H1.blk c):Ext1 p H H2 :=
 ⟨Nat.le_trans h.1 hn,fun c hc hp=>(hf c (by rcases hb with hb | hb <;> omega)).trans (h.2 c hc hp)⟩
/-- Blocks of elements of other sizes are other blocks. -/
theorem RowIn.ne {H:Heap} {b o sz p z:Nat} {rows:List (List Value)} {cs:List Value} {rd opn:Bool} (h:RowIn H b o sz rows) (hB:H.blk p=some ⟨cs,z,rd,opn⟩) (hz:sz≠z):b≠p:=by
 rintro rfl
 obtain⟨_,B,h1,h2,_⟩:=h
 rw[hB] at h1
 cases h1
 exact hz h2.symm
end Go.AM

/- Rows in which new blocks may come early: the rule. -/
namespace Go.AM
open Go
variable {P : Program} {E : TypeId → Bool}

def nmOf (l:List Bool) (i:Nat):Bool:=l.getD i false
/-- A new block, under its name. -/
def StpM (P:Program) (ops:Array Oper) (n:Nat) (o:Oper) (r:Regs) (H:Heap) (v:Value) (H':Heap):Prop :=
 still P o=false∧dstOk r.n o.dst=true∧((wants ops r o=some false∧v=undef∧H'=H)∨(wants ops r o=some true∧∃ B,freshAt P r n o=some (v,B)∧H'=H.set n (some B)))
def awLN (P:Program) (E:TypeId→Bool) (ops:Array Oper) (base:Nat) (keep:Nat→Prop):Nat→List (Oper×Bool×Bool×Bool)→Regs→Heap→(Regs→Heap→Prop)→Prop
 | _,[],r,H,K=>K r H
 | k,(o,lr,le,nm) :: l,r,H,K=>∃ v H',(nm=false→StpO P E ops o r H v H')∧(nm=true→StpM P ops (base+k) o r H v H')∧(lr=true→wants ops r o=some true→∀ b,rdB P r o=some b→keep b)∧(le=true→∀ b,keep b→H'.blk b=H.blk b) ∧
  (wants ops r o=some true→∀ b,rdB P r o=some b→¬ (base≤b∧b<base+ops.size))∧awLN P E ops base keep (k+1) l (r.put o.dst v) H' K
def flagsN (P:Program) (ops:Array Oper) (nms:List Bool):List Oper→Nat→List (Oper×Bool×Bool×Bool)
 | [],_ => []
 | o :: l,i=>(o,looseR P ops i,looseE P ops i,nmOf nms i) :: flagsN P ops nms l (i+1)
/-- What such a row does, from the k-th operation on. -/
structure RunFrom (P:Program) (E:TypeId→Bool) (ops:Array Oper) (nms:List Bool) (base:Nat) (keep:Nat→Prop) (rs:Nat→Regs) (Hs:Nat→Heap) (vs:Nat→Value) (Bs:Nat→Option Blk) (i:Nat) (o:Oper):Prop where
 step:nmOf nms i=false→StpO P E ops o (rs i) (Hs i) (vs i) (Hs (i+1))
 made:nmOf nms i=true→still P o=false∧dstOk (rs i).n o.dst=true∧((wants ops (rs i) o=some false∧vs i=undef∧Bs i=none∧Hs (i+1)=Hs i)∨(wants ops (rs i) o=some true∧∃ B,freshAt P (rs i) (base+i) o=some (vs i,B)∧Bs i=some B∧Hs (i+1)=(Hs i).set (base+i) (some B)))
 put:rs (i+1)=(rs i).put o.dst (vs i)
 lr:looseR P ops i=true→wants ops (rs i) o=some true→∀ b,rdB P (rs i) o=some b→keep b
 le:looseE P ops i=true→∀ b,keep b→(Hs (i+1)).blk b=(Hs i).blk b
 own:wants ops (rs i) o=some true→∀ b,rdB P (rs i) o=some b→¬ (base≤b∧b<base+ops.size)
theorem awLN_run {ops:Array Oper} {nms:List Bool} {base:Nat} {keep:Nat→Prop} {K:Regs→Heap→Prop}:∀ (l:List Oper) (k:Nat) {r:Regs} {H:Heap},awLN P E ops base keep k (flagsN P ops nms l k) r H K →
  ∃ (rs:Nat→Regs) (Hs:Nat→Heap) (vs:Nat→Value) (Bs:Nat→Option Blk),rs k=r∧Hs k=H∧(∀ i o,l[i]?=some o→RunFrom P E ops nms base keep rs Hs vs Bs (k+i) o)∧K (rs (k+l.length)) (Hs (k+l.length))
 | [],k,r,H,h=>⟨fun _=>r,fun _=>H,fun _=>undef,fun _=>none,rfl,rfl,fun i o h=>by simp at h,h⟩
 | o :: l,k,r,H,h=>by
  obtain⟨v,H1,h1,h2,h3,h4,h5,h6⟩:=h
  obtain⟨rs,Hs,vs,Bs,q1,q2,q3,q4⟩:=awLN_run l (k+1) h6
  have hB:∃ B:Option Blk,nmOf nms k=true→still P o=false∧dstOk r.n o.dst=true∧((wants ops r o=some false∧v=undef∧B=none∧H1=H)∨(wants ops r o=some true∧∃ B',freshAt P r (base+k) o=some (v,B')∧B=some B'∧H1=H.set (base+k) (some B'))):=by
   cases hn:nmOf nms k with
   | false=>exact⟨none,fun h=>by cases h⟩
   | true =>
    obtain⟨a1,a2,a3⟩:=h2 hn
    rcases a3 with⟨a3,a4,a5⟩ | ⟨a3,B,a4,a5⟩
    · exact⟨none,fun _=>⟨a1,a2,.inl ⟨a3,a4,rfl,a5⟩⟩⟩
    · exact⟨some B,fun _=>⟨a1,a2,.inr ⟨a3,B,a4,rfl,a5⟩⟩⟩
  obtain⟨B,hB⟩:=hB
  refine⟨fun i=>if i=k then r else rs i,fun i=>if i=k then H else Hs i,fun i=>if i=k then v else vs i,fun i=>if i=k then B else Bs i,by simp,by simp,fun i o' hi=>?_,?_⟩
  ·
   cases i with
   | zero =>
    simp only [List.getElem?_cons_zero,Option.some.injEq] at hi
    subst hi
    simp only [Nat.add_zero]
    refine⟨?_,?_,?_,?_,?_,?_⟩
    all_goals simp only [if_true,if_neg (show ¬ k+1=k by omega),q1,q2]
    · exact h1
    · exact hB
    · exact h3
    · exact h4
    · exact h5
   | succ i =>
    have:=q3 i o' (by simpa using hi)
    rw[show k+1+i=k+(i+1) by omega] at this
    obtain⟨a1,a2,a3,a4,a5,a6⟩:=this
    refine⟨?_,?_,?_,?_,?_,?_⟩
    all_goals simp only [if_neg (show ¬ k+(i+1)=k by omega),if_neg (show ¬ k+(i+1)+1=k by omega)]
    · exact a1
    · exact a2
    · exact a3
    · exact a4
    · exact a5
    · exact a6
  ·
   simp only [List.length_cons,if_neg (show ¬ k+(l.length+1)=k by omega)]
   rw[show k+(l.length+1)=k+1+l.length by omega]
   exact q4
theorem aw_drwN {id:Nat} {os:List Oper} {nms:List Bool} {r:Regs} {H:Heap} {Q:Ex→Regs→Heap→Prop} (keep:Nat→Prop) (hm:P.follows .mixedOrders=true) (hd:drawOkN P os.toArray (nmOf nms)=true)
  (h:awLN P E os.toArray H.next keep 0 (flagsN P os.toArray nms os 0) r (H.room os.length) fun r H=>Q .normal r H):aw P E (.region id os.toArray true) r H Q:=by
 obtain⟨rs,Hs,vs,Bs,q1,q2,q3,q4⟩:=awLN_run os 0 h
 subst q1
 have hat:∀ i,i<os.toArray.size→∃ o,os[i]?=some o∧os.toArray[i]?=some o∧RunFrom P E os.toArray nms H.next keep rs Hs vs Bs i o:=fun i hi=>by
  have hi:i<os.length:=by simpa using hi
  have h1:os[i]?=some os[i]:=List.getElem?_eq_getElem hi
  have:=q3 i _ h1
  rw[Nat.zero_add] at this
  exact⟨_,h1,by rw[List.getElem?_toArray];exact h1,this⟩
 have hrun:RunN P E os.toArray (nmOf nms) H.next rs Hs vs Bs:=by
  refine⟨fun i hi hn=>?_,fun i hi hn=>?_,fun i hi=>?_,hd,fun i j hi hj si sj a1 a2 o b ho hw hb=>?_,fun i j hi hj si nj a1 o b ho hw hb=>?_⟩
  ·
   obtain⟨o,_,h2,h3⟩:=hat i hi
   exact⟨o,h2,h3.step hn⟩
  ·
   obtain⟨o,_,h2,h3⟩:=hat i hi
   obtain⟨s1,s2,s3⟩:=h3.made hn
   exact⟨by simpa [stillAt,h2] using s1,o,h2,s2,s3⟩
  ·
   obtain⟨o,_,h2,h3⟩:=hat i hi
   rw[h3.put,dstOf_some h2]
  ·
   obtain⟨o1,_,h2,h3⟩:=hat i hi
   obtain⟨o2,_,k2,k3⟩:=hat j hj
   rw[h2] at ho
   cases ho
   have hno:noRead P os.toArray i=false:=by
    unfold noRead
    rw[h2]
    unfold rdB at hb
    simp only
    cases hop:o.op <;> rw[hop] at hb <;> simp_all
   have hl:looseM P os.toArray (masks os.toArray.toList []) i j=true:=by simp only [looseM,si,sj,a1,a2,hno];rfl
   have hR:looseR P os.toArray i=true:=List.any_eq_true.2 ⟨j,List.mem_range.2 hj,hl⟩
   have hE':looseE P os.toArray j=true:=List.any_eq_true.2 ⟨i,List.mem_range.2 hi,hl⟩
   exact k3.le hE' b (h3.lr hR hw b hb)
  ·
   obtain⟨o1,_,h2,h3⟩:=hat i hi
   rw[h2] at ho
   cases ho
   have:=h3.own hw b hb
   omega
 rw[Nat.zero_add,show os.length=os.toArray.size by simp] at q4
 exact⟨_,_,_,.drawnN hm (by rw[q2];simp) rfl hrun,q4⟩
end Go.AM

/- More rules. -/
namespace Go.AM
open Go
variable {P : Program} {E : TypeId → Bool}

/-! What stays, when memory changes. -/
theorem RowIn.next {H H':Heap} {b o sz:Nat} {rows:List (List Value)} (h:RowIn H b o sz rows) (hn:H.next≤H'.next) (hb:H'.blk b=H.blk b):RowIn H' b o sz rows:=by
 obtain⟨h0,B,h1,h2⟩:=h
 exact⟨Nat.lt_of_lt_of_le h0 hn,B,hb.trans h1,h2⟩
/-- A block more. -/
theorem Row.alloc {H H':Heap} {A:Option Addr} {c sz:Nat} {rows:List (List Value)} (h:Row H A c sz rows) {b:Nat} (hb:b=H.next) (hn:H.next≤H'.next) (hf:∀ c,c≠b→H'.blk c=H.blk c):Row H' A c sz rows :=
 h.imp id fun⟨q,o,h1,h2⟩=>⟨q,o,h1,h2.next hn (hf q (by have:=h2.1;omega))⟩
/-- A block of elements of another size is written. -/
theorem Row.write {H H':Heap} {A:Option Addr} {c sz p z:Nat} {rows:List (List Value)} {cs:List Value} {rd opn:Bool} (h:Row H A c sz rows) (hB:H.blk p=some ⟨cs,z,rd,opn⟩) (hz:sz≠z) (hn:H.next≤H'.next) (hf:∀ c,c≠p→H'.blk c=H.blk c):Row H' A c sz rows :=
 h.imp id fun⟨q,o,h1,h2⟩=>⟨q,o,h1,h2.next hn (hf q (h2.ne hB hz))⟩
theorem Row.same {H H':Heap} {b o c sz:Nat} {rows:List (List Value)} (h:Row H (some ⟨b,o,none⟩) c sz rows) (hn:H.next≤H'.next) (hb:H'.blk b=H.blk b):Row H' (some ⟨b,o,none⟩) c sz rows :=
 h.imp id fun⟨q,o',h1,h2⟩=>by cases h1;exact⟨_,_,rfl,h2.next hn hb⟩
theorem Own.same {H H':Heap} {b sz:Nat} {rows:List (List Value)} (h:Own H b sz rows) (hn:H.next≤H'.next) (hb:H'.blk b=H.blk b):Own H' b sz rows:=⟨Nat.lt_of_lt_of_le h.lt hn,hb.trans h.blk,h.len⟩
section
variable {ops : Array Oper} {l : List Oper} {n : Nat} {r : Slots} {H : Heap} {K : Regs → Heap → Prop} {v : Value} {d : Tmp}
theorem ev_box {dst:Option Tmp} {t:TypeId} {x:Operand} {ty:TypeId} {pos:String} {af:Array Edge} {g:Option (Nat×Bool)} {R:Regs} {cs:List Value} (hx:R.eval x=some v) (hc:v.cells.toList=cs) (h1:cs.all Value.oneCell'=true) :
  evOp P E R H ⟨dst,.box t x,ty,pos,af,g⟩=some (.pointer (some ⟨H.next,0,none⟩),H.make ⟨cs,0,false,false⟩,[]):=by
 subst hc
 simp only [evOp,hx,Option.bind_some,newv,h1,if_true,mk,Array.length_toList]
/-- Where a struct's fields lie. -/
def placesOf (P:Program) (t:TypeId):Option (List (Nat×Nat)) :=
 match P.underlying t with
 | some (.struct fs)=>fs.toList.mapM fun f=>(P.info? f.type).map fun i=>(f.offset,i.size)
 | _=>none
theorem ev_build {dst:Option Tmp} {t:TypeId} {ps:Array (Nat×Operand)} {ty:TypeId} {pos:String} {af:Array Edge} {g:Option (Nat×Bool)} {R:Regs} {zc:List Value} {pl:List (Nat×Nat)} {parts:List (Nat×Value)} {cs:List Value} (hz:ZeroIs P t zc) (hp:placesOf P t=some pl)
  (hv:(ps.toList.mapM fun(p:Nat×Operand)=>(R.eval p.2).map fun v=>(p.1,v))=some parts) (hf:Instr.fill (fun i=>pl.toArray[i]?) zc.toArray parts=some cs.toArray):evOp P E R H ⟨dst,.build t ps,ty,pos,af,g⟩=some (.agg cs.toArray,H,[]):=by
 obtain⟨z,h1,h2,h3,_⟩:=hz
 unfold placesOf at hp
 unfold zero? at h1
 obtain⟨i,h4,h5⟩:=Option.bind_eq_some_iff.1 h1
 split at hp
 ·
  rename_i fs hu
  have hzc:z.cells=zc.toArray:=by rw[← h2]
  have hb:P.built t parts=some cs.toArray:=by
   unfold Program.built
   simp only [h4,hu,h5,hp,hzc]
   exact hf
  simp only [evOp,hv,Option.bind_some,buildA,zero?,h4,h5,h2,h3,if_true,hb,Option.map_some]
 · cases hp
theorem ev_nilSl {dst:Option Tmp} {t t2 e:TypeId} {x y:Operand} {ty:TypeId} {pos:String} {af:Array Edge} {g:Option (Nat×Bool)} {R:Regs} {a:Option Addr} {m c:Nat} (hx:R.eval x=some (.slice a m c)) (hy:R.eval y=some (.slice none 0 0)) (hu:P.underlying t=some (.slice e)) :
  evOp P E R H ⟨dst,.binOp .eql t x y t2,ty,pos,af,g⟩=some (.bool a.isNone,H,[]):=by
 cases a <;> simp [evOp,hx,hy,bin,eqA,hu,pureV]
theorem ev_min {dst:Option Tmp} {x y:Operand} {ts:Array TypeId} {ty:TypeId} {pos:String} {af:Array Edge} {g:Option (Nat×Bool)} {R:Regs} {k:IntKind} {a b:Int} (hx:R.eval x=some (.int k a)) (hy:R.eval y=some (.int k b)) :
  evOp P E R H ⟨dst,.call { callee := .builtin .min,args := #[x,y],argTypes:=ts },ty,pos,af,g⟩=some (.int k (if b<a then b else a),H,[]):=by
 simp [evOp,evals,hx,hy,builtinA,minA,pureV]
end
/-! Literals of several elements. -/
theorem fill_dense {sz:Nat}:∀ (xs:List Value) (k:Nat) (base:Array Value),(∀ x ∈ xs,x.cells.size=sz)→(k+xs.length) * sz≤base.size →
  Instr.fill (fun i=>some (i * sz,sz)) base ((xs.zipIdx k).map fun p=>(p.2,p.1))=some (base.toList.take (k * sz)++(xs.map fun x=>x.cells.toList).flatten++base.toList.drop ((k+xs.length) * sz)).toArray
 | [],k,base,_,_=>by simp [Instr.fill]
 | x :: xs,k,base,hs,hb=>by
  have hx:=hs x (by simp)
  have e1:(k+(x :: xs).length) * sz=k * sz+sz+xs.length * sz:=by simp only [List.length_cons];rw[show k+(xs.length+1)=k+1+xs.length by omega,Nat.add_mul,Nat.add_mul];omega
  rw[e1] at hb
  simp only [List.zipIdx_cons,List.map_cons,Instr.fill]
  rw[if_neg (by simp only [hx,ne_eq,not_true_eq_false,Bool.or_eq_true,decide_eq_true_eq,false_or];simp;omega)]
  have hfold:=fold_seg (k * sz) x.cells.toList 0 base (by simp [hx];omega)
  rw[← Array.foldl_toList,Array.toList_zipIdx]
  generalize hG:List.foldl _ base (x.cells.toList.zipIdx 0)=base1
  have hb1:base1.toList=base.toList.take (k * sz)++x.cells.toList++base.toList.drop (k * sz+sz):=by
   rw[← hG]
   simpa [hx] using hfold
  have hsz1:base1.size=base.size:=by
   rw[← Array.length_toList,hb1]
   simp [hx]
   omega
  have e2:(k+1+xs.length) * sz=k * sz+sz+xs.length * sz:=by rw[Nat.add_mul,Nat.add_mul];omega
  rw[fill_dense xs (k+1) base1 (fun y hy=>hs y (by simp [hy])) (by rw[hsz1,e2];omega)]
  rw[hb1,e2,e1]
  have l1:(base.toList.take (k * sz)++x.cells.toList).length=(k+1) * sz:=by
   rw[Nat.add_mul];simp [hx];omega
  congr 2
  rw[List.take_append_of_le_length (by rw[l1];exact Nat.le_refl _),List.take_of_length_le (by rw[l1];exact Nat.le_refl _)]
  rw[List.drop_append,List.drop_of_length_le (by rw[l1,Nat.add_mul];omega),List.nil_append,l1,List.drop_drop,show k * sz+sz+(k * sz+sz+xs.length * sz - (k+1) * sz)=k * sz+sz+xs.length * sz by rw[Nat.add_mul];omega]
  simp
theorem buildSl_many {H:Heap} {t e sz bytes:Nat} {xs:List Value} {rows:List (List Value)} (ht:ElemOk P t e sz bytes) (hz:sz≠0) (hsm:xs.length * sz≤16777216) (hzf:∃ i z,P.info? e=some i∧i.zero=some z∧z.cells.toList.all flat=true)
  (hx:xs.map (fun x=>x.cells.toList)=rows) (hl:∀ r ∈ rows,r.length=sz) (h1:rows.flatten.all Value.oneCell'=true) :
  buildSl P H t xs.length ((xs.zipIdx 0).map fun p=>(p.2,p.1))=some (.slice (some ⟨H.next,0,none⟩) xs.length xs.length,H.make ⟨rows.flatten,sz,false,false⟩,[]):=by
 obtain⟨hu,i,q1,q2,q3,q4⟩:=ht
 obtain⟨i',z,p1,p2,p3⟩:=hzf
 rw[q1] at p1
 cases p1
 rw[p2] at q4
 simp only [Option.map_some,Option.some.injEq] at q4
 subst q2
 have hs:∀ x ∈ xs,x.cells.size=i.size:=by
  intro x hxx
  have:=hl x.cells.toList (by rw[← hx];exact List.mem_map_of_mem hxx)
  simpa using this
 have hfl:=flatten_len rows hl
 have hrl:rows.length=xs.length:=by rw[← hx];simp
 unfold buildSl
 simp only [hu,q1,p2]
 rw[if_pos ⟨hz,hsm,by rw[q4];exact hz,p3⟩]
 have hbase:((Array.range (xs.length * i.size)).map (z.cells[· % z.cells.size]!)).size=xs.length * i.size:=by simp
 rw[fill_dense xs 0 _ hs (by rw[hbase,Nat.zero_add];exact Nat.le_refl _)]
 simp only [Nat.zero_mul,List.take_zero,List.nil_append,Nat.zero_add,hx,Option.bind_some]
 rw[List.drop_of_length_le (by rw[Array.length_toList,hbase];exact Nat.le_refl _),List.append_nil]
 simp only [h1,if_true]
section
variable {ops : Array Oper} {l : List Oper} {n : Nat} {r : Slots} {H : Heap} {K : Regs → Heap → Prop} {d : Tmp}
end
end Go.AM
