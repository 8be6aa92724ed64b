/- Part of a machine of its own for this claim: the program's code over memory without draws. -/
import Derived.Test.YtodcgppcmahbkabSAmA
import Derived.Laws.StructEq
import Derived.ChangeKeysEq
import Derived.Test.YtodcgppcmahbkabSAmC
import Derived.Laws.BitsLemmas
import Derived.Laws.BytesArg
import Derived.RowKit
import Derived.Laws.Strings
import Derived.Test.YtodcgppcmahbkabSAmB
import Derived.SizedLaws
import Derived.Deep.Slices
import Derived.ChangeArms
set_option linter.unusedVariables false
set_option linter.unusedSimpArgs false
set_option linter.unnecessarySimpa false
/- == of structs of plain fields. -/
namespace Go.AM
open Go
variable {P : Program}

def plainFs : List Field→Nat→Bool
  | [],_=>true
  | f :: fs, n => (f.name != "_" && Nat.beq f.offset n) && plainFs fs (n + 1)
/-- Structs that may be compared. -/
def eqTy (P:Program) (t:TypeId):Bool :=
  match P.underlying t with
  | some (.struct fs)=>(!P.stoodInHeld t && !P.eqGuardType P.depth t) && plainFs fs.toList 0
  | _=>false
theorem fit_part {t:TypeId} {v:Value} (h:fitCell (P.underlying t) v=true) {xs:Array Value} {off:Nat} {x:Value} (hx:xs[off]?=some x) (w:World):(part t xs off).run P w = .ok x w:=by
  unfold fitCell at h
  unfold part
  split at h <;> first | cases h | skip
  all_goals rename_i hu
  all_goals simp [isAgg,run_underlying hu,hx]
theorem eqFields_plain (d:Nat) {xs ys:Array Value}:∀ (fs:List Field) (n:Nat) {b:Bool} (w:World),plainFs fs n=true→fitCells P fs (xs.toList.drop n)=true→bin.eqCells (xs.toList.drop n) (ys.toList.drop n)=some b→(Op.eqFields (d+1) xs ys fs).run P w = .ok b w
  | [],n,b,w,_,hl,hb=>by
    cases hx:xs.toList.drop n with
    | cons x l=>rw[hx] at hl;simp [fitCells] at hl
    | nil =>
      rw[hx] at hb
      cases hy:ys.toList.drop n with
      | nil=>rw[hy] at hb;cases hb;rfl
      | cons y l=>rw[hy] at hb;simp [bin.eqCells] at hb
  | f :: fs,n,b,w,hp,hl,hb=>by
    simp only [plainFs,Bool.and_eq_true] at hp
    obtain⟨⟨p1,p2⟩,p4⟩:=hp
    have p2:=Nat.eq_of_beq_eq_true p2
    have p1 : f.name ≠ "_" := by simpa using p1
    cases hx:xs.toList.drop n with
    | nil=>rw[hx] at hl;simp [fitCells] at hl
    | cons x xr =>
      cases hy:ys.toList.drop n with
      | nil=>rw[hx,hy] at hb;cases x <;> simp [bin.eqCells] at hb
      | cons y yr =>
        have ex:xs[n]?=some x:=by
          have:=List.getElem?_drop (xs:=xs.toList) (i:=n) (j:=0)
          rw[hx] at this
          rw[← Array.getElem?_toList]
          simpa using this.symm
        have ey:ys[n]?=some y:=by
          have:=List.getElem?_drop (xs:=ys.toList) (i:=n) (j:=0)
          rw[hy] at this
          rw[← Array.getElem?_toList]
          simpa using this.symm
        have dx:xs.toList.drop (n+1)=xr:=by rw[← List.tail_drop,hx];rfl
        have dy:ys.toList.drop (n+1)=yr:=by rw[← List.tail_drop,hy];rfl
        rw[hx,hy] at hb
        rw[hx] at hl
        simp only [fitCells,Bool.and_eq_true] at hl
        obtain⟨l1,l2⟩:=hl
        have a1:=fit_part l1 (off:=f.offset) (by rw[p2];exact ex) w
        have a2:=fit_part l1 (off:=f.offset) (by rw[p2];exact ey) w
        have key:∃ c b',(Op.equalIn (d+1) f.type x y).run P w = .ok c w∧bin.eqCells xr yr=some b'∧b=(c && b'):=by
          unfold fitCell at l1
          split at l1
          · rename_i hu
            unfold bin.eqCells at hb
            split at hb
            · rename_i e1 e2;cases e1
            · rename_i e1 e2;cases e1
            · rename_i e1 e2
              cases e1;cases e2
              obtain⟨b',q1,q2⟩:=Option.map_eq_some_iff.1 hb
              exact⟨_,b',run_equalIn_bool w d f.type _ _ hu,q1,q2.symm⟩
            · rename_i e1 e2;cases e1
            · cases hb
          · rename_i hu
            unfold bin.eqCells at hb
            split at hb
            · rename_i e1 e2;cases e1
            · rename_i e1 e2
              cases e1;cases e2
              split at hb
              · rename_i hk
                subst hk
                obtain⟨b',q1,q2⟩:=Option.map_eq_some_iff.1 hb
                exact⟨_,b',run_equalIn_int w d f.type _ _ _ _ hu,q1,q2.symm⟩
              · cases hb
            · rename_i e1 e2;cases e1
            · rename_i e1 e2;cases e1
            · cases hb
          · rename_i hu
            unfold bin.eqCells at hb
            split at hb
            · rename_i e1 e2;cases e1
            · rename_i e1 e2;cases e1
            · rename_i e1 e2;cases e1
            · rename_i e1 e2
              cases e1;cases e2
              obtain⟨b',q1,q2⟩:=Option.map_eq_some_iff.1 hb
              refine⟨_,b',run_equalIn_string w d f.type _ _ hu,q1,?_⟩
              rw[← q2,beq_toListBytes]
            · cases hb
          · cases l1
        obtain⟨c,b',k1,k2,rfl⟩:=key
        rw[Op.eqFields,if_pos p1]
        simp only [Sem.run_bind,a1,a2,k1,Result.andThen_ok]
        cases c
        · simp
        · have:=eqFields_plain d (xs:=xs) (ys:=ys) fs (n+1) (b:=b') w p4 (by rw[dx];exact l2) (by rw[dx,dy];exact k2)
          simpa using this
theorem eqTy_ok : EqOk P (eqTy P):=by
  intro t ht xs ys b w hs hx hy hb
  unfold eqTy at ht
  unfold fitAgg at hs
  split at ht
  · rename_i fs hu
    rw[hu] at hs
    simp only [Bool.and_eq_true,Bool.not_eq_true'] at ht
    obtain⟨⟨h1,h2⟩,h4⟩:=ht
    have hf:P.fieldsOf t=fs:=by simp [Program.fieldsOf,hu]
    refine⟨?_,fun op p q=>?_⟩
    · unfold Op.equal Op.maxDepth
      rw[show 10000=9999+1 from rfl,run_equalIn_struct (P:=P) w 9999 t xs ys (by rw[hf];exact hu) h1,hf]
      exact eqFields_plain 9998 fs.toList 0 w h4 (by simpa using hs) (by simpa using hb)
    · cases op <;> first | rfl | (simp [eqGuard,h2])
  · cases ht
end Go.AM

/- Rules for what changes memory, told apart from the row that they stand in. -/
namespace Go.AM
open Go
variable {P : Program} {E : TypeId → Bool}

section
variable {H : Heap}
theorem mem_alloc (H:Heap) {e:TypeId} {zc:List Value} (hz:ZeroIs P e zc):∃ b H1,(∀ (E:TypeId→Bool) (dst:Option Tmp) (ty:TypeId) (pos:String) (af:Array Edge) (g:Option (Nat×Bool)) (R:Regs),evOp P E R H ⟨dst,.alloc e,ty,pos,af,g⟩=some (.pointer (some ⟨b,0,none⟩),H1,[])) ∧
    b=H.next∧H1.next=b+1∧H1.blk b=some ⟨zc,0,false,false⟩∧∀ c,c≠b→H1.blk c=H.blk c:=by
  obtain⟨h1,h2,h3⟩:=make_facts H ⟨zc,0,false,false⟩
  exact⟨_,_,fun _ _ _ _ _ _ _=>ev_alloc hz,rfl,h1,h2,h3⟩
theorem mem_box (H:Heap) {v:Value} {cs:List Value} (hc:v.cells.toList=cs) (h1:cs.all Value.oneCell'=true):∃ b H1,(∀ (E:TypeId→Bool) (dst:Option Tmp) (t:TypeId) (x:Operand) (ty:TypeId) (pos:String) (af:Array Edge) (g:Option (Nat×Bool)) (R:Regs),R.eval x=some v→evOp P E R H ⟨dst,.box t x,ty,pos,af,g⟩=some (.pointer (some ⟨b,0,none⟩),H1,[])) ∧
    b=H.next∧H1.next=b+1∧H1.blk b=some ⟨cs,0,false,false⟩∧∀ c,c≠b→H1.blk c=H.blk c:=by
  obtain⟨p1,p2,p3⟩:=make_facts H ⟨cs,0,false,false⟩
  exact⟨_,_,fun _ _ _ _ _ _ _ _ _ hx=>ev_box hx hc h1,rfl,p1,p2,p3⟩
theorem mem_store {t:TypeId} {b o sz:Nat} {opn:Bool} {cs cs' vs:List Value} {v:Value} (m:Nat) (hv:v.cells.toList=vs) (hk:vs.length=m) (hs:sizeIs P t m=true)
    (hB:H.blk b=some ⟨cs,sz,false,opn⟩) (hle:Nat.ble (o+vs.length) cs.length=true) (h1:vs.all Value.oneCell'=true) (hc:cs.take o++vs++cs.drop (o+vs.length)=cs') (hm:(Blk.mk cs sz false opn).isMap=false:=by rfl) :
    ∃ H1,(∀ (E:TypeId→Bool) (dst:Option Tmp) (a x:Operand) (ty:TypeId) (pos:String) (af:Array Edge) (g:Option (Nat×Bool)) (R:Regs),R.eval a=some (.pointer (some ⟨b,o,none⟩))→R.eval x=some v→evOp P E R H ⟨dst,.store t a x,ty,pos,af,g⟩=some (undef,H1,[b])) ∧
      H1.next=H.next∧H1.blk b=some ⟨cs',sz,false,opn⟩∧∀ c,c≠b→H1.blk c=H.blk c:=by
  obtain⟨H1,p1,p2,p3,p4⟩:=put_facts hB hle h1 hc hm
  exact⟨H1,fun _ _ _ _ _ _ _ _ _ ha hx=>ev_store ha hx hv hk hs p1,p2,p3,p4⟩
end
theorem RowIn.row {H:Heap} {b o sz c:Nat} {rows:List (List Value)} (h:RowIn H b o sz rows):Row H (some ⟨b,o,none⟩) c sz rows := .inr ⟨b,o,rfl,h⟩
/-! Strings. -/
section
variable {H : Heap} {dst : Option Tmp} {ty : TypeId} {pos : String} {af : Array Edge} {g : Option (Nat × Bool)} {R : Regs}
theorem ev_lenStr {t:TypeId} {x:Operand} {s:ByteArray} (hx:R.eval x=some (.string s)) (hu:P.underlying t=some .string):evOp P E R H ⟨dst,.call { callee := .builtin .len,args := #[x],argTypes := #[t] },ty,pos,af,g⟩=some (.int .i64 (s.size:Int),H,[]):=by
  simp [evOp,evals,hx,builtinA,lenB,hu,pureV]
theorem ev_str {op:BinOp} {t t2:TypeId} {x y:Operand} {a b:ByteArray} {v:Value} (hx:R.eval x=some (.string a)) (hy:R.eval y=some (.string b)) (h:strBin op a b=some v):evOp P E R H ⟨dst,.binOp op t x y t2,ty,pos,af,g⟩=some (v,H,[]):=by
  simp only [evOp,hx,hy,Option.bind_some,bin,h];rfl
theorem ev_slStr {t:TypeId} {x:Operand} {lo hi:Option Operand} {s:ByteArray} {l h:Option Value} {a b:Nat} (hu:P.underlying t=some .string) (hx:R.eval x=some (.string s)) (h1:optEval R lo=some l) (h2:optEval R hi=some h) (hb:bound h s.size s.size=some b) (ha:bound l b 0=some a) :
    evOp P E R H ⟨dst,.slice t x lo hi none,ty,pos,af,g⟩=some (.string (s.extract a b),H,[]):=by
  have h3:optEval R none=some none:=rfl
  have hs:sliceA P H t (.string s) l h none=some (.string (s.extract a b)):=by
    simp only [sliceA,hu,Option.isSome_none,Bool.false_eq_true,if_false,hb,ha,Option.bind_eq_bind,Option.bind_some]
  simp only [evOp,hx,h1,h2,h3,Option.bind_some,sliceX_of hs]
  rfl
theorem ev_ixStr {t:TypeId} {x i:Operand} {s:ByteArray} {k:IntKind} {n:Nat} {b:UInt8} (hu:P.underlying t=some .string) (hx:R.eval x=some (.string s)) (hi:R.eval i=some (.int k (n:Int))) (hb:s[n]?=some b) :
    evOp P E R H ⟨dst,.index t x i,ty,pos,af,g⟩=some (.int .u8 (b.toNat:Int),H,[]):=by
  simp only [evOp,hx,hi,Option.bind_some,indexA,hu]
  rw[if_pos (by omega),Int.toNat_natCast,hb]
  rfl
theorem ev_convInt {s d:TypeId} {x:Operand} {k k':IntKind} {n:Int} {D:TypeDesc} (hs:P.underlying s=some D) (hd:P.underlying d=some (.int k)) (hx:R.eval x=some (.int k' n)):evOp P E R H ⟨dst,.convert s d x,ty,pos,af,g⟩=some (.int k (k.wrap n),H,[]):=by
  simp [evOp,hx,convA,hs,hd]
theorem ev_agg {op:BinOp} {t t2:TypeId} {x y:Operand} {xs ys:Array Value} {c:Bool} (hx:R.eval x=some (.agg xs)) (hy:R.eval y=some (.agg ys)) (hE:(E t && fitAgg P t xs.toList && xs.toList.all flat && ys.toList.all flat)=true) (hq:bin.eqCells xs.toList ys.toList=some c) (ho:op = .eql) :
    evOp P E R H ⟨dst,.binOp op t x y t2,ty,pos,af,g⟩=some (.bool c,H,[]):=by
  subst ho
  simp only [evOp,hx,hy,Option.bind_some,bin,hE,if_true,hq,Option.map_some]
  rfl
end
/-! In a row that draws. -/
section
variable {ops : Array Oper} {n : Nat} {r : Slots} {H H' : Heap} {K : Regs → Heap → Prop} {o : Oper} {v : Value} {W : List Nat} {d : Tmp} {keep : Nat → Prop} {os : List Oper} {ms : List (Bool × Bool)}
theorem sm_op0 (he:evOp P E (RL n r) H o=some (v,H',W)) (hd:o.dst=none) (hw:wants ops (RL n r) o=some true) (k:awLD P E ops keep (zipM os ms) (RL n r) H' K):awLD P E ops keep (zipM (o :: os) ((false,false) :: ms)) (RL n r) H K :=
  ⟨v,H',⟨by rw[hd];rfl,.inr ⟨hw,.op he⟩⟩,(fun h=>nomatch h),(fun h=>nomatch h),by rw[hd];exact k⟩
theorem sm_act (he:evOp P E (RL n r) H o=some (v,H',W)) (hd:o.dst=some d) (hn:Nat.blt d n=true) (hw:wants ops (RL n r) o=some true) (hle:∀ b,keep b→H'.blk b=H.blk b) (k:awLD P E ops keep (zipM os ms) (RL n (.cons d v r)) H' K):awLD P E ops keep (zipM (o :: os) ((false,true) :: ms)) (RL n r) H K :=
  ⟨v,H',⟨dst_some hd hn,.inr ⟨hw,.op he⟩⟩,(fun h=>nomatch h),(fun _=>hle),by rw[put_some hd];exact k⟩
theorem sm_act0 (he:evOp P E (RL n r) H o=some (v,H',W)) (hd:o.dst=none) (hw:wants ops (RL n r) o=some true) (hle:∀ b,keep b→H'.blk b=H.blk b) (k:awLD P E ops keep (zipM os ms) (RL n r) H' K):awLD P E ops keep (zipM (o :: os) ((false,true) :: ms)) (RL n r) H K :=
  ⟨v,H',⟨by rw[hd];rfl,.inr ⟨hw,.op he⟩⟩,(fun h=>nomatch h),(fun _=>hle),by rw[hd];exact k⟩
end
end Go.AM

/- Small helps for walks. -/
namespace Go.AM
open Go
variable {P : Program} {E : TypeId → Bool}

theorem elemInfo {e sz bt:Nat} (h:((P.info? e).map fun i=>(i.size,i.bytes,i.zero.map fun z=>z.cells.size))=some (sz,bt,some sz)):∃ i,P.info? e=some i∧i.size=sz∧i.bytes=bt∧(i.zero.map fun z=>z.cells.size)=some sz:=by
  obtain⟨i,h1,h2⟩:=Option.map_eq_some_iff.1 h
  simp only [Prod.mk.injEq] at h2
  exact⟨i,h1,h2.1,h2.2.1,h2.2.2⟩
theorem zeroFlat {e:Nat} (h:(((P.info? e).bind (·.zero)).map fun z=>z.cells.toList.all flat)=some true):∃ i z,P.info? e=some i∧i.zero=some z∧z.cells.toList.all flat=true:=by
  obtain⟨z,h1,h2⟩:=Option.map_eq_some_iff.1 h
  obtain⟨i,h3,h4⟩:=Option.bind_eq_some_iff.1 h1
  exact⟨i,z,h3,h4,h2⟩
theorem getMap {α β:Type} (cells:α→β) {l:List α} {j:Nat} {e:α} (h:l[j]?=some e):(l.map cells)[j]?=some (cells e):=by rw[List.getElem?_map,h];rfl
theorem lvar_part {H:Heap} {t:TypeId} {b o n sz:Nat} {rd opn:Bool} {cs l:List Value} (hu:manyB P t n=true) (hB:H.blk b=some ⟨cs,sz,rd,opn⟩) (h:(cs.drop o).take n=l) (hl:l.length=n) (hn:n≠0) (hm:(Blk.mk cs sz rd opn).isMap=false:=by rfl):lvar P H t ⟨b,o,none⟩=some (.agg l.toArray):=by
  refine lvar_many hu hB hl (fun j v hj=>?_) hn hm
  have hj2:j<n:=by rw[← hl];exact(List.getElem?_eq_some_iff.1 hj).1
  rw[← h,List.getElem?_take,if_pos hj2,List.getElem?_drop] at hj
  exact hj
theorem allLen {rows:List (List Value)} {sz:Nat} (h:(rows.all fun r=>Nat.beq r.length sz)=true):∀ r ∈ rows,r.length=sz:=fun r hr=>Nat.eq_of_beq_eq_true (List.all_eq_true.1 h r hr)
theorem drop_at {α:Type} {l:List α} {i:Nat} {e:α} (h:l[i]?=some e):l.drop i=e :: l.drop (i+1):=by
  have hlt:=(List.getElem?_eq_some_iff.1 h).1
  rw[List.drop_eq_getElem_cons hlt]
  congr 1
  exact(List.getElem?_eq_some_iff.1 h).2
/-! What a loop gathers. -/
def accV (b n:Nat):Value:=if n=0 then .slice none 0 0 else .slice (some ⟨b,0,none⟩) n OPEN
def Acc (H:Heap) (b sz:Nat) (rows:List (List Value)):Prop:=rows = []∨Own H b sz rows
theorem Acc.nil (H:Heap) (b sz:Nat):Acc H b sz [] := .inl rfl
theorem Acc.next {H H':Heap} {b sz:Nat} {rows:List (List Value)} (h:Acc H b sz rows) (hn:H.next≤H'.next) (hb:H'.blk b=H.blk b):Acc H' b sz rows:=h.imp id fun h=>h.same hn hb
theorem Acc.val {H:Heap} {b sz:Nat} {rows:List (List Value)} (h:Acc H b sz rows) (hl:rows.length≤1099511627776):∃ A c,accV b rows.length = .slice A rows.length c∧Row H A c sz rows∧rows.length≤c∧(A=none→c=0):=by
  by_cases h0:rows.length=0
  · have:=List.eq_nil_of_length_eq_zero h0
    subst this
    exact⟨none,0,rfl,.nil,Nat.le_refl _,fun _=>rfl⟩
  · refine⟨some ⟨b,0,none⟩,OPEN,by unfold accV;rw[if_neg h0],?_,by unfold OPEN;omega,fun x=>by cases x⟩
    rcases h with rfl | h
    · exact absurd rfl h0
    · exact h.row
end Go.AM

/- Arrays of numbers in memory, told by a function. -/
namespace Go.AM
open Go
variable {P : Program} {E : TypeId → Bool}
def Cells (n:Nat) (g:Nat→Int):List Value:=(List.range n).map fun k => .int .i64 (g k)
theorem cells_len (n:Nat) (g:Nat→Int):(Cells n g).length=n:=by simp [Cells]
theorem ev_minE {H:Heap} {dst:Option Tmp} {x y:Operand} {ts:Array TypeId} {ty:TypeId} {pos:String} {af:Array Edge} {g:Option (Nat×Bool)} {R:Regs} {k:IntKind} {a b z:Int} (hz:(if b<a then b else a)=z) (hx:R.eval x=some (.int k a)) (hy:R.eval y=some (.int k b)) :
    evOp P E R H ⟨dst,.call { callee := .builtin .min,args := #[x,y],argTypes:=ts },ty,pos,af,g⟩=some (.int k z,H,[]):=by subst hz;exact ev_min hx hy
end Go.AM

/- Rows of one's own, empty or not; writing into them; appending onto nothing. -/
namespace Go.AM
open Go
variable {P : Program} {E : TypeId → Bool}
/-- A row that was made since H0 and is nobody else's. -/
def Mine (H0 H:Heap) (A:Option Addr) (c sz:Nat) (rows:List (List Value)):Prop :=
  (rows = []∧c=0)∨∃ b,A=some ⟨b,0,none⟩∧c=OPEN∧Own H b sz rows∧H0.next≤b
theorem Mine.nil {H0 H:Heap} {A:Option Addr} {sz:Nat}:Mine H0 H A 0 sz [] := .inl ⟨rfl,rfl⟩
theorem Mine.row {H0 H:Heap} {A:Option Addr} {c sz:Nat} {rows:List (List Value)} (h:Mine H0 H A c sz rows):Row H A c sz rows:=by
  rcases h with⟨rfl,rfl⟩ | ⟨b,rfl,rfl,h,_⟩
  · exact .nil
  · exact h.row
theorem Mine.cap {H0 H:Heap} {A:Option Addr} {c sz:Nat} {rows:List (List Value)} (h:Mine H0 H A c sz rows) (hl:rows.length≤140737488351232):rows.length≤c:=by
  rcases h with⟨rfl,rfl⟩ | ⟨b,rfl,rfl,h,_⟩
  · exact Nat.le_refl _
  · exact Nat.le_trans hl (by decide)
theorem Mine.anil {H0 H:Heap} {A:Option Addr} {c sz:Nat} {rows:List (List Value)} (h:Mine H0 H A c sz rows):A=none→c=0:=by
  rcases h with⟨_,rfl⟩ | ⟨b,rfl,rfl,h,_⟩
  · exact fun _=>rfl
  · exact fun h=>by cases h
theorem Mine.own {H0 H:Heap} {A:Option Addr} {c sz:Nat} {rows:List (List Value)} (h:Mine H0 H A c sz rows) (hl:rows.length≠0):∃ b,A=some ⟨b,0,none⟩∧c=OPEN∧Own H b sz rows∧H0.next≤b:=by
  rcases h with⟨rfl,_⟩ | h
  · exact absurd rfl hl
  · exact h
theorem Mine.ext {H0 H H':Heap} {A:Option Addr} {c sz:Nat} {rows:List (List Value)} (h:Mine H0 H A c sz rows) (he:Ext H H'):Mine H0 H' A c sz rows :=
  h.imp id fun⟨b,h1,h2,h3,h4⟩=>⟨b,h1,h2,h3.same he.1 (he.2 b h3.lt),h4⟩
theorem Mine.other {H0 H H':Heap} {A:Option Addr} {c sz b:Nat} {rows:List (List Value)} (h:Mine H0 H A c sz rows) (hb:b<H0.next) (hn:H.next≤H'.next) (hf:∀ c,c≠b→H'.blk c=H.blk c):Mine H0 H' A c sz rows :=
  h.imp id fun⟨q,h1,h2,h3,h4⟩=>⟨q,h1,h2,h3.same hn (hf q (by omega)),h4⟩
theorem Mine.older {H0 H1 H:Heap} {A:Option Addr} {c sz:Nat} {rows:List (List Value)} (h:Mine H0 H A c sz rows) (hn:H1.next≤H0.next):Mine H1 H A c sz rows :=
  h.imp id fun⟨q,h1,h2,h3,h4⟩=>⟨q,h1,h2,h3,by omega⟩
theorem Row.anil {α:Type} {f:α→List Value} {H:Heap} {A:Option Addr} {c sz:Nat} {es:List α} (h:Row H A c sz (es.map f)):A=none→es = []:=by
  rintro rfl
  rcases h with⟨h,_⟩ | ⟨b,o,h,_⟩
  · simpa using h
  · cases h
theorem flat_one {α:Type} {f:α→List Value} (h:∀ e,(f e).all Value.oneCell'=true):∀ es:List α,(es.map f).flatten.all Value.oneCell'=true
  | []=>rfl
  | e :: es=>by rw[List.map_cons,List.flatten_cons,List.all_append,h e,flat_one h es];rfl
theorem map_len {α:Type} {f:α→List Value} {sz:Nat} (h:∀ e,(f e).length=sz) (es:List α):∀ q ∈ es.map f,q.length=sz:=fun q hq=>by
  obtain⟨e,_,rfl⟩:=List.mem_map.1 hq
  exact h e
theorem Acc.ext {H H':Heap} {b sz:Nat} {rows:List (List Value)} (h:Acc H b sz rows) (he:Ext H H'):Acc H' b sz rows:=h.imp id fun h=>h.same he.1 (he.2 b h.lt)
theorem Acc.write {H H':Heap} {b p z sz:Nat} {rows:List (List Value)} {cs:List Value} (h:Acc H b sz rows) (hB:H.blk p=some ⟨cs,z,false,false⟩) (hn:H.next≤H'.next) (hf:∀ c,c≠p→H'.blk c=H.blk c):Acc H' b sz rows :=
  h.imp id fun h=>h.same hn (hf b (by rintro rfl;rw[h.blk] at hB;cases hB))
theorem ba_get {s:ByteArray} {n:Nat} {b:UInt8} (h:s.data.toList[n]?=some b):s[n]?=some b:=by
  obtain⟨hlt,hb⟩:=List.getElem?_eq_some_iff.1 h
  have h2:n<s.size:=by simpa using hlt
  rw[getElem?_pos s n h2]
  congr 1
/-! A cell of a row is written. -/
theorem flatten_set {sz k:Nat} {v:Value} (hk:k<sz):∀ (rows:List (List Value)) (i:Nat) (r:List Value),(∀ q ∈ rows,q.length=sz)→rows[i]?=some r→rows.flatten.set (i * sz+k) v=(rows.set i (r.set k v)).flatten
  | [],i,r,_,h=>by simp at h
  | q :: rows,0,r,hl,h=>by
    simp at h
    subst h
    have:=hl q (by simp)
    simp only [Nat.zero_mul,Nat.zero_add,List.flatten_cons,List.set_cons_zero]
    rw[List.set_append_left _ _ (by omega)]
  | q :: rows,i+1,r,hl,h=>by
    have hq:=hl q (by simp)
    simp only [List.flatten_cons,List.set_cons_succ]
    rw[List.set_append_right _ _ (by rw[hq,Nat.succ_mul];omega),hq,show(i+1) * sz+k - sz=i * sz+k by rw[Nat.succ_mul];omega,
      flatten_set hk rows i r (fun q hq=>hl q (by simp [hq])) (by simpa using h)]
end Go.AM

/- Rows that draw, in which a new block may come early: the rules. -/
namespace Go.AM
open Go
variable {P : Program} {E : TypeId → Bool}
def zipN : List Oper→List (Bool×Bool×Bool)→List (Oper×Bool×Bool×Bool)
  | o :: os,m :: ms=>(o,m.1,m.2.1,m.2.2) :: zipN os ms
  | _,_ => []
def marksN (P:Program) (ops:Array Oper) (nms:List Bool):Nat→Nat→List (Bool×Bool×Bool)
  | 0,_ => []
  | k+1,i=>(looseR P ops i,looseE P ops i,nmOf nms i) :: marksN P ops nms k (i+1)
theorem flagsN_zip (P:Program) (ops:Array Oper) (nms:List Bool):∀ (os:List Oper) (i:Nat),flagsN P ops nms os i=zipN os (marksN P ops nms os.length i)
  | [],_=>rfl
  | o :: os,i=>by simp only [flagsN,List.length_cons,marksN,zipN,flagsN_zip P ops nms os (i+1)]
theorem room_ext (H:Heap) (n:Nat):Ext H (H.room n):=⟨Nat.le_add_right _ _,fun _ _=>rfl⟩
theorem aw_marksN {id:Nat} {os:List Oper} {r:Regs} {H:Heap} {Q:Ex→Regs→Heap→Prop} (keep:Nat→Prop) (m:Nat) (nms:List Bool) (ms:List (Bool×Bool×Bool)) (hl:os.length=m) (hm:P.follows .mixedOrders=true) (hd:drawOkN P os.toArray (nmOf nms)=true) (hms:marksN P os.toArray nms os.length 0=ms)
    (h:∀ base Hr,base=H.next→Hr.next=H.next+m→Ext H Hr→awLN P E os.toArray base keep 0 (zipN os ms) r Hr fun r H=>Q .normal r H):aw P E (.region id os.toArray true) r H Q:=by
  subst hl
  exact aw_drwN keep hm hd (by rw[flagsN_zip,hms];exact h H.next (H.room os.length) rfl rfl (room_ext H _))
section
variable {ops : Array Oper} {n m k base : Nat} {r : Slots} {H H' : Heap} {K : Regs → Heap → Prop} {o : Oper} {v : Value} {W : List Nat} {d : Tmp} {keep : Nat → Prop} {os : List Oper} {ms : List (Bool × Bool × Bool)} {lr le : Bool}
/-- One that reads no memory, or leaves it, .. -/
theorem sn_op (he:evOp P E (RL n r) H o=some (v,H',W)) (hd:o.dst=some d) (hn:Nat.blt d n=true) (hw:wants ops (RL n r) o=some true) (hr:rdB P (RL n r) o=none) (hle:le=true→∀ b,keep b→H'.blk b=H.blk b)
    (q:awLN P E ops base keep (k+1) (zipN os ms) (RL n (.cons d v r)) H' K):awLN P E ops base keep k (zipN (o :: os) ((lr,le,false) :: ms)) (RL n r) H K :=
  ⟨v,H',(fun _=>⟨dst_some hd hn,.inr ⟨hw,.op he⟩⟩),(fun h=>nomatch h),(fun _ _ b hb=>by rw[hr] at hb;cases hb),hle,(fun _ b hb=>by rw[hr] at hb;cases hb),by rw[put_some hd];exact q⟩
theorem sn_op0 (he:evOp P E (RL n r) H o=some (v,H',W)) (hd:o.dst=none) (hw:wants ops (RL n r) o=some true) (hr:rdB P (RL n r) o=none) (hle:le=true→∀ b,keep b→H'.blk b=H.blk b)
    (q:awLN P E ops base keep (k+1) (zipN os ms) (RL n r) H' K):awLN P E ops base keep k (zipN (o :: os) ((lr,le,false) :: ms)) (RL n r) H K :=
  ⟨v,H',(fun _=>⟨by rw[hd];rfl,.inr ⟨hw,.op he⟩⟩),(fun h=>nomatch h),(fun _ _ b hb=>by rw[hr] at hb;cases hb),hle,(fun _ b hb=>by rw[hr] at hb;cases hb),by rw[hd];exact q⟩
/-- One that reads a block that was there. -/
theorem sn_read (m:Nat) (hsz:ops.size=m) (he:evOp P E (RL n r) H o=some (v,H',W)) (hd:o.dst=some d) (hn:Nat.blt d n=true) (hw:wants ops (RL n r) o=some true) (hk:∀ b,rdB P (RL n r) o=some b→keep b∧¬ (base≤b∧b<base+m)) (hle:le=true→∀ b,keep b→H'.blk b=H.blk b)
    (q:awLN P E ops base keep (k+1) (zipN os ms) (RL n (.cons d v r)) H' K):awLN P E ops base keep k (zipN (o :: os) ((lr,le,false) :: ms)) (RL n r) H K :=
  ⟨v,H',(fun _=>⟨dst_some hd hn,.inr ⟨hw,.op he⟩⟩),(fun h=>nomatch h),(fun _ _ b hb=>(hk b hb).1),hle,(fun _ b hb=>by rw[hsz];exact(hk b hb).2),by rw[put_some hd];exact q⟩
theorem sn_call {c:Call} {f:FuncId} {args:List Value} (ho:o.op = .call c) (hc:c.callee = .value (.func f)) (ha:evals (RL n r) c.args.toList=some args) (hf:enters P f=true) (hd:o.dst=some d) (hn:Nat.blt d n=true) (hw:wants ops (RL n r) o=some true)
    (h:∃ v H',Spec P f args H v H'∧(le=true→∀ b,keep b→H'.blk b=H.blk b)∧awLN P E ops base keep (k+1) (zipN os ms) (RL n (.cons d v r)) H' K):awLN P E ops base keep k (zipN (o :: os) ((lr,le,false) :: ms)) (RL n r) H K:=by
  obtain⟨v,H',h,hk,q⟩:=h
  have hr:rdB P (RL n r) o=none:=by unfold rdB;rw[ho]
  exact⟨v,H',(fun _=>⟨dst_some hd hn,.inr ⟨hw,.call ho hc rfl ha hf (by simpa using h)⟩⟩),(fun h=>nomatch h),(fun _ _ b hb=>by rw[hr] at hb;cases hb),hk,(fun _ b hb=>by rw[hr] at hb;cases hb),by rw[put_some hd];exact q⟩
/-- A new variable, under its own name. -/
theorem sn_alloc {e:TypeId} {zc:List Value} (i:Nat) (hi:base+k=i) (hz:ZeroIs P e zc) (ho:o.op = .alloc e) (hd:o.dst=some d) (hn:Nat.blt d n=true) (hw:wants ops (RL n r) o=some true) (hkeep:le=true→∀ b,keep b→b≠i)
    (q:∀ H1,H1.next=H.next→H1.blk i=some ⟨zc,0,false,false⟩→(∀ c,c≠i→H1.blk c=H.blk c)→awLN P E ops base keep (k+1) (zipN os ms) (RL n (.cons d (.pointer (some ⟨i,0,none⟩)) r)) H1 K):awLN P E ops base keep k (zipN (o :: os) ((lr,le,true) :: ms)) (RL n r) H K:=by
  subst hi
  obtain⟨z,h1,rfl,h3,h4⟩:=hz
  have hr:rdB P (RL n r) o=none:=by unfold rdB;rw[ho]
  refine⟨.pointer (some ⟨base+k,0,none⟩),H.set (base+k) (some ⟨z.cells.toList,0,false,false⟩),(fun h=>nomatch h),(fun _=>⟨by unfold still;rw[ho],dst_some hd hn,.inr ⟨hw,_,?_,rfl⟩⟩),(fun _ _ b hb=>by rw[hr] at hb;cases hb),(fun hl b hb=>by simp [Heap.set,hkeep hl b hb]),(fun _ b hb=>by rw[hr] at hb;cases hb),?_⟩
  · unfold freshAt
    rw[ho]
    simp only [h1,Option.bind_some]
    rw[if_pos ⟨h3,h4⟩]
  · rw[put_some hd]
    exact q _ rfl (by simp [Heap.set]) (fun c hc=>by simp [Heap.set,hc])
end
end Go.AM

/- Rows that draw, in which something is read that was made in the same row. -/
namespace Go.AM
open Go
variable {P : Program} {E : TypeId → Bool}
section
variable {ops : Array Oper} {n N0 : Nat} {r : Slots} {H H' : Heap} {K : Regs → Heap → Prop} {o : Oper} {v : Value} {W : List Nat} {d : Tmp} {os : List Oper} {ms : List (Bool × Bool × Bool)} {b l e : Bool}
end
end Go.AM

/- Numbers as bytes, sums of bytes, frames, records: in plain Lean. No program in sight. -/
set_option linter.unusedVariables false
set_option linter.unusedSimpArgs false
set_option linter.unnecessarySimpa false
namespace Go.AM.Spec
open Go Go.RowKit
def rd (xs:List Int) (i:Int):Int:=xs.getD i.toNat 0
def bytesOf (s:ByteArray):List Int:=s.data.toList.map fun b=>(b.toNat:Int)
def shl (k:IntKind) (n s:Int):Int:=k.wrap (n * 2 ^ (min s.toNat k.bits))
theorem bytesOf_length (s:ByteArray):(bytesOf s).length=s.size:=by rw[bytesOf,List.length_map,Array.length_toList];rfl


/-! ## bits -/
theorem i64_bd {n:Int} (h:(Lit.int .i64 n).wf=true) : -9223372036854775808≤n∧n≤9223372036854775807:=by
  simp [Lit.wf,IntKind.min,IntKind.max,IntKind.signed,IntKind.bits] at h
  omega
theorem wrap_u64 (n:Int):IntKind.u64.wrap n=n % 18446744073709551616:=by simp [IntKind.wrap,IntKind.bits,IntKind.signed]
theorem not_u64 {x:Int} (h0:0≤x) (h1:x<18446744073709551616):Go.bits .xor .u64 (IntKind.max .u64) x=18446744073709551615 - x:=by
  obtain⟨a,rfl⟩:=Int.eq_ofNat_of_zero_le h0
  have ha:a<2 ^ 64:=by omega
  show IntKind.u64.wrap (((BitVec.ofInt 64 (IntKind.max .u64) ^^^ BitVec.ofInt 64 (a:Int)).toNat:Nat):Int)=_
  have e2:BitVec.ofInt 64 (IntKind.max .u64)=BitVec.allOnes 64:=by decide
  rw[e2,BitVec.ofInt_natCast,BitVec.allOnes_xor,BitVec.toNat_not,BitVec.toNat_ofNat,Nat.mod_eq_of_lt ha,wrap_u64]
  omega
theorem not_i64 {x:Int} (h0:0≤x) (h1:x<9223372036854775808):Go.bits .xor .i64 (-1) x = -x - 1:=by
  obtain⟨a,rfl⟩:=Int.eq_ofNat_of_zero_le h0
  have ha:a<2 ^ 64:=by omega
  show IntKind.i64.wrap (((BitVec.ofInt 64 (-1) ^^^ BitVec.ofInt 64 (a:Int)).toNat:Nat):Int)=_
  have e2:(BitVec.ofInt 64 (-1))=BitVec.allOnes 64:=by decide
  rw[e2,BitVec.ofInt_natCast,BitVec.allOnes_xor,BitVec.toNat_not,BitVec.toNat_ofNat,Nat.mod_eq_of_lt ha,IntKind.wrap_i64]
  omega
theorem or128_nat : ∀ y:Fin 256,Go.bits .or .u8 ((y.val:Nat):Int) 128=(((y.val % 128+128:Nat)):Int):=by decide +kernel
theorem or128 {x:Int} (h0:0≤x) (h1:x<256):Go.bits .or .u8 x 128=x % 128+128:=by
  obtain⟨a,rfl⟩:=Int.eq_ofNat_of_zero_le h0
  have:=or128_nat ⟨a,by omega⟩
  simp only at this
  rw[this]
  omega
theorem and127 {x:Int} (h0:0≤x) (h1:x<256):Go.bits .and .u8 x 127=x % 128:=bits_mask .u8 8 (by decide) wraps_u8 7 (by decide) x h0 h1
theorem wraps_u64 (n:Int) (h0:0≤n) (h1:n<2 ^ 64):IntKind.u64.wrap n=n:=by rw[wrap_u64];omega
theorem and1_u64 {x:Int} (h0:0≤x) (h1:x<18446744073709551616):Go.bits .and .u64 x 1=x % 2:=bits_mask .u64 64 (by decide) wraps_u64 1 (by decide) x h0 (by omega)
theorem or_join (i:Nat) {u d:Int} (hu0:0≤u) (hu:u<2 ^ i) (hd0:0≤d) (hi:i<64) (hd:d * 2 ^ i<2 ^ 64) :
    Go.bits .or .u64 u (shl .u64 d i)=u+d * 2 ^ i:=by
  have hp:(0:Int)<2 ^ i:=by exact_mod_cast Nat.two_pow_pos i
  have hs:shl .u64 d (i:Int)=d * 2 ^ i:=by
    unfold shl
    have e:min ((i:Int)).toNat (IntKind.bits .u64)=i:=by simp [IntKind.bits];omega
    rw[e]
    exact wraps_u64 _ (Int.mul_nonneg hd0 (Int.le_of_lt hp)) hd
  rw[hs]
  obtain⟨a,rfl⟩:=Int.eq_ofNat_of_zero_le hu0
  obtain⟨b,rfl⟩:=Int.eq_ofNat_of_zero_le hd0
  have ha:a<2 ^ i:=by exact_mod_cast hu
  have hb:b * 2 ^ i<2 ^ 64:=by exact_mod_cast hd
  have hp64:(2:Nat) ^ i<2 ^ 64:=Nat.pow_lt_pow_right (by decide) hi
  have e1:((b:Int) * 2 ^ i)=((b * 2 ^ i:Nat):Int):=by simp
  rw[e1,(bits_nat .u64 64 (by decide) wraps_u64 a (b * 2 ^ i) (by omega) hb).2,Nat.or_comm,Nat.mul_comm b,← Nat.two_pow_add_eq_or_of_lt ha b]
  simp
  omega

/-! ## numbers -/
/-- The bytes of a number without a sign. -/
def enc (u:Nat):List Int:=if u<128 then[(u:Int)] else((u % 128+128:Nat):Int) :: enc (u / 128)
termination_by u
decreasing_by omega
/-- A number with a sign, as one without; and back. -/
def zig (n:Int):Nat:=if n<0 then(-2 * n - 1).toNat else(2 * n).toNat
def zag (u:Nat):Int:=if u % 2=1 then -((u / 2:Nat):Int) - 1 else((u / 2:Nat):Int)
theorem zag_zig (n:Int):zag (zig n)=n:=by
  unfold zag zig
  split <;> split <;> omega
theorem zig_lt {n:Int} (h0 : -9223372036854775808≤n) (h1:n≤9223372036854775807):zig n<18446744073709551616:=by
  unfold zig
  split <;> omega
theorem zag_bd {u:Nat} (h:u<18446744073709551616) : -9223372036854775808≤zag u∧zag u≤9223372036854775807:=by
  unfold zag
  split <;> omega
theorem zig_zag (u:Nat):zig (zag u)=u:=by
  unfold zag zig
  split <;> split <;> omega
theorem enc_small {u:Nat} (h:u<128):enc u = [(u:Int)]:=by rw[enc,if_pos h]
theorem enc_step {u:Nat} (h:128≤u):enc u=((u % 128+128:Nat):Int) :: enc (u / 128):=by rw[enc,if_neg (by omega)]
theorem enc_pos (u:Nat):0<(enc u).length:=by
  unfold enc
  split <;> simp
theorem enc_bytes (u:Nat):∀ x ∈ enc u,0≤x∧x<256:=by
  induction u using Nat.strongRecOn with
  | _ u ih =>
    intro x hx
    by_cases h:u<128
    · rw[enc_small h] at hx
      simp at hx
      omega
    · rw[enc_step (by omega)] at hx
      rcases List.mem_cons.1 hx with rfl | hx
      · omega
      · exact ih _ (by omega) x hx
theorem enc_len {j u:Nat} (h:u<2 ^ (7 * j)) (hj:0<j):(enc u).length≤j:=by
  induction j generalizing u with
  | zero=>omega
  | succ j ih =>
    by_cases h1:u<128
    · rw[enc_small h1];simp
    · rw[enc_step (by omega),List.length_cons]
      have h2:u / 128<2 ^ (7 * j):=by
        rw[Nat.div_lt_iff_lt_mul (by decide)]
        have:2 ^ (7 * (j+1))=2 ^ (7 * j) * 128:=by rw[Nat.mul_add,Nat.pow_add]
        omega
      have hj0:0<j:=by
        rcases Nat.eq_zero_or_pos j with rfl | h3
        · simp at h2
          omega
        · exact h3
      have:=ih h2 hj0
      omega
theorem enc_len10 {u:Nat} (h:u<18446744073709551616):(enc u).length≤10:=enc_len (j:=10) (Nat.lt_of_lt_of_le h (by decide)) (by decide)

/-- Reading a number, from its place i on, behind u. -/
def numGet (i:Nat) (u:Nat):List Int→Int×Int×Int
  | []=>(0,0,2)
  | c :: r=>if i=9∧c > 1 then(0,0,1) else if c > 127 then numGet (i+1) (u+(c % 128).toNat * 2 ^ (7 * i)) r
    else if 0<i∧c=0 then(0,0,1) else(zag (u+c.toNat * 2 ^ (7 * i)),i+1,0)
theorem get_enc (v:Nat):∀ (i u:Nat) (rest:List Int),u+v * 2 ^ (7 * i)<18446744073709551616→(0<i→0<v)→i≤9→numGet i u (enc v++rest)=(zag (u+v * 2 ^ (7 * i)),((i+(enc v).length:Nat):Int),0):=by
  induction v using Nat.strongRecOn with
  | _ v ih =>
    intro i u rest hlt hpos hi9
    have h9:i=9→v≤1:=by
      intro h
      subst h
      have e:2 ^ (7 * 9)=9223372036854775808:=by decide
      rw[e] at hlt
      omega
    by_cases h:v<128
    · rw[enc_small h,List.singleton_append,numGet]
      rw[if_neg (by omega),if_neg (by omega),if_neg (by omega)]
      simp
    · rw[enc_step (by omega),List.cons_append,numGet]
      have hi:i<9:=by omega
      rw[if_neg (by omega),if_pos (by omega)]
      have e1:(((v % 128+128:Nat):Int) % 128).toNat=v % 128:=by omega
      have e2:2 ^ (7 * (i+1))=128 * 2 ^ (7 * i):=by rw[Nat.mul_add,Nat.pow_add,Nat.mul_comm]
      have e3:u+v % 128 * 2 ^ (7 * i)+v / 128 * 2 ^ (7 * (i+1))=u+v * 2 ^ (7 * i):=by
        rw[e2,Nat.add_assoc,← Nat.mul_assoc,← Nat.add_mul]
        congr 2
        omega
      rw[e1,ih (v / 128) (by omega) (i+1) _ rest (by rw[e3];exact hlt) (by omega) (by omega),e3]
      simp only [List.length_cons]
      congr 2
      omega
theorem get_enc0 (n:Int) (h0 : -9223372036854775808≤n) (h1:n≤9223372036854775807) (rest:List Int):numGet 0 0 (enc (zig n)++rest)=(n,((enc (zig n)).length:Int),0):=by
  have:=get_enc (zig n) 0 0 rest (by simpa using zig_lt h0 h1) (by omega) (by omega)
  simpa [zag_zig] using this
theorem get_cut (v:Nat):∀ (i u m:Nat),u+v * 2 ^ (7 * i)<18446744073709551616→i≤9→m<(enc v).length→numGet i u ((enc v).take m)=(0,0,2):=by
  induction v using Nat.strongRecOn with
  | _ v ih =>
    intro i u m hlt hi9 hm
    have h9:i=9→v≤1:=by
      intro h
      subst h
      have e:2 ^ (7 * 9)=9223372036854775808:=by decide
      rw[e] at hlt
      omega
    by_cases h:v<128
    · rw[enc_small h] at hm ⊢
      have:m=0:=by simp at hm;omega
      subst this
      rfl
    · rw[enc_step (by omega)] at hm ⊢
      have hi:i<9:=by omega
      rcases m with _ | m
      · rfl
      · rw[List.take_succ_cons,numGet,if_neg (by omega),if_pos (by omega)]
        have e1:(((v % 128+128:Nat):Int) % 128).toNat=v % 128:=by omega
        have e2:2 ^ (7 * (i+1))=128 * 2 ^ (7 * i):=by rw[Nat.mul_add,Nat.pow_add,Nat.mul_comm]
        have e3:u+v % 128 * 2 ^ (7 * i)+v / 128 * 2 ^ (7 * (i+1))=u+v * 2 ^ (7 * i):=by
          rw[e2,Nat.add_assoc,← Nat.mul_assoc,← Nat.add_mul]
          congr 2
          omega
        rw[e1]
        exact ih (v / 128) (by omega) (i+1) _ m (by rw[e3];exact hlt) (by omega) (by simp only [List.length_cons] at hm;omega)
/-- What is read is a number, of so many bytes; or none. -/
theorem numGet_says (l:List Int):∀ (i u:Nat),(∀ x ∈ l,0≤x∧x<256)→u<2 ^ (7 * i)→i≤9 →
    (numGet i u l=(0,0,1)∨numGet i u l=(0,0,2))∨∃ w n:Nat,w<18446744073709551616∧numGet i u l=(zag w,(n:Int),0)∧i<n∧n≤10∧n≤i+l.length:=by
  induction l with
  | nil=>intro i u _ _ _;exact .inl (.inr rfl)
  | cons c r ih =>
    intro i u hb hu hi
    have hc:=hb c (List.mem_cons_self ..)
    rw[numGet]
    by_cases h1:i=9∧c > 1
    · rw[if_pos h1];exact .inl (.inl rfl)
    · rw[if_neg h1]
      have e2:2 ^ (7 * (i+1))=128 * 2 ^ (7 * i):=by rw[Nat.mul_add,Nat.pow_add,Nat.mul_comm]
      by_cases h2:c > 127
      · rw[if_pos h2]
        have hi9:i<9:=by omega
        have hd:(c % 128).toNat<128:=by omega
        have hu':u+(c % 128).toNat * 2 ^ (7 * i)<2 ^ (7 * (i+1)):=by
          rw[e2]
          have:(c % 128).toNat * 2 ^ (7 * i)≤127 * 2 ^ (7 * i):=Nat.mul_le_mul_right _ (by omega)
          omega
        rcases ih (i+1) _ (fun x hx=>hb x (List.mem_cons_of_mem _ hx)) hu' (by omega) with h | ⟨w,n,hw,h,h3,h4,h5⟩
        · exact .inl h
        · exact .inr ⟨w,n,hw,h,by omega,h4,by simp only [List.length_cons];omega⟩
      · rw[if_neg h2]
        by_cases h3:0<i∧c=0
        · rw[if_pos h3];exact .inl (.inl rfl)
        · rw[if_neg h3]
          refine .inr ⟨u+c.toNat * 2 ^ (7 * i),i+1,?_,rfl,by omega,by omega,by simp only [List.length_cons];omega⟩
          rcases Nat.lt_or_ge i 9 with h9 | h9
          · have h5:2 ^ (7 * (i+1))≤2 ^ (7 * 9):=Nat.pow_le_pow_right (by decide) (by omega)
            have h6:(2:Nat) ^ (7 * 9)=9223372036854775808:=by decide
            have:c.toNat * 2 ^ (7 * i)≤127 * 2 ^ (7 * i):=Nat.mul_le_mul_right _ (by omega)
            omega
          · have h10:i=9:=by omega
            subst h10
            have h6:(2:Nat) ^ (7 * 9)=9223372036854775808:=by decide
            rw[h6] at hu ⊢
            have:c.toNat≤1:=by omega
            omega

/-! ## texts -/
/-- Reading a text. -/
def getText (l:List Int):ByteArray×Int×Int :=
  if (numGet 0 0 l).2.2=0 then
    (if (numGet 0 0 l).1<0∨(numGet 0 0 l).1 > 1048576 then(⟨#[]⟩,0,1)
     else if (numGet 0 0 l).1 > (l.length:Int) - (numGet 0 0 l).2.1 then(⟨#[]⟩,0,2)
     else(strOfNums ((l.drop (numGet 0 0 l).2.1.toNat).take (numGet 0 0 l).1.toNat),(numGet 0 0 l).2.1+(numGet 0 0 l).1,0))
  else(⟨#[]⟩,0,(numGet 0 0 l).2.2)
/-- What a number says of what was read: its place in the bytes, its bounds. -/
theorem numGet_ok (l:List Int) (hb:∀ x ∈ l,0≤x∧x<256):(numGet 0 0 l).2.2=0 → -9223372036854775808≤(numGet 0 0 l).1∧(numGet 0 0 l).1≤9223372036854775807∧1≤(numGet 0 0 l).2.1∧(numGet 0 0 l).2.1≤10∧(numGet 0 0 l).2.1≤l.length:=by
  intro h
  rcases numGet_says l 0 0 hb (by simp) (by omega) with(h1 | h1) | ⟨w,n,hw,h1,h2,h3,h4⟩
  · rw[h1] at h;simp at h
  · rw[h1] at h;simp at h
  · rw[h1]
    have:=zag_bd hw
    simp only
    omega
theorem numGet_fail (l:List Int) (hb:∀ x ∈ l,0≤x∧x<256):(numGet 0 0 l).2.2=0∨(numGet 0 0 l)=(0,0,1)∨(numGet 0 0 l)=(0,0,2):=by
  rcases numGet_says l 0 0 hb (by simp) (by omega) with(h1 | h1) | ⟨w,n,hw,h1,h2,h3,h4⟩
  · exact .inr (.inl h1)
  · exact .inr (.inr h1)
  · rw[h1];exact .inl rfl




theorem xor_u32 {x y:Int} (hx0:0≤x) (hx:x<4294967296) (hy0:0≤y) (hy:y<4294967296):Go.bits .xor .u32 x y=((x.toNat ^^^ y.toNat:Nat):Int):=by
  obtain⟨a,rfl⟩:=Int.eq_ofNat_of_zero_le hx0
  obtain⟨b,rfl⟩:=Int.eq_ofNat_of_zero_le hy0
  have ha:a<2 ^ 32:=by omega
  have hb:b<2 ^ 32:=by omega
  show IntKind.u32.wrap (((BitVec.ofInt 32 (a:Int) ^^^ BitVec.ofInt 32 (b:Int)).toNat:Nat):Int)=_
  rw[BitVec.ofInt_natCast,BitVec.ofInt_natCast,BitVec.toNat_xor,BitVec.toNat_ofNat,BitVec.toNat_ofNat,Nat.mod_eq_of_lt ha,Nat.mod_eq_of_lt hb,IntKind.wrap_u32]
  have:=Nat.xor_lt_two_pow ha hb
  simp only [Int.toNat_natCast]
  omega
theorem not_u32 {x:Int} (h0:0≤x) (h1:x<4294967296):Go.bits .xor .u32 (IntKind.max .u32) x=4294967295 - x:=by
  obtain⟨a,rfl⟩:=Int.eq_ofNat_of_zero_le h0
  have ha:a<2 ^ 32:=by omega
  show IntKind.u32.wrap (((BitVec.ofInt 32 (IntKind.max .u32) ^^^ BitVec.ofInt 32 (a:Int)).toNat:Nat):Int)=_
  have e2:BitVec.ofInt 32 (IntKind.max .u32)=BitVec.allOnes 32:=by decide
  rw[e2,BitVec.ofInt_natCast,BitVec.allOnes_xor,BitVec.toNat_not,BitVec.toNat_ofNat,Nat.mod_eq_of_lt ha,IntKind.wrap_u32]
  omega
theorem wraps_u32 (n:Int) (h0:0≤n) (h1:n<2 ^ 32):IntKind.u32.wrap n=n:=by rw[IntKind.wrap_u32];omega
theorem and1_u32 {x:Int} (h0:0≤x) (h1:x<4294967296):Go.bits .and .u32 x 1=x % 2:=bits_mask .u32 32 (by decide) wraps_u32 1 (by decide) x h0 (by omega)

/-- One step, of one bit. -/
def crcStep (x:Nat):Nat:=(x / 2) ^^^ (if x % 2=1 then 3988292384 else 0)
def crcSteps : Nat→Nat→Nat
  | 0,x=>x
  | n+1,x=>crcSteps n (crcStep x)
def crcRun (x:Nat):List Int→Nat
  | []=>x
  | c :: r=>crcRun (crcSteps 8 (x ^^^ c.toNat)) r
def crcMore (s:Nat) (l:List Int):Nat:=4294967295 - crcRun (4294967295 - s) l
theorem crcStep_lt {x:Nat} (h:x<4294967296):crcStep x<4294967296:=by
  unfold crcStep
  exact Nat.xor_lt_two_pow (n:=32) (by omega) (by split <;> decide)
theorem crcSteps_lt (n:Nat):∀ {x:Nat},x<4294967296→crcSteps n x<4294967296:=by
  induction n with
  | zero=>intro x h;exact h
  | succ n ih=>intro x h;exact ih (crcStep_lt h)
theorem xor_byte_lt {x:Nat} {c:Int} (h:x<4294967296) (hc:c<256):x ^^^ c.toNat<4294967296:=Nat.xor_lt_two_pow (n:=32) h (by omega)
theorem crcRun_lt (l:List Int):∀ {x:Nat},x<4294967296→(∀ c ∈ l,0≤c∧c<256)→crcRun x l<4294967296:=by
  induction l with
  | nil=>intro x h _;exact h
  | cons c r ih =>
    intro x h hb
    exact ih (crcSteps_lt 8 (xor_byte_lt h (hb c (List.mem_cons_self ..)).2)) (fun d hd=>hb d (List.mem_cons_of_mem _ hd))
theorem crcMore_lt (s:Nat) (l:List Int):crcMore s l<4294967296:=by unfold crcMore;omega
theorem crcRun_append (a b:List Int):∀ x,crcRun x (a++b)=crcRun (crcRun x a) b:=by
  induction a with
  | nil=>intro x;rfl
  | cons c r ih=>intro x;exact ih _
theorem crcMore_append (s:Nat) (a b:List Int) (hs:s<4294967296) (ha:∀ c ∈ a,0≤c∧c<256):crcMore (crcMore s a) b=crcMore s (a++b):=by
  unfold crcMore
  rw[crcRun_append]
  have:=crcRun_lt a (x:=4294967295 - s) (by omega) ha
  congr 2
  omega

/-- A sum's four bytes. -/
def four (s:Nat):List Int := [((s / 16777216 % 256:Nat):Int),((s / 65536 % 256:Nat):Int),((s / 256 % 256:Nat):Int),((s % 256:Nat):Int)]
theorem four_length (s:Nat):(four s).length=4:=rfl
theorem four_bytes (s:Nat):∀ x ∈ four s,0≤x∧x<256:=by
  intro x hx
  simp only [four,List.mem_cons,List.not_mem_nil,or_false] at hx
  omega

theorem crc_bits {x:Nat} (hx:x<4294967296):Go.bits .xor .u32 ((x:Int) / 2) (Go.bits .and .u32 3988292384 ((-(Go.bits .and .u32 (x:Int) 1)) % 4294967296))=((crcStep x:Nat):Int):=by
  rw[and1_u32 (by omega) (by omega)]
  have h0:Go.bits .and .u32 3988292384 ((-(0:Int)) % 4294967296)=0:=by decide +kernel
  have h1:Go.bits .and .u32 3988292384 ((-(1:Int)) % 4294967296)=3988292384:=by decide +kernel
  unfold crcStep
  by_cases h:x % 2=1
  · have e:(x:Int) % 2=1:=by omega
    rw[e,h1,xor_u32 (by omega) (by omega) (by omega) (by omega),if_pos h]
    congr 2
  · have e:(x:Int) % 2=0:=by omega
    rw[e,h0,xor_u32 (by omega) (by omega) (by omega) (by omega),if_neg h]
    congr 2
theorem four_is (s:Nat) : [((s:Int) / 16777216) % 256,((s:Int) / 65536) % 256,((s:Int) / 256) % 256,(s:Int) % 256]=four s:=by
  unfold four
  simp only [List.cons.injEq,and_true]
  omega

/-! ## strings of bytes -/
theorem strOfNums_inj {a b:List Int} (ha:∀ x ∈ a,0≤x∧x<256) (hb:∀ x ∈ b,0≤x∧x<256) (h:(strOfNums a).toList=(strOfNums b).toList):a=b:=by
  have e:∀ l:List Int,(∀ x ∈ l,0≤x∧x<256)→((strOfNums l).data.toList).map (fun u=>(u.toNat:Int))=l:=by
    intro l hl
    rw[strOfNums_data,List.map_map]
    conv=>rhs;rw[← List.map_id l]
    apply List.map_congr_left
    intro x hx
    have:=hl x hx
    simp only [Function.comp,id]
    rw[UInt8.toNat_ofNat']
    omega
  have h':(strOfNums a).data.toList=(strOfNums b).data.toList:=by
    rw[← ByteArray.toList_eq,← ByteArray.toList_eq];exact h
  rw[← e a ha,← e b hb,h']


end Go.AM.Spec

/- What a step leaves as it was; rows of one's own with room behind; places in rows. -/
set_option linter.unusedSimpArgs false
namespace Go.AM
open Go
variable {P : Program} {E : TypeId → Bool}

/-- What was there is as it was, but for W. -/
def Fr (W:Nat→Prop) (H H':Heap):Prop:=H.next≤H'.next∧∀ b,b<H.next→¬ W b→H'.blk b=H.blk b
theorem Fr.refl (W:Nat→Prop) (H:Heap):Fr W H H:=⟨Nat.le_refl _,fun _ _ _=>rfl⟩
theorem Fr.trans {W W1:Nat→Prop} {H H1 H2:Heap} (h:Fr W H H1) (k:Fr W1 H1 H2) (hw:∀ b,b<H.next→W1 b→W b):Fr W H H2 :=
  ⟨Nat.le_trans h.1 k.1,fun b hb hW=>(k.2 b (Nat.lt_of_lt_of_le hb h.1) fun q=>hW (hw b hb q)).trans (h.2 b hb hW)⟩
/-- What a step may assume of what was as it was. -/
theorem Fr.transG {W W1:Nat→Prop} {H H1 H2:Heap} (h:Fr W H H1) (k:Fr W1 H1 H2) (hw:∀ q,q<H.next→H1.blk q=H.blk q→W1 q→W q):Fr W H H2 :=
  ⟨Nat.le_trans h.1 k.1,fun b hb hW=>(k.2 b (Nat.lt_of_lt_of_le hb h.1) fun q=>hW (hw b hb (h.2 b hb hW) q)).trans (h.2 b hb hW)⟩
/-- There is a block of such elements. -/
def ZB (H:Heap) (b sz:Nat):Prop:=∃ B,H.blk b=some B∧B.esz=sz
theorem ZB.back {H H1:Heap} {b sz:Nat} (e:H1.blk b=H.blk b) (h:ZB H1 b sz):ZB H b sz:=by obtain⟨B,h1,h2⟩:=h;exact⟨B,e ▸ h1,h2⟩
theorem ZB.ne {H:Heap} {b sz sz':Nat} (h:ZB H b sz) (hn:sz≠sz'):∃ B,H.blk b=some B∧B.esz≠sz':=by obtain⟨B,h1,rfl⟩:=h;exact⟨B,h1,hn⟩
theorem Ext.fr {H H':Heap} (h:Ext H H') (W:Nat→Prop):Fr W H H':=⟨h.1,fun b hb _=>h.2 b hb⟩
theorem Fr.ext {W:Nat→Prop} {H H':Heap} (h:Fr W H H') (hw:∀ b,b<H.next→¬ W b):Ext H H':=⟨h.1,fun b hb=>h.2 b hb (hw b hb)⟩
theorem Ext.then {W:Nat→Prop} {H H1 H2:Heap} (h:Ext H H1) (k:Fr W H1 H2) (hw:∀ b,b<H.next→¬ W b):Ext H H2:=⟨Nat.le_trans h.1 k.1,fun b hb=>(k.2 b (Nat.lt_of_lt_of_le hb h.1) (hw b hb)).trans (h.2 b hb)⟩
theorem Ext.new {H H1:Heap} {b:Nat} (hb:b=H.next) (hn:H1.next=b+1) (hf:∀ c,c≠b→H1.blk c=H.blk c):Ext H H1:=⟨by omega,fun c hc=>hf c (by omega)⟩
theorem Fr.write {H H1:Heap} {p:Nat} (hn:H1.next=H.next) (hf:∀ c,c≠p→H1.blk c=H.blk c):Fr (fun b=>b=p) H H1:=⟨by omega,fun c _ hc=>hf c hc⟩
theorem Fr.blk {W:Nat→Prop} {H H':Heap} {p:Nat} {B:Option Blk} (k:Fr W H H') (hp:p<H.next) (hw:¬ W p) (h:H.blk p=B):H'.blk p=B:=(k.2 p hp hw).trans h
theorem Ext.blk {H H':Heap} {p:Nat} {B:Option Blk} (k:Ext H H') (hp:p<H.next) (h:H.blk p=B):H'.blk p=B:=(k.2 p hp).trans h
theorem zb_ne {H:Heap} {b z z':Nat} {cs:List Value} {r o:Bool} (h:H.blk b=some ⟨cs,z,r,o⟩) (k:ZB H b z') (hn:z≠z'):False:=by obtain⟨B,e,rfl⟩:=k;rw[h] at e;cases e;exact hn rfl
theorem Row.fr {W:Nat→Prop} {H H':Heap} {A:Option Addr} {c sz:Nat} {rows:List (List Value)} (h:Row H A c sz rows) (k:Fr W H H') (hw:∀ b,b<H.next→W b→∃ B,H.blk b=some B∧B.esz≠sz):Row H' A c sz rows :=
  h.imp id fun⟨b,o,h1,h2⟩=>⟨b,o,h1,h2.next k.1 (k.2 b h2.1 fun q=>by
    obtain⟨B,e1,e2⟩:=hw b h2.1 q
    obtain⟨_,B',e3,e4,_⟩:=h2
    rw[e1] at e3
    cases e3
    exact e2 e4)⟩

/-- A place in a row. -/
def ptrAt (A:Option Addr) (i sz k:Nat):Value := .pointer (A.map fun a=>⟨a.block,a.off+i * sz+k,none⟩)
section
variable {H H' : Heap} {A X : Option Addr} {c cx sz n k m i : Nat} {rows : List (List Value)} {r : List Value} {v : Value} {t : TypeId} {x y : Operand} {R : Regs} {dst : Option Tmp} {ty : TypeId} {pos : String} {af : Array Edge} {g : Option (Nat × Bool)}
theorem Row.got {H:Heap} {A:Option Addr} {c sz:Nat} {rows:List (List Value)} (h:Row H A c sz rows) {i:Nat} {r:List Value} (hi:rows[i]?=some r):∃ b o,A=some ⟨b,o,none⟩∧b<H.next∧RowIn H b o sz rows:=by
  obtain⟨b,o,h1,h2⟩:=h.at_ hi
  exact⟨b,o,h1,h2.1,h2⟩
theorem ev_at {kd:IntKind} {j:Int} (hx:R.eval x=some (.slice A m c)) (hi:R.eval y=some (.int kd j)) (hr:Row H A cx sz rows) (hn:rows[n]?=some r) (hj:j.toNat=n) (h0:0≤j) (h1:j<m) (hs:elemIs P t sz=true) :
    evOp P E R H ⟨dst,.indexAddr t x y,ty,pos,af,g⟩=some (ptrAt A n sz 0,H,[]):=by
  obtain⟨b,o,rfl,_,_⟩:=hr.got hn
  subst hj
  exact ev_indexAddr hx hi h0 h1 hs rfl
theorem ev_atF {f off k':Nat} (hx:R.eval x=some (ptrAt A n sz k)) (hr:Row H A cx sz rows) (hn:rows[n]?=some r) (hf:fieldIs P t f off=true) (hk:k+off=k'):evOp P E R H ⟨dst,.fieldAddr t x f,ty,pos,af,g⟩=some (ptrAt A n sz k',H,[]):=by
  obtain⟨b,o,rfl,_,_⟩:=hr.got hn
  subst hk
  exact ev_fieldAddr hx hf (by omega)
theorem ev_atL (hx:R.eval x=some (ptrAt A n sz k)) (hr:Row H A cx sz rows) (hn:rows[n]?=some r) (ht:oneB P t=true) (hk:r[k]?=some v):evOp P E R H ⟨dst,.load t x,ty,pos,af,g⟩=some (v,H,[]):=by
  obtain⟨b,o,rfl,_,hr⟩:=hr.got hn
  exact ev_load hx (hr.lvar ht hn hk)
theorem ev_atN {q:Nat} {cs:List Value} (hx:R.eval x=some (ptrAt A n sz k)) (hr:Row H A cx sz rows) (hn:rows[n]?=some r) (ht:manyB P t q=true) (hc:(r.drop k).take q=cs) (hq:cs.length=q) (h0:q≠0):evOp P E R H ⟨dst,.load t x,ty,pos,af,g⟩=some (.agg cs.toArray,H,[]):=by
  obtain⟨b,o,rfl,_,hr⟩:=hr.got hn
  refine ev_load hx ?_
  have hk:∀ j v,cs[j]?=some v→r[k+j]?=some v:=by
    intro j v hj
    rw[← hc,List.getElem?_take] at hj
    split at hj
    · rwa [List.getElem?_drop] at hj
    · cases hj
  obtain⟨B,hB,hmp,_⟩:=hr.cell hn (k:=k+0) (v:=cs[0]'(by omega)) (hk 0 _ (List.getElem?_eq_getElem (by omega)))
  refine lvar_many ht hB hq (fun j v hj=>?_) h0 hmp
  obtain⟨B',hB',_,h2⟩:=hr.cell hn (hk j v hj)
  rw[hB] at hB'
  cases hB'
  rw[← h2]
  show B.cells[o+n * sz+k+j]?=B.cells[o+n * sz+(k+j)]?
  rw[Nat.add_assoc]
theorem rd_at {o:Oper} {H0:Heap} (ho:o.op = .load t x) (hx:R.eval x=some (ptrAt A n sz k)) (hr:Row H0 A cx sz rows) (hn:rows[n]?=some r) {b:Nat} (hb:rdB P R o=some b):b<H0.next:=by
  obtain⟨b',o',rfl,hlt,_⟩:=hr.got hn
  unfold rdB at hb
  rw[ho] at hb
  simp only [hx,Option.bind_some,ptrAt,Option.map_some,ptr?] at hb
  cases hb
  exact hlt
/-- Rows of one's own: they lie in a block made since H0 that nobody else has, with so much room behind (what stands there is nobody's). -/
def My (H0 H:Heap) (A:Option Addr) (c sz:Nat) (rows:List (List Value)):Prop :=
  (rows = []∧c=0)∨∃ b o cs opn,A=Option.some ⟨b,o,none⟩∧H0.next≤b∧b<H.next∧H.blk b=Option.some ⟨cs,sz,false,opn⟩∧(∀ r ∈ rows,r.length=sz) ∧
    (cs.drop o).take (rows.length * sz)=rows.flatten∧o+rows.length * sz≤cs.length∧((c=OPEN∧opn=true)∨(c<OPEN∧rows.length≤c∧o+c * sz≤cs.length))
theorem My.nil {H0 H:Heap} {A:Option Addr} {sz:Nat}:My H0 H A 0 sz [] := .inl ⟨rfl,rfl⟩
theorem my_make {H0 H1:Heap} {b c:Nat} {opn:Bool} {rows:List (List Value)} {sz:Nat} (h0:H0.next≤b) (hb:b<H1.next) (hB:H1.blk b=Option.some ⟨rows.flatten,sz,false,opn⟩) (hl:∀ r ∈ rows,r.length=sz) (hc:(c=OPEN∧opn=true)∨(c<OPEN∧rows.length≤c∧0+c * sz≤rows.flatten.length)):My H0 H1 (Option.some ⟨b,0,none⟩) c sz rows :=
  .inr ⟨b,0,_,opn,rfl,h0,hb,hB,hl,by rw[List.drop_zero,← flatten_len rows hl,List.take_length],by rw[flatten_len rows hl];omega,hc⟩
theorem My.row {H0:Heap} (h:My H0 H A c sz rows):Row H A c sz rows:=by
  rcases h with⟨rfl,rfl⟩ | ⟨b,o,cs,opn,rfl,_,h1,h2,h3,h4,h5,_⟩
  · exact .nil
  · refine .inr ⟨b,o,rfl,h1,_,h2,rfl,h3,fun j v hj=>?_⟩
    rw[← h4,List.getElem?_take] at hj
    split at hj
    · rwa [List.getElem?_drop] at hj
    · cases hj
theorem My.cap {H0:Heap} (h:My H0 H A c sz rows) (hl:rows.length≤1099511627776):rows.length≤c:=by
  rcases h with⟨rfl,rfl⟩ | ⟨b,o,cs,opn,rfl,_,_,_,_,_,_,⟨rfl,_⟩ | ⟨_,h,_⟩⟩
  · exact Nat.le_refl _
  · exact Nat.le_trans hl (by decide)
  · exact h
theorem My.anil {H0:Heap} (h:My H0 H A c sz rows):A=none→c=0:=by
  rcases h with⟨_,rfl⟩ | ⟨b,o,cs,opn,rfl,_⟩
  · exact fun _=>rfl
  · exact fun h=>by cases h
theorem My.fr {H0:Heap} {W:Nat→Prop} (h:My H0 H A c sz rows) (k:Fr W H H') (hw:∀ b,H0.next≤b→b<H.next→¬ W b):My H0 H' A c sz rows :=
  h.imp id fun⟨b,o,cs,opn,h1,h2,h3,h4,h5⟩=>⟨b,o,cs,opn,h1,h2,Nat.lt_of_lt_of_le h3 k.1,(k.2 b h3 (hw b h2 h3)).trans h4,h5⟩
theorem My.frS {H0:Heap} {W:Nat→Prop} (h:My H0 H A c sz rows) (k:Fr W H H') (hw:∀ b,b<H.next→W b→∃ B,H.blk b=some B∧B.esz≠sz):My H0 H' A c sz rows :=
  h.imp id fun⟨b,o,cs,opn,h1,h2,h3,h4,h5⟩=>⟨b,o,cs,opn,h1,h2,Nat.lt_of_lt_of_le h3 k.1,(k.2 b h3 fun q=>by obtain⟨B,e1,e2⟩:=hw b h3 q;rw[h4] at e1;cases e1;exact e2 rfl).trans h4,h5⟩
theorem My.ext {H0:Heap} (h:My H0 H A c sz rows) (k:Ext H H'):My H0 H' A c sz rows:=h.fr (k.fr fun _=>False) fun _ _ _ q=>q
theorem My.older {H0 H1:Heap} (h:My H0 H A c sz rows) (hn:H1.next≤H0.next):My H1 H A c sz rows :=
  h.imp id fun⟨b,o,cs,opn,h1,h2,h3⟩=>⟨b,o,cs,opn,h1,Nat.le_trans hn h2,h3⟩
theorem seg_put {cs nf:List Value} {o k:Nat} {of:List Value} (h:(cs.drop o).take k=of) (hk:of.length=k) (hl:o+k≤cs.length) (rest:List Value):((cs.take (o+k)++nf++rest).drop o).take (k+nf.length)=of++nf:=by
  have e1:(cs.take (o+k)).drop o=of:=by rw[← h,List.drop_take];congr 1;omega
  rw[List.append_assoc,List.drop_append_of_le_length (by rw[List.length_take];omega),e1,List.take_append,List.take_of_length_le (by omega),hk,show k+nf.length - k=nf.length by omega,List.take_left]
theorem flatten_take {sz:Nat} {rows:List (List Value)} (n:Nat) (h:∀ r ∈ rows,r.length=sz):(rows.take n).flatten=rows.flatten.take (n * sz):=by
  have e:=congrArg List.flatten (List.take_append_drop n rows)
  rw[List.flatten_append] at e
  by_cases hn:n≤rows.length
  · have hl:(rows.take n).flatten.length=n * sz:=by rw[flatten_len _ (fun r hr=>h r (List.mem_of_mem_take hr)),List.length_take,Nat.min_eq_left hn]
    rw[← e,← hl,List.take_left]
  · rw[List.take_of_length_le (by omega),List.take_of_length_le]
    rw[flatten_len rows h]
    exact Nat.mul_le_mul_right _ (by omega)
theorem mem_append {H0 Hm:Heap} {Xv:Value} {α:Type} {f:α→List Value} {old new:List α} {e bytes mx:Nat} (hm:old.length=m) (hmx:new.length=mx) (ht:ElemOk P t e sz bytes) (hz:sz≠0) (ho:My H0 Hm A c sz (old.map f)) (hk:My H0 H A c sz (old.map f)) (h0:H0.next≤H.next)
    (hX:srcCells H sz Xv=some (new.map f).flatten) (hXl:lenA Xv=some mx) (hfl:∀ e,(f e).length=sz) (hf1:∀ e,(f e).all Value.oneCell'=true) (hb:(m+mx) * bytes≤1099511627776) (hb2:m+mx≤1099511627776) :
    ∃ A1 c1 H1 W,(∀ (E:TypeId→Bool) (dst:Option Tmp) (t2:TypeId) (s x:Operand) (ty:TypeId) (pos:String) (af:Array Edge) (g:Option (Nat×Bool)) (R:Regs),R.eval s=some (.slice A m c)→R.eval x=some Xv→isRow P (some t2)=true→evOp P E R H ⟨dst,.call { callee := .builtin .append,args := #[s,x],argTypes := #[t,t2] },ty,pos,af,g⟩=some (.slice A1 (old++new).length c1,H1,W)) ∧
      My H0 H1 A1 c1 sz ((old++new).map f)∧Fr (fun b=>H0.next≤b∧b<Hm.next∧ZB H b sz) H H1:=by
  subst hm hmx
  obtain⟨hu,i,q1,q2,q3,q4⟩:=ht
  have h1:(new.map f).flatten.all Value.oneCell'=true:=flat_one hf1 new
  have hnl:(new.map f).flatten.length=new.length * sz:=by rw[flatten_len (new.map f) (map_len hfl new),List.length_map]
  have hol:(old.map f).flatten.length=old.length * sz:=by rw[flatten_len (old.map f) (map_len hfl old),List.length_map]
  have mk:∀ {A1:Option Addr} {c1:Nat} {H1:Heap} {W:List Nat},appendA P H e (.slice A old.length c) Xv=some (.slice A1 (old.length+new.length) c1,H1,W)→My H0 H1 A1 c1 sz ((old++new).map f)→Fr (fun b=>H0.next≤b∧b<Hm.next∧ZB H b sz) H H1 →
      ∃ A1 c1 H1 W,(∀ (E:TypeId→Bool) (dst:Option Tmp) (t2:TypeId) (s x:Operand) (ty:TypeId) (pos:String) (af:Array Edge) (g:Option (Nat×Bool)) (R:Regs),R.eval s=some (.slice A old.length c)→R.eval x=some Xv→isRow P (some t2)=true→evOp P E R H ⟨dst,.call { callee := .builtin .append,args := #[s,x],argTypes := #[t,t2] },ty,pos,af,g⟩=some (.slice A1 (old++new).length c1,H1,W)) ∧
      My H0 H1 A1 c1 sz ((old++new).map f)∧Fr (fun b=>H0.next≤b∧b<Hm.next∧ZB H b sz) H H1:=fun h a b=>⟨_,_,_,_,fun E dst t2 s x ty pos af g R hs hx hr=>by rw[List.length_append];exact ev_append hs hx hu hr h,a,b⟩
  have lenNew:∀ {G H1:Heap},G.next=H.next→H1=G.make ⟨((old++new).map f).flatten,sz,false,true⟩→My H0 H1 (Option.some ⟨H.next,0,none⟩) OPEN sz ((old++new).map f):=by
    rintro G H1 hG rfl
    obtain⟨m1,m2,m3⟩:=make_facts G ⟨((old++new).map f).flatten,sz,false,true⟩
    rw[hG] at m1 m2
    exact my_make h0 (by omega) m2 (map_len hfl _) (.inl ⟨rfl,rfl⟩)
  by_cases hn:new.length=0
  · obtain rfl:=List.eq_nil_of_length_eq_zero hn
    refine mk (A1:=A) (c1:=c) (H1:=H) (W := []) ?_ (by simpa using hk) (.refl _ _)
    unfold appendA
    simp only [q1,hXl,Option.bind_eq_bind,Option.bind_some,List.length_nil,if_true]
    rfl
  · have start:appendA P H e (.slice A old.length c) Xv=(match A with
      | none=>some (.slice (Option.some ⟨H.next,0,none⟩) (old.length+new.length) OPEN,H.make ⟨(new.map f).flatten,sz,false,true⟩,[])
      | Option.some a =>
        if c<OPEN∧old.length+new.length≤c then do
          let H' ← H.put (a.add (old.length * sz)) (new.map f).flatten
          some (.slice (Option.some a) (old.length+new.length) c,H',[a.block])
        else if c<OPEN then do
          let o ← (if old.length=0 then Option.some [] else H.cells a (old.length * sz))
          some (.slice (Option.some ⟨H.next,0,none⟩) (old.length+new.length) OPEN,H.make ⟨o++(new.map f).flatten,sz,false,true⟩,[])
        else do
          let B ← H.blk a.block
          if B.rd∨B.opn=false∨B.esz≠sz∨a.off+old.length * sz > B.cells.length then none else
          if a.off+(old.length+new.length) * sz≤B.cells.length then do
            let H' ← H.put (a.add (old.length * sz)) (new.map f).flatten
            some (.slice (Option.some a) (old.length+new.length) c,H',[a.block])
          else
            some (.slice (Option.some ⟨H.next,0,none⟩) (old.length+new.length) OPEN,(H.set a.block none).make ⟨(B.cells.drop a.off).take (old.length * sz)++(new.map f).flatten,sz,false,true⟩,[a.block])):=by
      unfold appendA
      simp only [q1,hXl,Option.bind_eq_bind,Option.bind_some,if_neg hn,q2,hX,q3]
      rw[if_neg (by simp only [not_or,Decidable.not_not];exact⟨hz,h1,q4,by omega,by omega⟩)]
      cases A <;> rfl
    have frNew:∀ {H1:Heap} {B:Blk},H1=H.make B→Fr (fun b=>H0.next≤b∧b<Hm.next∧ZB H b sz) H H1:=by
      rintro H1 B rfl
      obtain⟨m1,m2,m3⟩:=make_facts H B
      exact⟨by omega,fun b hb _=>m3 b (by omega)⟩
    rcases hk with⟨hk1,rfl⟩ | ⟨b,o,cs,opn,rfl,hk3,hk4,hk5,hk6,hk7,hk8,hk9⟩
    · have ho0:old = []:=by simpa using hk1
      subst ho0
      refine mk (A1:=Option.some ⟨H.next,0,none⟩) (c1:=OPEN) (W := []) ?_ (lenNew rfl rfl) (frNew rfl)
      rw[start]
      cases A with
      | none=>simp
      | some a =>
        simp only [List.length_nil,Nat.zero_add]
        rw[if_neg (by omega),if_pos (by decide),if_pos trivial]
        simp
    · rw[List.length_map] at hk7 hk8 hk9
      have inW:c≠0→∀ q,¬ (H0.next≤q∧q<Hm.next∧ZB H q sz)→q≠b:=by
        rintro hc0 q hw rfl
        rcases ho with⟨_,e⟩ | ⟨b',o',_,_,e,h7,h8,_⟩
        · exact hc0 e
        · cases e
          exact hw ⟨h7,h8,_,hk5,rfl⟩
      have hsum:(old.length+new.length) * sz=old.length * sz+(new.map f).flatten.length:=by rw[hnl,Nat.add_mul]
      have hseg:∀ rest,((cs.take (o+old.length * sz)++(new.map f).flatten++rest).drop o).take (((old++new).map f).length * sz)=((old++new).map f).flatten:=by
        intro rest
        rw[List.length_map,List.length_append,hsum,seg_put hk7 hol hk8,List.map_append,List.flatten_append]
      have hcell:H.cells ⟨b,o,none⟩ (old.length * sz)=Option.some (old.map f).flatten:=by
        unfold Heap.cells
        simp only [hk5]
        rw[if_pos ⟨Blk.notMapS hz,hk8⟩,hk7]
      rcases hk9 with⟨rfl,rfl⟩ | ⟨hc1,hc2,hc3⟩
      · by_cases hfit:o+(old.length+new.length) * sz≤cs.length
        · obtain⟨H1,p1,p2,p3,p4⟩:=put_facts (hm:=Blk.notMapS hz) (o:=o+old.length * sz) (cs':=cs.take (o+old.length * sz)++(new.map f).flatten++cs.drop (o+old.length * sz+(new.map f).flatten.length)) hk5 (by apply Nat.ble_eq_true_of_le;omega) h1 rfl
          refine mk (A1:=Option.some ⟨b,o,none⟩) (c1:=OPEN) (H1:=H1) (W := [b]) ?_ (.inr ⟨b,o,_,true,rfl,hk3,by omega,p3,map_len hfl _,hseg _,?_,.inl ⟨rfl,rfl⟩⟩) ⟨by omega,fun q hq hw=>p4 q (inW (by decide) q hw)⟩
          · rw[start]
            simp only [show ¬ OPEN<OPEN by decide,false_and,if_false,hk5,Option.bind_eq_bind,Option.bind_some]
            rw[if_neg (by simp;omega),if_pos hfit,add_plain _ rfl]
            simp only
            rw[p1]
            rfl
          · simp only [List.length_append,List.length_take,List.length_drop,List.length_map]
            omega
        · obtain⟨m1,m2,m3⟩:=make_facts (H.set b none) ⟨((old++new).map f).flatten,sz,false,true⟩
          refine mk (A1:=Option.some ⟨H.next,0,none⟩) (c1:=OPEN) (H1:=(H.set b none).make ⟨((old++new).map f).flatten,sz,false,true⟩) (W := [b]) ?_ (lenNew (G:=H.set b none) rfl rfl) ⟨by rw[m1];exact Nat.le_succ _,fun q hq hw=>?_⟩
          · rw[start]
            simp only [show ¬ OPEN<OPEN by decide,false_and,if_false,hk5,Option.bind_eq_bind,Option.bind_some]
            rw[if_neg (by simp;omega),if_neg hfit,hk7]
            simp
          · rw[m3 q (show q≠H.next by omega)]
            simp only [Heap.set,if_neg (inW (by decide) q hw)]
      · by_cases hfit:old.length+new.length≤c
        · have hmul:(old.length+new.length) * sz≤c * sz:=Nat.mul_le_mul_right _ hfit
          obtain⟨H1,p1,p2,p3,p4⟩:=put_facts (hm:=Blk.notMapS hz) (o:=o+old.length * sz) (cs':=cs.take (o+old.length * sz)++(new.map f).flatten++cs.drop (o+old.length * sz+(new.map f).flatten.length)) hk5 (by apply Nat.ble_eq_true_of_le;omega) h1 rfl
          refine mk (A1:=Option.some ⟨b,o,none⟩) (c1:=c) (H1:=H1) (W := [b]) ?_ (.inr ⟨b,o,_,opn,rfl,hk3,by omega,p3,map_len hfl _,hseg _,?_,.inr ⟨hc1,?_,?_⟩⟩) ⟨by omega,fun q hq hw=>p4 q (inW (by omega) q hw)⟩
          · rw[start]
            simp only [hc1,hfit,true_and,if_true,add_plain ⟨b,o,none⟩ rfl]
            rw[p1]
            rfl
          · simp only [List.length_append,List.length_take,List.length_drop,List.length_map]
            omega
          · rw[List.length_map,List.length_append];exact hfit
          · simp only [List.length_append,List.length_take,List.length_drop]
            omega
        · refine mk (A1:=Option.some ⟨H.next,0,none⟩) (c1:=OPEN) (W := []) ?_ (lenNew rfl rfl) (frNew rfl)
          rw[start]
          simp only [hfit,and_false,if_false,hc1,if_true,hcell]
          by_cases h0':old.length=0
          · have:=List.eq_nil_of_length_eq_zero h0'
            subst this
            simp
          · simp [h0']
/-- A part of one's own. -/
theorem sliceA_my {H0:Heap} {α:Type} (f:α→List Value) {l:List α} {lo hi:Option Value} {p q:Nat} (hs:elemIs P t sz=true) (hz:sz≠0) (h:My H0 H A c sz (l.map f)) (hlen:l.length≤1099511627776)
    (hh:(if hi.isSome then bound hi l.length l.length else Option.some l.length)=Option.some q) (hl:bound lo q 0=Option.some p) (hpq:p≤q) (hq:q≤l.length) (hH:hi=none∨∃ k i,hi=Option.some (.int k i)) :
    ∃ A' c' L',L'=(l.drop p).take (q - p)∧L'.length=q - p∧sliceA P H t (.slice A l.length c) lo hi none=some (.slice A' L'.length c')∧My H0 H A' c' sz (L'.map f):=by
  have hcap:=h.cap (by rw[List.length_map];exact hlen)
  rw[List.length_map] at hcap
  have hl':((l.drop p).take (q - p)).length=q - p:=by rw[List.length_take,List.length_drop];omega
  unfold elemIs at hs
  split at hs
  · rename_i e hu
    split at hs
    · rename_i s hsz
      have hse:=Nat.eq_of_beq_eq_true hs
      subst hse
      have hbh:∀ y,l.length≤y→(if hi.isSome then bound hi y l.length else Option.some l.length)=Option.some q:=by
        intro y hy
        rcases hH with rfl | ⟨k,i,rfl⟩
        · exact hh
        · simp only [Option.isSome_some,if_true,bound] at hh ⊢
          split at hh
          · rw[if_pos (by omega)];exact hh
          · cases hh
      have hcond:(decide (c<OPEN) || eszB P H e A)=true:=by
        rcases h with⟨_,rfl⟩ | ⟨b,o,cs,opn,rfl,_,_,hB,_⟩
        · rfl
        · simp [eszB,hB,hsz]
      have hcut:cutA P e A l.length c lo hi none=(match A with | none=>Option.some (.slice none 0 0) | Option.some a=>Option.some (.slice (Option.some (a.add (p * s))) (q - p) (if c<OPEN then c - p else c))):=by
        unfold cutA
        have e1:=hbh (if c<OPEN then c else l.length) (by split <;> omega)
        simp only [hsz,Option.bind_eq_bind,Option.bind_some,Option.isSome_none,Bool.false_eq_true,if_false,e1,hl,false_and,or_false,hz]
        cases A <;> rfl
      have hsl:sliceA P H t (.slice A l.length c) lo hi none=cutA P e A l.length c lo hi none:=by
        unfold sliceA
        simp only [hu,hcond,if_true]
      rcases h with⟨hnil,rfl⟩ | ⟨b,o,cs,opn,rfl,h2,h3,hB,h4,h5,h6,h7⟩
      · have he:l = []:=by simpa using hnil
        subst he
        simp only [List.length_nil] at hq
        have q0:q=0:=by omega
        have p0:p=0:=by omega
        subst q0 p0
        cases A with
        | none=>exact⟨none,0,[],rfl,rfl,by rw[hsl,hcut];rfl,.nil⟩
        | some a=>exact⟨_,0,[],rfl,rfl,by rw[hsl,hcut];rfl,.nil⟩
      · rw[List.length_map] at h5 h6 h7
        have hm1:p * s+(q - p) * s≤l.length * s:=by rw[← Nat.add_mul];exact Nat.mul_le_mul_right _ (by omega)
        have hfd:((cs.drop (o+p * s)).take ((q - p) * s))=(((l.drop p).take (q - p)).map f).flatten:=by
          have hlf:∀ r ∈ l.map f,r.length=s:=h4
          have e1:((l.map f).drop p).flatten=(l.map f).flatten.drop (p * s):=flatten_drop _ _ hlf
          have e2:=flatten_take (rows:=(l.map f).drop p) (q - p) (fun r hr=>hlf r (List.mem_of_mem_drop hr))
          rw[List.map_take,List.map_drop,e2,e1,← h5,List.drop_take,List.drop_drop,List.take_take]
          congr 1
          omega
        refine⟨Option.some ⟨b,o+p * s,none⟩,if c<OPEN then c - p else c,_,rfl,hl',by rw[hsl,hcut,hl'];simp only [add_plain ⟨b,o,none⟩ rfl],.inr ⟨b,o+p * s,cs,opn,rfl,h2,h3,hB,fun r hr=>h4 r ?_,?_,?_,?_⟩⟩
        · obtain⟨x,hx,rfl⟩:=List.mem_map.1 hr
          exact List.mem_map.2 ⟨x,List.mem_of_mem_drop (List.mem_of_mem_take hx),rfl⟩
        · rw[List.length_map,hl'];exact hfd
        · rw[List.length_map,hl'];omega
        · rw[List.length_map,hl']
          rcases h7 with⟨rfl,h8⟩ | ⟨h8,h9,h10⟩
          · exact .inl ⟨if_neg (by decide),h8⟩
          · rw[if_pos h8]
            refine .inr ⟨by omega,by omega,?_⟩
            have:p * s+(c - p) * s=c * s:=by rw[← Nat.add_mul];congr 1;omega
            omega
    · cases hs
  · cases hs
theorem Row.srcF {α:Type} {f:α→List Value} {l:List α} (h:Row H A c sz (l.map f)) (hz:sz≠0) (hn:l.length=n):srcCells H sz (.slice A n c)=some (l.map f).flatten:=by
  have:=h.src hz
  rw[List.length_map,hn] at this
  exact this
/-- Bytes. -/
def u8c (n:Int):List Value := [.int .u8 n]
theorem u8c_len (e:Int):(u8c e).length=1:=rfl
theorem u8c_one (e:Int):(u8c e).all Value.oneCell'=true:=rfl
theorem str_src (s:ByteArray):srcCells H 1 (.string s)=some ((Spec.bytesOf s).map u8c).flatten:=by
  simp only [srcCells,if_true,Spec.bytesOf,List.map_map]
  congr 1
  induction s.data.toList with
  | nil=>rfl
  | cons a l ih=>simp [u8c,ih]
theorem bytesIn_u8 : ∀ l:List Int,bytesIn (l.map u8c).flatten=some (l.map fun n=>UInt8.ofNat n.toNat)
  | []=>rfl
  | n :: l=>by simp [u8c,bytesIn,bytesIn_u8 l]
def slU8 (P:Program) (s:TypeId):Bool:=match P.underlying s with | some (.slice e)=>isU8 (P.underlying e) | _=>false
def isStr (P:Program) (s:TypeId):Bool:=match P.underlying s with | some .string=>true | _=>false
theorem ev_strOf {l:List Int} {t2:TypeId} (hs:slU8 P t=true) (hd:isStr P t2=true) (hx:R.eval x=some (.slice A l.length c)) (hA:A=none→c=0) (hr:Row H A c 1 (l.map u8c)):evOp P E R H ⟨dst,.convert t t2 x,ty,pos,af,g⟩=some (.string (strOfNums l),H,[]):=by
  unfold slU8 at hs
  unfold isStr at hd
  split at hs
  · rename_i e he
    split at hd
    · rename_i hd2
      simp only [evOp,hx,Option.bind_some,convA,he,hd2]
      cases A with
      | none =>
        rw[hA rfl]
        have:l = []:=hr.anil rfl
        subst this
        simp [hs,strOfNums]
        rfl
      | some a =>
        simp only [hs,if_true]
        have e1:(if l.length=0 then Option.some [] else H.cells a l.length)=some (l.map u8c).flatten:=by
          have:=hr.srcF (n:=l.length) (by decide) rfl
          simp only [srcCells,Nat.mul_one] at this
          exact this
        rw[e1,Option.bind_some,bytesIn_u8]
        rfl
    · cases hd
  · cases hs
theorem mem_bytes (H:Heap) {t2:TypeId} (s:ByteArray) (hs:slU8 P t2=true) (hd:isStr P t=true) (hn:s.size≤1099511627776):∃ A1 c1 H1,(∀ (E:TypeId→Bool) (dst:Option Tmp) (x:Operand) (ty:TypeId) (pos:String) (af:Array Edge) (g:Option (Nat×Bool)) (R:Regs),R.eval x=some (.string s)→evOp P E R H ⟨dst,.convert t t2 x,ty,pos,af,g⟩=some (.slice A1 (Spec.bytesOf s).length c1,H1,[])) ∧
    My H H1 A1 c1 1 ((Spec.bytesOf s).map u8c)∧Ext H H1:=by
  unfold slU8 at hs
  unfold isStr at hd
  split at hs
  · rename_i e he
    split at hd
    · rename_i hd2
      have e1:s.data.toList.map (fun b=>Value.int .u8 b.toNat)=((Spec.bytesOf s).map u8c).flatten:=by
        rw[Spec.bytesOf,List.map_map]
        induction s.data.toList with
        | nil=>rfl
        | cons a l ih=>simp [u8c,ih]
      obtain⟨m1,m2,m3⟩:=make_facts H ⟨((Spec.bytesOf s).map u8c).flatten,1,false,true⟩
      refine⟨Option.some ⟨H.next,0,none⟩,OPEN,H.make ⟨((Spec.bytesOf s).map u8c).flatten,1,false,true⟩,fun E dst x ty pos af g R hx=>?_,my_make (Nat.le_refl _) (by omega) m2 (map_len u8c_len _) (.inl ⟨rfl,rfl⟩),by omega,fun b hb=>m3 b (by omega)⟩
      simp only [evOp,hx,Option.bind_some,convA,he,hd2,hs,Bool.true_and,decide_eq_true hn,if_true,e1,Spec.bytesOf_length]
    · cases hd
  · cases hs
theorem mem_storeAt {H0 Hm:Heap} (hs:sizeIs P t 1=true) (hv:v.cells.toList = [v]) (h1:Value.oneCell' v=true) (ho:My H0 Hm A c sz rows) (hk:My H0 H A c sz rows) (hi:rows[i]?=some r) (hq:k<sz) :
    ∃ H1 W,(∀ (E:TypeId→Bool) (dst:Option Tmp) (a y:Operand) (ty:TypeId) (pos:String) (af:Array Edge) (gd:Option (Nat×Bool)) (R:Regs),R.eval a=some (ptrAt A i sz k)→R.eval y=some v→evOp P E R H ⟨dst,.store t a y,ty,pos,af,gd⟩=some (undef,H1,W)) ∧
      My H0 H1 A c sz (rows.set i (r.set k v))∧Fr (fun b=>H0.next≤b∧b<Hm.next∧ZB H b sz) H H1∧H1.next=H.next:=by
  rcases hk with⟨rfl,_⟩ | ⟨b,o,cs,opn,rfl,hk3,hk4,hk5,hk6,hk7,hk8,hk9⟩
  · simp at hi
  · have hi':=(List.getElem?_eq_some_iff.1 hi).1
    have hlt:i * sz+k<rows.length * sz:=by
      calc i * sz+k<i * sz+sz:=by omega
        _=(i+1) * sz:=by rw[Nat.succ_mul]
        _≤rows.length * sz:=Nat.mul_le_mul_right _ hi'
    obtain⟨H1,p1,p2,p3,p4⟩:=put_facts (hm:=Blk.notMapS (by omega)) (o:=o+i * sz+k) (vs := [v]) (cs':=cs.set (o+i * sz+k) v) hk5 (by apply Nat.ble_eq_true_of_le;simp only [List.length_singleton];omega) (by simp [h1]) (by
      rw[List.set_eq_take_append_cons_drop,if_pos (by omega),List.length_singleton];simp)
    refine⟨H1,[b],fun E dst a y ty pos af gd R ha hy=>?_,.inr ⟨b,o,_,opn,rfl,hk3,by omega,p3,?_,?_,?_,?_⟩,⟨by omega,fun q hq hw=>p4 q ?_⟩,p2⟩
    · exact ev_store ha hy hv rfl hs p1
    · intro q hq
      rcases List.mem_or_eq_of_mem_set hq with h | h
      · exact hk6 q h
      · rw[h,List.length_set];exact hk6 r (List.mem_of_getElem? hi)
    · rw[List.length_set,← flatten_set (v:=v) hq rows i r hk6 hi,← hk7,← List.take_set,Nat.add_assoc]
      congr 1
      rw[List.drop_set,if_neg (by omega)]
      congr 1
      omega
    · rw[List.length_set,List.length_set];exact hk8
    · rw[List.length_set,List.length_set];exact hk9
    · rintro rfl
      rcases ho with⟨e,_⟩ | ⟨b',o',_,_,e,h7,h8,_⟩
      · subst e;simp at hi
      · cases e
        exact hw ⟨h7,h8,_,hk5,rfl⟩
theorem mem_lit (H:Heap) {e bytes:Nat} {xs:List Value} (hm:xs.length=m) (ht:ElemOk P t e sz bytes) (hz:sz≠0) (hsm:m * sz≤16777216) (hzf:∃ i z,P.info? e=some i∧i.zero=some z∧z.cells.toList.all flat=true)
    (hx:xs.map (fun x=>x.cells.toList)=rows) (hl:∀ r ∈ rows,r.length=sz) (h1:rows.flatten.all Value.oneCell'=true) :
    ∃ b H1,(∀ (E:TypeId→Bool) (dst:Option Tmp) (ps:Array (Nat×Operand)) (ty:TypeId) (pos:String) (af:Array Edge) (g:Option (Nat×Bool)) (R:Regs),(ps.toList.mapM fun(p:Nat×Operand)=>(R.eval p.2).map fun v=>(p.1,v))=some ((xs.zipIdx 0).map fun p=>(p.2,p.1))→evOp P E R H ⟨dst,.buildSlice t m ps,ty,pos,af,g⟩=some (.slice (some ⟨b,0,none⟩) m m,H1,[])) ∧
      b=H.next∧H1.next=b+1∧My H H1 (some ⟨b,0,none⟩) m sz rows∧∀ c,c≠b→H1.blk c=H.blk c:=by
  obtain⟨m1,m2,m3⟩:=make_facts H ⟨rows.flatten,sz,false,false⟩
  have hr:rows.length=m:=by rw[← hx,List.length_map];exact hm
  refine⟨H.next,H.make ⟨rows.flatten,sz,false,false⟩,fun E dst ps ty pos af g R hv=>?_,rfl,m1,my_make (Nat.le_refl _) (by omega) m2 hl (.inr ⟨?_,by omega,by rw[flatten_len rows hl,hr];omega⟩),m3⟩
  · subst hm
    simp only [evOp,hv,Option.bind_some]
    exact buildSl_many ht hz hsm hzf hx hl h1
  · have:m≤m * sz:=Nat.le_mul_of_pos_right _ (Nat.pos_of_ne_zero hz)
    unfold OPEN
    omega
theorem sliceA_none {q:Nat} {lo hi mx:Option Value} (hs:elemIs P t sz=true) (h:sliceA P H t (.slice A n c) lo hi mx=some (.slice none q k)):k=0:=by
  unfold elemIs at hs
  split at hs
  · rename_i e hu
    unfold sliceA at h
    simp only [hu] at h
    split at h
    · unfold cutA at h
      simp only [Option.bind_eq_bind,Option.bind_eq_some_iff] at h
      obtain⟨_,_,_,_,_,_,_,_,h⟩:=h
      cases A with
      | none=>simp at h;exact h.2.symm
      | some a =>
        simp only at h
        split at h
        · cases h
        · simp at h
    · cases h
  · cases hs
/-- What a part of a row, or a text made of it, is read from. -/
theorem rd_slice {H0:Heap} {lo hi mx:Option Operand} {o:Oper} (ho:o.op = .slice t x lo hi mx) (hx:R.eval x=some (.slice A m c)) (hr:Row H0 A c sz rows) {b:Nat} (hb:rdB P R o=some b):b<H0.next:=by
  unfold rdB at hb
  rw[ho] at hb
  simp only [hx] at hb
  rcases hr with⟨_,h⟩ | ⟨b',o',rfl,h,_⟩
  · cases A with
    | none=>cases hb
    | some a=>simp [h] at hb
  · simp only at hb
    split at hb
    · cases hb
    · cases hb;exact h
theorem My.capF {H0:Heap} {α:Type} {f:α→List Value} {l:List α} (h:My H0 H A c sz (l.map f)) (hl:l.length≤1099511627776):l.length≤c:=by
  have:=h.cap (by rw[List.length_map];exact hl)
  rwa [List.length_map] at this
theorem sliceA_blk {q:Nat} {lo hi mx:Option Value} {a1:Addr} (hs:elemIs P t sz=true) (h:sliceA P H t (.slice A n c) lo hi mx=some (.slice (some a1) q k)):∃ a,A=some a∧a1.block=a.block:=by
  unfold elemIs at hs
  split at hs
  · rename_i e hu
    unfold sliceA at h
    simp only [hu] at h
    split at h
    · unfold cutA at h
      simp only [Option.bind_eq_bind,Option.bind_eq_some_iff] at h
      obtain⟨_,_,_,_,_,_,_,_,h⟩:=h
      cases A with
      | none=>simp at h
      | some a =>
        simp only at h
        split at h
        · cases h
        · simp only [Option.some.injEq,Value.slice.injEq] at h
          refine⟨a,rfl,?_⟩
          rw[← h.1]
          unfold Addr.add
          split <;> rfl
    · cases h
  · cases hs
theorem rd_conv2 {H0:Heap} {t2 t3:TypeId} {o:Oper} {q cq:Nat} {A1:Option Addr} {lo hi mx:Option Value} (ho:o.op = .convert t t2 x) (hx:R.eval x=some (.slice A1 q cq)) (hs:elemIs P t3 sz=true) (h:sliceA P H t3 (.slice A n c) lo hi mx=some (.slice A1 q cq)) (hr:Row H0 A cx sz rows) (hm:q≤rows.length) {b:Nat} (hb:rdB P R o=some b):b<H0.next:=by
  unfold rdB at hb
  rw[ho] at hb
  simp only [hx] at hb
  split at hb
  · cases A1 with
    | none=>cases hb
    | some a1 =>
      simp only at hb
      split at hb
      · cases hb
      · cases hb
        obtain⟨a,rfl,e⟩:=sliceA_blk hs h
        rcases hr with⟨hr,_⟩ | ⟨b',o',e2,hr,_⟩
        · subst hr;simp at hm;omega
        · cases e2;rw[e];exact hr
  · cases hb
theorem My.ne {H0 H:Heap} {A:Option Addr} {c sz:Nat} {rows:List (List Value)} (h:My H0 H A c sz rows) (hn:rows ≠ []):A≠none:=by
  rcases h with⟨e,_⟩ | ⟨b,o,cs,opn,rfl,_⟩
  · exact absurd e hn
  · exact fun h=>by cases h
theorem My.neF {α:Type} {f:α→List Value} {l:List α} {H0 H:Heap} {A:Option Addr} {c sz:Nat} (h:My H0 H A c sz (l.map f)) (hn:l.length≠0):A≠none:=h.ne (by intro e;apply hn;have:=congrArg List.length e;simpa using this)
end
end Go.AM

/- Whole numbers of all kinds; places that may be nil. -/
set_option linter.unusedSimpArgs false
namespace Go.AM
open Go
variable {P : Program} {E : TypeId → Bool}
def i64c (n:Int):List Value := [.int .i64 n]
theorem ba_beq {a b:ByteArray}:((a == b)=true) ↔ a=b:=by
  cases a with | mk x=>cases b with | mk y =>
  constructor
  · intro h;congr 1;exact eq_of_beq h
  · intro h;cases h;exact beq_self_eq_true x
theorem wrI64 {n:Int} (h0 : -9223372036854775808≤n) (h1:n≤9223372036854775807):IntKind.i64.wrap n=n:=by rw[IntKind.wrap_i64];omega
theorem wrU8 {n:Int} (h0:0≤n) (h1:n≤255):IntKind.u8.wrap n=n:=by rw[IntKind.wrap_u8];omega
theorem wrU32 {n:Int} (h0:0≤n) (h1:n≤4294967295):IntKind.u32.wrap n=n:=by rw[IntKind.wrap_u32];omega
theorem wrU64 {n:Int} (h0:0≤n) (h1:n≤18446744073709551615):IntKind.u64.wrap n=n:=by rw[Spec.wrap_u64];omega
section
variable {H : Heap} {dst : Option Tmp} {ty : TypeId} {pos : String} {af : Array Edge} {g : Option (Nat × Bool)} {R : Regs} {t t2 : TypeId} {x y : Operand} {k k' : IntKind} {a b c : Int} {v : Value}
theorem ev_convI {s d:TypeId} {n:Int} {D:TypeDesc} (hs:P.underlying s=some D) (hd:P.underlying d=some (.int k)) (hx:R.eval x=some (.int k' n)) (hw:k.wrap n=n):evOp P E R H ⟨dst,.convert s d x,ty,pos,af,g⟩=some (.int k n,H,[]):=by
  have:=ev_convInt (P:=P) (E:=E) (H:=H) (dst:=dst) (ty:=ty) (pos:=pos) (af:=af) (g:=g) hs hd hx
  rw[hw] at this
  exact this
theorem ev_sh {op:BinOp} (ho:op = .shl∨op = .shr) (hx:R.eval x=some (.int k a)) (hy:R.eval y=some (.int k' b)) (h:shiftA op k a b=some v):evOp P E R H ⟨dst,.binOp op t x y t2,ty,pos,af,g⟩=some (v,H,[]):=by
  simp only [evOp,hx,hy,Option.bind_some,bin]
  rcases ho with rfl | rfl <;> simp [h,pureV]
theorem ev_shr {s:Int} (hx:R.eval x=some (.int k a)) (hy:R.eval y=some (.int k' s)) (h0:0≤s) (hc:(2:Int) ^ (min s.toNat k.bits)=c):evOp P E R H ⟨dst,.binOp .shr t x y t2,ty,pos,af,g⟩=some (.int k (a / c),H,[]):=by
  refine ev_sh (.inr rfl) hx hy ?_
  simp only [shiftA]
  rw[if_neg (by omega),hc,Int.fdiv_eq_ediv_of_nonneg _ (by rw[← hc];exact Int.le_of_lt (by exact_mod_cast Nat.two_pow_pos _))]
theorem ev_shlV {s:Int} (hx:R.eval x=some (.int k a)) (hy:R.eval y=some (.int k' s)) (h0:0≤s):evOp P E R H ⟨dst,.binOp .shl t x y t2,ty,pos,af,g⟩=some (.int k (Spec.shl k a s),H,[]):=by
  refine ev_sh (.inl rfl) hx hy ?_
  simp only [shiftA]
  rw[if_neg (by omega)]
  rfl
theorem ev_bits {op:BinOp} (hx:R.eval x=some (.int k a)) (hy:R.eval y=some (.int k b)) (h:intBin op k a b=some (.int k (Go.bits op k a b))):evOp P E R H ⟨dst,.binOp op t x y t2,ty,pos,af,g⟩=some (.int k (Go.bits op k a b),H,[]):=ev_int hx hy h
theorem ev_rem (hx:R.eval x=some (.int k a)) (hy:R.eval y=some (.int k b)) (hc:b≠0):evOp P E R H ⟨dst,.binOp .rem t x y t2,ty,pos,af,g⟩=some (.int k (Int.tmod a b),H,[]):=by
  refine ev_int hx hy ?_
  simp only [intBin]
  rw[if_neg hc]
theorem ev_makeFunc {fn:Fn} {cap:Array Operand} {l:List Value} (h:evals R cap.toList=some l):evOp P E R H ⟨dst,.makeFunc fn #[] cap,ty,pos,af,g⟩=some (.func fn #[] l.toArray,H,[]):=by
  simp [evOp,h]
theorem ev_neg (hx:R.eval x=some (.int k a)):evOp P E R H ⟨dst,.unOp .neg t x,ty,pos,af,g⟩=some (.int k (k.wrap (0 - a)),H,[]):=by simp [evOp,hx,un,pureV]
theorem ev_com (hx:R.eval x=some (.int k a)):evOp P E R H ⟨dst,.unOp .xor t x,ty,pos,af,g⟩=some (.int k (Go.bits .xor k (if k.signed then -1 else k.max) a),H,[]):=by
  simp only [evOp,hx,Option.bind_some,un]
  rfl
theorem ev_comS (hs:k.signed=true) (hx:R.eval x=some (.int k a)):evOp P E R H ⟨dst,.unOp .xor t x,ty,pos,af,g⟩=some (.int k (Go.bits .xor k (-1) a),H,[]):=by rw[ev_com hx,hs];rfl
theorem ev_comU (hs:k.signed=false) (hx:R.eval x=some (.int k a)):evOp P E R H ⟨dst,.unOp .xor t x,ty,pos,af,g⟩=some (.int k (Go.bits .xor k k.max a),H,[]):=by rw[ev_com hx,hs];rfl
theorem shl1_u64 (n:Int):Spec.shl .u64 (IntKind.u64.wrap n) 1=(2 * n) % 18446744073709551616:=by
  unfold Spec.shl
  rw[Spec.wrap_u64,Spec.wrap_u64,show(2:Int) ^ (min (1:Int).toNat IntKind.u64.bits)=2 from by decide]
  omega
end
theorem aw_condT {c:Operand} {x y:Code} {t:Bool} {r:Regs} {H:Heap} {Q:Ex→Regs→Heap→Prop} (ht:t=true) (hc:r.eval c=some (.bool t)) (h:aw P E x r H Q):aw P E (.cond c x y) r H Q:=by
  subst ht
  exact aw_cond hc (by rw[if_pos rfl];exact h)
theorem aw_condF {c:Operand} {x y:Code} {t:Bool} {r:Regs} {H:Heap} {Q:Ex→Regs→Heap→Prop} (ht:t=false) (hc:r.eval c=some (.bool t)) (h:aw P E y r H Q):aw P E (.cond c x y) r H Q:=by
  subst ht
  exact aw_cond hc (by rw[if_neg Bool.false_ne_true];exact h)
theorem resL_nil {r:Regs} {H:Heap}:([]:List ResultVar).mapM (resOne P r H)=some []:=rfl
theorem resL_tmp {r:Regs} {H:Heap} {t:Tmp} {v:Value} {l:List ResultVar} {vs:List Value} (h:r.f t=some v) (k:l.mapM (resOne P r H)=some vs):(ResultVar.tmp t :: l).mapM (resOne P r H)=some (v :: vs):=by
  rw[List.mapM_cons,show resOne P r H (.tmp t)=some v from h,k];rfl
theorem resL_cell {r:Regs} {H:Heap} {a:Tmp} {t:TypeId} {ad:Addr} {v:Value} {l:List ResultVar} {vs:List Value} (h:r.f a=some (.pointer (some ad))) (hl:lvar P H t ad=some v) (k:l.mapM (resOne P r H)=some vs):(ResultVar.cell a t :: l).mapM (resOne P r H)=some (v :: vs):=by
  rw[List.mapM_cons,show resOne P r H (.cell a t)=some v by simp only [resOne,h,Option.bind_some,ptr?,hl],k];rfl
theorem resA_of {fn:Func} {r:Regs} {H:Heap} {vs:List Value} {v:Value} (h:fn.results.toList.mapM (resOne P r H)=some vs) (e:oneOrAll vs=v):resA P fn r H=some v:=by
  unfold resA;rw[h];exact congrArg some e
end Go.AM

/- A law's arguments, of any kind, laid into our memory: what they are there. -/
namespace Go.AM
open Go Go.ChangeShapes Go.Deep Go.RowKit
def Sits (Hp:Heap) (n:Nat) (bs:List (Option Blk)):Prop:=n+bs.length≤Hp.next∧∀ j B,bs[j]?=some (some B)→Hp.blk (n+j)=some B
theorem Sits.left {Hp:Heap} {n:Nat} {b1 b2:List (Option Blk)} (h:Sits Hp n (b1++b2)):Sits Hp n b1 :=
  ⟨by have:=h.1;simp only [List.length_append] at this;omega,fun j B hj=>h.2 j B (by rw[List.getElem?_append_left (List.getElem?_eq_some_iff.1 hj).1];exact hj)⟩
theorem Sits.right {Hp:Heap} {n:Nat} {b1 b2:List (Option Blk)} (h:Sits Hp n (b1++b2)):Sits Hp (n+b1.length) b2 :=
  ⟨by have:=h.1;simp only [List.length_append] at this;omega,fun j B hj=>by
    have:=h.2 (b1.length+j) B (by rw[List.getElem?_append_right (by omega)];simpa using hj)
    rw[Nat.add_assoc];exact this⟩
theorem Sits.made (n:Nat) (bs:List (Option Blk)):Sits (Heap.ofList (List.replicate n none++bs)) n bs :=
  ⟨by simp [Heap.ofList],fun j B hj=>by simp [Heap.ofList,List.getElem?_append_right,hj]⟩
def Laid {H:Type} (P:Program) (m:Nat) (t:TypeId) (K:Heap→List Value→Prop) (d:DataW H):Prop :=
  ∀ n,∃ vs bs,impOne P m t d n=some (vs,bs)∧∀ Hp,Sits Hp n bs→K Hp vs
def OpensK {α:Type} (P:Program) (m:Nat) (t:TypeId) (K:Heap→α→List Value→Prop) (wf:α→Prop):Prop :=
  ∀ (H:Type) (enc:TypeId×Value→H) (w:World) (base:Nat) (sp:Nat→Bool) (held:Bool) (fuel:Nat) (cs:List Value) (y:DataW H×List MemPlace),
    DataW.trod enc P w base sp held fuel t cs=some y→(∀ n ∈ y.1.weights P t,n≤reachBytes)→∃ x,wf x∧Laid P m t (fun Hp vs=>K Hp x vs) y.1
section
variable {P : Program} {m : Nat} {t : TypeId}
theorem opensK_int {k:IntKind} (ht:P.underlying t=some (.int k)):OpensK P (m+1) t (fun _ (x:Int) vs=>vs = [.int k x]) (fun n=>(Lit.int k n).wf=true):=by
  intro H enc w base sp held fuel cs y hy _
  obtain⟨n,rfl,rfl,hw⟩:=DataW.trod_int ht hy
  exact⟨n,hw,fun q=>⟨[.int k n],[],by simp [impOne,ht],fun _ _=>rfl⟩⟩
theorem opensK_string (ht:P.underlying t=some .string):OpensK P (m+1) t (fun _ (x:ByteArray) vs=>vs = [.string x]) (fun s=>s.size≤140737488351232):=by
  intro H enc w base sp held fuel cs y hy hn
  obtain⟨s,rfl,rfl,_⟩:=DataW.trod_string ht hy
  refine⟨s,?_,fun q=>⟨[.string s],[],by simp [impOne,ht],fun _ _=>rfl⟩⟩
  have:=hn s.data.toList.length (by simp [DataW.weights])
  simpa [reachBytes] using this
theorem wmem_all {H:Type} {e:TypeId}:∀ {ds:List (DataW H)} {d:DataW H},d ∈ ds→∀ n ∈ d.weights P e,n ∈ DataW.weightsAll P e ds
  | d0 :: ds,d,hd,n,hn=>by
    simp only [DataW.weightsAll,List.mem_append]
    rcases List.mem_cons.1 hd with rfl | hd
    · exact .inl hn
    · exact .inr (wmem_all hd n hn)
theorem listOf {α:Type} {p:Nat→α→Prop}:∀ (n:Nat),(∀ i,i<n→∃ x,p i x)→∃ xs:List α,xs.length=n∧∀ i x,xs[i]?=some x→p i x
  | 0,_=>⟨[],rfl,fun i x h=>by simp at h⟩
  | n+1,h=>by
    obtain⟨xs,hl,hx⟩:=listOf n (fun i hi=>h i (by omega))
    obtain⟨x,hp⟩:=h n (by omega)
    refine⟨xs ++ [x],by simp [hl],fun i y hy=>?_⟩
    by_cases hi:i<xs.length
    · rw[List.getElem?_append_left hi] at hy
      exact hx i y hy
    · rw[List.getElem?_append_right (by omega)] at hy
      have hlt:i - xs.length<1:=by
        obtain⟨hq,_⟩:=List.getElem?_eq_some_iff.1 hy
        simpa using hq
      have hi0:i - xs.length=0:=by omega
      rw[hi0] at hy
      have hin:i=n:=by omega
      subst hin
      simp at hy
      subst hy
      exact hp
/-- The elements of a row. -/
theorem laidL {H:Type} {α:Type} {e:TypeId} {K:Heap→α→List Value→Prop}:∀ (ds:List (DataW H)) (xs:List α),xs.length=ds.length→(∀ (i:Nat) (d:DataW H) (x:α),ds[i]?=some d→xs[i]?=some x→Laid P m e (fun Hp vs=>K Hp x vs) d) →
    ∀ n,∃ (rows:List (List Value)) (bs:List (Option Blk)),impL (impOne P m) (List.replicate ds.length e) ds n=some (rows.flatten,bs)∧rows.length=xs.length∧∀ Hp,Sits Hp n bs→∀ (i:Nat) (x:α) (r:List Value),xs[i]?=some x→rows[i]?=some r→K Hp x r
  | [],xs,hl,_,n=>⟨[],[],rfl,hl.symm,fun _ _ i x r _ h=>by simp at h⟩
  | d :: ds,[],hl,_,_=>by simp at hl
  | d :: ds,x :: xs,hl,h,n=>by
    obtain⟨vs,b1,h1,k1⟩:=h 0 d x rfl rfl n
    obtain⟨rows,b2,h2,h3,k2⟩:=laidL ds xs (by simpa using hl) (fun i d x a b=>h (i+1) d x (by simpa using a) (by simpa using b)) (n+b1.length)
    refine⟨vs :: rows,b1++b2,?_,by simp [h3],fun Hp hs i y r hy hr=>?_⟩
    · simp [List.replicate_succ,impL,h1,h2]
    · cases i with
      | zero=>simp at hy hr;subst hy hr;exact k1 Hp hs.left
      | succ i=>simp at hy hr;exact k2 Hp hs.right i y r hy hr
def KSlice {α:Type} (sz:Nat) (K:Heap→α→List Value→Prop) (Hp:Heap) (xs:List α) (vs:List Value):Prop :=
  ∃ (A:Option Addr) (c:Nat) (rows:List (List Value)),vs = [.slice A xs.length c]∧xs.length≤c∧c<OPEN∧(A=none→c=0)∧Row Hp A c sz rows∧rows.length=xs.length∧∀ (i:Nat) (x:α) (r:List Value),xs[i]?=some x→rows[i]?=some r→K Hp x r
theorem opensK_slice {α:Type} {e B:Nat} {K:Heap→α→List Value→Prop} {wf:α→Prop} (ht:P.underlying t=some (.slice e)) (hz:P.cellsOf e≠0) (hB:P.bytesOf e=B) (hK:∀ Hp x vs,K Hp x vs→vs.length=P.cellsOf e) (h:OpensK P m e K wf) :
    OpensK P (m+1) t (KSlice (P.cellsOf e) K) (fun xs=>xs.length≤maxLen∧xs.length * B≤140737488351232∧∀ x ∈ xs,wf x):=by
  intro H enc w base sp held fuel cs y hy hn
  rcases Go.Deep.open_slice ht hy with⟨rfl,rfl⟩ | ⟨a,len,cap,l,n,D,Pl,rfl,hb,hl,hm,hmm,rfl,hx⟩
  · exact⟨[],⟨Nat.zero_le _,by simp,by simp⟩,fun q=>⟨[.slice none 0 0],[],by simp [impOne,ht],fun _ _=>⟨none,0,[],rfl,Nat.le_refl _,by decide,fun _=>rfl,.nil,rfl,fun i x r hx=>by simp at hx⟩⟩⟩
  · have hlm:len≤l:=by rw[hmm];split <;> omega
    have hlc:l≤cap:=by rw[hmm];split <;> omega
    have hw:∀ i,i<len→∀ q ∈ (D i).weights P e,q≤reachBytes:=by
      intro i hi q hq
      refine hn q ?_
      simp only [DataW.weights,ht,List.mem_cons,List.mem_append]
      exact .inr (.inl (wmem_all (List.mem_map.2 ⟨i,List.mem_range.2 hi,rfl⟩) q hq))
    obtain⟨xs,hlen,hxs⟩:=listOf (p:=fun i x=>wf x∧Laid P m e (fun Hp vs=>K Hp x vs) (D i)) len (fun i hi=>by
      obtain⟨cs',h1,h2⟩:=hx i (by omega)
      obtain⟨x,hwf,hk⟩:=h H enc w base sp held n cs' _ h2 (hw i hi)
      exact⟨x,hwf,hk⟩)
    subst hlen
    refine⟨xs,⟨Nat.le_trans hl hm,?_,fun x hx'=>?_⟩,fun q=>?_⟩
    · have:=hn ((xs.length+(l - xs.length)) * B) (by simp [DataW.weights,ht,hB])
      have h7:xs.length * B≤(xs.length+(l - xs.length)) * B:=Nat.mul_le_mul_right _ (by omega)
      have h8:reachBytes=140737488351232+4096 - 4096:=by decide
      omega
    · obtain⟨i,hi⟩:=List.mem_iff_getElem?.1 hx'
      exact(hxs i x hi).1
    · have hds:((List.range xs.length).map D).length=xs.length:=by simp
      obtain⟨rows,bs,h1,h2,h3⟩:=laidL (P:=P) (m:=m) (e:=e) (K:=K) ((List.range xs.length).map D) xs hds.symm (fun i d x hi hx'=>by
        have hlt:=(List.getElem?_eq_some_iff.1 hx').1
        rw[List.getElem?_map,List.getElem?_range hlt] at hi
        simp at hi
        subst hi
        exact(hxs i x hx').2) (q+1)
      refine⟨_,_,by simp only [impOne,ht,hz,if_false,h1,Option.map_some];rfl,fun Hp hs=>?_⟩
      have hrl:∀ r ∈ rows,r.length=P.cellsOf e:=by
        intro r hr
        obtain⟨i,hi⟩:=List.mem_iff_getElem?.1 hr
        have hlt:=(List.getElem?_eq_some_iff.1 hi).1
        exact hK Hp _ r (h3 Hp (Sits.right (b1 := [_]) hs) i _ r (List.getElem?_eq_getElem (by omega)) hi)
      refine⟨some ⟨q,0,none⟩,xs.length+(l - xs.length),rows,by simp,by omega,?_,(fun h=>by cases h),?_,h2,h3 Hp (Sits.right (b1 := [_]) hs)⟩
      · have:maxLen<OPEN:=by decide
        omega
      · by_cases h0:xs.length=0
        · have:rows = []:=List.eq_nil_of_length_eq_zero (by omega)
          have h9:maxLen<OPEN:=by decide
          exact .inl ⟨this,by omega⟩
        · refine .inr ⟨q,0,rfl,?_,⟨rows.flatten,P.cellsOf e,true,false⟩,?_,rfl,hrl,fun j v hj=>by simpa using hj⟩
          · have:=hs.1;simp only [List.length_cons] at this;omega
          · have h8:((List.range xs.length).map D).isEmpty=false:=by
              cases hr:(List.range xs.length).map D with
              | nil=>rw[hr] at hds;simp at hds;omega
              | cons _ _=>rfl
            exact hs.2 0 _ (by rw[h8];rfl)
/-- Fields one behind the other. -/
def OpensL {α:Type} (P:Program) (m:Nat) (ts:List TypeId) (K:Heap→α→List Value→Prop) (wf:α→Prop):Prop :=
  ∀ (H:Type) (enc:TypeId×Value→H) (w:World) (base:Nat) (sp:Nat→Bool) (held:Bool) (fuel:Nat) (ds:List (DataW H)),ds.length=ts.length →
    (∀ (i:Nat) (t:TypeId) (d:DataW H),ts[i]?=some t→ds[i]?=some d→∃ cs p,DataW.trod enc P w base sp held fuel t cs=some (d,p)∧∀ n ∈ d.weights P t,n≤reachBytes) →
    ∃ x,wf x∧∀ n,∃ vs bs,impL (impOne P m) ts ds n=some (vs,bs)∧∀ Hp,Sits Hp n bs→K Hp x vs
theorem opensL_nil : OpensL P m [] (fun _ (_:Unit) vs=>vs = []) (fun _=>True):=by
  intro H enc w base sp held fuel ds hl _
  obtain rfl:ds = []:=List.eq_nil_of_length_eq_zero hl
  exact⟨(),trivial,fun n=>⟨[],[],rfl,fun _ _=>rfl⟩⟩
theorem opensL_cons {α β:Type} {ts:List TypeId} {Ka:Heap→α→List Value→Prop} {Kb:Heap→β→List Value→Prop} {wa:α→Prop} {wb:β→Prop} (h:OpensK P m t Ka wa) (hs:OpensL P m ts Kb wb) :
    OpensL P m (t :: ts) (fun Hp (x:α×β) vs=>∃ v1 v2,vs=v1++v2∧Ka Hp x.1 v1∧Kb Hp x.2 v2) (fun x=>wa x.1∧wb x.2):=by
  intro H enc w base sp held fuel ds hl hf
  cases ds with
  | nil=>simp at hl
  | cons d ds =>
    obtain⟨cs,p,h1,h2⟩:=hf 0 t d rfl rfl
    obtain⟨x,hwx,hx⟩:=h H enc w base sp held fuel cs _ h1 h2
    obtain⟨y,hwy,hy⟩:=hs H enc w base sp held fuel ds (by simpa using hl) (fun i t d a b=>hf (i+1) t d (by simpa using a) (by simpa using b))
    refine⟨(x,y),⟨hwx,hwy⟩,fun n=>?_⟩
    obtain⟨v1,b1,i1,k1⟩:=hx n
    obtain⟨v2,b2,i2,k2⟩:=hy (n+b1.length)
    exact⟨v1++v2,b1++b2,by simp [impL,i1,i2],fun Hp hS=>⟨v1,v2,rfl,k1 Hp hS.left,k2 Hp hS.right⟩⟩
theorem opensK_struct {α:Type} {fs:Array Field} {ts:List TypeId} {K:Heap→α→List Value→Prop} {wf:α→Prop} (ht:P.underlying t=some (.struct fs)) (hc:contig P fs.toList 0=some (P.cellsOf t)) (hts:fs.toList.map (·.type)=ts) (h:OpensL P m ts K wf):OpensK P (m+1) t K wf:=by
  subst hts
  intro H enc w base sp held fuel cs y hy hn
  obtain⟨xs,n,_,rfl,hl,hlen,hf⟩:=DataW.trod_struct ht hy
  obtain⟨x,hwx,hx⟩:=h H enc w base sp held n (xs.map (·.1)) (by simp [hlen]) (fun i t' d hi hd=>by
    rw[List.getElem?_map] at hi hd
    obtain⟨f,hi',rfl⟩:=Option.map_eq_some_iff.1 hi
    obtain⟨z,hz,rfl⟩:=Option.map_eq_some_iff.1 hd
    have hi2:fs[i]?=some f:=by simpa using hi'
    have hq:=hf i f hi2
    rw[hz] at hq
    refine⟨_,z.2,hq,fun q hq'=>hn q ?_⟩
    simp only [DataW.weights,ht]
    refine DataW.weights_mem_each (j:=i) (t:=f.type) (d:=z.1) ?_ ?_ q hq'
    · simp [hi2]
    · simp [hz])
  refine⟨x,hwx,fun q=>?_⟩
  obtain⟨vs,bs,h1,h2⟩:=hx q
  exact⟨vs,bs,by simp only [impOne,ht,hc,if_true];exact h1,h2⟩
theorem OpensK.conv {α β:Type} {K:Heap→α→List Value→Prop} {K':Heap→β→List Value→Prop} {wf:α→Prop} {wf':β→Prop} (h:OpensK P m t K wf) (f:α→β) (hK:∀ Hp x vs,K Hp x vs→K' Hp (f x) vs) (hw:∀ x,wf x→wf' (f x)):OpensK P m t K' wf':=by
  intro H enc w base sp held fuel cs y hy hn
  obtain⟨x,hwx,hx⟩:=h H enc w base sp held fuel cs y hy hn
  refine⟨f x,hw x hwx,fun n=>?_⟩
  obtain⟨vs,bs,h1,h2⟩:=hx n
  exact⟨vs,bs,h1,fun Hp hS=>hK Hp x vs (h2 Hp hS)⟩
/-- A slice of things without blocks of their own. -/
def KRow {α:Type} (sz:Nat) (cells:α→List Value) (Hp:Heap) (xs:List α) (vs:List Value):Prop :=
  ∃ A c,vs = [.slice A xs.length c]∧xs.length≤c∧c<OPEN∧(A=none→c=0)∧Row Hp A c sz (xs.map cells)
theorem KSlice.flat {α:Type} {sz:Nat} {cells:α→List Value} {Hp:Heap} {xs:List α} {vs:List Value} (h:KSlice sz (fun _ x vs=>vs=cells x) Hp xs vs):KRow sz cells Hp xs vs:=by
  obtain⟨A,c,rows,h1,h2,h3,h4,h5,h6,h7⟩:=h
  have:rows=xs.map cells:=by
    apply List.ext_getElem? fun i=>?_
    rw[List.getElem?_map]
    rcases Nat.lt_or_ge i xs.length with hi | hi
    · rw[List.getElem?_eq_getElem hi,List.getElem?_eq_getElem (by omega),h7 i xs[i] rows[i] (List.getElem?_eq_getElem hi) (List.getElem?_eq_getElem (by omega))];rfl
    · rw[List.getElem?_eq_none hi,List.getElem?_eq_none (by omega)];rfl
  exact⟨A,c,h1,h2,h3,h4,this ▸ h5⟩
/-- All arguments. -/
def LaidArgs {H:Type} (P:Program) (m:Nat) (ts:List TypeId) (ds:List (DataW H)) (n:Nat) (Q:Heap→List Value→Prop):Prop :=
  ∃ vs bs,impArgs P m ts ds n=some (vs,bs)∧∀ Hp,Sits Hp n bs→Q Hp vs
theorem laidArgs_nil {H:Type} (n:Nat):LaidArgs (H:=H) P m [] [] n (fun _ vs=>vs = []):=⟨[],[],rfl,fun _ _=>rfl⟩
theorem laidArgs_cons {H:Type} {d:DataW H} {ds:List (DataW H)} {ts:List TypeId} {n:Nat} {K:Heap→List Value→Prop} {Q:Heap→List Value→Prop} {KA:Heap→Value→Prop} (h:Laid P m t K d) (hv:∀ Hp vs,K Hp vs→∃ v,argV P t vs=some v∧KA Hp v) (hs:∀ n,LaidArgs P m ts ds n Q) :
    LaidArgs P m (t :: ts) (d :: ds) n (fun Hp l=>∃ v ws,l=v :: ws∧KA Hp v∧Q Hp ws):=by
  obtain⟨vs,b1,h1,k1⟩:=h n
  obtain⟨ws,b2,h2,k2⟩:=hs (n+b1.length)
  obtain⟨v,hv1,_⟩:=hv _ vs (k1 _ (Sits.made n b1))
  refine⟨v :: ws,b1++b2,by simp [impArgs,h1,hv1,h2],fun Hp hS=>⟨v,ws,rfl,?_,k2 Hp hS.right⟩⟩
  obtain⟨v',e,hk⟩:=hv Hp vs (k1 Hp hS.left)
  rw[hv1] at e
  cases e
  exact hk
theorem argV_plain {vs:List Value} {v:Value} (h:(match P.underlying t with | some (.struct _) | some (.array _ _)=>false | _=>true)=true) (hv:vs = [v]):argV P t vs=some v:=by
  subst hv
  unfold argV
  split <;> simp_all
/-- An argument of a row. -/
theorem OpensK.arg {α:Type} {H:Type} {enc:TypeId×Value→H} {W:World} {base:Nat} {sp:Nat→Bool} {held:Bool} {K:Heap→α→List Value→Prop} {wf:α→Prop} {v:Value} {dv:DataW H} {ps:List MemPlace} {ts:List TypeId} {ds:List (DataW H)} {j:Nat}
    (h:OpensK P m t K wf) (hsz:(DataW.weightsEach P ts ds).all (· ≤ reachBytes)=true) (ht:ts[j]?=some t) (hd:ds[j]?=some dv) (hv:DataW.Trod enc P W base sp held t v dv ps):∃ x,wf x∧Laid P m t (fun Hp vs=>K Hp x vs) dv:=by
  obtain⟨fuel,hf⟩:=hv
  refine h H enc W base sp held fuel _ _ hf (fun n hn=>?_)
  have:=List.all_eq_true.1 hsz _ (DataW.weights_mem_each ht hd n hn)
  simpa using this
/-- A law, from what it comes to over our memory. -/
theorem law_open {H:Type} {enc:TypeId×Value→H} {w:World} {r:Reach} {base:Nat} {ts:List TypeId} {args:Array Value} {ds:List (DataW H)} {ps:List MemPlace} {f:FuncId} {Q:Heap→List Value→Prop} {v:Value}
    (hT:DataW.TrodAll enc P w 0 (fun _=>true) true ts args.toList ds ps) (hok:∀ (j:Nat) (t:TypeId) (v:Value),ts[j]?=some t→args[j]?=some v→Value.okWide P w r base t v) (hl:LaidArgs P m ts ds 0 Q)
    (hs:∀ Hp vs,Q Hp vs→∃ H',Spec P f vs Hp v H') (hv:flat v=true):Calls P f args w fun e w'=>e = .returned v∧Go.RowKit.Below w.heap.size w w':=by
  obtain⟨vs,bs,h1,h2⟩:=hl
  obtain⟨H',h3⟩:=hs (Heap.ofList bs) vs (h2 _ ⟨by simp [Heap.ofList],fun j B hj=>by simp [Heap.ofList,hj]⟩)
  exact law_go hT hok h1 h3 hv
end
end Go.AM
