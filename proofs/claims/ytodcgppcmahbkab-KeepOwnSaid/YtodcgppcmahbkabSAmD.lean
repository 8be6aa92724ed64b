/- Part of a machine of its own for this claim: the program's code over memory without draws. -/
import Derived.Test.YtodcgppcmahbkabSAmC
import Derived.Test.YtodcgppcmahbkabSAmE
import Derived.Test.YtodcgppcmahbkabSAmB
set_option linter.unusedVariables false
set_option linter.unusedSimpArgs false
set_option linter.unnecessarySimpa false
/- An evaluator for calls that are known whole: made so that the kernel runs it fast. Definitions. -/
namespace Go.AM
open Go
noncomputable section

def obind {α β:Type} (x:Option α) (f:α→Option β):Option β:=@Option.rec α (fun _=>Option β) none f x
def bif_ {α:Type} (b:Bool) (t e:α):α:=@Bool.rec (fun _=>α) e t b
/-- A map from numbers: 0 at the root, odd numbers to the left. -/
inductive Tr (α:Type)
 | lf
 | nd (v:Option α) (l r:Tr α)
namespace Tr
variable {α : Type}
def val (t:Tr α):Option α:=@Tr.rec α (fun _=>Option α) none (fun v _ _ _ _=>v) t
def left (t:Tr α):Tr α:=@Tr.rec α (fun _=>Tr α) .lf (fun _ l _ _ _=>l) t
def right (t:Tr α):Tr α:=@Tr.rec α (fun _=>Tr α) .lf (fun _ _ r _ _=>r) t
def find (t:Tr α):Nat→Option α :=
 @Tr.rec α (fun _=>Nat→Option α) (fun _=>none) (fun v _ _ fl fr n=>@Nat.rec (fun _=>Option α) v (fun m _=>@Bool.rec (fun _=>Option α) (fr (Nat.div m 2)) (fl (Nat.div m 2)) (Nat.beq (Nat.mod m 2) 0)) n) t
def ins : Nat→Tr α→Nat→Option α→Option (Tr α):=fun fuel =>
 @Nat.rec (fun _=>Tr α→Nat→Option α→Option (Tr α)) (fun _ _ _=>none) (fun _ ih t n v =>
  @Nat.rec (fun _=>Option (Tr α)) (some (.nd v t.left t.right)) (fun m _=>@Bool.rec (fun _=>Option (Tr α))
   (obind (ih t.right (Nat.div m 2) v) fun r=>some (.nd t.val t.left r)) (obind (ih t.left (Nat.div m 2) v) fun l=>some (.nd t.val l t.right)) (Nat.beq (Nat.mod m 2) 0)) n) fuel
end Tr
structure Hp where
 next:Nat
 tr:Tr Blk
 log:List Nat
 nlog:Nat
def Hp.H (h:Hp):Heap:=⟨h.next,h.tr.find⟩
def Hp.nil : Hp:=⟨0,.lf,[],0⟩
def Hp.set (h:Hp) (b:Nat) (B:Option Blk):Option Hp:=obind (Tr.ins 40 h.tr b B) fun t=>some ⟨h.next,t,b :: h.log,Nat.succ h.nlog⟩
def Hp.make (h:Hp) (B:Blk):Option Hp:=obind (Tr.ins 40 h.tr h.next (some B)) fun t=>some ⟨Nat.succ h.next,t,h.next :: h.log,Nat.succ h.nlog⟩

/-! Slots -/
def lkF (l:Slots) (t:Tmp):Option Value:=@Slots.rec (fun _=>Option Value) none (fun d v _ ih=>@Bool.rec (fun _=>Option Value) ih (some v) (Nat.beq t d)) l
def opv (l:Slots) (x:Operand):Option Value :=
 match x with
 | .tmp t=>lkF l t
 | .const v=>bif_ (flat v) (some v) none
 | .global _=>none
 | .func f=>some (.func (.func f) #[] #[])
def partsF (l:Slots) (xs:List (Nat×Operand)):Option (List (Nat×Value)):=@List.rec (Nat×Operand) (fun _=>Option (List (Nat×Value))) (some []) (fun x _ ih=>obind (opv l x.2) fun v=>obind ih fun r=>some ((x.1,v) :: r)) xs

/-! Lists -/
def dropF {α:Type} (n:Nat):List α→List α:=@Nat.rec (fun _=>List α→List α) (fun l=>l) (fun _ ih l=>@List.rec α (fun _=>List α) [] (fun _ t _=>ih t) l) n
def takeF {α:Type} (n:Nat):List α→Option (List α):=@Nat.rec (fun _=>List α→Option (List α)) (fun _=>some []) (fun _ ih l=>@List.rec α (fun _=>Option (List α)) none (fun x t _=>obind (ih t) fun r=>some (x :: r)) l) n
def appF {α:Type} (a b:List α):List α:=@List.rec α (fun _=>List α) b (fun x _ ih=>x :: ih) a
def lenF {α:Type} (a:List α):Nat:=@List.rec α (fun _=>Nat) 0 (fun _ _ ih=>Nat.succ ih) a

/-! Numbers -/
def hiK (k:IntKind):Nat:=@IntKind.rec (fun _=>Nat) 128 32768 2147483648 9223372036854775808 256 65536 4294967296 18446744073709551616 k
def sgK (k:IntKind):Bool:=@IntKind.rec (fun _=>Bool) true true true true false false false false k
/-! Strings -/
def bsOf (s:ByteArray):List UInt8:=s.data.toList
/-! Memory -/
def mapF (B:Blk):Bool:=bif_ B.opn (Nat.beq B.esz 0) false
def cellsF (h:Hp) (a:Addr) (n:Nat):Option (List Value):=obind (h.tr.find a.block) fun B=>bif_ (mapF B) none (bif_ (Nat.beq n 0) none (takeF n (dropF a.off B.cells)))
end
end Go.AM

/- The evaluator: operations, rows, code, calls. -/
namespace Go.AM
open Go
noncomputable section

inductive EOp
 | mv (x:Operand)
 | pick (c a b:Operand)
 | alloc (z:List Value)
 | box (x:Operand)
 | build (pl:List (Nat×Nat)) (z:List Value) (ps:List (Nat×Operand))
 | buildSl (len sz:Nat) (z:List Value) (ps:List (Nat×Operand))
 | load1 (a:Operand)
 | loadN (n:Nat) (a:Operand)
 | store (n:Nat) (a x:Operand)
 | nilc (x:Operand)
 | bin (op:BinOp) (d:Option TypeDesc) (ag:List Value→Bool) (x y:Operand)
 | un (op:UnOp) (x:Operand)
 | convI (k:IntKind) (x:Operand)
 | convS (x:Operand)
 | convBS (x:Operand)
 | convSB (x:Operand)
 | mkf (fn:Fn) (caps:List Operand)
 | mkSl (z:List Value) (sz bytes:Nat) (l c:Operand)
 | slS (x:Operand) (lo hi:Option Operand)
 | slV (sz:Nat) (x:Operand) (lo hi mx:Option Operand)
 | slA (len sz:Nat) (x:Operand) (lo hi:Option Operand)
 | fad (off:Nat) (x:Operand)
 | fld1 (off:Nat) (x:Operand)
 | fldN (off n:Nat) (x:Operand)
 | iad (sz:Nat) (x i:Operand)
 | iadA (len sz:Nat) (x i:Operand)
 | ixS (x i:Operand)
 | ixA (len:Nat) (x i:Operand)
 | ext (x:Operand) (i:Nat)
 | lenS (x:Operand)
 | lenV (x:Operand)
 | lenC (n:Nat) (x:Operand)
 | app (sz bytes:Nat) (s x:Operand)
 | cpy (sz:Nat) (d x:Operand)
 | mnI (x y:Operand)
 | mxI (x y:Operand)
 | callv (x:Operand) (args:List Operand)
structure EOper where
 dst:Option Tmp
 op:EOp
 g:Option (Tmp×Bool)
 lr:Bool
 le:Bool
 nm:Option Nat
inductive EC
 | skip
 | region (outs:List Tmp) (os:List EOper)
 | regionN (outs:List Tmp) (n:Nat) (os:List EOper)
 | seq (a b:EC)
 | cond (c:Operand) (a b:EC)
 | block (id:Nat) (a:EC)
 | loop (a:EC)
 | exit (id:Nat)
 | ret
 | fail
/-! Single operations. -/
def headF (l:List Value):Option Value:=@List.rec Value (fun _=>Option Value) none (fun x _ _=>some x) l
def byteVals (l:List UInt8):List Value:=@List.rec UInt8 (fun _=>List Value) [] (fun b _ ih => .int .u8 (.ofNat b.toNat) :: ih) l
def srcF (h:Hp) (sz:Nat) (v:Value):Option (Nat×List Value):=match v with
 | .slice none n _=>some (n,[])
 | .slice (some b) n _=>bif_ (Nat.beq n 0) (some (n,[])) (obind (cellsF h b (Nat.mul n sz)) fun l=>some (n,l))
 | .string s=>bif_ (Nat.beq sz 1) (some (lenF (bsOf s),byteVals (bsOf s))) none
 | _=>none
variable (call : FuncId → List Value → Hp → Option (Value × Hp))
def Hp.room (h:Hp) (n:Nat):Hp:=⟨Nat.add h.next n,h.tr,h.log,h.nlog⟩
inductive ERes
 | tmp (t:Tmp)
 | one (t:Tmp)
 | many (t:Tmp) (n:Nat)
structure EF where
 n:Nat
 X:List Tmp
 code:EC
 res:List ERes
end
end Go.AM

/- The evaluator: what it makes of the program's code. -/
namespace Go.AM
open Go
noncomputable section
variable (P : Program)

end
end Go.AM

/- The evaluator is right: lists, numbers, strings, memory. -/
namespace Go.AM
open Go

/-! Lists -/
section
variable {α : Type}
end
/-! Numbers -/
theorem wrap_in {k:IntKind} {z:Int} (h:(0≤z∧z<hiK k)∨(sgK k=true∧z<0 ∧ -(hiK k:Int)≤z)):k.wrap z=z:=by
 cases k <;> simp only [hiK,sgK,IntKind.wrap,IntKind.bits,IntKind.signed,Nat.reduceSub,Bool.true_and,Bool.false_and,Bool.false_eq_true,if_false,false_and,or_false,true_and,Int.reducePow] at h ⊢
 all_goals first | omega | (split <;> rename_i hc <;> first | (have hc:=of_decide_eq_true hc;omega) | (have hc:=mt decide_eq_true hc;omega))
theorem hiK_le (k:IntKind):hiK k≤2 ^ k.bits:=by cases k <;> decide
theorem bits_nat {f:Nat→Nat→Nat} {k:IntKind} {m n:Nat} (hm:m<hiK k) (hn:n<hiK k) {g:BitVec k.bits→BitVec k.bits→BitVec k.bits} (hg:∀ x y,(g x y).toNat=f x.toNat y.toNat) (hlt:f m n<hiK k):k.wrap (g (BitVec.ofInt k.bits (m:Int)) (BitVec.ofInt k.bits (n:Int))).toNat=(f m n:Nat):=by
 have e:∀ x:Nat,x<hiK k→(BitVec.ofInt k.bits (x:Int)).toNat=x:=fun x hx=>by
  rw[BitVec.ofInt_natCast,BitVec.toNat_ofNat]
  exact Nat.mod_eq_of_lt (Nat.lt_of_lt_of_le hx (hiK_le k))
 rw[hg,e m hm,e n hn]
 exact wrap_in (.inl ⟨by omega,by omega⟩)
/-! Strings -/
variable {P : Program} {E : TypeId → Bool}
end Go.AM

/- The evaluator is right: memory, single operations. -/
namespace Go.AM
open Go
variable {P : Program} {E : TypeId → Bool}

/-! The map -/
section
variable {α : Type}
end
/-- What was written since. -/
def Logs (h h':Hp):Prop:=∃ s,h'.log=s++h.log∧h'.nlog=s.length+h.nlog∧∀ b,b ∉ s→h'.H.blk b=h.H.blk b
theorem Logs.refl (h:Hp):Logs h h:=⟨[],rfl,by simp,fun _ _=>rfl⟩
theorem Logs.trans {h h' h'':Hp} (a:Logs h h') (b:Logs h' h''):Logs h h'':=by
 obtain⟨s,a1,a2,a3⟩:=a
 obtain⟨t,b1,b2,b3⟩:=b
 exact⟨t++s,by rw[b1,a1,List.append_assoc],by rw[b2,a2,List.length_append];omega,fun c hc=>(b3 c (fun x=>hc (by simp [x]))).trans (a3 c (fun x=>hc (by simp [x])))⟩
/-! Slots -/
/-! Made anew -/
end Go.AM

/- The evaluator is right: operations. -/
namespace Go.AM
open Go
variable {P : Program} {E : TypeId → Bool}

end Go.AM

/- The evaluator is right: one operation. -/
namespace Go.AM
open Go
variable {P : Program} {E : TypeId → Bool}

end Go.AM

/- The evaluator is right: any operation. -/
namespace Go.AM
open Go
variable {P : Program} {call : FuncId → List Value → Hp → Option (Value × Hp)}

section
variable {n : Nat} {l : Slots} {h h' : Hp} {v : Value} {dst : Option Tmp} {ty : TypeId} {pos : String} {af : Array Edge} {g : Option (Nat × Bool)}
end
end Go.AM

/- The evaluator is right: rows, code, calls. -/
namespace Go.AM
open Go
variable {P : Program} {call : FuncId → List Value → Hp → Option (Value × Hp)}

theorem Logs.room {h h':Hp} {n:Nat} (a:Logs (h.room n) h'):Logs h h':=a
/-! Slots that outlive a row. -/
end Go.AM

/- Calls of what is known whole, from any memory. -/
namespace Go.AM
open Go
variable {P : Program}
end Go.AM
