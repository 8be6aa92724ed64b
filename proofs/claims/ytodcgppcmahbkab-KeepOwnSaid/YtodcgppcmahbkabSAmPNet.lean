/- Part of a machine of its own for this claim: the program's code over memory without draws. -/
import Derived.Test.YtodcgppcmahbkabSAmRep17
import Derived.Test.YtodcgppcmahbkabSAmPConf
set_option linter.unusedVariables false
set_option linter.unusedSimpArgs false
set_option linter.unnecessarySimpa false
/- Messages on their way. -/
set_option linter.unusedSimpArgs false
namespace Go.AM.Spec
open Go
/-- The same entries? -/
def eqEs : List Entry→List Entry→Bool
 | [],[]=>true
 | x :: a,y :: b=>decide (x.index=y.index∧x.term=y.term∧x.kind=y.kind∧x.data=y.data) && eqEs a b
 | _,_=>false
theorem eqEs_iff : ∀ {a b:List Entry},eqEs a b=true ↔ a=b
 | [],[]=>by simp [eqEs]
 | [],y :: b=>by simp [eqEs]
 | x :: a,[]=>by simp [eqEs]
 | x :: a,y :: b=>by
  simp only [eqEs,Bool.and_eq_true,decide_eq_true_eq,eqEs_iff (a:=a) (b:=b),List.cons.injEq]
  refine and_congr ?_ Iff.rfl
  cases x;cases y
  simp
theorem eqEs_step {a b:List Entry} {i:Nat} {x y:Entry} (hx:a[i]?=some x) (hy:b[i]?=some y) (h:decide (x.index=y.index∧x.term=y.term∧x.kind=y.kind∧x.data=y.data)=true):eqEs (a.drop i) (b.drop i)=eqEs (a.drop (i+1)) (b.drop (i+1)):=by
 rw[Go.AM.drop_at hx,Go.AM.drop_at hy,eqEs,h,Bool.true_and]
theorem eqEs_fail {a b:List Entry} {i:Nat} {x y:Entry} (hx:a[i]?=some x) (hy:b[i]?=some y) (h:decide (x.index=y.index∧x.term=y.term∧x.kind=y.kind∧x.data=y.data)=false):eqEs (a.drop i) (b.drop i)=false:=by
 rw[Go.AM.drop_at hx,Go.AM.drop_at hy,eqEs,h,Bool.false_and]
theorem eqEs_len {a b:List Entry} (h:a.length≠b.length):eqEs a b=false:=by
 cases e:eqEs a b with
 | false=>rfl
 | true=>exact absurd (congrArg List.length (eqEs_iff.1 e)) h
theorem eqEs_self (a:List Entry):eqEs a a=true:=eqEs_iff.2 rfl
theorem eqSn_iff {i t:Int} {c d:ByteArray} {j u:Int} {e f:ByteArray}:eqSn i t c d j u e f=true ↔ i=j∧t=u∧c=e∧d=f:=by
 simp only [eqSn,Bool.and_eq_true,beq_iff_eq]
 constructor
 ·
  rintro⟨h1,h2,h3,h4⟩
  exact⟨h1,h2,toList_inj h3,toList_inj h4⟩
 ·
  rintro⟨rfl,rfl,rfl,rfl⟩
  exact⟨rfl,rfl,rfl,rfl⟩
abbrev Parts : Type:=Int×Int×Int×Int×Int×Int×Int×Bool×List Entry×Int×Int×ByteArray×ByteArray×Bool
def parts (m:Msg) (b:Bool):Parts:=(m.kind,m.from_,m.to_,m.term,m.index,m.logterm,m.commit,m.yes,m.es,m.snap.index,m.snap.term,m.snap.conf,m.snap.data,b)
def dropF (l:List Msg) (i:Int):Bool×List Msg:=if 0≤i∧i<l.length then(true,l.take i.toNat++l.drop (i.toNat+1)) else(false,l)
end Go.AM.Spec
