/- Part of a machine of its own for this claim: the program's code over memory without draws. -/
import Derived.Test.YtodcgppcmahbkabSAmRep14
set_option linter.unusedVariables false
set_option linter.unusedSimpArgs false
set_option linter.unnecessarySimpa false
/- Who belongs; which messages may be: in plain Lean. -/
set_option linter.unusedSimpArgs false
namespace Go.AM
open Go
variable {P : Program} {E : TypeId → Bool}
def cutB (s:ByteArray) (n:Int):ByteArray:=if (s.size:Int) > n then s.extract 0 n.toNat else s
def Entry.cut (e:Entry):Entry:={ e with data:=cutB e.data 60 }
theorem cutB_size {s:ByteArray} {n:Int} (h:0≤n):((cutB s n).size:Int)≤n:=by
 unfold cutB
 split
 · rw[ByteArray.size_extract];omega
 · omega
namespace Spec
def eqSn (i t:Int) (c d:ByteArray) (j u:Int) (e f:ByteArray):Bool:=i == j && (t == u && (c.toList == e.toList && d.toList == f.toList))
theorem mayE_eq {i u q:Int} {d:ByteArray}:mayF false 0 0 i u q d=decide ((1≤i∧i≤1099511627776)∧(1≤u∧u≤1099511627776)∧(1≤q∧q≤3)∧d.size≤2500):=by
 rw[Bool.eq_iff_iff,decide_eq_true_eq]
 refine⟨fun h=>(may_entry h).2.2,fun h=>?_⟩
 simp only [mayF,Bool.false_eq_true,if_false]
 rw[(inF_cons (l := [u])).2 ⟨h.1,(inF_cons (l := [])).2 ⟨h.2.1,rfl⟩⟩]
 simp;omega
theorem mayS_eq {x y:Int} {c d:ByteArray}:mayS x y c d=decide ((0≤x∧x≤1099511627776)∧(0≤y∧y≤1099511627776)∧c.size≤50∧d.size≤200000):=by
 rw[Bool.eq_iff_iff,decide_eq_true_eq]
 refine⟨fun h=>mayS_says h,fun h=>?_⟩
 unfold mayS
 rw[(inF_cons (l := [y])).2 ⟨h.1,(inF_cons (l := [])).2 ⟨h.2.1,rfl⟩⟩]
 simp;omega
theorem mayH_eq {t v:Int}:mayF true t v 0 0 0 (⟨#[]⟩:ByteArray)=decide ((0≤t∧t≤1099511627776)∧(0≤v∧v≤7)):=by
 rw[Bool.eq_iff_iff,decide_eq_true_eq]
 refine⟨fun h=>⟨(may_hard h).1,(may_hard h).2.1⟩,fun h=>?_⟩
 simp only [mayF,if_true]
 rw[(inF_cons (l := [])).2 ⟨h.1,rfl⟩]
 have e:((⟨#[]⟩:ByteArray).toList == [])=true:=by rw[ByteArray.toList_eq];rfl
 simp [e];omega
def Ints (l:List Int):Prop:=∀ x ∈ l,-9223372036854775808≤x∧x≤9223372036854775807
theorem Ints.take {l:List Int} (h:Ints l) (n:Nat):Ints (l.take n):=fun x hx=>h x (List.mem_of_mem_take hx)
theorem Ints.drop {l:List Int} (h:Ints l) (n:Nat):Ints (l.drop n):=fun x hx=>h x (List.mem_of_mem_drop hx)
section
variable {kind from_ to_ term index logterm commit si st : Int} {yes : Bool} {es : List Entry} {sc sd : ByteArray}
end
end Spec
end Go.AM
