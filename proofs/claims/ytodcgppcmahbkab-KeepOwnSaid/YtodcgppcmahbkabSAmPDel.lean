/- Part of a machine of its own for this claim: the program's code over memory without draws. -/
import Derived.Test.YtodcgppcmahbkabSAmRep16
set_option linter.unusedVariables false
set_option linter.unusedSimpArgs false
set_option linter.unnecessarySimpa false
/- Taking elements out of rows: what the loops keep. -/
set_option linter.unusedSimpArgs false
namespace Go.AM.Spec
open Go
variable {α : Type}
def notp (p:α→Bool):α→Bool:=fun x => !p x
/-- What DeleteFunc's loop keeps: l1 is the row as it stands, i how many stay so far, j the one looked at. -/
structure DelInv (p:α→Bool) (l l1:List α) (i j:Nat):Prop where
 len:l1.length=l.length
 lt:i<j
 le:j≤l.length
 front:l1.take i=(l.take j).filter (notp p)
 back:l1.drop j=l.drop j
theorem DelInv.at {p:α→Bool} {l l1:List α} {i j:Nat} (h:DelInv p l l1 i j) {x:α} (hx:l1[j]?=some x):l[j]?=some x:=by
 have:=congrArg (fun l=>l[0]?) h.back
 simpa [List.getElem?_drop,hx] using this.symm
theorem DelInv.skip {p:α→Bool} {l l1:List α} {i j:Nat} (h:DelInv p l l1 i j) {x:α} (hx:l1[j]?=some x) (hp:p x=true):DelInv p l l1 i (j+1):=by
 have hj:=(List.getElem?_eq_some_iff.1 hx).1
 have h1:=h.len
 have h2:=h.lt
 refine⟨h.len,by omega,by omega,?_,?_⟩
 ·
  rw[h.front,List.take_add_one,h.at hx,List.filter_append]
  simp [notp,hp]
 ·
  have:=congrArg (List.drop 1) h.back
  rwa [List.drop_drop,List.drop_drop] at this
theorem DelInv.keep {p:α→Bool} {l l1:List α} {i j:Nat} (h:DelInv p l l1 i j) {x:α} (hx:l1[j]?=some x) (hp:p x=false):DelInv p l (l1.set i x) (i+1) (j+1):=by
 have hj:=(List.getElem?_eq_some_iff.1 hx).1
 have h1:=h.len
 have h2:=h.lt
 refine⟨by rw[List.length_set,h.len],by omega,by omega,?_,?_⟩
 ·
  rw[List.take_add_one,List.take_set,List.set_eq_of_length_le (by rw[List.length_take];omega),h.front,List.getElem?_set,if_pos rfl,if_pos (by omega),List.take_add_one,h.at hx,List.filter_append]
  simp [notp,hp]
 ·
  rw[List.drop_set,if_pos (by omega)]
  have:=congrArg (List.drop 1) h.back
  rwa [List.drop_drop,List.drop_drop] at this
theorem DelInv.done {p:α→Bool} {l l1:List α} {i j:Nat} (h:DelInv p l l1 i j) (hj:l.length≤j):l1.take i=l.filter (notp p):=by rw[h.front,List.take_of_length_le hj]
end Go.AM.Spec
