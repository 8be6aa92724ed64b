/- Part of a machine of its own for this claim: the program's code over memory without draws. -/
import Derived.Test.YtodcgppcmahbkabSAmE
import Derived.Test.YtodcgppcmahbkabSAmRep17
set_option linter.unusedVariables false
set_option linter.unusedSimpArgs false
set_option linter.unnecessarySimpa false
/- Arguments: rows of structs that hold a row each. -/
set_option linter.unusedSimpArgs false
namespace Go.AM
open Go
/-- Each element's row is there, to be read. -/
def EachR {α:Type} (S:Sub α) (H:Heap) (l:List α):Prop:=∀ e ∈ l,Row H (S.A e) (S.c e) S.sz (S.rows e)∧(S.rows e).length≤S.c e∧(S.rows e).length≤140737488355328
section
variable {α : Type} {S : Sub α} {H H' : Heap} {l k : List α} {e : α}
theorem EachR.ext (h:EachR S H l) (x:Ext H H'):EachR S H' l:=fun e he=>⟨Row.ext (h e he).1 x,(h e he).2⟩
theorem EachR.frS {W:Nat→Prop} (h:EachR S H l) (x:Fr W H H') (hw:∀ b,b<H.next→W b→∃ B,H.blk b=some B∧B.esz≠S.sz):EachR S H' l:=fun e he=>⟨Row.fr (h e he).1 x hw,(h e he).2⟩
theorem EachR.get {i:Nat} (h:EachR S H l) (hi:l[i]?=some e):Row H (S.A e) (S.c e) S.sz (S.rows e)∧(S.rows e).length≤S.c e∧(S.rows e).length≤140737488355328:=h e (List.mem_of_getElem? hi)
end
end Go.AM
