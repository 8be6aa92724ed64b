/- Part of a machine of its own for this claim: the program's code over memory without draws. -/
import Derived.Test.YtodcgppcmahbkabSAmPConf
set_option linter.unusedVariables false
set_option linter.unusedSimpArgs false
set_option linter.unnecessarySimpa false
/- The document's way of reading records comes to the same. -/
set_option linter.unusedSimpArgs false
namespace Go.AM
open Go
end Go.AM
namespace Go.AM.Spec
theorem Bytes.set {l:List Int} (h:Bytes l) {i:Nat} {x:Int} (hx:0≤x∧x<256):Bytes (l.set i x):=fun y hy=>by
 rcases List.mem_or_eq_of_mem_set hy with h1 | h1
 · exact h y h1
 · rw[h1];exact hx
open Go Go.RowKit
end Go.AM.Spec
namespace Go.AM.Spec
open Go Go.RowKit
theorem ba_iff {a b:ByteArray}:a=b ↔ a.toList=b.toList:=⟨fun h=>by rw[h],toList_inj⟩
section dec
variable {b body L rest L4 : List Int} {k n e t v i u q gk ge : Int} {ok : Bool} {s : ByteArray}
end dec
end Go.AM.Spec
