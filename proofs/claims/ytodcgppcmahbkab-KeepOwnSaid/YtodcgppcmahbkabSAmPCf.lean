/- Part of a machine of its own for this claim: the program's code over memory without draws. -/
import Derived.Test.YtodcgppcmahbkabSAmPWal
import Derived.Test.YtodcgppcmahbkabSAmD
set_option linter.unusedVariables false
set_option linter.unusedSimpArgs false
set_option linter.unnecessarySimpa false
/- Configurations: sets, looking for one, near ones. -/
set_option linter.unusedSimpArgs false
namespace Go.AM
theorem Row.isNone {α:Type} {f:α→List Value} {H:Heap} {A:Option Addr} {c sz:Nat} {es:List α} (h:Row H A c sz (es.map f)) (hA:A.isNone=true):es = []:=by
 rcases h with⟨h,_⟩ | ⟨b,o,h,_⟩
 · exact List.map_eq_nil_iff.1 h
 · rw[h] at hA;cases hA
end Go.AM
namespace Go.AM.Spec
open Go Go.RowKit
end Go.AM.Spec
namespace Go.AM.Spec
open Go
def shr (k:IntKind) (x s:Int):Int:=x.fdiv (2 ^ (min s.toNat k.bits))
end Go.AM.Spec
namespace Go.AM.Spec
end Go.AM.Spec
namespace Go.AM
open Go
end Go.AM
namespace Go.AM.Spec
end Go.AM.Spec
namespace Go.AM.Spec
end Go.AM.Spec
