/- Part of a machine of its own for this claim: the program's code over memory without draws. -/
import Derived.Test.YtodcgppcmahbkabSAmRep17
import Derived.Test.YtodcgppcmahbkabSAmPConf
set_option linter.unusedVariables false
set_option linter.unusedSimpArgs false
set_option linter.unnecessarySimpa false
/- Messages on their way. -/
set_option linter.unusedSimpArgs false
namespace Go.AM.Spec
open Go
abbrev Parts : Type := Int × Int × Int × Int × Int × Int × Int × Bool × List Entry × Int × Int × ByteArray × ByteArray × Bool
def parts (m : Msg) (b : Bool) : Parts := (m.kind, m.from_, m.to_, m.term, m.index, m.logterm, m.commit, m.yes, m.es, m.snap.index, m.snap.term, m.snap.conf, m.snap.data, b)
def dropF (l : List Msg) (i : Int) : Bool × List Msg := if 0 ≤ i ∧ i < l.length then (true, l.take i.toNat ++ l.drop (i.toNat + 1)) else (false, l)
end Go.AM.Spec
