/- Part of a machine of its own for this claim: the program's code over memory without draws. -/
import Derived.Test.YtfodghhmglbapaaSAmRep17
import Derived.Test.YtfodghhmglbapaaSAmPConf
set_option linter.unusedVariables false
set_option linter.unusedSimpArgs false
set_option linter.unnecessarySimpa false
/- Messages on their way. -/
set_option linter.unusedSimpArgs false
namespace Go.AM.Spec
open Go
def mayM (m : Msg) : Bool := mayMsg m.kind m.from_ m.to_ m.term m.index m.logterm m.commit m.yes m.es m.snap.index m.snap.term m.snap.conf m.snap.data
theorem may_es {kind from_ to_ term index logterm commit : Int} {yes : Bool} {es : List Entry} {si st : Int} {sc sd : ByteArray} (h : mayMsg kind from_ to_ term index logterm commit yes es si st sc sd = true) : es.length ≤ 8 := by
  unfold mayMsg at h
  simp only [Bool.and_eq_true, decide_eq_true_eq] at h
  exact h.2.1.2.1
def zeroM : Msg := ⟨0, 0, 0, 0, 0, 0, 0, false, [], ⟨0, 0, ⟨#[]⟩, ⟨#[]⟩⟩⟩
abbrev Parts : Type := Int × Int × Int × Int × Int × Int × Int × Bool × List Entry × Int × Int × ByteArray × ByteArray × Bool
def parts (m : Msg) (b : Bool) : Parts := (m.kind, m.from_, m.to_, m.term, m.index, m.logterm, m.commit, m.yes, m.es, m.snap.index, m.snap.term, m.snap.conf, m.snap.data, b)
def dropF (l : List Msg) (i : Int) : Bool × List Msg := if 0 ≤ i ∧ i < l.length then (true, l.take i.toNat ++ l.drop (i.toNat + 1)) else (false, l)
end Go.AM.Spec
