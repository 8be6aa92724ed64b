/- Part of a machine of its own for this claim: the program's code over memory without draws. -/
import Derived.Test.YtfodghhmglbapaaAmRep17
import Derived.Test.YtfodghhmglbapaaAmPConf
set_option linter.unusedVariables false
set_option linter.unusedSimpArgs false
set_option linter.unnecessarySimpa false
/- Messages on their way. -/
set_option linter.unusedSimpArgs false
namespace Go.AM.Spec
open Go
def mayM (m : Msg) : Bool := mayMsg m.kind m.from_ m.to_ m.term m.index m.logterm m.commit m.yes m.es m.snap.index m.snap.term m.snap.conf m.snap.data
def sendF (l : List Msg) (m : Msg) : Bool × List Msg := if mayM m = true ∧ l.length < 400 then (true, l ++ [m]) else (false, l)
theorem send_ack {l l2 : List Msg} {b : Bool} {i : Int} (h : sendF l ⟨4, 1, 2, 1, i, 0, 0, false, [], ⟨0, 0, ⟨#[]⟩, ⟨#[]⟩⟩⟩ = (b, l2)) (h0 : 0 ≤ i) (h1 : i ≤ 450) : b = decide (l.length < 400) ∧ l2.length = if l.length < 400 then l.length + 1 else l.length := by
  have hm : mayM ⟨4, 1, 2, 1, i, 0, 0, false, [], ⟨0, 0, ⟨#[]⟩, ⟨#[]⟩⟩⟩ = true := by
    simp [mayM, mayMsg, entR, snap0]
    omega
  unfold sendF at h
  rw [hm] at h
  by_cases hl : l.length < 400
  · rw [if_pos ⟨rfl, hl⟩] at h
    cases h
    simp [hl]
  · rw [if_neg (fun q => hl q.2)] at h
    cases h
    simp [hl]
end Go.AM.Spec
