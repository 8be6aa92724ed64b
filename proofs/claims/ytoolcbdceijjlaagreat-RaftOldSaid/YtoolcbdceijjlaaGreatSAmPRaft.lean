/- Part of a machine of its own for this claim: the program's code over memory without draws. -/
import Derived.Test.YtoolcbdceijjlaaGreatSAmPLog
set_option linter.unusedVariables false
set_option linter.unusedSimpArgs false
set_option linter.unnecessarySimpa false
/- One server: what its functions come to. -/
set_option linter.unusedSimpArgs false
namespace Go.AM.Spec
open Go
def plainM (kind from_ to_ term : Int) (yes : Bool) : MsgC := ⟨kind, from_, to_, term, 0, 0, 0, yes, [], none, 0, ⟨0, 0, ⟨#[]⟩, ⟨#[]⟩⟩⟩
def oldF (kind id rt from_ : Int) : List MsgC := if kind = 1 then [plainM 2 id from_ rt false] else if kind = 3 ∨ kind = 5 then [plainM 4 id from_ rt false] else []
theorem old_len {kind id rt from_ : Int} (h : kind = 1 ∨ kind = 3 ∨ kind = 5) : (oldF kind id rt from_).length = 1 := by
  unfold oldF
  by_cases h1 : kind = 1
  · rw [if_pos h1]; rfl
  · rw [if_neg h1, if_pos (by omega)]; rfl
theorem old_none {kind id rt from_ : Int} (h : ¬ (kind = 1 ∨ kind = 3 ∨ kind = 5)) : (oldF kind id rt from_).length = 0 := by
  unfold oldF
  rw [if_neg (by omega), if_neg (by omega)]; rfl
theorem old_all {kind id rt from_ : Int} : ∀ e ∈ oldF kind id rt from_, e.term = rt ∧ e.yes = false ∧ e.to_ = from_ := by
  intro e he
  unfold oldF at he
  split at he
  · rw [List.mem_singleton.1 he]; exact ⟨rfl, rfl, rfl⟩
  · split at he
    · rw [List.mem_singleton.1 he]; exact ⟨rfl, rfl, rfl⟩
    · cases he
theorem old_vote {kind id rt from_ : Int} (h : kind = 1) : oldF kind id rt from_ = [plainM 2 id from_ rt false] := if_pos h
theorem old_ack {kind id rt from_ : Int} (h : kind ≠ 1) (h2 : kind = 3 ∨ kind = 5) : oldF kind id rt from_ = [plainM 4 id from_ rt false] := by rw [oldF, if_neg h, if_pos h2]
theorem old_nil {kind id rt from_ : Int} (h : kind ≠ 1) (h2 : kind ≠ 3) (h3 : kind ≠ 5) : oldF kind id rt from_ = [] := by rw [oldF, if_neg h, if_neg (by omega)]
end Go.AM.Spec
