/- Part of a machine of its own for this claim: the program's code over memory without draws. -/
import Derived.Test.YtodcgppcmahbkabSAmE
import Derived.Test.YtodcgppcmahbkabSAmRep17
set_option linter.unusedVariables false
set_option linter.unusedSimpArgs false
set_option linter.unnecessarySimpa false
/- Arguments: rows of structs that hold a row each. -/
set_option linter.unusedSimpArgs false
namespace Go.AM
open Go
/-- Each element's row is there, to be read. -/
def EachR {α : Type} (S : Sub α) (H : Heap) (l : List α) : Prop := ∀ e ∈ l, Row H (S.A e) (S.c e) S.sz (S.rows e) ∧ (S.rows e).length ≤ S.c e ∧ (S.rows e).length ≤ 140737488355328
section
variable {α : Type} {S : Sub α} {H H' : Heap} {l k : List α} {e : α}
theorem EachR.ext (h : EachR S H l) (x : Ext H H') : EachR S H' l := fun e he => ⟨Row.ext (h e he).1 x, (h e he).2⟩
theorem EachR.frS {W : Nat → Prop} (h : EachR S H l) (x : Fr W H H') (hw : ∀ b, b < H.next → W b → ∃ B, H.blk b = some B ∧ B.esz ≠ S.sz) : EachR S H' l := fun e he => ⟨Row.fr (h e he).1 x hw, (h e he).2⟩
theorem EachR.get {i : Nat} (h : EachR S H l) (hi : l[i]? = some e) : Row H (S.A e) (S.c e) S.sz (S.rows e) ∧ (S.rows e).length ≤ S.c e ∧ (S.rows e).length ≤ 140737488355328 := h e (List.mem_of_getElem? hi)
end
theorem KSlice.nest {α β : Type} {sz : Nat} {K : Heap → α → List Value → Prop} {cells : β → List Value} {Q : Heap → β → Prop} {wf : α → Prop} {Hp : Heap} {xs : List α} {vs : List Value} (h : KSlice sz K Hp xs vs) (hw : ∀ x ∈ xs, wf x) (hk : ∀ x vs, wf x → K Hp x vs → ∃ y, vs = cells y ∧ Q Hp y) :
    ∃ (A : Option Addr) (c : Nat) (ys : List β), vs = [.slice A ys.length c] ∧ ys.length = xs.length ∧ ys.length ≤ c ∧ c < OPEN ∧ (A = none → c = 0) ∧ Row Hp A c sz (ys.map cells) ∧ ∀ y ∈ ys, Q Hp y := by
  obtain ⟨A, c, rows, h1, h2, h3, h4, h5, h6, h7⟩ := h
  obtain ⟨ys, hl, hy⟩ := listOf (p := fun i y => ∀ r, rows[i]? = some r → r = cells y ∧ Q Hp y) xs.length (fun i hi => by
    obtain ⟨y, e1, e2⟩ := hk xs[i] rows[i] (hw _ (List.getElem_mem hi)) (h7 i _ _ (List.getElem?_eq_getElem hi) (List.getElem?_eq_getElem (by omega)))
    exact ⟨y, fun r hr => by rw [List.getElem?_eq_getElem (by omega)] at hr; cases hr; exact ⟨e1, e2⟩⟩)
  have hrows : rows = ys.map cells := by
    apply List.ext_getElem? fun i => ?_
    rw [List.getElem?_map]
    rcases Nat.lt_or_ge i xs.length with hi | hi
    · rw [List.getElem?_eq_getElem (show i < rows.length by omega), List.getElem?_eq_getElem (show i < ys.length by omega)]
      simp only [Option.map_some]
      exact congrArg some (hy i _ (List.getElem?_eq_getElem (by omega)) _ (List.getElem?_eq_getElem (by omega))).1
    · rw [List.getElem?_eq_none (by omega), List.getElem?_eq_none (by omega)]; rfl
  refine ⟨A, c, ys, by rw [hl]; exact h1, hl, by omega, h3, h4, hrows ▸ h5, fun y hy' => ?_⟩
  obtain ⟨i, hi⟩ := List.mem_iff_getElem?.1 hy'
  have hlt := (List.getElem?_eq_some_iff.1 hi).1
  exact (hy i y hi _ (List.getElem?_eq_getElem (by omega))).2
end Go.AM
