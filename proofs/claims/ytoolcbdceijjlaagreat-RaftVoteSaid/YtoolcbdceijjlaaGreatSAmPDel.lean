/- Part of a machine of its own for this claim: the program's code over memory without draws. -/
import Derived.Test.YtoolcbdceijjlaaGreatSAmRep16
set_option linter.unusedVariables false
set_option linter.unusedSimpArgs false
set_option linter.unnecessarySimpa false
/- Taking elements out of rows: what the loops keep. -/
set_option linter.unusedSimpArgs false
namespace Go.AM.Spec
open Go
variable {α : Type}
def findF (p : α → Bool) : List α → Int → Int
  | [], _ => -1
  | x :: l, k => if p x then k else findF p l (k + 1)
theorem findF_says (p : α → Bool) : ∀ (l : List α) (k : Int), 0 ≤ k → (findF p l k = -1 ∧ ∀ x ∈ l, p x = false) ∨ ∃ (n : Nat) (x : α), findF p l k = k + n ∧ n < l.length ∧ l[n]? = some x ∧ p x = true ∧ ∀ y ∈ l.take n, p y = false := by
  intro l
  induction l with
  | nil => intro k _; exact .inl ⟨rfl, by simp⟩
  | cons y l ih =>
    intro k hk
    simp only [findF]
    by_cases h : p y = true
    · rw [if_pos h]
      exact .inr ⟨0, y, by omega, by simp, rfl, h, by simp⟩
    · rw [if_neg h]
      rcases ih (k + 1) (by omega) with ⟨h1, h2⟩ | ⟨n, x, h1, h2, h3, h4, h5⟩
      · refine .inl ⟨h1, fun x hx => ?_⟩
        rcases List.mem_cons.1 hx with rfl | hx
        · simpa using h
        · exact h2 x hx
      · refine .inr ⟨n + 1, x, by omega, by simp; omega, by simpa using h3, h4, fun z hz => ?_⟩
        rw [List.take_succ_cons] at hz
        rcases List.mem_cons.1 hz with rfl | hz
        · simpa using h
        · exact h5 z hz
theorem findF_rng (p : α → Bool) (l : List α) : -1 ≤ findF p l 0 ∧ findF p l 0 < l.length ∨ findF p l 0 = -1 := by
  rcases findF_says p l 0 (by decide) with ⟨h, _⟩ | ⟨n, x, h, h2, _⟩
  · exact .inr h
  · left; omega
theorem findF_bd (p : α → Bool) (l : List α) : -1 ≤ findF p l 0 ∧ findF p l 0 < (l.length : Int) := by
  rcases findF_rng p l with h | h <;> omega
def notp (p : α → Bool) : α → Bool := fun x => !p x
structure DelInv (p : α → Bool) (l l1 : List α) (i j : Nat) : Prop where
  len : l1.length = l.length
  lt : i < j
  le : j ≤ l.length
  front : l1.take i = (l.take j).filter (notp p)
  back : l1.drop j = l.drop j
theorem DelInv.at {p : α → Bool} {l l1 : List α} {i j : Nat} (h : DelInv p l l1 i j) {x : α} (hx : l1[j]? = some x) : l[j]? = some x := by
  have := congrArg (fun l => l[0]?) h.back
  simpa [List.getElem?_drop, hx] using this.symm
theorem DelInv.skip {p : α → Bool} {l l1 : List α} {i j : Nat} (h : DelInv p l l1 i j) {x : α} (hx : l1[j]? = some x) (hp : p x = true) : DelInv p l l1 i (j + 1) := by
  have hj := (List.getElem?_eq_some_iff.1 hx).1
  have h1 := h.len
  have h2 := h.lt
  refine ⟨h.len, by omega, by omega, ?_, ?_⟩
  · rw [h.front, List.take_add_one, h.at hx, List.filter_append]
    simp [notp, hp]
  · have := congrArg (List.drop 1) h.back
    rwa [List.drop_drop, List.drop_drop] at this
theorem DelInv.keep {p : α → Bool} {l l1 : List α} {i j : Nat} (h : DelInv p l l1 i j) {x : α} (hx : l1[j]? = some x) (hp : p x = false) : DelInv p l (l1.set i x) (i + 1) (j + 1) := by
  have hj := (List.getElem?_eq_some_iff.1 hx).1
  have h1 := h.len
  have h2 := h.lt
  refine ⟨by rw [List.length_set, h.len], by omega, by omega, ?_, ?_⟩
  · rw [List.take_add_one, List.take_set, List.set_eq_of_length_le (by rw [List.length_take]; omega), h.front, List.getElem?_set, if_pos rfl, if_pos (by omega), List.take_add_one, h.at hx, List.filter_append]
    simp [notp, hp]
  · rw [List.drop_set, if_pos (by omega)]
    have := congrArg (List.drop 1) h.back
    rwa [List.drop_drop, List.drop_drop] at this
theorem DelInv.done {p : α → Bool} {l l1 : List α} {i j : Nat} (h : DelInv p l l1 i j) (hj : l.length ≤ j) : l1.take i = l.filter (notp p) := by rw [h.front, List.take_of_length_le hj]
end Go.AM.Spec
