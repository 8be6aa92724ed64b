/- Part of a machine of its own for this claim: the program's code over memory without draws. -/
import Derived.Test.YtoamlagpnnmnhaaAmPCf2
import Derived.Test.YtoamlagpnnmnhaaAmPDel
set_option linter.unusedVariables false
set_option linter.unusedSimpArgs false
set_option linter.unnecessarySimpa false
/- One more, one less; what majorities have in common. -/
set_option linter.unusedSimpArgs false
namespace Go.AM.Spec
open Go
def remC (l : List Int) (k : Int) : List Int × Bool := if mayC l && (decide (k ∈ l) && mayC (l.filter (notp fun y => y == k))) then (l.filter (notp fun y => y == k), true) else ([], false)
theorem remC_len {l : List Int} {k : Int} : (remC l k).1.length ≤ 7 := by
  unfold remC
  split
  · rename_i h
    rw [Bool.and_eq_true, Bool.and_eq_true] at h
    exact (mayC_says h.2.2).2.1
  · exact Nat.zero_le _
/-- The sentence ConfOne. -/
def oneLaw (l : List Int) (k : Int) : Bool :=
  if mayC l then
    if (addC l k).2 then
      (remC (addC l k).1 k).2 && (decide (l = (remC (addC l k).1 k).1) && (mayC l && mayC (addC l k).1 && decide (nearN l (addC l k).1 7 ≤ 1) && (mayC (addC l k).1 && mayC l && decide (nearN (addC l k).1 l 7 ≤ 1) && (decide (k ∈ (addC l k).1) && decide (((addC l k).1.length : Int) = l.length + 1)))))
    else decide (k ∈ l) && decide (((addC l k).1.length : Int) = 0)
  else decide ((l.length : Int) = 0)
def setB : List Bool → Int → List Int
  | [], _ => []
  | b :: r, i => (if b then [i + 1] else []) ++ setB r (i + 1)
theorem setB_append : ∀ (r s : List Bool) (i : Int), setB (r ++ s) i = setB r i ++ setB s (i + r.length)
  | [], s, i => by simp [setB]
  | b :: r, s, i => by
    simp only [List.cons_append, setB, setB_append r s (i + 1), List.length_cons, List.append_assoc]
    congr 3
    omega
theorem setN_bits (t : Nat → Prop) [DecidablePred t] : ∀ n, ∃ r : List Bool, r.length = n ∧ setN t n = setB r 0
  | 0 => ⟨[], rfl, rfl⟩
  | n + 1 => by
    obtain ⟨r, h1, h2⟩ := setN_bits t n
    refine ⟨r ++ [decide (t n)], by simp [h1], ?_⟩
    rw [setN, setB_append, h2, h1]
    congr 1
    by_cases h : t n <;> simp [setB, h]
def allB : Nat → (List Bool → Bool) → Bool
  | 0, f => f []
  | n + 1, f => allB n (fun r => f (true :: r)) && allB n (fun r => f (false :: r))
theorem allB_says : ∀ (n : Nat) (f : List Bool → Bool), allB n f = true → ∀ r : List Bool, r.length = n → f r = true
  | 0, f, h, r, hr => by rw [List.length_eq_zero_iff.1 hr]; exact h
  | n + 1, f, h, [], hr => by simp at hr
  | n + 1, f, h, b :: r, hr => by
    rw [allB, Bool.and_eq_true] at h
    have hr' : r.length = n := by simpa using hr
    cases b with
    | true => exact allB_says n _ h.1 r hr'
    | false => exact allB_says n _ h.2 r hr'
theorem one_all : allB 7 (fun r => [1, 2, 3, 4, 5, 6, 7].all fun k => oneLaw (setB r 0) k) = true := by decide +kernel
theorem one_law {t : Nat → Prop} [DecidablePred t] {l : List Int} {k : Int} (h : setN t 7 = l) (h1 : 1 ≤ k) (h2 : k ≤ 7) : oneLaw l k = true := by
  obtain ⟨r, hr, e⟩ := setN_bits t 7
  have := List.all_eq_true.1 (allB_says 7 _ one_all r hr) k (by simp; omega)
  rw [← h, e]
  exact this
/-- They differ by one server at most. -/
def Close (l m : List Int) : Prop := l = m ∨ ∃ k, m.Perm (l ++ [k]) ∨ l.Perm (m ++ [k])
theorem upF_count {x : Int} : ∀ {l : List Int} {p : Int}, upF p l = true → 0 ≤ p → l.count x ≤ 1
  | [], p, _, _ => by simp
  | y :: l, p, h, hp => by
    have h0 := h
    simp only [upF] at h
    split at h
    · cases h
    · have ih := upF_count (x := x) (l := l) (p := y) h (by omega)
      rw [List.count_cons]
      by_cases e : y = x
      · subst e
        have : y ∉ l := fun hm => by have := ((upF_bd h (by omega)).1 y hm).2.2; omega
        rw [List.count_eq_zero.2 this]
        simp
      · simp [e, ih]
theorem add_close {l m : List Int} {k : Int} {b : Bool} (h : addC l k = (m, b)) (hb : b = true) : Close l m := by
  subst hb
  unfold addC at h
  split at h
  · cases h
    refine .inr ⟨k, .inl ?_⟩
    exact insF_perm _ _ _ (by simp; omega)
  · cases h
theorem rem_perm {k : Int} : ∀ {l : List Int}, l.count k ≤ 1 → k ∈ l → l.Perm (l.filter (notp fun y => y == k) ++ [k])
  | [], _, h => by cases h
  | y :: l, hc, hm => by
    by_cases e : y = k
    · subst e
      have hn : y ∉ l := by
        rw [List.count_cons] at hc
        simp only [BEq.rfl, if_true] at hc
        exact List.count_eq_zero.1 (by omega)
      have hf : (y :: l).filter (notp fun z => z == y) = l := by
        rw [List.filter_cons, if_neg (by simp [notp])]
        exact List.filter_eq_self.2 (fun z hz => by simp [notp]; intro e; subst e; exact hn hz)
      rw [hf]
      exact (List.perm_append_singleton y l).symm
    · rw [List.filter_cons, if_pos (by simp [notp, e]), List.cons_append]
      refine List.Perm.cons y (rem_perm (by rw [List.count_cons] at hc; omega) ?_)
      rcases List.mem_cons.1 hm with h | h
      · exact absurd h.symm e
      · exact h
theorem rem_close {l m : List Int} {k : Int} {b : Bool} (h : remC l k = (m, b)) (hb : b = true) : Close l m := by
  subst hb
  unfold remC at h
  split at h
  · rename_i hc
    cases h
    rw [Bool.and_eq_true, Bool.and_eq_true, decide_eq_true_eq] at hc
    refine .inr ⟨k, .inr (rem_perm ?_ hc.2.1)⟩
    have := hc.1
    unfold mayC at this
    rw [Bool.and_eq_true] at this
    exact upF_count this.1 (by decide)
  · cases h
theorem cnt_apart {a b l : List Int} (h : ∀ x ∈ a, x ∈ b → x ∉ l) : cntF a l + cntF b l ≤ l.length := by
  induction l with
  | nil => simp [cntF]
  | cons x l ih =>
    have := ih (fun y ha hb hm => h y ha hb (List.mem_cons_of_mem _ hm))
    simp only [cntF, List.length_cons]
    by_cases ha : x ∈ a
    · have hb : x ∉ b := fun hb => h x ha hb (List.mem_cons_self ..)
      rw [if_pos ha, if_neg hb]; omega
    · rw [if_neg ha]; split <;> omega
theorem cnt_perm {a l m : List Int} (h : l.Perm m) : cntF a l = cntF a m := by rw [cntF_is, cntF_is, h.countP_eq]
theorem cnt_one {a l : List Int} {k : Int} : cntF a (l ++ [k]) ≤ cntF a l + 1 := by
  rw [cntF_is, cntF_is, List.countP_append]
  have := List.countP_le_length (p := fun x => decide (x ∈ a)) (l := [k])
  simp only [List.length_singleton] at this
  omega
theorem meet_law {l m a b : List Int} (hc : Close l m) (h1 : 2 * cntF a l > l.length) (h2 : 2 * cntF b m > m.length) : ∃ x ∈ a, x ∈ b ∧ (x ∈ l ∨ x ∈ m) := by
  apply Classical.byContradiction
  intro hn
  have hn' : ∀ x ∈ a, x ∈ b → x ∉ l ∧ x ∉ m := fun x ha hb => ⟨fun h => hn ⟨x, ha, hb, .inl h⟩, fun h => hn ⟨x, ha, hb, .inr h⟩⟩
  have hl := cnt_apart (l := l) (fun x ha hb => (hn' x ha hb).1)
  have hm := cnt_apart (l := m) (fun x ha hb => (hn' x ha hb).2)
  rcases hc with rfl | ⟨k, h | h⟩
  · omega
  · have e1 := cnt_perm (a := b) h
    have e2 := cnt_one (a := b) (l := l) (k := k)
    have e3 := h.length_eq
    rw [List.length_append, List.length_singleton] at e3
    omega
  · have e1 := cnt_perm (a := a) h
    have e2 := cnt_one (a := a) (l := m) (k := k)
    have e3 := h.length_eq
    rw [List.length_append, List.length_singleton] at e3
    omega
theorem maj_says {m l : List Int} (h : (mayC l && decide (2 * cntF m l > l.length)) = true) : 2 * cntF m l > l.length := by
  rw [Bool.and_eq_true, decide_eq_true_eq] at h
  exact h.2
end Go.AM.Spec
