/- Part of a machine of its own for this claim: the program's code over memory without draws. -/
import Derived.Test.YtoamlagpnnmnhaaAmPCf
set_option linter.unusedVariables false
set_option linter.unusedSimpArgs false
set_option linter.unnecessarySimpa false
/- The middle one of a row that is put in order. -/
set_option linter.unusedSimpArgs false
namespace Go.AM.Spec
open Go
theorem getD_set (l : List Int) (j p : Nat) (x : Int) (hj : j < l.length) : (l.set j x).getD p 0 = if p = j then x else l.getD p 0 := by
  rw [List.getD_eq_getElem?_getD, List.getD_eq_getElem?_getD, List.getElem?_set]
  by_cases h : j = p
  · subst h; simp [hj]
  · rw [if_neg h, if_neg (fun e => h e.symm)]
def Srt (l : List Int) (n : Nat) : Prop := ∀ p q, p < q → q < n → l.getD p 0 ≤ l.getD q 0
theorem sink_srt (n : Nat) : ∀ (j : Nat) (l : List Int), j < l.length → n ≤ l.length → (∀ p q, p < q → q < n → q ≠ j → l.getD p 0 ≤ l.getD q 0) → Srt (sink l j) n
  | 0, l, _, _, h => fun p q h1 h2 => h p q h1 h2 (by omega)
  | j + 1, l, hj, hn, h => by
    unfold sink
    split
    · rename_i hlt
      refine sink_srt n j _ (by simp; omega) (by simpa using hn) (fun p q h1 h2 h3 => ?_)
      have hg : ∀ r, ((l.set (j + 1) (l.getD j 0)).set j (l.getD (j + 1) 0)).getD r 0 = if r = j then l.getD (j + 1) 0 else if r = j + 1 then l.getD j 0 else l.getD r 0 := fun r => by
        rw [getD_set _ _ _ _ (by rw [List.length_set]; omega), getD_set _ _ _ _ hj]
      rw [hg p, hg q, if_neg h3]
      by_cases hq : q = j + 1
      · subst hq
        rw [if_pos rfl]
        by_cases hp : p = j
        · rw [if_pos hp]; exact Int.le_of_lt hlt
        · rw [if_neg hp, if_neg (by omega)]; exact h p j (by omega) (by omega) (by omega)
      · rw [if_neg hq]
        by_cases hp : p = j
        · rw [if_pos hp]; exact h (j + 1) q (by omega) h2 hq
        · rw [if_neg hp]
          by_cases hp2 : p = j + 1
          · rw [if_pos hp2]; exact h j q (by omega) h2 hq
          · rw [if_neg hp2]; exact h p q h1 h2 hq
    · rename_i hge
      intro p q h1 h2
      by_cases hq : q = j + 1
      · subst hq
        by_cases hp : p = j
        · subst hp; omega
        · have := h p j (by omega) (by omega) (by omega); omega
      · exact h p q h1 h2 hq
theorem insF_srt : ∀ (k i : Nat) (l : List Int), i + k ≤ l.length → Srt l i → Srt (insF l i k) (i + k)
  | 0, i, l, _, h => h
  | k + 1, i, l, hl, h => by
    rw [insF, show i + (k + 1) = (i + 1) + k by omega]
    refine insF_srt k (i + 1) _ (by rw [sink_len]; omega) (sink_srt (i + 1) i l (by omega) (by omega) (fun p q h1 h2 h3 => h p q h1 (by omega)))
theorem sink_perm : ∀ (j : Nat) (l : List Int), j < l.length → (sink l j).Perm l
  | 0, l, _ => List.Perm.refl _
  | j + 1, l, hj => by
    unfold sink
    split
    · refine (sink_perm j _ (by simp; omega)).trans ?_
      have h1 : l.getD j 0 = l[j] := by rw [List.getD_eq_getElem?_getD, List.getElem?_eq_getElem (by omega)]; rfl
      have h2 : l.getD (j + 1) 0 = l[j + 1] := by rw [List.getD_eq_getElem?_getD, List.getElem?_eq_getElem hj]; rfl
      rw [h1, h2]
      exact List.set_set_perm hj (by omega)
    · exact List.Perm.refl _
theorem insF_perm : ∀ (k i : Nat) (l : List Int), i + k ≤ l.length → (insF l i k).Perm l
  | 0, i, l, _ => List.Perm.refl _
  | k + 1, i, l, hl => by
    rw [insF]
    exact (insF_perm k (i + 1) _ (by rw [sink_len]; omega)).trans (sink_perm i l (by omega))
theorem cntF_is (m l : List Int) : cntF m l = ((l.countP fun x => decide (x ∈ m)) : Nat) := by
  induction l with
  | nil => rfl
  | cons x l ih =>
    rw [cntF, ih, List.countP_cons]
    by_cases h : x ∈ m <;> simp [h] <;> omega
theorem cntF_filter (l : List Int) (p : Int → Bool) : cntF (l.filter p) l = ((l.countP p : Nat) : Int) := by
  rw [cntF_is]
  congr 1
  refine List.countP_congr fun x hx => ?_
  simp [hx]
theorem mid_law {l at_ : List Int} {n : Int} (hm : mayC l = true) (hn : midF l at_ = n) :
    (mayC l && decide (2 * cntF (l.filter fun x => decide (n ≤ valF at_ x)) l > l.length)) = true ∧ (mayC l && decide (2 * cntF (l.filter fun x => decide (n < valF at_ x)) l > l.length)) = false := by
  obtain ⟨_, _, h0⟩ := mayC_says hm
  rw [hm, Bool.true_and, Bool.true_and, cntF_filter, cntF_filter]
  have hp := insF_perm (l.length - 1) 1 (l.map (valF at_)) (by rw [List.length_map]; omega)
  have hs := insF_srt (l.length - 1) 1 (l.map (valF at_)) (by rw [List.length_map]; omega) (fun p q h1 h2 => by omega)
  have hl : (insF (l.map (valF at_)) 1 (l.length - 1)).length = l.length := by rw [insF_len, List.length_map]
  rw [midF, if_pos hm] at hn
  rw [show 1 + (l.length - 1) = l.length by omega] at hs
  have c1 : l.countP (fun x => decide (n ≤ valF at_ x)) = (insF (l.map (valF at_)) 1 (l.length - 1)).countP (fun y => decide (n ≤ y)) := by
    rw [hp.countP_eq, List.countP_map]; rfl
  have c2 : l.countP (fun x => decide (n < valF at_ x)) = (insF (l.map (valF at_)) 1 (l.length - 1)).countP (fun y => decide (n < y)) := by
    rw [hp.countP_eq, List.countP_map]; rfl
  rw [c1, c2]
  generalize insF (l.map (valF at_)) 1 (l.length - 1) = s at hs hl hn
  generalize hk : (l.length - 1) / 2 = k at hn
  have get : ∀ p (h : p < s.length), s.getD p 0 = s[p] := fun p h => by rw [List.getD_eq_getElem?_getD, List.getElem?_eq_getElem h]; rfl
  constructor
  · have h1 : (s.drop k).countP (fun y => decide (n ≤ y)) = (s.drop k).length := List.countP_eq_length.2 fun y hy => by
      obtain ⟨i, hi, rfl⟩ := List.mem_iff_getElem.1 hy
      rw [List.length_drop] at hi
      rw [List.getElem_drop, decide_eq_true_eq, ← hn, ← get _ (by omega)]
      by_cases h : i = 0
      · subst h; exact Int.le_refl _
      · exact hs k (k + i) (by omega) (by omega)
    have h2 : s.countP (fun y => decide (n ≤ y)) = (s.take k).countP (fun y => decide (n ≤ y)) + (s.drop k).countP (fun y => decide (n ≤ y)) := by rw [← List.countP_append, List.take_append_drop]
    rw [h1, List.length_drop] at h2
    exact decide_eq_true (by omega)
  · have h1 : (s.take (k + 1)).countP (fun y => decide (n < y)) = 0 := List.countP_eq_zero.2 fun y hy => by
      obtain ⟨i, hi, rfl⟩ := List.mem_iff_getElem.1 hy
      rw [List.length_take] at hi
      rw [List.getElem_take, decide_eq_true_eq, ← hn, ← get _ (by omega)]
      by_cases h : i = k
      · subst h; omega
      · have := hs i k (by omega) (by omega); omega
    have h2 : s.countP (fun y => decide (n < y)) = (s.take (k + 1)).countP (fun y => decide (n < y)) + (s.drop (k + 1)).countP (fun y => decide (n < y)) := by rw [← List.countP_append, List.take_append_drop]
    have h3 := List.countP_le_length (p := fun y => decide (n < y)) (l := s.drop (k + 1))
    rw [List.length_drop] at h3
    exact decide_eq_false (by omega)
end Go.AM.Spec
