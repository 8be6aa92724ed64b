/- Part of a machine of its own for this claim: the program's code over memory without draws. -/
import Derived.Test.YtoolcbdceijjlaaGreatSAmPLog
set_option linter.unusedVariables false
set_option linter.unusedSimpArgs false
set_option linter.unnecessarySimpa false
/- One server: what its functions come to. -/
set_option linter.unusedSimpArgs false
namespace Go.AM.Spec
open Go
def plainM (kind from_ to_ term : Int) (yes : Bool) : MsgC := ⟨kind, from_, to_, term, 0, 0, 0, yes, [], none, 0, ⟨0, 0, ⟨#[]⟩, ⟨#[]⟩⟩⟩
def yesF (rv from_ x tm : Int) (l : List Entry) (index logterm : Int) : Bool := decide (rv = 0 ∨ rv = from_) && newerF x tm l index logterm
def voteF (rid rt rv : Int) (hrd oh : Bool) (x tm : Int) (l : List Entry) (from_ index logterm : Int) : List MsgC × Bool × Int × Bool :=
  ([plainM 2 rid from_ rt (yesF rv from_ x tm l index logterm)], oh || (yesF rv from_ x tm l index logterm && decide (from_ ≠ rv)), if yesF rv from_ x tm l index logterm = true then from_ else rv, hrd || yesF rv from_ x tm l index logterm)
theorem vote_yes {rid rt rv : Int} {hrd oh : Bool} {x tm : Int} {l : List Entry} {from_ index logterm : Int} {b : Bool} (h : rv = 0 ∨ rv = from_) (hn : newerF x tm l index logterm = true) (hb : b = true) {ob : Bool} (ho : (oh || decide (from_ ≠ rv)) = ob) : voteF rid rt rv hrd oh x tm l from_ index logterm = ([plainM 2 rid from_ rt b], ob, from_, true) := by
  have : yesF rv from_ x tm l index logterm = true := by rw [yesF, decide_eq_true h, hn]; rfl
  rw [voteF, this, if_pos rfl, Bool.true_and, Bool.or_true, hb, ho]
theorem vote_no {rid rt rv : Int} {hrd oh : Bool} {x tm : Int} {l : List Entry} {from_ index logterm : Int} {b : Bool} (h : ¬ (rv = 0 ∨ rv = from_) ∨ newerF x tm l index logterm = false) (hb : b = false) : voteF rid rt rv hrd oh x tm l from_ index logterm = ([plainM 2 rid from_ rt b], oh, rv, hrd) := by
  have : yesF rv from_ x tm l index logterm = false := by
    rcases h with h | h
    · rw [yesF, decide_eq_false h]; rfl
    · rw [yesF, h, Bool.and_false]
  rw [voteF, this, if_neg (by decide), Bool.false_and, Bool.or_false, Bool.or_false, hb]
def votesL (n : Nat) (t : Int) : List Entry := (List.range n).map fun (i : Nat) => ⟨(i : Int) + 1, t, 1, ⟨#[]⟩⟩
theorem votesL_len (n : Nat) (t : Int) : (votesL n t).length = n := by simp [votesL]
theorem votesL_succ (n : Nat) (t : Int) : votesL (n + 1) t = votesL n t ++ [⟨(n : Int) + 1, t, 1, ⟨#[]⟩⟩] := by simp [votesL, List.range_succ]
theorem votesL_at {n k : Nat} {t : Int} (h : k < n) : (votesL n t)[k]? = some ⟨(k : Int) + 1, t, 1, ⟨#[]⟩⟩ := by simp [votesL, h]
theorem votesL_row {t : Int} (ht : 0 ≤ t) : ∀ n : Nat, n ≤ 1000 → logRow 0 0 (votesL n t) = true
  | 0, _ => rfl
  | n + 1, h => by
    rw [votesL_succ]
    refine logRow_append (votesL_row ht n (by omega)) (fun q => ?_) (fun e he => ?_)
    · have : n = 0 := by have := congrArg List.length q; rw [votesL_len] at this; simpa using this
      subst this
      exact logRow_cons.2 ⟨by rw [wrap_id (by omega) (by omega)]; rfl, ht, rfl⟩
    · rw [votesL_len] at he
      rcases Nat.eq_zero_or_pos n with rfl | hn
      · simp [votesL] at he
      · rw [votesL_at (by omega)] at he
        cases he
        exact logRow_cons.2 ⟨by rw [wrap_id (by simp; omega) (by simp; omega)]; simp; omega, Int.le_refl _, rfl⟩
theorem votesL_new {n : Nat} {t : Int} (ht : 0 ≤ t) (h : n ≤ 20) : newOk 0 0 (votesL n t) = true := by
  rw [newOk, votesL_row ht n (by omega), votesL_len, Bool.and_true]
  exact decide_eq_true ⟨by decide, by decide, by omega⟩
theorem votesL_ents {n : Nat} {t : Int} (h : n ≤ 20) : Ents (votesL n t) := by
  intro e he
  obtain ⟨k, hk⟩ := List.mem_iff_getElem?.1 he
  have hk2 : k < n := by have := (List.getElem?_eq_some_iff.1 hk).1; rwa [votesL_len] at this
  rw [votesL_at hk2] at hk
  cases hk
  exact ⟨by simp; omega, Nat.zero_le _⟩
theorem votesL_term {n : Nat} {t : Int} : (termF 0 0 (votesL n t) (0 + ((votesL n t).length : Int))).1 = if n = 0 then 0 else t := by
  rw [votesL_len]
  rcases Nat.eq_zero_or_pos n with rfl | hn
  · rfl
  · rw [if_neg (by omega), termF_at (e := ⟨((n - 1 : Nat) : Int) + 1, t, 1, ⟨#[]⟩⟩) (by omega) (by omega) (by rw [show (0 + (n : Int) - (0 + 1)).toNat = n - 1 by omega]; exact votesL_at (by omega))]
theorem votesL_newer {n : Nat} {t i u : Int} : newerF 0 0 (votesL n t) i u = decide (u > (if n = 0 then 0 else t) ∨ u = (if n = 0 then 0 else t) ∧ i ≥ n) := by
  rw [newerF, votesL_term, votesL_len, Int.zero_add]
theorem may_vote {f i t : Int} (hf : 1 ≤ f ∧ f ≤ 7) (hi : 0 ≤ i ∧ i ≤ 50) (ht : 0 ≤ t ∧ t ≤ 4) : mayMsg 1 f 1 4 i t 0 false [] 0 0 ⟨#[]⟩ ⟨#[]⟩ = true := by
  simp [mayMsg, entR, snap0]
  omega
end Go.AM.Spec
