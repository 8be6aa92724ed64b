/- Part of a machine of its own for this claim: the program's code over memory without draws. -/
import Derived.Test.YtoamlagpnnmnhaaAmPWal
import Derived.Test.YtoamlagpnnmnhaaAmD
set_option linter.unusedVariables false
set_option linter.unusedSimpArgs false
set_option linter.unnecessarySimpa false
/- Configurations: sets, looking for one, near ones. -/
set_option linter.unusedSimpArgs false
namespace Go.AM
theorem Row.isNone {α : Type} {f : α → List Value} {H : Heap} {A : Option Addr} {c sz : Nat} {es : List α} (h : Row H A c sz (es.map f)) (hA : A.isNone = true) : es = [] := by
  rcases h with ⟨h, _⟩ | ⟨b, o, h, _⟩
  · exact List.map_eq_nil_iff.1 h
  · rw [h] at hA; cases hA
end Go.AM
namespace Go.AM.Spec
open Go Go.RowKit
/-- The servers that bits name. -/
def setN (t : Nat → Prop) [DecidablePred t] : Nat → List Int
  | 0 => []
  | i + 1 => setN t i ++ (if t i then [(i : Int) + 1] else [])
/-- Where x stands in l, from the k-th place on; or -1. -/
def ixF (x : Int) : List Int → Int → Int
  | [], _ => -1
  | y :: l, k => if x = y then k else ixF x l (k + 1)
theorem ixF_mem {x : Int} : ∀ {l : List Int} {k : Int}, 0 ≤ k → (0 ≤ ixF x l k ↔ x ∈ l) := by
  intro l
  induction l with
  | nil => intro k _; simp [ixF]
  | cons y l ih =>
    intro k hk
    simp only [ixF, List.mem_cons]
    by_cases h : x = y
    · simp [h, hk]
    · rw [if_neg h, ih (by omega)]; simp [h]
theorem ixF_rng {x : Int} : ∀ {l : List Int} {k : Int}, 0 ≤ k → -1 ≤ ixF x l k ∧ ixF x l k < k + l.length ∨ ixF x l k = -1 := by
  intro l
  induction l with
  | nil => intro k _; simp [ixF]
  | cons y l ih =>
    intro k hk
    simp only [ixF, List.length_cons]
    by_cases h : x = y
    · rw [if_pos h]; left; omega
    · rw [if_neg h]
      have := ih (k := k + 1) (by omega)
      omega
/-- How many of 1 .. n are in just one of the two. -/
def nearN (a b : List Int) : Nat → Int
  | 0 => 0
  | n + 1 => nearN a b n + (if decide (((n : Int) + 1) ∈ a) = decide (((n : Int) + 1) ∈ b) then 0 else 1)
end Go.AM.Spec
namespace Go.AM.Spec
open Go
def shr (k : IntKind) (x s : Int) : Int := x.fdiv (2 ^ (min s.toNat k.bits))
theorem shr_rng {k : IntKind} {x s lo hi : Int} (h : lo ≤ x ∧ x ≤ hi) (hl : lo ≤ 0) (hh : 0 ≤ hi) : lo ≤ shr k x s ∧ shr k x s ≤ hi := by
  unfold shr
  have hd : (0 : Int) < 2 ^ (min s.toNat k.bits) := Int.pow_pos (by decide)
  rw [Int.fdiv_eq_ediv_of_nonneg _ (Int.le_of_lt hd)]
  generalize (2 : Int) ^ (min s.toNat k.bits) = d at hd
  by_cases hx : 0 ≤ x
  · have h1 := Int.ediv_nonneg hx (Int.le_of_lt hd)
    have h2 := Int.ediv_le_self d hx
    omega
  · have h1 : x ≤ x / d := (Int.le_ediv_iff_mul_le hd).2 (by
      have := Int.mul_le_mul_of_nonpos_left (a := x) (b := d) (c := 1) (by omega) (by omega)
      omega)
    have h2 : x / d < 0 := Int.ediv_neg_of_neg_of_pos (by omega) hd
    omega
end Go.AM.Spec
namespace Go.AM.Spec
/-- One is moved to its place among those before it. -/
def sink (l : List Int) : Nat → List Int
  | 0 => l
  | j + 1 => if l.getD (j + 1) 0 < l.getD j 0 then sink ((l.set (j + 1) (l.getD j 0)).set j (l.getD (j + 1) 0)) j else l
theorem sink_len (l : List Int) (j : Nat) : (sink l j).length = l.length := by
  induction j generalizing l with
  | zero => rfl
  | succ j ih =>
    unfold sink
    split
    · rw [ih, List.length_set, List.length_set]
    · rfl
theorem sink_lt {l : List Int} {j : Nat} {x y : Int} (hj : 0 < j) (hx : l[j]? = some x) (hy : l[j - 1]? = some y) (h : x < y) : sink l j = sink ((l.set j y).set (j - 1) x) (j - 1) := by
  obtain ⟨j, rfl⟩ : ∃ k, j = k + 1 := ⟨j - 1, by omega⟩
  rw [Nat.add_sub_cancel] at hy ⊢
  rw [sink, List.getD_eq_getElem?_getD, List.getD_eq_getElem?_getD, hx, hy, Option.getD_some, Option.getD_some, if_pos h]
theorem sink_ge {l : List Int} {j : Nat} {x y : Int} (hj : 0 < j) (hx : l[j]? = some x) (hy : l[j - 1]? = some y) (h : ¬ x < y) : sink l j = l := by
  obtain ⟨j, rfl⟩ : ∃ k, j = k + 1 := ⟨j - 1, by omega⟩
  rw [Nat.add_sub_cancel] at hy
  rw [sink, List.getD_eq_getElem?_getD, List.getD_eq_getElem?_getD, hx, hy, Option.getD_some, Option.getD_some, if_neg h]
/-- From the i-th on, each is moved to its place. -/
def insF (l : List Int) (i : Nat) : Nat → List Int
  | 0 => l
  | k + 1 => insF (sink l i) (i + 1) k
theorem insF_len (l : List Int) (i k : Nat) : (insF l i k).length = l.length := by
  induction k generalizing l i with
  | zero => rfl
  | succ k ih => rw [insF, ih, sink_len]
end Go.AM.Spec
namespace Go.AM
open Go
theorem valF_any {P : Program} (hm : P.follows .mixedOrders = true) {X : FuncId → List Tmp} {N n : Nat} {f : FuncId} {args : List Value} {v : Value} (hx : (runF P X N n f args Hp.nil).map Prod.fst = some v) (ha : args.all flat = true) (hv : flat v = true) (H : Heap) : Spec P f args H v H := by
  obtain ⟨⟨v', h'⟩, h1, h2⟩ := Option.map_eq_some_iff.1 hx
  cases h2
  exact Spec.lift (runF_spec hm h1) ha hv H
end Go.AM
namespace Go.AM.Spec
/-- How many bits a small number takes. -/
def len8 (x : Int) : Int := if x < 1 then 0 else if x < 2 then 1 else if x < 4 then 2 else if x < 8 then 3 else 4
/-- One more, at its place; if both may be. -/
def insS (l : List Int) (k : Int) : List Int := insF (l ++ [k]) 1 l.length
def addC (l : List Int) (k : Int) : List Int × Bool := if mayC l && mayC (insS l k) then (insS l k, true) else ([], false)
end Go.AM.Spec
namespace Go.AM.Spec
theorem mayC_says {l : List Int} (h : mayC l = true) : (∀ x ∈ l, 1 ≤ x ∧ x ≤ 7) ∧ l.length ≤ 7 ∧ 0 < l.length := by
  unfold mayC at h
  rw [Bool.and_eq_true, decide_eq_true_eq] at h
  have := upF_bd h.1 (by decide)
  exact ⟨fun x hx => ⟨(this.1 x hx).1, (this.1 x hx).2.1⟩, by omega, by omega⟩
theorem addC_len {l : List Int} {k : Int} : (addC l k).1.length ≤ 7 := by
  unfold addC
  split
  · rename_i h
    rw [Bool.and_eq_true] at h
    exact (mayC_says h.2).2.1
  · exact Nat.zero_le _
/-- How many of the one are in the other. -/
def cntF (m : List Int) : List Int → Int
  | [] => 0
  | x :: l => (if x ∈ m then 1 else 0) + cntF m l
/-- What a server has. -/
def valF (at_ : List Int) (x : Int) : Int := if x < at_.length then at_.getD x.toNat 0 else 0
theorem valF_lt {at_ : List Int} {x y : Int} (h : x < at_.length) (hy : at_[x.toNat]? = some y) : valF at_ x = y := by
  unfold valF
  rw [if_pos h, List.getD_eq_getElem?_getD, hy]
  rfl
/-- The middle one. -/
def midF (l at_ : List Int) : Int := if mayC l then (insF (l.map (valF at_)) 1 (l.length - 1)).getD ((l.length - 1) / 2) 0 else 0
end Go.AM.Spec
