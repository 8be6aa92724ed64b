-- What a row's argument is read as, of any kind that is printed: own words of this seat
import Derived.Test.YtoamlagpnnmnhabSWWords
import Derived.SizedLaws
import Derived.Deep.Slices
import Derived.OpenShut
import Derived.ChangeSame
import Derived.ChangeArms
namespace Go.Proofs.YtoamlagpnnmnhabW.Opening
open Go Go.ChangeShapes Go.Deep Go.RowKit Go.Proofs.YtoamlagpnnmnhabW.PrintWords

/-- What is read at type t is an element of d, and is wf. -/
def Opens {α : Type} (P : Program) (t : TypeId) (d : Kd α) (wf : α → Prop) : Prop :=
  d.sz = P.cellsOf t ∧ ∀ (H : Type) (enc : TypeId × Value → H) (w : World) (base : Nat) (sp : Nat → Bool) (held : Bool) (fuel : Nat) (cs : List Value) (y : DataW H × List MemPlace),
    DataW.trod enc P w base sp held fuel t cs = some y → (∀ n ∈ y.1.weights P t, n ≤ reachBytes) → ∃ x, d.K w x cs ∧ wf x


theorem opens_int {P : Program} {t : TypeId} {k : IntKind} (ht : P.underlying t = some (.int k)) (hc : P.cellsOf t = 1) : Opens P t (Kd.int k) (fun n => (Lit.int k n).wf = true) :=
  ⟨hc.symm, fun H enc w base sp held fuel cs y hy _ => by
    obtain ⟨n, rfl, _, hw⟩ := DataW.trod_int ht hy
    exact ⟨n, rfl, hw⟩⟩
theorem opens_bool {P : Program} {t : TypeId} (ht : P.underlying t = some .bool) (hc : P.cellsOf t = 1) : Opens P t Kd.bool (fun _ => True) :=
  ⟨hc.symm, fun H enc w base sp held fuel cs y hy _ => by
    obtain ⟨n, rfl, _⟩ := DataW.trod_bool ht hy
    exact ⟨n, rfl, trivial⟩⟩
theorem opens_string {P : Program} {t : TypeId} (ht : P.underlying t = some .string) (hc : P.cellsOf t = 1) : Opens P t Kd.string (fun s => s.size ≤ 140737488351232) :=
  ⟨hc.symm, fun H enc w base sp held fuel cs y hy hn => by
    obtain ⟨s, rfl, rfl, _⟩ := DataW.trod_string ht hy
    refine ⟨s, rfl, ?_⟩
    have := hn s.data.toList.length (by simp [DataW.weights])
    simpa [reachBytes] using this⟩

theorem weights_mem_all {H : Type} {P : Program} {e : TypeId} : ∀ {ds : List (DataW H)} {d : DataW H}, d ∈ ds → ∀ n ∈ d.weights P e, n ∈ DataW.weightsAll P e ds
  | d0 :: ds, d, hd, n, hn => by
    simp only [DataW.weightsAll, List.mem_append]
    rcases List.mem_cons.1 hd with rfl | hd
    · exact .inl hn
    · exact .inr (weights_mem_all hd n hn)

theorem list_of {α : Type} {p : Nat → α → Prop} : ∀ (n : Nat), (∀ i, i < n → ∃ x, p i x) → ∃ xs : List α, xs.length = n ∧ ∀ i x, xs[i]? = some x → p i x
  | 0, _ => ⟨[], rfl, fun i x h => by simp at h⟩
  | n + 1, h => by
    obtain ⟨xs, hl, hx⟩ := list_of n (fun i hi => h i (by omega))
    obtain ⟨x, hp⟩ := h n (by omega)
    refine ⟨xs ++ [x], by simp [hl], fun i y hy => ?_⟩
    by_cases hi : i < xs.length
    · rw [List.getElem?_append_left hi] at hy
      exact hx i y hy
    · rw [List.getElem?_append_right (by omega)] at hy
      have hlt : i - xs.length < 1 := by
        obtain ⟨hq, _⟩ := List.getElem?_eq_some_iff.1 hy
        simpa using hq
      have hi0 : i - xs.length = 0 := by omega
      rw [hi0] at hy
      have hin : i = n := by omega
      subst hin
      simp at hy
      subst hy
      exact hp

theorem opens_slice {α : Type} {P : Program} {t e : TypeId} {d : Kd α} {wf : α → Prop} {B : Nat} (ht : P.underlying t = some (.slice e)) (hc : P.cellsOf t = 1) (hB : P.bytesOf e = B) (h : Opens P e d wf) :
    Opens P t (Kd.slice e d) (fun xs => xs.length ≤ maxLen ∧ xs.length * B ≤ 140737488351232 ∧ ∀ x ∈ xs, wf x) :=
  ⟨hc.symm, fun H enc w base sp held fuel cs y hy hn => by
    rcases open_slice ht hy with ⟨rfl, rfl⟩ | ⟨a, len, cap, m, n, D, Pl, rfl, hb, hl, hm, hmm, rfl, hx⟩
    · exact ⟨[], ⟨none, 0, rfl, Nat.le_refl _, rfl, by simp, fun h0 => absurd h0 (by simp)⟩, by simp, by simp, by simp⟩
    · have hlm : len ≤ m := by rw [hmm]; split <;> omega
      have hw : ∀ i, i < len → ∀ q ∈ (D i).weights P e, q ≤ reachBytes := by
        intro i hi q hq
        refine hn q ?_
        simp only [DataW.weights, ht, List.mem_cons, List.mem_append]
        exact .inr (.inl (weights_mem_all (List.mem_map.2 ⟨i, List.mem_range.2 hi, rfl⟩) q hq))
      obtain ⟨xs, hlen, hxs⟩ := list_of (p := fun i x => wf x ∧ ∃ cs', w.cells? base (a.add (i * P.cellsOf e)) (P.cellsOf e) = some cs' ∧ d.K w x cs') len (fun i hi => by
        obtain ⟨cs', h1, h2⟩ := hx i (by omega)
        obtain ⟨x, hk, hwf⟩ := h.2 H enc w base sp held n cs' _ h2 (hw i hi)
        exact ⟨x, hwf, cs', h1, hk⟩)
      subst hlen
      refine ⟨xs, ⟨some a, cap, rfl, hl, rfl, Nat.le_trans (Nat.le_trans hl hm) (by decide), fun _ => ⟨a, rfl, fun j p hj => ?_⟩⟩, Nat.le_trans hl hm, ?_, fun x hx' => ?_⟩
      · obtain ⟨_, cs', h1, h2⟩ := hxs j p hj
        obtain ⟨_, h4, h5⟩ := World.cells?_some h1
        refine ⟨cs', by rw [h4, h.1], h2, fun i u hu => ?_⟩
        have hi : i < P.cellsOf e := by
          obtain ⟨hq, _⟩ := List.getElem?_eq_some_iff.1 hu
          omega
        rw [h.1, ← Deep.add_add, h5 i hi, hu]
      · have := hn ((xs.length + (m - xs.length)) * B) (by simp [DataW.weights, ht, hB])
        have h7 : xs.length * B ≤ (xs.length + (m - xs.length)) * B := Nat.mul_le_mul_right _ (by omega)
        have h8 : reachBytes = 140737488351232 + 4096 - 4096 := by decide
        omega
      · obtain ⟨i, hi⟩ := List.mem_iff_getElem?.1 hx'
        exact (hxs i x hi).1⟩

theorem opens_iso {α β : Type} {P : Program} {t : TypeId} {d : Kd α} {wf : α → Prop} (f : β → α) (g : α → β) (hg : ∀ x, f (g x) = x) (h : Opens P t d wf) : Opens P t (Kd.iso d f) (fun b => wf (f b)) :=
  ⟨h.1, fun H enc w base sp held fuel cs y hy hn => by
    obtain ⟨x, hk, hw⟩ := h.2 H enc w base sp held fuel cs y hy hn
    refine ⟨g x, ?_, by show wf (f (g x)); rw [hg]; exact hw⟩
    show d.K w (f (g x)) cs
    rw [hg]
    exact hk⟩

/-- A struct's fields, from one on. -/
def OpensFs {α : Type} (P : Program) (fs : List Field) (off : Nat) (d : Kd α) (wf : α → Prop) : Prop :=
  ∀ (H : Type) (enc : TypeId × Value → H) (w : World) (base : Nat) (sp : Nat → Bool) (held : Bool) (fuel : Nat) (cs : List Value),
    cs.length = off + d.sz → (∀ f ∈ fs, ∃ y, DataW.trod enc P w base sp held fuel f.type ((cs.drop f.offset).take (P.cellsOf f.type)) = some y ∧ ∀ n ∈ y.1.weights P f.type, n ≤ reachBytes) → ∃ x, d.K w x (cs.drop off) ∧ wf x

theorem opens_one {α : Type} {P : Program} {f : Field} {off : Nat} {d : Kd α} {wf : α → Prop} (ho : f.offset = off) (h : Opens P f.type d wf) : OpensFs P [f] off d wf := by
  intro H enc w base sp held fuel cs hl hf
  obtain ⟨y, hy, hn⟩ := hf f (List.mem_cons_self ..)
  rw [ho, List.take_of_length_le (by rw [List.length_drop, ← h.1]; omega)] at hy
  exact h.2 H enc w base sp held fuel _ y hy hn
theorem opens_cons {α β : Type} {P : Program} {f : Field} {fs : List Field} {off off' : Nat} {a : Kd α} {b : Kd β} {wa : α → Prop} {wb : β → Prop} (ho : f.offset = off) (h : Opens P f.type a wa) (hoff : off + a.sz = off') (hs : OpensFs P fs off' b wb) :
    OpensFs P (f :: fs) off (Kd.pair a b) (fun x => wa x.1 ∧ wb x.2) := by
  intro H enc w base sp held fuel cs hl hf
  obtain ⟨y, hy, hn⟩ := hf f (List.mem_cons_self ..)
  have hl' : cs.length = off + (a.sz + b.sz) := hl
  rw [ho] at hy
  obtain ⟨x, hk, hw⟩ := h.2 H enc w base sp held fuel _ y hy hn
  obtain ⟨z, hkz, hwz⟩ := hs H enc w base sp held fuel cs (by omega) (fun g hg => hf g (List.mem_cons_of_mem _ hg))
  refine ⟨(x, z), ⟨_, _, ?_, hk, hkz⟩, hw, hwz⟩
  rw [← h.1, ← hoff, ← List.drop_drop, List.take_append_drop]
theorem opens_struct {α : Type} {P : Program} {t : TypeId} {fs : Array Field} {d : Kd α} {wf : α → Prop} (ht : P.underlying t = some (.struct fs)) (hc : d.sz = P.cellsOf t) (h : OpensFs P fs.toList 0 d wf) : Opens P t d wf :=
  ⟨hc, fun H enc w base sp held fuel cs y hy hn => by
    obtain ⟨xs, n, _, rfl, hl, hlen, hf⟩ := DataW.trod_struct ht hy
    have := h H enc w base sp held n cs (by omega) (fun f hf' => by
      obtain ⟨i, hi⟩ := List.mem_iff_getElem?.1 hf'
      have hi' : fs[i]? = some f := by simpa using hi
      have hq := hf i f hi'
      have hlt : i < xs.length := by
        obtain ⟨hq, _⟩ := List.getElem?_eq_some_iff.1 hi
        simp at hq
        omega
      rw [List.getElem?_eq_getElem hlt] at hq
      refine ⟨xs[i], hq, fun q hq' => hn q ?_⟩
      simp only [DataW.weights, ht]
      refine DataW.weights_mem_each (j := i) (t := f.type) (d := xs[i].1) ?_ ?_ q hq'
      · simp [hi']
      · simp [List.getElem?_eq_getElem hlt])
    simpa using this⟩

/-- An argument of a row. -/
theorem Opens.arg {α : Type} {H : Type} {enc : TypeId × Value → H} {P : Program} {W : World} {base : Nat} {sp : Nat → Bool} {held : Bool} {t : TypeId} {d : Kd α} {wf : α → Prop} {v : Value} {dv : DataW H} {ps : List MemPlace} {ts : List TypeId} {ds : List (DataW H)} {j : Nat}
    (h : Opens P t d wf) (hsz : (DataW.weightsEach P ts ds).all (· ≤ reachBytes) = true) (ht : ts[j]? = some t) (hd : ds[j]? = some dv) (hv : DataW.Trod enc P W base sp held t v dv ps) : ∃ x, d.K W x v.cells.toList ∧ wf x := by
  obtain ⟨fuel, hf⟩ := hv
  refine h.2 H enc W base sp held fuel _ _ hf (fun n hn => ?_)
  have := List.all_eq_true.1 hsz _ (DataW.weights_mem_each ht hd n hn)
  simpa using this
end Go.Proofs.YtoamlagpnnmnhabW.Opening
