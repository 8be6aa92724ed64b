/- Part of a machine of its own for this claim: the program's code over memory without draws. -/
import Derived.Test.YtoolcbdceijjlaaGreatSAmPNet
import Derived.Test.YtoolcbdceijjlaaGreatSAmPDel
set_option linter.unusedVariables false
set_option linter.unusedSimpArgs false
set_option linter.unnecessarySimpa false
/- A log: what its functions come to. -/
set_option linter.unusedSimpArgs false
namespace Go.AM.Spec
open Go
def logRow : Int → Int → List Entry → Bool
  | _, _, [] => true
  | ix, tm, e :: es => if e.index ≠ IntKind.i64.wrap (ix + 1) ∨ e.term < tm then false else logRow e.index e.term es
theorem wrap_id {n : Int} (h0 : -9223372036854775808 ≤ n) (h1 : n ≤ 9223372036854775807) : IntKind.i64.wrap n = n := by
  rw [IntKind.wrap_i64]; omega
theorem logRow_cons {i t : Int} {e : Entry} {l : List Entry} : logRow i t (e :: l) = true ↔ e.index = IntKind.i64.wrap (i + 1) ∧ t ≤ e.term ∧ logRow e.index e.term l = true := by
  rw [logRow]
  split
  · rename_i h
    constructor
    · intro h; cases h
    · rintro ⟨h1, h2, _⟩; rcases h with h | h
      · exact absurd h1 h
      · omega
  · rename_i h
    rw [not_or, Decidable.not_not] at h
    exact ⟨fun k => ⟨h.1, by omega, k⟩, fun k => k.2.2⟩
theorem logRow_step {ix tm : Int} {l : List Entry} {e : Entry} {i : Nat} (he : l[i]? = some e) (h : e.index = IntKind.i64.wrap (ix + 1)) (h2 : ¬ e.term < tm) : logRow ix tm (l.drop i) = logRow e.index e.term (l.drop (i + 1)) := by
  rw [Go.AM.drop_at he, logRow, if_neg (by rw [not_or]; exact ⟨fun q => q h, h2⟩)]
theorem logRow_fail {ix tm : Int} {l : List Entry} {e : Entry} {i : Nat} (he : l[i]? = some e) (h : e.index ≠ IntKind.i64.wrap (ix + 1) ∨ e.term < tm) : logRow ix tm (l.drop i) = false := by
  rw [Go.AM.drop_at he, logRow, if_pos h]
theorem logRow_at : ∀ {l : List Entry} {i t : Int}, logRow i t l = true → 0 ≤ i → i + l.length ≤ 4611686018427387904 → ∀ (k : Nat) (e : Entry), l[k]? = some e → e.index = i + 1 + k
  | [], _, _, _, _, _, k, e, h => by simp at h
  | a :: l, i, t, h, h0, hm, k, e, he => by
    obtain ⟨h1, _, h3⟩ := logRow_cons.1 h
    simp only [List.length_cons] at hm
    rw [wrap_id (by omega) (by omega)] at h1
    cases k with
    | zero => simp at he; subst he; omega
    | succ k =>
      have := logRow_at h3 (by omega) (by omega) k e (by simpa using he)
      rw [this, h1]; omega
theorem logRow_append : ∀ {l k : List Entry} {i t : Int}, logRow i t l = true → (l = [] → logRow i t k = true) → (∀ e, l[l.length - 1]? = some e → logRow e.index e.term k = true) → logRow i t (l ++ k) = true
  | [], k, i, t, _, h, _ => h rfl
  | [a], k, i, t, h, _, h2 => by
    obtain ⟨h1, h3, _⟩ := logRow_cons.1 h
    exact logRow_cons.2 ⟨h1, h3, h2 a rfl⟩
  | a :: b :: l, k, i, t, h, _, h2 => by
    obtain ⟨h1, h3, h4⟩ := logRow_cons.1 h
    exact logRow_cons.2 ⟨h1, h3, logRow_append h4 (fun q => by cases q) (fun e he => h2 e (by simpa using he))⟩
def Ents (l : List Entry) : Prop := ∀ e ∈ l, (-9223372036854775808 ≤ e.index ∧ e.index ≤ 9223372036854775807) ∧ e.data.size ≤ 2500
theorem Ents.nil : Ents [] := fun _ h => by cases h
theorem Ents.sub {l k : List Entry} (h : Ents l) (hs : ∀ e ∈ k, e ∈ l) : Ents k := fun e he => h e (hs e he)
theorem Ents.take {l : List Entry} (h : Ents l) (n : Nat) : Ents (l.take n) := h.sub fun _ q => List.mem_of_mem_take q
theorem Ents.drop {l : List Entry} (h : Ents l) (n : Nat) : Ents (l.drop n) := h.sub fun _ q => List.mem_of_mem_drop q
theorem Ents.append {l k : List Entry} (h : Ents l) (h2 : Ents k) : Ents (l ++ k) := fun e he => (List.mem_append.1 he).elim (h e) (h2 e)
structure LogOk (x tm : Int) (l : List Entry) : Prop where
  x0 : 0 ≤ x
  x1 : x ≤ 2199023255552
  len : l.length ≤ 200
  row : logRow x tm l = true
  ents : Ents l
variable {x tm : Int} {l us : List Entry}
theorem LogOk.at_ (h : LogOk x tm l) {k : Nat} {e : Entry} (he : l[k]? = some e) : e.index = x + 1 + k := logRow_at h.row h.x0 (by have := h.x1; have := h.len; omega) k e he
def newOk (x tm : Int) (l : List Entry) : Bool := decide ((0 ≤ x ∧ x ≤ 1099511627776) ∧ (0 ≤ tm ∧ tm ≤ 1099511627776) ∧ l.length ≤ 200) && logRow x tm l
theorem newOk_ok (h : newOk x tm l = true) (he : Ents l) : LogOk x tm l := by
  simp only [newOk, Bool.and_eq_true, decide_eq_true_eq] at h
  exact ⟨h.1.1.1, by omega, h.1.2.2, h.2, he⟩
def termF (x tm : Int) (l : List Entry) (i : Int) : Int × Bool :=
  if i < x ∨ i > x + l.length then (0, false) else if i = x then (tm, true) else match l[(i - (x + 1)).toNat]? with
    | some e => (e.term, true)
    | none => (0, false)
theorem termF_out {i : Int} (h : i < x ∨ i > x + l.length) : termF x tm l i = (0, false) := if_pos h
theorem termF_base : termF x tm l x = (tm, true) := by rw [termF, if_neg (by omega), if_pos rfl]
theorem termF_at {i : Int} {e : Entry} (h0 : ¬ i < x) (h1 : ¬ i = x) (he : l[(i - (x + 1)).toNat]? = some e) : termF x tm l i = (e.term, true) := by
  have := (List.getElem?_eq_some_iff.1 he).1
  rw [termF, if_neg (by omega), if_neg h1, he]
def fitsF (x tm : Int) (l : List Entry) (i t : Int) : Bool := (termF x tm l i).2 && ((termF x tm l i).1 == t)
def newerF (x tm : Int) (l : List Entry) (i t : Int) : Bool := decide (t > (termF x tm l (x + l.length)).1 ∨ t = (termF x tm l (x + l.length)).1 ∧ i ≥ x + l.length)
def stays (x tm : Int) (l : List Entry) (u : Entry) : Bool := decide (u.index ≤ x) || fitsF x tm l u.index u.term
def putF (x tm : Int) (l us : List Entry) : Int × Bool × List Entry :=
  match us with
  | [] => (0, true, l)
  | u0 :: _ => if u0.index > x + l.length + 1 ∨ logRow (IntKind.i64.wrap (u0.index - 1)) u0.term us = false then (0, false, l) else
    match us.dropWhile (stays x tm l) with
    | [] => (0, true, l)
    | u :: k => if u.term < (termF x tm l (u.index - 1)).1 ∨ u.index - (x + 1) + ((k.length : Int) + 1) > 200 then (0, false, l) else (u.index, true, l.take (u.index - (x + 1)).toNat ++ u :: k)
def badN (y : Int) : Bool := decide (y < 0 ∨ y > 1099511627776)
theorem findF_mem {p : Int → Bool} : ∀ {l : List Int} {i : Int}, 0 ≤ i → (findF p l i ≥ 0 ↔ ∃ y ∈ l, p y = true)
  | [], i, h => by simp [findF]
  | y :: l, i, h => by
    rw [findF]
    split
    · rename_i hp; exact ⟨fun _ => ⟨y, by simp, hp⟩, fun _ => h⟩
    · rename_i hp
      rw [findF_mem (l := l) (i := i + 1) (by omega)]
      constructor
      · rintro ⟨z, hz, h2⟩; exact ⟨z, List.mem_cons_of_mem _ hz, h2⟩
      · rintro ⟨z, hz, h2⟩
        rcases List.mem_cons.1 hz with rfl | hz
        · exact absurd h2 hp
        · exact ⟨z, hz, h2⟩
def inAll (l : List Int) : Bool := decide (∀ n ∈ l, 0 ≤ n ∧ n ≤ 1099511627776)
theorem in_all {l : List Int} : (!(decide (findF badN l 0 ≥ 0))) = inAll l := by
  unfold inAll
  rw [← decide_not, decide_eq_decide, findF_mem (Int.le_refl _)]
  constructor
  · intro h n hn
    cases hb : badN n with
    | true => exact absurd ⟨n, hn, hb⟩ h
    | false => simp [badN] at hb; omega
  · rintro h ⟨n, hn, hb⟩
    have := h n hn
    simp [badN] at hb
    omega
theorem in_two {x tm : Int} : inAll [x, tm] = decide ((0 ≤ x ∧ x ≤ 1099511627776) ∧ (0 ≤ tm ∧ tm ≤ 1099511627776)) := by simp [inAll]
theorem new_is {x tm : Int} {l : List Entry} : newOk x tm l = (inAll [x, tm] && (decide (l.length ≤ 200) && logRow x tm l)) := by
  rw [in_two, newOk, Bool.eq_iff_iff]; simp only [Bool.and_eq_true, decide_eq_true_eq]
  constructor
  · rintro ⟨⟨h1, h2, h3⟩, h4⟩; exact ⟨⟨h1, h2⟩, h3, h4⟩
  · rintro ⟨⟨h1, h2⟩, h3, h4⟩; exact ⟨⟨h1, h2, h3⟩, h4⟩
end Go.AM.Spec
namespace Go.AM
open Go
structure OpL where
  kind : Int
  es : List Entry
  esA : Option Addr
  esc : Nat
  s : Snap
  i : Int
  t : Int
  n : Int
def OpL.cells (o : OpL) : List Value := [.int .i64 o.kind, .slice o.esA o.es.length o.esc, .int .i64 o.s.index, .int .i64 o.s.term, .string o.s.conf, .string o.s.data, .int .i64 o.i, .int .i64 o.t, .int .i64 o.n]
theorem OpL.cells_len (m : OpL) : m.cells.length = 9 := rfl
theorem OpL.cells_one (m : OpL) : m.cells.all Value.oneCell' = true := rfl
def OpL.sub : Sub OpL := ⟨4, OpL.esA, OpL.esc, fun m => m.es.map Entry.cells⟩
namespace Spec
end Spec
end Go.AM
