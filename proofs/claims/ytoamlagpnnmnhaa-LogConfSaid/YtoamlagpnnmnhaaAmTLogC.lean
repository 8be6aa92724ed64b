/- Part of a machine of its own for this claim: the program's code over memory without draws. -/
import Derived.Test.YtoamlagpnnmnhaaAmE
import Derived.Test.YtoamlagpnnmnhaaAmD
import Derived.Test.YtoamlagpnnmnhaaProg
import Derived.KernelRfl
set_option linter.unusedVariables false
set_option linter.unusedSimpArgs false
set_option linter.unusedVariables false
set_option linter.unusedSimpArgs false
set_option linter.unnecessarySimpa false
namespace Go.AM
open Go Go.Proofs

noncomputable def E0 : TypeId → Bool := eqTy Try.prog
theorem E0_ok : EqOk Try.prog E0 := eqTy_ok
theorem mixed : Try.prog.follows .mixedOrders = true := by kernel_rfl
structure Entry where
  index : Int
  term : Int
  kind : Int
  data : ByteArray
def Entry.cells (e : Entry) : List Value := [.int .i64 e.index, .int .i64 e.term, .int .i64 e.kind, .string e.data]
def I64c (n : Int) : List Value := [.int .i64 n]
def badNum (n : Int) : Bool := decide (n < 0) || decide (n > 1099511627776)
def idxF {α : Type} (p : α → Bool) : List α → Int → Int
  | [], _ => -1
  | x :: l, i => if p x then i else idxF p l (i + 1)
def rowOk : Int → Int → List Entry → Bool
  | _, _, [] => true
  | ix, tm, e :: es => if (e.index != IntKind.i64.wrap (ix + 1)) || decide (e.term < tm) then false else rowOk e.index e.term es
def cutB (s : ByteArray) (n : Int) : ByteArray := if (s.size : Int) > n then s.extract 0 n.toNat else s
def Entry.cut (e : Entry) : Entry := { e with data := cutB e.data 60 }
def inF (l : List Int) : Bool := !(decide (idxF badNum l 0 ≥ 0))
theorem inTwo_iff {x tm : Int} (h : inF [x, tm] = true) : 0 ≤ x ∧ x ≤ 1099511627776 ∧ 0 ≤ tm ∧ tm ≤ 1099511627776 := by
  simp only [inF, idxF] at h
  have h1 : badNum x = false := by
    cases hb : badNum x with
    | false => rfl
    | true => simp [hb] at h
  have h2 : badNum tm = false := by
    cases hb : badNum tm with
    | false => rfl
    | true => simp [h1, hb] at h
  simp [badNum] at h1 h2
  omega
def newOk (x tm : Int) (es : List Entry) : Bool := inF [x, tm] && decide ((es.length : Int) ≤ 200) && rowOk x tm es
def getE (x : Int) (es : List Entry) (i n : Int) : List Entry := if i < x + 1 ∨ i > x + es.length ∨ n < 1 then [] else (es.drop (i - (x + 1)).toNat).take n.toNat
def Entry.eqE (a b : Entry) : Bool := a.index == b.index && a.term == b.term && a.kind == b.kind && a.data.toList == b.data.toList
def eqEs : List Entry → List Entry → Bool
  | [], [] => true
  | a :: l, b :: k => a.eqE b && eqEs l k
  | _, _ => false
theorem eqEs_len : ∀ {a b : List Entry}, a.length ≠ b.length → eqEs a b = false
  | [], [], h => absurd rfl h
  | [], _ :: _, _ => rfl
  | _ :: _, [], _ => rfl
  | a :: l, b :: k, h => by simp [eqEs, eqEs_len (a := l) (b := k) (by simpa using h)]
theorem eqE_refl (a : Entry) : a.eqE a = true := by simp [Entry.eqE]
theorem eqEs_refl : ∀ l : List Entry, eqEs l l = true
  | [] => rfl
  | a :: l => by simp [eqEs, eqE_refl, eqEs_refl l]
theorem getE_first (x : Int) (es : List Entry) {n : Int} (hn : 1 ≤ n) : getE x es (x + 1) n = es.take n.toNat := by
  unfold getE
  split
  · have : es = [] := List.eq_nil_of_length_eq_zero (by omega)
    subst this; simp
  · rw [show (x + 1 - (x + 1)).toNat = 0 by omega, List.drop_zero]
theorem resA_cell {fn : Func} {n a t : Nat} {r : Slots} {H : Heap} {ad : Addr} {v : Value} (hr : fn.results = #[.cell a t]) (ha : lk r a = some (.pointer (some ad))) (hl : lvar Try.prog H t ad = some v) : resA Try.prog fn (RL n r) H = some v := by
  unfold resA
  rw [hr]
  have : (RL n r).f a = lk r a := rfl
  simp [resOne, this, ha, ptr?, hl, oneOrAll]
noncomputable def X0 (f : FuncId) : List Tmp := (bif_ (Nat.ble 26 f) (bif_ (Nat.ble 39 f) (bif_ (Nat.ble 45 f) (bif_ (Nat.ble 48 f) (bif_ (Nat.ble 50 f) (bif_ (Nat.ble 51 f) [0, 2, 3, 7, 37] [0, 2, 3, 4, 5, 9, 22]) (bif_ (Nat.ble 49 f) [0, 2, 3, 4, 5, 6, 7, 8, 30] [0, 1, 4, 5, 7, 8, 9, 16])) (bif_ (Nat.ble 46 f) (bif_ (Nat.ble 47 f) [0, 1, 2, 4, 5, 6, 7, 8, 9, 10, 16, 35, 46, 61] [0, 2, 3, 4, 5, 7, 8, 9, 22]) [0, 2])) (bif_ (Nat.ble 42 f) (bif_ (Nat.ble 43 f) (bif_ (Nat.ble 44 f) [0, 1, 4] [0, 1, 2, 3]) [0, 1, 2, 3, 4]) (bif_ (Nat.ble 40 f) (bif_ (Nat.ble 41 f) [0, 1, 2, 3] [0, 1, 2]) [0, 1, 2]))) (bif_ (Nat.ble 32 f) (bif_ (Nat.ble 35 f) (bif_ (Nat.ble 37 f) (bif_ (Nat.ble 38 f) [0, 1, 4, 5, 6, 7, 8, 9, 10, 11, 13, 21, 45, 57] [0, 1, 2, 3, 4]) (bif_ (Nat.ble 36 f) [0, 2, 4] [0, 1, 2, 6, 8, 9, 10, 11, 12, 25])) (bif_ (Nat.ble 33 f) (bif_ (Nat.ble 34 f) [0, 2] [0, 1, 4, 8]) [0, 2, 4])) (bif_ (Nat.ble 29 f) (bif_ (Nat.ble 30 f) (bif_ (Nat.ble 31 f) [0, 1, 3, 4, 5, 6, 7, 8, 9, 33, 53, 57, 68] [0, 1, 2, 3, 6, 7, 21]) [0, 1, 2, 3, 6]) (bif_ (Nat.ble 27 f) (bif_ (Nat.ble 28 f) [0, 1, 2, 3, 6, 7, 8] [0, 1, 2, 6, 7, 8]) [0, 1, 2, 4, 5, 10, 24])))) (bif_ (Nat.ble 13 f) (bif_ (Nat.ble 19 f) (bif_ (Nat.ble 22 f) (bif_ (Nat.ble 24 f) (bif_ (Nat.ble 25 f) [0, 1, 3, 5] [0, 1, 3, 4, 22]) (bif_ (Nat.ble 23 f) [0, 1, 2, 3, 4, 5, 26] [0, 1, 2, 4, 5, 6, 7, 8, 9, 10, 12, 13, 16, 25, 30, 59, 64, 84, 110])) (bif_ (Nat.ble 20 f) (bif_ (Nat.ble 21 f) [0, 1, 2, 4, 5, 6, 7, 30, 37, 59] [0, 2, 3]) [0, 1, 2, 6, 7, 10])) (bif_ (Nat.ble 16 f) (bif_ (Nat.ble 17 f) (bif_ (Nat.ble 18 f) [0, 1, 4, 5, 6, 24] [0, 1, 4, 5, 10, 14, 26]) [0, 2, 4]) (bif_ (Nat.ble 14 f) (bif_ (Nat.ble 15 f) [0, 1, 4, 5, 6, 7, 8, 11, 14, 36, 63, 68, 96] [0, 2, 4]) [0, 1, 2, 6, 7, 25]))) (bif_ (Nat.ble 6 f) (bif_ (Nat.ble 9 f) (bif_ (Nat.ble 11 f) (bif_ (Nat.ble 12 f) [0, 1, 2, 4, 25] [0, 1, 4, 5, 6, 7, 16]) (bif_ (Nat.ble 10 f) [0, 1, 2] [0, 1, 2, 3, 4, 5, 12])) (bif_ (Nat.ble 7 f) (bif_ (Nat.ble 8 f) [0, 1, 2, 3, 5, 6, 7] [0, 1, 2, 3, 6, 7, 8, 9, 10, 11, 12, 13, 14, 15, 16, 17, 18, 19, 20, 21, 22, 23, 24, 27, 44, 46, 54, 70, 138, 164, 180, 191, 206]) [0, 1, 4, 5, 6, 7, 8, 9, 10, 11, 12, 13, 14, 15, 18, 24, 27, 40, 48, 63, 76, 91, 95, 107])) (bif_ (Nat.ble 3 f) (bif_ (Nat.ble 4 f) (bif_ (Nat.ble 5 f) [0, 1, 2, 4, 5, 6, 7, 8, 9, 10, 13, 24, 28, 42] [0, 1, 4, 5, 6, 7, 8, 9, 10, 11, 15, 30, 33, 45]) [0, 1, 2, 3, 4, 8, 9, 10, 11, 12, 13, 16, 44]) []))))
theorem begun_ran : okF (runF Try.prog X0 1000 40 9 [] Hp.nil) = true := by kernel_rfl
theorem begun_spec (H : Heap) : ∃ v H', Spec Try.prog 9 [] H v H' ∧ v = .bool true ∧ H' = H := ⟨_, _, okF_any mixed begun_ran H, rfl, rfl⟩

def termOf (x tm : Int) (es : List Entry) (i : Int) : Int × Bool :=
  if i < x ∨ i > x + es.length then (0, false) else if i = x then (tm, true) else match es[(i - (x + 1)).toNat]? with
    | some e => (e.term, true)
    | none => (0, false)
def fitsB (x tm : Int) (es : List Entry) (i t : Int) : Bool := (termOf x tm es i).2 && ((termOf x tm es i).1 == t)
def newerB (x tm : Int) (es : List Entry) (i t : Int) : Bool := decide (t > (termOf x tm es (x + es.length)).1) || ((t == (termOf x tm es (x + es.length)).1) && decide (i ≥ x + es.length))
def stays (x tm : Int) (es : List Entry) (u : Entry) : Bool := decide (u.index ≤ x) || fitsB x tm es u.index u.term
def conseq : List Entry → Prop
  | a :: b :: l => b.index = IntKind.i64.wrap (a.index + 1) ∧ conseq (b :: l)
  | _ => True
theorem rowOk_conseq : ∀ {l : List Entry} {i t : Int}, rowOk i t l = true → conseq l
  | [], _, _, _ => trivial
  | [_], _, _, _ => trivial
  | a :: b :: l, i, t, h => by
    rw [rowOk] at h
    split at h
    · cases h
    · refine ⟨?_, rowOk_conseq h⟩
      rw [rowOk] at h
      split at h
      · cases h
      · rename_i h2
        simp only [Bool.or_eq_true, bne_iff_ne, ne_eq, decide_eq_true_eq, not_or, Decidable.not_not] at h2
        exact h2.1
theorem conseq_tail {a : Entry} : ∀ {l : List Entry}, conseq (a :: l) → conseq l
  | [], _ => trivial
  | _ :: _, h => h.2
theorem wrap_id {n : Int} (h0 : -9223372036854775808 ≤ n) (h1 : n ≤ 9223372036854775807) : IntKind.i64.wrap n = n := by
  rw [IntKind.wrap_i64]; omega
def putC (x tm : Int) (es us : List Entry) : Option Bool :=
  match us with
  | [] => some true
  | u0 :: _ => if u0.index > x + es.length + 1 ∨ rowOk (IntKind.i64.wrap (u0.index - 1)) u0.term us = false then some false else
    match us.dropWhile (stays x tm es) with
    | [] => some true
    | u :: l => if u.term < (termOf x tm es (u.index - 1)).1 ∨ u.index - (x + 1) + ((l.length : Int) + 1) > 200 then some false else none

theorem putC_bad {x tm : Int} {es us : List Entry} {e : Entry} (he : us[0]? = some e) (h : e.index > x + es.length + 1 ∨ rowOk (IntKind.i64.wrap (e.index - 1)) e.term us = false) : putC x tm es us = some false := by
  cases us with
  | nil => simp at he
  | cons u0 us => simp at he; subst he; simp only [putC]; rw [if_pos h]
theorem putC_done {x tm : Int} {es us : List Entry} {e : Entry} (he : us[0]? = some e) (h : e.index ≤ x + es.length + 1) (h2 : rowOk (IntKind.i64.wrap (e.index - 1)) e.term us = true) (hd : us.dropWhile (stays x tm es) = []) : putC x tm es us = some true := by
  cases us with
  | nil => simp at he
  | cons u0 us => simp at he; subst he; simp only [putC]; rw [if_neg (by rw [h2]; simp; omega), hd]
theorem putC_full {x tm : Int} {es us : List Entry} {e u : Entry} {l : List Entry} (he : us[0]? = some e) (h : e.index ≤ x + es.length + 1) (h2 : rowOk (IntKind.i64.wrap (e.index - 1)) e.term us = true) (hd : us.dropWhile (stays x tm es) = u :: l)
    (h3 : u.term < (termOf x tm es (u.index - 1)).1 ∨ u.index - (x + 1) + ((l.length : Int) + 1) > 200) : putC x tm es us = some false := by
  cases us with
  | nil => simp at he
  | cons u0 us => simp at he; subst he; simp only [putC]; rw [if_neg (by rw [h2]; simp; omega), hd]; simp only; rw [if_pos h3]
theorem putC_go {x tm : Int} {es us : List Entry} {e u : Entry} {l : List Entry} (he : us[0]? = some e) (h : e.index ≤ x + es.length + 1) (h2 : rowOk (IntKind.i64.wrap (e.index - 1)) e.term us = true) (hd : us.dropWhile (stays x tm es) = u :: l)
    (h3 : ¬ (u.term < (termOf x tm es (u.index - 1)).1 ∨ u.index - (x + 1) + ((l.length : Int) + 1) > 200)) : putC x tm es us = none := by
  cases us with
  | nil => simp at he
  | cons u0 us => simp at he; subst he; simp only [putC]; rw [if_neg (by rw [h2]; simp; omega), hd]; simp only; rw [if_neg h3]
theorem next_le {e : Entry} {L1 : List Entry} {m : Int} (hc : conseq (e :: L1)) (h0 : -9223372036854775808 ≤ e.index) (h1 : e.index ≤ m) (hm : m ≤ 4611686018427387904) : ∀ u, L1[0]? = some u → u.index ≤ m + 1 := by
  intro u hu
  cases L1 with
  | nil => simp at hu
  | cons y l =>
    simp at hu
    subst hu
    have := hc.1
    rw [wrap_id (by omega) (by omega)] at this
    omega
theorem fits_le {x tm : Int} {es : List Entry} {i t : Int} (h : fitsB x tm es i t = true) : i ≤ x + es.length := by
  unfold fitsB termOf at h
  split at h
  · simp at h
  · omega
theorem dw_head {p : Entry → Bool} {l : List Entry} {e : Entry} (h : l[0]? = some e) (hn : p e = false) : l.dropWhile p = e :: l.drop 1 := by
  cases l with
  | nil => simp at h
  | cons a l => simp at h; subst h; simp [List.dropWhile, hn]
theorem head_drop {l : List Entry} {e : Entry} (h : l[0]? = some e) : l = e :: l.drop 1 := by
  cases l with
  | nil => simp at h
  | cons a l => simp at h; subst h; rfl
theorem rowOk_cons {i t : Int} {e : Entry} {l : List Entry} : rowOk i t (e :: l) = true ↔ e.index = IntKind.i64.wrap (i + 1) ∧ t ≤ e.term ∧ rowOk e.index e.term l = true := by
  rw [rowOk]
  split
  · rename_i h
    simp only [Bool.or_eq_true, bne_iff_ne, ne_eq, decide_eq_true_eq] at h
    constructor
    · intro h; cases h
    · rintro ⟨h1, h2, _⟩; rcases h with h | h
      · exact absurd h1 h
      · omega
  · rename_i h
    simp only [Bool.or_eq_true, bne_iff_ne, ne_eq, decide_eq_true_eq, not_or, Decidable.not_not] at h
    exact ⟨fun k => ⟨h.1, by omega, k⟩, fun k => k.2.2⟩
theorem rowOk_at : ∀ {l : List Entry} {i t : Int}, rowOk i t l = true → 0 ≤ i → i + l.length ≤ 4611686018427387904 → ∀ (k : Nat) (e : Entry), l[k]? = some e → e.index = i + 1 + k
  | [], _, _, _, _, _, k, e, h => by simp at h
  | a :: l, i, t, h, h0, hm, k, e, he => by
    obtain ⟨h1, _, h3⟩ := rowOk_cons.1 h
    simp only [List.length_cons] at hm
    rw [wrap_id (by omega) (by omega)] at h1
    cases k with
    | zero => simp at he; subst he; omega
    | succ k =>
      have := rowOk_at h3 (by omega) (by omega) k e (by simpa using he)
      rw [this, h1]; omega
theorem rowOk_take : ∀ {l : List Entry} {i t : Int} (m : Nat), rowOk i t l = true → rowOk i t (l.take m) = true
  | [], _, _, _, h => by simpa using h
  | a :: l, i, t, 0, h => rfl
  | a :: l, i, t, m + 1, h => by
    obtain ⟨h1, h2, h3⟩ := rowOk_cons.1 h
    rw [List.take_succ_cons]
    exact rowOk_cons.2 ⟨h1, h2, rowOk_take m h3⟩
/-- From some element on. -/
theorem rowOk_from : ∀ {l : List Entry} {i t : Int} (k : Nat) (e : Entry), rowOk i t l = true → l[k]? = some e → ∃ i', rowOk i' e.term (l.drop k) = true ∧ e.index = IntKind.i64.wrap (i' + 1)
  | [], _, _, k, e, _, h => by simp at h
  | a :: l, i, t, 0, e, h, he => by
    simp at he; subst he
    obtain ⟨h1, h2, h3⟩ := rowOk_cons.1 h
    exact ⟨i, rowOk_cons.2 ⟨h1, Int.le_refl _, h3⟩, h1⟩
  | a :: l, i, t, k + 1, e, h, he => by
    obtain ⟨h1, h2, h3⟩ := rowOk_cons.1 h
    simpa using rowOk_from k e h3 (by simpa using he)
theorem rowOk_shift {i i' t : Int} : ∀ {l : List Entry}, rowOk i t l = true → IntKind.i64.wrap (i + 1) = IntKind.i64.wrap (i' + 1) → rowOk i' t l = true
  | [], _, _ => rfl
  | a :: l, h, hi => by
    obtain ⟨h1, h2, h3⟩ := rowOk_cons.1 h
    exact rowOk_cons.2 ⟨by rw [h1, hi], h2, h3⟩
theorem dropWhile_all {p : Entry → Bool} : ∀ {l : List Entry}, (∀ u ∈ l, p u = true) → l.dropWhile p = []
  | [], _ => rfl
  | a :: l, h => by rw [List.dropWhile_cons_of_pos (h a (by simp))]; exact dropWhile_all fun u hu => h u (by simp [hu])
theorem getE_sub {x : Int} {es : List Entry} {i n : Int} : ∀ u ∈ getE x es i n, u ∈ es := by
  intro u hu
  unfold getE at hu
  split at hu
  · cases hu
  · exact List.mem_of_mem_drop (List.mem_of_mem_take hu)
theorem getE_len (x : Int) (es : List Entry) (i n : Int) : (getE x es i n).length ≤ es.length := by
  unfold getE
  split
  · simp
  · rw [List.length_take, List.length_drop]; omega
theorem newOk_row {x tm : Int} {es : List Entry} (h : newOk x tm es = true) : rowOk x tm es = true := by
  simp only [newOk, Bool.and_eq_true] at h; exact h.2
theorem row_in {x tm : Int} {es : List Entry} (h : rowOk x tm es = true) (h0 : 0 ≤ x) (h1 : x ≤ 1099511627776) (hl : es.length ≤ 1000000) : ∀ u ∈ es, -9223372036854775808 ≤ u.index ∧ u.index ≤ 9223372036854775807 := by
  intro u hu
  obtain ⟨k, hk⟩ := List.mem_iff_getElem?.1 hu
  have := rowOk_at h h0 (by omega) k u hk
  have := (List.getElem?_eq_some_iff.1 hk).1
  omega
theorem stays_mem {x tm : Int} {es : List Entry} (h : rowOk x tm es = true) (h0 : 0 ≤ x) (h1 : x ≤ 1099511627776) (hl : es.length ≤ 1000000) : ∀ u ∈ es, stays x tm es u = true := by
  intro u hu
  obtain ⟨k, hk⟩ := List.mem_iff_getElem?.1 hu
  have h2 := rowOk_at h h0 (by omega) k u hk
  have h3 := (List.getElem?_eq_some_iff.1 hk).1
  simp only [stays, Bool.or_eq_true]
  refine .inr ?_
  have : termOf x tm es u.index = (u.term, true) := by
    rw [termOf, if_neg (by omega), if_neg (by omega), show (u.index - (x + 1)).toNat = k by omega, hk]
  rw [fitsB, this]
  simp
theorem again_put {x tm : Int} {es : List Entry} {fr n : Int} (h : rowOk x tm es = true) (h0 : 0 ≤ x) (h1 : x ≤ 1099511627776) (hl : es.length ≤ 1000000) (hf : 0 ≤ fr) (hf2 : fr < es.length) : putC x tm es (getE x es (x + 1 + fr) n) = some true := by
  by_cases hn : n < 1
  · rw [show getE x es (x + 1 + fr) n = [] by unfold getE; rw [if_pos (by omega)]]; rfl
  · have hg : getE x es (x + 1 + fr) n = (es.drop fr.toNat).take n.toNat := by
      unfold getE; rw [if_neg (by omega), show (x + 1 + fr - (x + 1)).toNat = fr.toNat by omega]
    obtain ⟨e, he⟩ : ∃ e, es[fr.toNat]? = some e := ⟨_, List.getElem?_eq_getElem (by omega)⟩
    have hi := rowOk_at h h0 (by omega) _ e he
    obtain ⟨i', hr, hi'⟩ := rowOk_from _ e h he
    have hhead : (getE x es (x + 1 + fr) n)[0]? = some e := by
      rw [hg, List.getElem?_take, if_pos (by omega), List.getElem?_drop, Nat.add_zero, he]
    refine putC_done hhead (by omega) ?_ (dropWhile_all fun u hu => stays_mem h h0 h1 hl u (getE_sub u hu))
    rw [hg]
    refine rowOk_take _ (rowOk_shift hr ?_)
    rw [← hi', wrap_id (n := e.index - 1) (by omega) (by omega), Int.sub_add_cancel, wrap_id (by omega) (by omega)]

def entN (j : Nat) : Entry := ⟨(j : Int) + 1, 1, 1, ⟨#[]⟩⟩
def entsN (n : Nat) : List Entry := (List.range n).map entN
theorem entsN_len (n : Nat) : (entsN n).length = n := by simp [entsN]
theorem entsN_succ (n : Nat) : entsN (n + 1) = entsN n ++ [entN n] := by simp [entsN, List.range_succ]
theorem entsN_at {n k : Nat} (h : k < n) : (entsN n)[k]? = some (entN k) := by simp [entsN, h]
theorem rowOk_snoc {i t : Int} : ∀ {l : List Entry} {e : Entry}, rowOk i t l = true → 0 ≤ i → i + l.length ≤ 4611686018427387904 → e.index = i + l.length + 1 → (∀ u ∈ l, u.term ≤ e.term) → t ≤ e.term → rowOk i t (l ++ [e]) = true
  | [], e, _, h0, hm, hi, _, ht => rowOk_cons.2 ⟨by rw [wrap_id (by simp at hm; omega) (by simp at hm; omega), hi]; simp, ht, rfl⟩
  | a :: l, e, h, h0, hm, hi, hu, ht => by
    obtain ⟨h1, h2, h3⟩ := rowOk_cons.1 h
    simp only [List.length_cons] at hm hi
    have h1' := h1
    rw [wrap_id (by omega) (by omega)] at h1'
    rw [List.cons_append]
    exact rowOk_cons.2 ⟨h1, h2, rowOk_snoc h3 (by omega) (by omega) (by rw [hi, h1']; omega) (fun u hu' => hu u (by simp [hu'])) (hu a (by simp))⟩
theorem entsN_row : ∀ n : Nat, n ≤ 50 → rowOk 0 0 (entsN n) = true
  | 0, _ => rfl
  | n + 1, h => by
    rw [entsN_succ]
    refine rowOk_snoc (entsN_row n (by omega)) (by decide) (by rw [entsN_len]; omega) (by rw [entsN_len]; simp [entN]) (fun u hu => ?_) (by simp [entN])
    obtain ⟨j, _, rfl⟩ := List.mem_map.1 hu
    simp [entN]
theorem entsN_new {n : Nat} (h : n ≤ 50) : newOk 0 0 (entsN n) = true := by
  simp only [newOk, Bool.and_eq_true, decide_eq_true_eq]
  exact ⟨⟨by decide, by rw [entsN_len]; omega⟩, entsN_row n h⟩
def entX (at_ : Int) : Entry := ⟨at_, 2, 1, ⟨#[]⟩⟩
theorem entX_stays {n : Nat} {a : Int} (h1 : 1 ≤ a) (h2 : a ≤ n) : stays 0 0 (entsN n) (entX a) = false := by
  have : termOf 0 0 (entsN n) a = (1, true) := by
    rw [termOf, entsN_len, if_neg (by omega), if_neg (by omega), entsN_at (by omega)]
    rfl
  simp only [stays, fitsB, entX, this, Bool.or_eq_false_iff, decide_eq_false_iff_not]
  exact ⟨decide_eq_false (by omega), rfl⟩
theorem entX_prev {n : Nat} {a : Int} (h1 : 1 ≤ a) (h2 : a ≤ n) : (termOf 0 0 (entsN n) (a - 1)).1 ≤ 1 := by
  rw [termOf, entsN_len, if_neg (by omega)]
  split
  · decide
  · rw [entsN_at (by omega)]; exact Int.le_refl _
theorem cut_put {n : Nat} {a : Int} (h1 : 1 ≤ a) (h2 : a ≤ n) (hn : n ≤ 50) : putC 0 0 (entsN n) [entX a] = none := by
  refine putC_go (e := entX a) rfl ?_ ?_ (dw_head (e := entX a) rfl (entX_stays h1 h2)) ?_
  · rw [entsN_len]; show a ≤ _; omega
  · refine rowOk_cons.2 ⟨?_, Int.le_refl _, rfl⟩
    show a = _
    rw [show (entX a).index = a from rfl, wrap_id (n := a - 1) (by omega) (by omega), Int.sub_add_cancel, wrap_id (by omega) (by omega)]
  · have := entX_prev h1 h2
    rw [not_or]
    refine ⟨?_, ?_⟩
    · show ¬ (2 : Int) < _
      rw [show (entX a).index = a from rfl]; omega
    · rw [show (entX a).index = a from rfl]; simp; omega
def cutL (n : Nat) (a : Int) : List Entry := (entsN n).take (a - (0 + 1)).toNat ++ [entX a]
theorem cutL_len {n : Nat} {a : Int} (h1 : 1 ≤ a) (h2 : a ≤ n) : ((cutL n a).length : Int) = a := by
  simp only [cutL, List.length_append, List.length_take, entsN_len, List.length_singleton]; omega
theorem cutL_term {n : Nat} {a : Int} (h1 : 1 ≤ a) (h2 : a ≤ n) : termOf 0 0 (cutL n a) a = (2, true) := by
  have hl := cutL_len h1 h2
  rw [termOf, if_neg (by omega), if_neg (by omega)]
  have : (cutL n a)[(a - (0 + 1)).toNat]? = some (entX a) := by
    unfold cutL
    have : ((entsN n).take (a - (0 + 1)).toNat).length = (a - (0 + 1)).toNat := by rw [List.length_take, entsN_len]; omega
    rw [List.getElem?_append_right (by omega), this, Nat.sub_self]; rfl
  rw [this]; rfl
theorem cutL_newer {n : Nat} {a : Int} (h1 : 1 ≤ a) (h2 : a ≤ n) (i t : Int) : newerB 0 0 (cutL n a) i t = (decide (t > 2) || ((t == 2) && decide (i ≥ a))) := by
  have hl := cutL_len h1 h2
  unfold newerB
  rw [show (0 : Int) + ((cutL n a).length : Int) = a by omega, cutL_term h1 h2]

def mayR : Int → List Int → Bool
  | _, [] => true
  | p, a :: l => !(decide (a < 1) || decide (a > 7) || decide (p ≥ a)) && mayR a l
def mayL (l : List Int) : Bool := mayR 0 l && decide ((l.length : Int) > 0)
def decN (s : ByteArray) : List Int := s.data.toList.map fun b => (b.toNat : Int) - 48
def okS (s : ByteArray) : Bool := mayL (decN s)
def decS (s : ByteArray) : List Int := if okS s then decN s else []
theorem decN_len (s : ByteArray) : (decN s).length = s.size := by simp [decN]

def confDn (es : List Entry) : Nat → Option (Nat × ByteArray)
  | 0 => none
  | k + 1 => match es[k]? with
    | some e => if okS e.data && e.kind == 3 then some (k, e.data) else confDn es k
    | none => none
def confF (x : Int) (cf : ByteArray) (es : List Entry) (i : Int) : List Int × Int :=
  match confDn es ((if x + es.length < i then x + es.length else i) - x).toNat with
  | some (k, d) => (decS d, x + 1 + k)
  | none => if okS cf then (decS cf, x) else ([], 0)

abbrev c12 : ByteArray := ⟨#[49, 50]⟩
abbrev c123 : ByteArray := ⟨#[49, 50, 51]⟩
abbrev c1234 : ByteArray := ⟨#[49, 50, 51, 52]⟩
abbrev c13 : ByteArray := ⟨#[49, 51]⟩
abbrev cx : ByteArray := ⟨#[120]⟩
theorem ev_remE {P : Program} {E : TypeId → Bool} {H : Heap} {dst : Option Tmp} {op : BinOp} {t t2 : TypeId} {x y : Operand} {ty : TypeId} {pos : String} {af : Array Edge} {g : Option (Nat × Bool)} {R : Regs} {m z : Nat} (hz : m % 4 = z) (hx : R.eval x = some (.int .i64 (m : Int))) (hy : R.eval y = some (.int .i64 4)) (ho : op = .rem) :
    evOp P E R H ⟨dst, .binOp op t x y t2, ty, pos, af, g⟩ = some (.int .i64 (z : Int), H, []) := by
  subst hz ho
  refine ev_int hx hy ?_
  show (if (4 : Int) = 0 then none else some (Value.int .i64 ((m : Int).tmod 4))) = _
  rw [if_neg (by decide)]
  rfl
theorem ev_subW {P : Program} {E : TypeId → Bool} {H : Heap} {dst : Option Tmp} {op : BinOp} {t t2 : TypeId} {x y : Operand} {ty : TypeId} {pos : String} {af : Array Edge} {g : Option (Nat × Bool)} {R : Regs} {a b z : Int} (hw : IntKind.u8.wrap (a - b) = z) (hx : R.eval x = some (.int .u8 a)) (hy : R.eval y = some (.int .u8 b)) (ho : op = .sub) :
    evOp P E R H ⟨dst, .binOp op t x y t2, ty, pos, af, g⟩ = some (.int .u8 z, H, []) := by
  subst hw ho
  exact ev_int hx hy rfl
theorem confDn_app (L : List Entry) (e : Entry) : ∀ k, k ≤ L.length → confDn (L ++ [e]) k = confDn L k
  | 0, _ => rfl
  | k + 1, h => by
    rw [confDn, confDn, List.getElem?_append_left (by omega), confDn_app L e k (by omega)]
theorem confDn_snoc (L : List Entry) (e : Entry) : confDn (L ++ [e]) (L ++ [e]).length = if okS e.data && e.kind == 3 then some (L.length, e.data) else confDn L L.length := by
  rw [List.length_append, List.length_singleton, confDn, List.getElem?_append_right (Nat.le_refl _), Nat.sub_self, confDn_app L e L.length (Nat.le_refl _)]
  rfl
def wantOk (wt : ByteArray) : Prop := wt = c123 ∨ wt = c12 ∨ wt = c1234 ∨ wt = c13
def confOk (L : List Entry) (wt : ByteArray) (wh : Int) : Prop := (confDn L L.length = none ∧ wt = c123 ∧ wh = 5) ∨ ∃ k : Nat, confDn L L.length = some (k, wt) ∧ wh = 6 + k
def kindOk (kd : Int) (dt : ByteArray) : Prop := (kd = 1 ∧ dt = c12) ∨ (kd = 3 ∧ (dt = c12 ∨ dt = c1234 ∨ dt = cx ∨ dt = c13))
theorem conf_new {L : List Entry} {wt dt : ByteArray} {wh ix : Int} (hk : kindOk 3 dt) (hx : (!(dt.toList == cx.toList)) = true) (hi : ix = 6 + L.length) : confOk (L ++ [⟨ix, 1, 3, dt⟩]) dt ix ∧ wantOk dt := by
  have hd : dt = c12 ∨ dt = c1234 ∨ dt = c13 := by
    rcases hk with ⟨h, _⟩ | ⟨_, h | h | h | h⟩
    · cases h
    · exact .inl h
    · exact .inr (.inl h)
    · subst h; simp at hx
    · exact .inr (.inr h)
  have hok : okS dt = true := by rcases hd with rfl | rfl | rfl <;> decide +kernel
  refine ⟨.inr ⟨L.length, ?_, hi⟩, ?_⟩
  · rw [confDn_snoc]; simp [hok]
  · rcases hd with h | h | h
    · exact .inr (.inl h)
    · exact .inr (.inr (.inl h))
    · exact .inr (.inr (.inr h))
theorem conf_old {L : List Entry} {wt dt : ByteArray} {wh ix kd : Int} (ho : confOk L wt wh) (h : kd ≠ 3 ∨ dt.toList = cx.toList) (hk : kindOk kd dt) : confOk (L ++ [⟨ix, 1, kd, dt⟩]) wt wh := by
  have hno : (okS dt && kd == 3) = false := by
    rcases h with h | h
    · simp [h]
    · rcases hk with ⟨rfl, rfl⟩ | ⟨_, rfl | rfl | rfl | rfl⟩
      · simp
      · exact absurd h (by decide +kernel)
      · exact absurd h (by decide +kernel)
      · rw [show okS cx = false by decide +kernel]; rfl
      · exact absurd h (by decide +kernel)
  unfold confOk
  rw [confDn_snoc]
  simp only [hno]
  exact ho
theorem conf_end {L : List Entry} {wt : ByteArray} {wh : Int} (ho : confOk L wt wh) : confF 5 c123 L (5 + (L.length : Int)) = (decS wt, wh) := by
  unfold confF
  rw [if_neg (by omega), show (5 + (L.length : Int) - 5).toNat = L.length by omega]
  rcases ho with ⟨h, rfl, rfl⟩ | ⟨k, h, rfl⟩
  · rw [h, show okS c123 = true by decide +kernel]; rfl
  · rw [h]; rfl
theorem want_dec {wt : ByteArray} (h : wantOk wt) : decS wt = decN wt ∧ (∀ y ∈ wt.data.toList, 49 ≤ y.toNat ∧ y.toNat ≤ 57) ∧ wt.size ≤ 4 := by
  rcases h with rfl | rfl | rfl | rfl
  · exact ⟨by rw [decS, show okS c123 = true by decide +kernel]; rfl, by decide, by decide⟩
  · exact ⟨by rw [decS, show okS c12 = true by decide +kernel]; rfl, by decide, by decide⟩
  · exact ⟨by rw [decS, show okS c1234 = true by decide +kernel]; rfl, by decide, by decide⟩
  · exact ⟨by rw [decS, show okS c13 = true by decide +kernel]; rfl, by decide, by decide⟩
theorem kind_size {kd : Int} {dt : ByteArray} (h : kindOk kd dt) : dt.size ≤ 1000000 := by
  rcases h with ⟨_, rfl⟩ | ⟨_, rfl | rfl | rfl | rfl⟩ <;> decide

theorem ElemInfo.mk37 : ∃ i, Try.prog.info? 37 = some i ∧ i.size = 4 ∧ i.bytes = 40 ∧ (i.zero.map fun z => z.cells.size) = some 4 := elemInfo (by kernel_rfl)
theorem ElemInfo.mk3 : ∃ i, Try.prog.info? 3 = some i ∧ i.size = 1 ∧ i.bytes = 8 ∧ (i.zero.map fun z => z.cells.size) = some 1 := elemInfo (by kernel_rfl)
theorem ElemInfo.mk9 : ∃ i, Try.prog.info? 9 = some i ∧ i.size = 1 ∧ i.bytes = 16 ∧ (i.zero.map fun z => z.cells.size) = some 1 := elemInfo (by kernel_rfl)
theorem ElemInfo.mk2 : ∃ i, Try.prog.info? 2 = some i ∧ i.size = 1 ∧ i.bytes = 8 ∧ (i.zero.map fun z => z.cells.size) = some 1 := elemInfo (by kernel_rfl)
theorem zf2 : ∃ i z, Try.prog.info? 2 = some i ∧ i.zero = some z ∧ z.cells.toList.all flat = true := zeroFlat (by kernel_rfl)
theorem zf3 : ∃ i z, Try.prog.info? 3 = some i ∧ i.zero = some z ∧ z.cells.toList.all flat = true := zeroFlat (by kernel_rfl)
theorem zf37 : ∃ i z, Try.prog.info? 37 = some i ∧ i.zero = some z ∧ z.cells.toList.all flat = true := zeroFlat (by kernel_rfl)
theorem zf9 : ∃ i z, Try.prog.info? 9 = some i ∧ i.zero = some z ∧ z.cells.toList.all flat = true := zeroFlat (by kernel_rfl)
theorem el24 : elemIs Try.prog 24 4 = true := by kernel_rfl
theorem el42 : elemIs Try.prog 42 1 = true := by kernel_rfl
theorem el43 : elemIs Try.prog 43 1 = true := by kernel_rfl
theorem el71 : elemIs Try.prog 71 1 = true := by kernel_rfl
theorem ent10 : enters Try.prog 10 = true := by kernel_rfl
theorem ent11 : enters Try.prog 11 = true := by kernel_rfl
theorem ent12 : enters Try.prog 12 = true := by kernel_rfl
theorem ent13 : enters Try.prog 13 = true := by kernel_rfl
theorem ent14 : enters Try.prog 14 = true := by kernel_rfl
theorem ent15 : enters Try.prog 15 = true := by kernel_rfl
theorem ent16 : enters Try.prog 16 = true := by kernel_rfl
theorem ent17 : enters Try.prog 17 = true := by kernel_rfl
theorem ent18 : enters Try.prog 18 = true := by kernel_rfl
theorem ent19 : enters Try.prog 19 = true := by kernel_rfl
theorem ent20 : enters Try.prog 20 = true := by kernel_rfl
theorem ent27 : enters Try.prog 27 = true := by kernel_rfl
theorem ent33 : enters Try.prog 33 = true := by kernel_rfl
theorem ent34 : enters Try.prog 34 = true := by kernel_rfl
theorem ent35 : enters Try.prog 35 = true := by kernel_rfl
theorem ent36 : enters Try.prog 36 = true := by kernel_rfl
theorem ent37 : enters Try.prog 37 = true := by kernel_rfl
theorem ent38 : enters Try.prog 38 = true := by kernel_rfl
theorem ent44 : enters Try.prog 44 = true := by kernel_rfl
theorem ent45 : enters Try.prog 45 = true := by kernel_rfl
theorem ent46 : enters Try.prog 46 = true := by kernel_rfl
theorem ent48 : enters Try.prog 48 = true := by kernel_rfl
theorem ent49 : enters Try.prog 49 = true := by kernel_rfl
theorem ent9 : enters Try.prog 9 = true := by kernel_rfl
theorem eok24 : ElemOk Try.prog 24 37 4 40 := ⟨Try.underlying24, ElemInfo.mk37⟩
theorem eok42 : ElemOk Try.prog 42 3 1 8 := ⟨Try.underlying42, ElemInfo.mk3⟩
theorem eok43 : ElemOk Try.prog 43 9 1 16 := ⟨Try.underlying43, ElemInfo.mk9⟩
theorem eok71 : ElemOk Try.prog 71 2 1 8 := ⟨Try.underlying71, ElemInfo.mk2⟩
theorem fa23_0 : fieldIs Try.prog 23 0 0 = true := by kernel_rfl
theorem fa23_1 : fieldIs Try.prog 23 1 1 = true := by kernel_rfl
theorem fa23_2 : fieldIs Try.prog 23 2 2 = true := by kernel_rfl
theorem fa23_3 : fieldIs Try.prog 23 3 3 = true := by kernel_rfl
theorem fa37_0 : fieldIs Try.prog 37 0 0 = true := by kernel_rfl
theorem fa37_1 : fieldIs Try.prog 37 1 1 = true := by kernel_rfl
theorem fa37_2 : fieldIs Try.prog 37 2 2 = true := by kernel_rfl
theorem fa37_3 : fieldIs Try.prog 37 3 3 = true := by kernel_rfl
theorem fa67_0 : fieldIs Try.prog 67 0 0 = true := by kernel_rfl
theorem fa67_1 : fieldIs Try.prog 67 1 4 = true := by kernel_rfl
theorem isrow24 : isRow Try.prog (some 24) = true := by kernel_rfl
theorem isrow42 : isRow Try.prog (some 42) = true := by kernel_rfl
theorem many23 : manyB Try.prog 23 4 = true := by kernel_rfl
theorem many37 : manyB Try.prog 37 4 = true := by kernel_rfl
theorem one2 : oneB Try.prog 2 = true := by kernel_rfl
theorem one24 : oneB Try.prog 24 = true := by kernel_rfl
theorem one3 : oneB Try.prog 3 = true := by kernel_rfl
theorem one9 : oneB Try.prog 9 = true := by kernel_rfl
theorem pl23 : placesOf Try.prog 23 = some [(0, 1), (1, 1), (2, 1), (3, 1)] := by kernel_rfl
theorem pl37 : placesOf Try.prog 37 = some [(0, 1), (1, 1), (2, 1), (3, 1)] := by kernel_rfl
theorem pl67 : placesOf Try.prog 67 = some [(0, 4), (4, 1)] := by kernel_rfl
theorem size23 : sizeIs Try.prog 23 4 = true := by kernel_rfl
theorem size24 : sizeIs Try.prog 24 1 = true := by kernel_rfl
theorem size3 : sizeIs Try.prog 3 1 = true := by kernel_rfl
theorem size37 : sizeIs Try.prog 37 4 = true := by kernel_rfl
theorem size9 : sizeIs Try.prog 9 1 = true := by kernel_rfl
theorem zero23 : ZeroIs Try.prog 23 [.int .i64 0, .int .i64 0, .string (⟨#[]⟩), .string (⟨#[]⟩)] := ⟨.agg #[.int .i64 0, .int .i64 0, .string (⟨#[]⟩), .string (⟨#[]⟩)], by kernel_rfl, rfl, rfl, rfl⟩
theorem zero37 : ZeroIs Try.prog 37 [.int .i64 0, .int .i64 0, .int .i64 0, .string (⟨#[]⟩)] := ⟨.agg #[.int .i64 0, .int .i64 0, .int .i64 0, .string (⟨#[]⟩)], by kernel_rfl, rfl, rfl, rfl⟩
theorem zero67 : ZeroIs Try.prog 67 [.int .i64 0, .int .i64 0, .string (⟨#[]⟩), .string (⟨#[]⟩), .slice none 0 0] := ⟨.agg #[.int .i64 0, .int .i64 0, .string (⟨#[]⟩), .string (⟨#[]⟩), .slice none 0 0], by kernel_rfl, rfl, rfl, rfl⟩
theorem bad_spec (H : Heap) (n : Int) : ∃ v H', Spec Try.prog 45 [.int .i64 n] H v H' ∧ (v = .bool (badNum n) ∧ H' = H) := by
  refine spec_go1 E0_ok 9 (f := 45) Try.func45 rfl rfl rfl ?_
  refine aw_seq ?_
  refine aw_reg ?_
  refine st_op (ev_assign rfl) rfl rfl rfl ?_
  try show aw _ _ _ _ _ _
  refine aw_seq ?_
  refine aw_reg ?_
  refine st_op (ev_move rfl) rfl rfl rfl ?_
  refine st_op (ev_int rfl rfl rfl) rfl rfl rfl ?_
  refine st_op (ev_move rfl) rfl rfl rfl ?_
  refine st_bool 5 rfl (fun hb1 => ?_) (fun hb1 => ?_)
  ·
    have hb1 := of_decide_eq_true hb1
    refine st_skip rfl rfl rfl ?_
    refine st_skip rfl rfl rfl ?_
    refine st_op (ev_pickT rfl rfl) rfl rfl rfl ?_
    refine st_op (ev_assign rfl) rfl rfl rfl ?_
    try show aw _ _ _ _ _ _
    refine aw_ret ?_
    exact ⟨_, rfl, by first | (simp_all [badNum, oneOrAll]; done) | (simp_all [badNum, oneOrAll]; omega), rfl⟩
  ·
    have hb1 := of_decide_eq_false hb1
    refine st_op (ev_move rfl) rfl rfl rfl ?_
    refine st_op (ev_int rfl rfl rfl) rfl rfl rfl ?_
    refine st_op (ev_pickF rfl rfl) rfl rfl rfl ?_
    refine st_op (ev_assign rfl) rfl rfl rfl ?_
    try show aw _ _ _ _ _ _
    refine aw_ret ?_
    exact ⟨_, rfl, by first | (simp_all [badNum, oneOrAll]; done) | (simp_all [badNum, oneOrAll]; omega), rfl⟩
theorem idx_spec (H : Heap) (A : Option Addr) (ns : List Int) (c : Nat) (hrow : Row H A c 1 (ns.map I64c)) (hc : ns.length ≤ c) (hm : ns.length ≤ 1099511627776) : ∃ v H', Spec Try.prog 48 [.slice A ns.length c, .func (.func 45) #[] #[]] H v H' ∧ (v = .int .i64 (idxF badNum ns 0) ∧ Ext H H') := by
  refine spec_go2 E0_ok 19 (f := 48) Try.func48 rfl rfl rfl ?_
  refine aw_seq ?_
  refine aw_reg ?_
  refine st_op (ev_assign rfl) rfl rfl rfl ?_
  try show aw _ _ _ _ _ _
  refine aw_seq ?_
  refine aw_seq ?_
  refine aw_reg ?_
  refine st_op (ev_move rfl) rfl rfl rfl ?_
  refine st_op (ev_lenSl rfl Try.underlying71) rfl rfl rfl ?_
  refine st_op (ev_move rfl) rfl rfl rfl ?_
  try show aw _ _ _ _ _ _
  refine aw_block ?_
  refine aw_keep [0, 1, 7, 8] (l' := (.cons 0 (.slice A ns.length c) (.cons 1 (.func (.func 45) #[] #[]) (.cons 7 (.int .i64 (ns.length : Int)) (.cons 8 (.int .i64 0) .nil))))) (by repeat (first | exact Up.done | refine Up.then ?_ | refine Up.inBlock ?_)) rfl ?_
  refine aw_iter (α := Nat × Heap) (fun a => ns.length - a.1) (fun a => (.cons 0 (.slice A ns.length c) (.cons 1 (.func (.func 45) #[] #[]) (.cons 7 (.int .i64 (ns.length : Int)) (.cons 8 (.int .i64 (a.1 : Int)) .nil))))) (fun a => a.2) (fun a => (a.1 ≤ ns.length) ∧ (idxF badNum ns 0 = idxF badNum (ns.drop a.1) (a.1 : Int)) ∧ (Ext H a.2)) (0, H) ⟨Nat.zero_le _, rfl, Ext.refl H⟩ ?_
  rintro ⟨i, Hl⟩ ⟨hi, hv, hxl1⟩ ih2
  replace hi : i ≤ ns.length := hi
  replace hv : idxF badNum ns 0 = idxF badNum (ns.drop i) (i : Int) := hv
  replace hxl1 : Ext H Hl := hxl1
  show aw _ _ _ (RL _ (.cons 0 (.slice A ns.length c) (.cons 1 (.func (.func 45) #[] #[]) (.cons 7 (.int .i64 (ns.length : Int)) (.cons 8 (.int .i64 (i : Int)) .nil))))) Hl _
  have hxl1n := hxl1.1
  have hr3 := Row.ext hrow hxl1
  have hx4 : Ext H Hl := Ext.trans (Ext.refl H) hxl1
  refine aw_seq ?_
  refine aw_reg ?_
  refine st_op (ev_int rfl rfl rfl) rfl rfl rfl ?_
  try show aw _ _ _ _ _ _
  refine aw_seq ?_
  refine aw_cond (t := decide ((i : Int) < (ns.length : Int))) rfl ?_
  by_cases hc5 : (decide ((i : Int) < (ns.length : Int))) = true
  · rw [hc5]
    rw [if_pos rfl]
    have hc5 := of_decide_eq_true hc5
    refine aw_skip ?_
    try show aw _ _ _ _ _ _
    refine aw_seq ?_
    refine aw_block ?_
    refine aw_seq ?_
    refine aw_reg ?_
    refine st_op (ev_move rfl) rfl rfl rfl ?_
    refine st_op (ev_assign rfl) rfl rfl rfl ?_
    try show aw _ _ _ _ _ _
    refine aw_seq ?_
    refine aw_reg ?_
    refine st_op (ev_move rfl) rfl rfl rfl ?_
    refine st_op (ev_move rfl) rfl rfl rfl ?_
    refine st_op (ev_move rfl) rfl rfl rfl ?_
    have hi6 : 0 ≤ ((i : Int) : Int) := by omega
    have hi7 : ((i : Int) : Int) < ((ns.length : Nat) : Int) := by omega
    obtain ⟨x8, hx9⟩ : ∃ e, ns[i]? = some e := ⟨_, List.getElem?_eq_getElem (by omega)⟩
    obtain ⟨b10, o11, rfl, hr12⟩ := Row.at_ hr3 (getMap I64c hx9)
    have b10lt := hr12.1
    refine st_op (ev_indexAddr rfl rfl hi6 hi7 el71 (o' := o11 + i * 1) (by first | rfl | (simp only [Int.toNat_natCast]; rfl) | simp)) rfl rfl rfl ?_
    refine st_op (ev_load rfl (hr12.lvar0 one2 (getMap I64c hx9) rfl)) rfl rfl rfl ?_
    refine st_callv rfl rfl rfl rfl rfl ent45 rfl rfl rfl ?_
    obtain ⟨_, _, hs13, hs13v, hs13h⟩ := bad_spec Hl x8
    rw [hs13v, hs13h] at hs13; clear hs13v hs13h
    refine ⟨_, _, hs13, ?_⟩
    try show aw _ _ _ _ _ _
    refine aw_cond (t := badNum x8) rfl ?_
    by_cases hc14 : (badNum x8) = true
    · rw [hc14]
      rw [if_pos rfl]
      refine aw_seq ?_
      refine aw_reg ?_
      refine st_op (ev_move rfl) rfl rfl rfl ?_
      refine st_op (ev_assign rfl) rfl rfl rfl ?_
      try show aw _ _ _ _ _ _
      refine aw_ret ?_
      refine ⟨_, rfl, ?_, hx4⟩; show Value.int _ _ = Value.int _ _; congr 1; rw [hv]; first | (rw [drop_at hx9, idxF]; simp_all; done) | (rw [List.drop_eq_nil_of_le (by omega)]; rfl)
    · rw [Bool.not_eq_true] at hc14; rw [hc14]
      rw [if_neg Bool.false_ne_true]
      refine aw_skip ?_
      try show aw _ _ _ _ _ _
      refine aw_reg ?_
      refine st_op (ev_int64 (c := (i : Int) + 1) rfl rfl rfl (by omega) (by omega)) rfl rfl rfl ?_
      refine st_op (ev_move rfl) rfl rfl rfl ?_
      try show aw _ _ _ _ _ _
      refine aw_keep [0, 1, 7, 8] (l' := (.cons 0 (.slice (some ⟨b10, o11, none⟩) ns.length c) (.cons 1 (.func (.func 45) #[] #[]) (.cons 7 (.int .i64 (ns.length : Int)) (.cons 8 (.int .i64 ((i : Int) + 1)) .nil))))) (by repeat (first | exact Up.done | refine Up.then ?_ | refine Up.inBlock ?_)) rfl ?_
      exact ih2 (i + 1, Hl) ⟨by omega, by rw [hv, drop_at hx9, idxF]; simp_all, hx4⟩ (by simp only; omega)
  · rw [Bool.not_eq_true] at hc5; rw [hc5]
    rw [if_neg Bool.false_ne_true]
    have hc5 := of_decide_eq_false hc5
    refine aw_exit ?_
    try show aw _ _ _ _ _ _
    refine aw_seq ?_
    refine aw_reg ?_
    refine st_op (ev_assign rfl) rfl rfl rfl ?_
    try show aw _ _ _ _ _ _
    refine aw_ret ?_
    refine ⟨_, rfl, ?_, hx4⟩; show Value.int _ _ = Value.int _ _; congr 1; rw [hv]; first | (rw [drop_at hx9, idxF]; simp_all; done) | (rw [List.drop_eq_nil_of_le (by omega)]; rfl)
theorem contains_spec (H : Heap) (A : Option Addr) (ns : List Int) (c : Nat) (hrow : Row H A c 1 (ns.map I64c)) (hc : ns.length ≤ c) (hm : ns.length ≤ 1099511627776) : ∃ v H', Spec Try.prog 44 [.slice A ns.length c, .func (.func 45) #[] #[]] H v H' ∧ (v = .bool (decide (idxF badNum ns 0 ≥ 0)) ∧ Ext H H') := by
  refine spec_go2 E0_ok 9 (f := 44) Try.func44 rfl rfl rfl ?_
  refine aw_seq ?_
  refine aw_reg ?_
  refine st_op (ev_assign rfl) rfl rfl rfl ?_
  try show aw _ _ _ _ _ _
  refine aw_seq ?_
  refine aw_reg ?_
  refine st_op (ev_move rfl) rfl rfl rfl ?_
  refine st_op (ev_move rfl) rfl rfl rfl ?_
  refine st_call rfl rfl rfl ent48 rfl rfl rfl ?_
  obtain ⟨_, H2, hs1, hs1v, hx3⟩ := idx_spec H A ns c hrow hc hm
  rw [hs1v] at hs1; clear hs1v
  have hx3n := hx3.1
  refine ⟨_, H2, hs1, ?_⟩
  have hr4 := Row.ext hrow hx3
  have hx5 : Ext H H2 := Ext.trans (Ext.refl H) hx3
  refine st_op (ev_int rfl rfl rfl) rfl rfl rfl ?_
  refine st_op (ev_assign rfl) rfl rfl rfl ?_
  try show aw _ _ _ _ _ _
  refine aw_ret ?_
  exact ⟨_, rfl, rfl, hx5⟩
theorem in_spec (H : Heap) (A : Option Addr) (ns : List Int) (c : Nat) (hrow : Row H A c 1 (ns.map I64c)) (hc : ns.length ≤ c) (hm : ns.length ≤ 1099511627776) : ∃ v H', Spec Try.prog 34 [.slice A ns.length c] H v H' ∧ (v = .bool (inF ns) ∧ Ext H H') := by
  refine spec_go1 E0_ok 6 (f := 34) Try.func34 rfl rfl rfl ?_
  refine aw_seq ?_
  refine aw_reg ?_
  refine st_op (ev_assign rfl) rfl rfl rfl ?_
  try show aw _ _ _ _ _ _
  refine aw_seq ?_
  refine aw_reg ?_
  refine st_op (ev_move rfl) rfl rfl rfl ?_
  refine st_call rfl rfl rfl ent44 rfl rfl rfl ?_
  obtain ⟨_, H2, hs1, hs1v, hx3⟩ := contains_spec H A ns c hrow hc hm
  rw [hs1v] at hs1; clear hs1v
  have hx3n := hx3.1
  refine ⟨_, H2, hs1, ?_⟩
  have hr4 := Row.ext hrow hx3
  have hx5 : Ext H H2 := Ext.trans (Ext.refl H) hx3
  refine st_op (ev_not rfl) rfl rfl rfl ?_
  refine st_op (ev_assign rfl) rfl rfl rfl ?_
  try show aw _ _ _ _ _ _
  refine aw_ret ?_
  exact ⟨_, rfl, rfl, hx5⟩
theorem row_spec (H : Heap) (index term : Int) (A : Option Addr) (es : List Entry) (c : Nat) (hrow : Row H A c 4 (es.map Entry.cells)) (hc : es.length ≤ c) (hm : es.length ≤ 1099511627776) : ∃ v H', Spec Try.prog 35 [.int .i64 index, .int .i64 term, .slice A es.length c] H v H' ∧ (v = .bool (rowOk index term es) ∧ Ext H H') := by
  refine spec_go3 E0_ok 31 (f := 35) Try.func35 rfl rfl rfl ?_
  refine aw_seq ?_
  refine aw_reg ?_
  refine st_op (ev_assign rfl) rfl rfl rfl ?_
  try show aw _ _ _ _ _ _
  refine aw_seq ?_
  refine aw_seq ?_
  refine aw_reg ?_
  refine st_op (ev_move rfl) rfl rfl rfl ?_
  refine st_op (ev_lenSl rfl Try.underlying24) rfl rfl rfl ?_
  refine st_op (ev_move rfl) rfl rfl rfl ?_
  try show aw _ _ _ _ _ _
  refine aw_block ?_
  refine aw_keep [0, 1, 2, 9, 10, 11] (l' := (.cons 0 (.int .i64 index) (.cons 1 (.int .i64 term) (.cons 2 (.slice A es.length c) (.cons 9 (.slice A es.length c) (.cons 10 (.int .i64 (es.length : Int)) (.cons 11 (.int .i64 0) .nil))))))) (by repeat (first | exact Up.done | refine Up.then ?_ | refine Up.inBlock ?_)) rfl ?_
  refine aw_iter (α := Nat × Int × Int × Heap) (fun a => es.length - a.1) (fun a => (.cons 0 (.int .i64 a.2.1) (.cons 1 (.int .i64 a.2.2.1) (.cons 2 (.slice A es.length c) (.cons 9 (.slice A es.length c) (.cons 10 (.int .i64 (es.length : Int)) (.cons 11 (.int .i64 (a.1 : Int)) .nil))))))) (fun a => a.2.2.2) (fun a => (a.1 ≤ es.length) ∧ (rowOk index term es = rowOk a.2.1 a.2.2.1 (es.drop a.1)) ∧ (Ext H a.2.2.2)) (0, index, term, H) ⟨Nat.zero_le _, rfl, Ext.refl H⟩ ?_
  rintro ⟨i, ix, tm, Hl⟩ ⟨hi, hv, hxl1⟩ ih2
  replace hi : i ≤ es.length := hi
  replace hv : rowOk index term es = rowOk ix tm (es.drop i) := hv
  replace hxl1 : Ext H Hl := hxl1
  show aw _ _ _ (RL _ (.cons 0 (.int .i64 ix) (.cons 1 (.int .i64 tm) (.cons 2 (.slice A es.length c) (.cons 9 (.slice A es.length c) (.cons 10 (.int .i64 (es.length : Int)) (.cons 11 (.int .i64 (i : Int)) .nil))))))) Hl _
  have hxl1n := hxl1.1
  have hr3 := Row.ext hrow hxl1
  have hx4 : Ext H Hl := Ext.trans (Ext.refl H) hxl1
  refine aw_seq ?_
  refine aw_reg ?_
  refine st_op (ev_int rfl rfl rfl) rfl rfl rfl ?_
  try show aw _ _ _ _ _ _
  refine aw_seq ?_
  refine aw_cond (t := decide ((i : Int) < (es.length : Int))) rfl ?_
  by_cases hc5 : (decide ((i : Int) < (es.length : Int))) = true
  · rw [hc5]
    rw [if_pos rfl]
    have hc5 := of_decide_eq_true hc5
    refine aw_skip ?_
    try show aw _ _ _ _ _ _
    refine aw_seq ?_
    refine aw_block ?_
    refine aw_seq ?_
    refine aw_reg ?_
    have hi6 : 0 ≤ ((i : Int) : Int) := by omega
    have hi7 : ((i : Int) : Int) < ((es.length : Nat) : Int) := by omega
    obtain ⟨x8, hx9⟩ : ∃ e, es[i]? = some e := ⟨_, List.getElem?_eq_getElem (by omega)⟩
    obtain ⟨b10, o11, rfl, hr12⟩ := Row.at_ hr3 (getMap Entry.cells hx9)
    have b10lt := hr12.1
    refine st_op (ev_indexAddr rfl rfl hi6 hi7 el24 (o' := o11 + i * 4) (by first | rfl | (simp only [Int.toNat_natCast]; rfl) | simp)) rfl rfl rfl ?_
    refine st_op (ev_load rfl (hr12.agg many37 (by decide) (getMap Entry.cells hx9))) rfl rfl rfl ?_
    obtain ⟨b13, H14, he15, b13e, H14n, hB17, f16⟩ := mem_alloc Hl zero37
    refine st_op (he15 _ _ _ _ _ _ _) rfl rfl rfl ?_
    have hr18 := RowIn.next hr12 (show Hl.next ≤ H14.next by omega) (f16 b10 (by have := hr12.1; omega))
    have hx19 : Ext H H14 := Ext.step hx4 (b := b13) (by have := (hx4).1; omega) (by omega) f16
    obtain ⟨H20, he21, H20n, hB22, f23⟩ := mem_store (v := .agg #[.int .i64 x8.index, .int .i64 x8.term, .int .i64 x8.kind, .string x8.data]) (o := 0) (cs' := [.int .i64 x8.index, .int .i64 x8.term, .int .i64 x8.kind, .string x8.data]) 4 rfl rfl size37 hB17 rfl rfl rfl
    refine st_op0 (he21 _ _ _ _ _ _ _ _ _ rfl rfl) rfl rfl ?_
    have hr24 := RowIn.next hr18 (show H14.next ≤ H20.next by omega) (f23 b10 (by omega))
    have hx25 : Ext H H20 := Ext.step hx19 (b := b13) (by have := (hx19).1; omega) (by omega) f23
    try show aw _ _ _ _ _ _
    refine aw_seq ?_
    refine aw_seq ?_
    refine aw_reg ?_
    refine st_op (ev_fieldAddr rfl fa37_0 (o' := 0) rfl) rfl rfl rfl ?_
    refine st_op (ev_load rfl (lvar_one one2 hB22 rfl)) rfl rfl rfl ?_
    refine st_op (ev_move rfl) rfl rfl rfl ?_
    refine st_op (ev_int rfl rfl rfl) rfl rfl rfl ?_
    refine st_op (ev_int rfl rfl rfl) rfl rfl rfl ?_
    refine st_op (ev_move rfl) rfl rfl rfl ?_
    refine st_bool 20 rfl (fun hb26 => ?_) (fun hb26 => ?_)
    ·
      have hb26 : ¬ (x8.index = (IntKind.i64.wrap (ix + 1))) := by simpa using hb26
      refine st_skip rfl rfl rfl ?_
      refine st_skip rfl rfl rfl ?_
      refine st_skip rfl rfl rfl ?_
      refine st_skip rfl rfl rfl ?_
      refine st_op (ev_pickT rfl rfl) rfl rfl rfl ?_
      try show aw _ _ _ _ _ _
      refine aw_cond (t := true) rfl ?_
      try show aw _ _ _ _ _ _
      refine aw_seq ?_
      refine aw_reg ?_
      refine st_op (ev_assign rfl) rfl rfl rfl ?_
      try show aw _ _ _ _ _ _
      refine aw_ret ?_
      refine ⟨_, rfl, ?_, hx25⟩; show Value.bool _ = Value.bool _; congr 1; rw [hv]; first | (rw [drop_at hx9, rowOk]; simp_all; done) | (rw [List.drop_eq_nil_of_le (by omega)]; rfl)
    ·
      have hb26 : (x8.index = (IntKind.i64.wrap (ix + 1))) := by simpa using hb26
      refine st_op (ev_fieldAddr rfl fa37_1 (o' := 1) rfl) rfl rfl rfl ?_
      refine st_op (ev_load rfl (lvar_one one2 hB22 rfl)) rfl rfl rfl ?_
      refine st_op (ev_move rfl) rfl rfl rfl ?_
      refine st_op (ev_int rfl rfl rfl) rfl rfl rfl ?_
      refine st_op (ev_pickF rfl rfl) rfl rfl rfl ?_
      try show aw _ _ _ _ _ _
      refine aw_cond (t := decide (x8.term < tm)) rfl ?_
      by_cases hc27 : (decide (x8.term < tm)) = true
      · rw [hc27]
        rw [if_pos rfl]
        have hc27 := of_decide_eq_true hc27
        refine aw_seq ?_
        refine aw_reg ?_
        refine st_op (ev_assign rfl) rfl rfl rfl ?_
        try show aw _ _ _ _ _ _
        refine aw_ret ?_
        refine ⟨_, rfl, ?_, hx25⟩; show Value.bool _ = Value.bool _; congr 1; rw [hv]; first | (rw [drop_at hx9, rowOk]; simp_all; done) | (rw [List.drop_eq_nil_of_le (by omega)]; rfl)
      · rw [Bool.not_eq_true] at hc27; rw [hc27]
        rw [if_neg Bool.false_ne_true]
        have hc27 := of_decide_eq_false hc27
        refine aw_skip ?_
        try show aw _ _ _ _ _ _
        refine aw_marks (fun b => b < H20.next) [(false, false), (false, false), (false, false), (false, false), (false, false), (false, false)] mixed (by kernel_rfl) (by kernel_rfl) ?_
        refine sm_op (ev_fieldAddr rfl fa37_0 (o' := 0) rfl) rfl rfl rfl ?_
        refine sm_op (ev_load rfl (lvar_one one2 hB22 rfl)) rfl rfl rfl ?_
        refine sm_op (ev_fieldAddr rfl fa37_1 (o' := 1) rfl) rfl rfl rfl ?_
        refine sm_op (ev_load rfl (lvar_one one2 hB22 rfl)) rfl rfl rfl ?_
        refine sm_op (ev_assign rfl) rfl rfl rfl ?_
        refine sm_op (ev_assign rfl) rfl rfl rfl ?_
        try show aw _ _ _ _ _ _
        refine aw_reg ?_
        refine st_op (ev_int64 (c := (i : Int) + 1) rfl rfl rfl (by omega) (by omega)) rfl rfl rfl ?_
        refine st_op (ev_move rfl) rfl rfl rfl ?_
        try show aw _ _ _ _ _ _
        refine aw_keep [0, 1, 2, 9, 10, 11] (l' := (.cons 0 (.int .i64 x8.index) (.cons 1 (.int .i64 x8.term) (.cons 2 (.slice (some ⟨b10, o11, none⟩) es.length c) (.cons 9 (.slice (some ⟨b10, o11, none⟩) es.length c) (.cons 10 (.int .i64 (es.length : Int)) (.cons 11 (.int .i64 ((i : Int) + 1)) .nil))))))) (by repeat (first | exact Up.done | refine Up.then ?_ | refine Up.inBlock ?_)) rfl ?_
        exact ih2 (i + 1, x8.index, x8.term, H20) ⟨by omega, by rw [hv, drop_at hx9, rowOk]; simp_all, hx25⟩ (by simp only; omega)
  · rw [Bool.not_eq_true] at hc5; rw [hc5]
    rw [if_neg Bool.false_ne_true]
    have hc5 := of_decide_eq_false hc5
    refine aw_exit ?_
    try show aw _ _ _ _ _ _
    refine aw_seq ?_
    refine aw_reg ?_
    refine st_op (ev_assign rfl) rfl rfl rfl ?_
    try show aw _ _ _ _ _ _
    refine aw_ret ?_
    refine ⟨_, rfl, ?_, hx4⟩; show Value.bool _ = Value.bool _; congr 1; rw [hv]; first | (rw [drop_at hx9, rowOk]; simp_all; done) | (rw [List.drop_eq_nil_of_le (by omega)]; rfl)
theorem clone_spec (H : Heap) (A : Option Addr) (es : List Entry) (c : Nat) (hrow : Row H A c 4 (es.map Entry.cells)) (hc : es.length ≤ c) (hm : es.length ≤ 1000000) (hA0 : A = none → es = []) : ∃ v H', Spec Try.prog 36 [.slice A es.length c] H v H' ∧ (∃ A' c', v = .slice A' es.length c' ∧ Mine H H' A' c' 4 (es.map Entry.cells) ∧ Ext H H') := by
  refine spec_go1 E0_ok 8 (f := 36) Try.func36 rfl rfl rfl ?_
  refine aw_seq ?_
  refine aw_reg ?_
  refine st_op (ev_assign rfl) rfl rfl rfl ?_
  try show aw _ _ _ _ _ _
  refine aw_seq ?_
  refine aw_seq ?_
  refine aw_reg ?_
  refine st_op (ev_move rfl) rfl rfl rfl ?_
  refine st_op (ev_nilSl rfl rfl Try.underlying24) rfl rfl rfl ?_
  try show aw _ _ _ _ _ _
  refine aw_cond (t := Option.isNone A) rfl ?_
  by_cases hc1 : (Option.isNone A) = true
  · rw [hc1]
    rw [if_pos rfl]
    have hn0 : A = none := by simpa using hc1
    refine aw_seq ?_
    refine aw_reg ?_
    refine st_op (ev_assign rfl) rfl rfl rfl ?_
    try show aw _ _ _ _ _ _
    refine aw_ret ?_
    subst hn0; obtain rfl : es = [] := hA0 rfl; exact ⟨_, rfl, none, 0, rfl, .nil, (Ext.refl H)⟩
  · rw [Bool.not_eq_true] at hc1; rw [hc1]
    rw [if_neg Bool.false_ne_true]
    have hn0 : A ≠ none := by intro h0; simp [h0] at hc1
    refine aw_skip ?_
    try show aw _ _ _ _ _ _
    refine aw_seq ?_
    refine aw_reg ?_
    obtain ⟨b2, H3, he4, b2e, H3n, hB6, f5⟩ := mem_build H (xs := []) (m := 0) (rows := []) rfl eok24 (by decide) (by decide) zf37 rfl (allLen rfl) rfl
    refine st_op (he4 _ _ _ _ _ _ _ _ rfl) rfl rfl rfl ?_
    have hr7 := Row.alloc hrow b2e (by omega) f5
    have hx8 : Ext H H3 := Ext.step (Ext.refl H) (b := b2) (by have := ((Ext.refl H)).1; omega) (by omega) f5
    refine st_op (ev_move rfl) rfl rfl rfl ?_
    obtain ⟨A9, c10, H11, he12, hm13, hx14⟩ := mem_append_all (A := (some ⟨b2, 0, none⟩)) (n := es.length) (by simp) eok24 (by decide) hr7 (map_len (f := Entry.cells) (fun _ => rfl) _) (flat_one (f := Entry.cells) (fun _ => rfl) _) (by omega) (by omega)
    have hx14n := hx14.1
    refine st_op (he12 _ _ _ _ _ _ _ _ _ _ rfl rfl isrow24) rfl rfl rfl ?_
    have hr15 := Row.ext hr7 hx14
    have hr16 := RowIn.next hB6 hx14.1 (hx14.2 b2 hB6.1)
    have hx17 : Ext H H11 := Ext.trans hx8 hx14
    refine st_op (ev_assign rfl) rfl rfl rfl ?_
    try show aw _ _ _ _ _ _
    refine aw_ret ?_
    exact ⟨_, rfl, A9, c10, rfl, Mine.older hm13 (by omega), hx17⟩
theorem cut_spec (H : Heap) (s : ByteArray) (n : Int) (hn : 0 ≤ n) : ∃ v H', Spec Try.prog 33 [.string s, .int .i64 n] H v H' ∧ (v = .string (cutB s n) ∧ H' = H) := by
  refine spec_go2 E0_ok 13 (f := 33) Try.func33 rfl rfl rfl ?_
  refine aw_seq ?_
  refine aw_reg ?_
  refine st_op (ev_assign rfl) rfl rfl rfl ?_
  try show aw _ _ _ _ _ _
  refine aw_seq ?_
  refine aw_seq ?_
  refine aw_reg ?_
  refine st_op (ev_move rfl) rfl rfl rfl ?_
  refine st_op (ev_lenStr rfl Try.underlying9) rfl rfl rfl ?_
  refine st_op (ev_move rfl) rfl rfl rfl ?_
  refine st_op (ev_int rfl rfl rfl) rfl rfl rfl ?_
  try show aw _ _ _ _ _ _
  refine aw_cond (t := decide (((s).size : Int) > n)) rfl ?_
  by_cases hc1 : (decide (((s).size : Int) > n)) = true
  · rw [hc1]
    rw [if_pos rfl]
    have hc1 := of_decide_eq_true hc1
    refine aw_seq ?_
    refine aw_reg ?_
    refine st_op (ev_move rfl) rfl rfl rfl ?_
    refine st_op (ev_move rfl) rfl rfl rfl ?_
    refine st_op (ev_slStr Try.underlying9 rfl rfl rfl (bound_int (by omega) (by omega) rfl) rfl) rfl rfl rfl ?_
    refine st_op (ev_assign rfl) rfl rfl rfl ?_
    try show aw _ _ _ _ _ _
    refine aw_ret ?_
    refine ⟨_, rfl, ?_, rfl⟩; show Value.string _ = Value.string _; congr 1; first | rw [cutB, if_pos (by omega)] | rw [cutB, if_neg (by omega)]
  · rw [Bool.not_eq_true] at hc1; rw [hc1]
    rw [if_neg Bool.false_ne_true]
    have hc1 := of_decide_eq_false hc1
    refine aw_skip ?_
    try show aw _ _ _ _ _ _
    refine aw_seq ?_
    refine aw_reg ?_
    refine st_op (ev_move rfl) rfl rfl rfl ?_
    refine st_op (ev_assign rfl) rfl rfl rfl ?_
    try show aw _ _ _ _ _ _
    refine aw_ret ?_
    refine ⟨_, rfl, ?_, rfl⟩; show Value.string _ = Value.string _; congr 1; first | rw [cutB, if_pos (by omega)] | rw [cutB, if_neg (by omega)]
theorem new_spec (H : Heap) (x tm : Int) (cf dt : ByteArray) (A : Option Addr) (es : List Entry) (c : Nat) (hrow : Row H A c 4 (es.map Entry.cells)) (hc : es.length ≤ c) (hm : es.length ≤ 140737488351232) : ∃ v H', Spec Try.prog 12 [.agg #[.int .i64 x, .int .i64 tm, .string cf, .string dt], .slice A es.length c] H v H' ∧ ((v = .pointer none ∧ newOk x tm es = false ∨ newOk x tm es = true ∧ ∃ p A' c', v = .pointer (some ⟨p, 0, none⟩) ∧ H'.blk p = some ⟨[.int .i64 x, .int .i64 tm, .string cf, .string dt, .slice A' es.length c'], 5, false, false⟩ ∧ Mine H H' A' c' 4 (es.map Entry.cells) ∧ H.next ≤ p ∧ p < H'.next) ∧ Ext H H') := by
  refine spec_go2 E0_ok 31 (f := 12) Try.func12 rfl rfl rfl ?_
  refine aw_seq ?_
  refine aw_reg ?_
  obtain ⟨b1, H2, he3, b1e, H2n, hB5, f4⟩ := mem_box (P := Try.prog) H (v := .agg #[.int .i64 x, .int .i64 tm, .string cf, .string dt]) (cs := [.int .i64 x, .int .i64 tm, .string cf, .string dt]) rfl rfl
  refine st_op (he3 _ _ _ _ _ _ _ _ _ rfl) rfl rfl rfl ?_
  have hr6 := Row.alloc hrow b1e (by omega) f4
  have hx7 : Ext H H2 := Ext.step (Ext.refl H) (b := b1) (by have := ((Ext.refl H)).1; omega) (by omega) f4
  refine st_op (ev_assign rfl) rfl rfl rfl ?_
  try show aw _ _ _ _ _ _
  refine aw_seq ?_
  refine aw_seq ?_
  refine aw_reg ?_
  refine st_op (ev_fieldAddr rfl fa23_0 (o' := 0) rfl) rfl rfl rfl ?_
  refine st_op (ev_load rfl (lvar_one one2 hB5 rfl)) rfl rfl rfl ?_
  refine st_op (ev_fieldAddr rfl fa23_1 (o' := 1) rfl) rfl rfl rfl ?_
  refine st_op (ev_load rfl (lvar_one one2 hB5 rfl)) rfl rfl rfl ?_
  obtain ⟨b8, H9, he10, b8e, H9n, hB12, f11⟩ := mem_build H2 (xs := [.int .i64 x, .int .i64 tm]) (m := 2) (rows := [[.int .i64 x], [.int .i64 tm]]) rfl eok71 (by decide) (by decide) zf2 rfl (allLen rfl) rfl
  refine st_op (he10 _ _ _ _ _ _ _ _ rfl) rfl rfl rfl ?_
  have hr13 := Row.alloc hr6 b8e (by omega) f11
  have hB14 := (f11 b1 (by omega)).trans hB5
  have hx15 : Ext H H9 := Ext.step hx7 (b := b8) (by have := (hx7).1; omega) (by omega) f11
  refine st_call rfl rfl rfl ent34 rfl rfl rfl ?_
  obtain ⟨_, H17, hs16, hs16v, hx18⟩ := in_spec H9 (some ⟨b8, 0, none⟩) [x, tm] 2 (hB12.row) (by simp) (by simp)
  rw [hs16v] at hs16; clear hs16v
  have hx18n := hx18.1
  refine ⟨_, H17, hs16, ?_⟩
  have hr19 := Row.ext hr13 hx18
  have hB20 := (hx18.2 b1 (by omega)).trans hB14
  have hr21 := RowIn.next hB12 hx18.1 (hx18.2 b8 hB12.1)
  have hx22 : Ext H H17 := Ext.trans hx15 hx18
  refine st_op (ev_not rfl) rfl rfl rfl ?_
  refine st_op (ev_move rfl) rfl rfl rfl ?_
  refine st_bool 12 rfl (fun hb23 => ?_) (fun hb23 => ?_)
  ·
    have hb23 : (inF [x, tm]) = false := by simpa using hb23
    refine st_skip rfl rfl rfl ?_
    refine st_skip rfl rfl rfl ?_
    refine st_skip rfl rfl rfl ?_
    refine st_op (ev_pickT rfl rfl) rfl rfl rfl ?_
    refine st_op (ev_move rfl) rfl rfl rfl ?_
    refine st_skip rfl rfl rfl ?_
    refine st_skip rfl rfl rfl ?_
    refine st_skip rfl rfl rfl ?_
    refine st_skip rfl rfl rfl ?_
    refine st_skip rfl rfl rfl ?_
    refine st_skip rfl rfl rfl ?_
    refine st_skip rfl rfl rfl ?_
    refine st_op (ev_pickT rfl rfl) rfl rfl rfl ?_
    try show aw _ _ _ _ _ _
    refine aw_cond (t := true) rfl ?_
    try show aw _ _ _ _ _ _
    refine aw_seq ?_
    refine aw_reg ?_
    refine st_op (ev_assign rfl) rfl rfl rfl ?_
    try show aw _ _ _ _ _ _
    refine aw_ret ?_
    exact ⟨_, rfl, .inl ⟨rfl, by first | (simp_all [newOk]; done) | (simp_all [newOk]; omega)⟩, hx22⟩
  ·
    have hb23 : (inF [x, tm]) = true := by simpa using hb23
    have hb23i := inTwo_iff hb23
    refine st_op (ev_move rfl) rfl rfl rfl ?_
    refine st_op (ev_lenSl rfl Try.underlying24) rfl rfl rfl ?_
    refine st_op (ev_int rfl rfl rfl) rfl rfl rfl ?_
    refine st_op (ev_pickF rfl rfl) rfl rfl rfl ?_
    refine st_op (ev_move rfl) rfl rfl rfl ?_
    refine st_bool 17 rfl (fun hb24 => ?_) (fun hb24 => ?_)
    ·
      have hb24 := of_decide_eq_true hb24
      refine st_skip rfl rfl rfl ?_
      refine st_skip rfl rfl rfl ?_
      refine st_skip rfl rfl rfl ?_
      refine st_skip rfl rfl rfl ?_
      refine st_skip rfl rfl rfl ?_
      refine st_skip rfl rfl rfl ?_
      refine st_skip rfl rfl rfl ?_
      refine st_op (ev_pickT rfl rfl) rfl rfl rfl ?_
      try show aw _ _ _ _ _ _
      refine aw_cond (t := true) rfl ?_
      try show aw _ _ _ _ _ _
      refine aw_seq ?_
      refine aw_reg ?_
      refine st_op (ev_assign rfl) rfl rfl rfl ?_
      try show aw _ _ _ _ _ _
      refine aw_ret ?_
      exact ⟨_, rfl, .inl ⟨rfl, by first | (simp_all [newOk]; done) | (simp_all [newOk]; omega)⟩, hx22⟩
    ·
      have hb24 := of_decide_eq_false hb24
      refine st_op (ev_fieldAddr rfl fa23_0 (o' := 0) rfl) rfl rfl rfl ?_
      refine st_op (ev_load rfl (lvar_one one2 hB20 rfl)) rfl rfl rfl ?_
      refine st_op (ev_fieldAddr rfl fa23_1 (o' := 1) rfl) rfl rfl rfl ?_
      refine st_op (ev_load rfl (lvar_one one2 hB20 rfl)) rfl rfl rfl ?_
      refine st_op (ev_move rfl) rfl rfl rfl ?_
      refine st_call rfl rfl rfl ent35 rfl rfl rfl ?_
      obtain ⟨_, H26, hs25, hs25v, hx27⟩ := row_spec H17 x tm A es c hr19 hc (by omega)
      rw [hs25v] at hs25; clear hs25v
      have hx27n := hx27.1
      refine ⟨_, H26, hs25, ?_⟩
      have hr28 := Row.ext hr19 hx27
      have hB29 := (hx27.2 b1 (by omega)).trans hB20
      have hr30 := RowIn.next hr21 hx27.1 (hx27.2 b8 hr21.1)
      have hx31 : Ext H H26 := Ext.trans hx22 hx27
      refine st_op (ev_not rfl) rfl rfl rfl ?_
      refine st_op (ev_pickF rfl rfl) rfl rfl rfl ?_
      try show aw _ _ _ _ _ _
      refine aw_cond (t := !(rowOk x tm es)) rfl ?_
      by_cases hc32 : (!(rowOk x tm es)) = true
      · rw [hc32]
        rw [if_pos rfl]
        have hc32 : (rowOk x tm es) = false := by simpa using hc32
        refine aw_seq ?_
        refine aw_reg ?_
        refine st_op (ev_assign rfl) rfl rfl rfl ?_
        try show aw _ _ _ _ _ _
        refine aw_ret ?_
        exact ⟨_, rfl, .inl ⟨rfl, by first | (simp_all [newOk]; done) | (simp_all [newOk]; omega)⟩, hx31⟩
      · rw [Bool.not_eq_true] at hc32; rw [hc32]
        rw [if_neg Bool.false_ne_true]
        have hc32 : (rowOk x tm es) = true := by simpa using hc32
        refine aw_skip ?_
        try show aw _ _ _ _ _ _
        refine aw_seq ?_
        refine aw_marks (fun b => b < H26.next) [(true, false), (false, false), (false, true), (false, false), (false, false), (false, false)] mixed (by kernel_rfl) (by kernel_rfl) ?_
        refine sm_read (ev_load rfl (lvar_part (l := [.int .i64 x, .int .i64 tm, .string cf, .string dt]) many23 hB29 rfl rfl (by decide))) rfl rfl rfl (fun b hb => by cases hb; dsimp only; omega) ?_
        refine sm_op (ev_move rfl) rfl rfl rfl ?_
        refine sm_call rfl rfl rfl ent36 rfl rfl rfl ?_
        obtain ⟨_, H37, hs36, A33, c34, hs36v, hm35, hx38⟩ := clone_spec H26 A es c hr28 hc (by omega) (Row.anil hr28)
        rw [hs36v] at hs36; clear hs36v
        have hx38n := hx38.1
        refine ⟨_, H37, hs36, (fun _ b hb => hx38.2 b (by omega)), ?_⟩
        have hr39 := Row.ext hr28 hx38
        have hB40 := (hx38.2 b1 (by omega)).trans hB29
        have hr41 := RowIn.next hr30 hx38.1 (hx38.2 b8 hr30.1)
        have hx42 : Ext H H37 := Ext.trans hx31 hx38
        refine sm_op (ev_build zero67 pl67 (parts := [(0, .agg #[.int .i64 x, .int .i64 tm, .string cf, .string dt]), (1, .slice A33 es.length c34)]) rfl (cs := [.int .i64 x, .int .i64 tm, .string cf, .string dt, .slice A33 es.length c34]) rfl) rfl rfl rfl ?_
        obtain ⟨b43, H44, he45, b43e, H44n, hB47, f46⟩ := mem_box (P := Try.prog) H37 (v := .agg #[.int .i64 x, .int .i64 tm, .string cf, .string dt, .slice A33 es.length c34]) (cs := [.int .i64 x, .int .i64 tm, .string cf, .string dt, .slice A33 es.length c34]) rfl rfl
        refine sm_op (he45 _ _ _ _ _ _ _ _ _ rfl) rfl rfl rfl ?_
        have hr48 := Row.alloc hr39 b43e (by omega) f46
        have hB49 := (f46 b1 (by omega)).trans hB40
        have hr50 := RowIn.next hr41 (show H37.next ≤ H44.next by omega) (f46 b8 (by have := hr41.1; omega))
        have hm51 := Mine.ext hm35 (show Ext H37 H44 from ⟨by omega, fun q hq => f46 q (by omega)⟩)
        have hx52 : Ext H H44 := Ext.step hx42 (b := b43) (by have := (hx42).1; omega) (by omega) f46
        refine sm_op (ev_assign rfl) rfl rfl rfl ?_
        try show aw _ _ _ _ _ _
        refine aw_ret ?_
        exact ⟨_, rfl, .inr ⟨by first | (simp_all [newOk]; done) | (simp_all [newOk]; omega), b43, A33, c34, rfl, hB47, Mine.older hm51 (by omega), by omega, by omega⟩, hx52⟩
theorem first_spec (H : Heap) (p : Nat) (hp : p < H.next) (x tm : Int) (cf dt : ByteArray) (A : Option Addr) (es : List Entry) (c : Nat) (hB : H.blk p = some ⟨[.int .i64 x, .int .i64 tm, .string cf, .string dt, .slice A es.length c], 5, false, false⟩) (hrow : Row H A c 4 (es.map Entry.cells)) (hc : es.length ≤ c) (hm : es.length ≤ 1000000) (hx0 : 0 ≤ x) (hx1 : x ≤ 1099511627776) : ∃ v H', Spec Try.prog 14 [.pointer (some ⟨p, 0, none⟩)] H v H' ∧ (v = .int .i64 (x + 1) ∧ H' = H) := by
  refine spec_go1 E0_ok 11 (f := 14) Try.func14 rfl rfl rfl ?_
  refine aw_seq ?_
  refine aw_reg ?_
  refine st_op (ev_assign rfl) rfl rfl rfl ?_
  try show aw _ _ _ _ _ _
  refine aw_seq ?_
  refine aw_seq ?_
  refine aw_reg ?_
  refine st_op (ev_move rfl) rfl rfl rfl ?_
  refine st_op (ev_nilEq rfl rfl Try.underlying28) rfl rfl rfl ?_
  try show aw _ _ _ _ _ _
  refine aw_cond (t := false) rfl ?_
  try show aw _ _ _ _ _ _
  refine aw_skip ?_
  try show aw _ _ _ _ _ _
  refine aw_seq ?_
  refine aw_reg ?_
  refine st_op (ev_move rfl) rfl rfl rfl ?_
  refine st_op (ev_nilCheck rfl) rfl rfl rfl ?_
  refine st_op (ev_fieldAddr rfl fa67_0 (o' := 0) rfl) rfl rfl rfl ?_
  refine st_op (ev_fieldAddr rfl fa23_0 (o' := 0) rfl) rfl rfl rfl ?_
  refine st_op (ev_load rfl (lvar_one one2 hB rfl)) rfl rfl rfl ?_
  refine st_op (ev_int64 (c := x + 1) rfl rfl rfl (by omega) (by omega)) rfl rfl rfl ?_
  refine st_op (ev_assign rfl) rfl rfl rfl ?_
  try show aw _ _ _ _ _ _
  refine aw_ret ?_
  exact ⟨_, rfl, rfl, rfl⟩
theorem last_spec (H : Heap) (p : Nat) (hp : p < H.next) (x tm : Int) (cf dt : ByteArray) (A : Option Addr) (es : List Entry) (c : Nat) (hB : H.blk p = some ⟨[.int .i64 x, .int .i64 tm, .string cf, .string dt, .slice A es.length c], 5, false, false⟩) (hrow : Row H A c 4 (es.map Entry.cells)) (hc : es.length ≤ c) (hm : es.length ≤ 1000000) (hx0 : 0 ≤ x) (hx1 : x ≤ 1099511627776) : ∃ v H', Spec Try.prog 16 [.pointer (some ⟨p, 0, none⟩)] H v H' ∧ (v = .int .i64 (x + (es.length : Int)) ∧ H' = H) := by
  refine spec_go1 E0_ok 16 (f := 16) Try.func16 rfl rfl rfl ?_
  refine aw_seq ?_
  refine aw_reg ?_
  refine st_op (ev_assign rfl) rfl rfl rfl ?_
  try show aw _ _ _ _ _ _
  refine aw_seq ?_
  refine aw_seq ?_
  refine aw_reg ?_
  refine st_op (ev_move rfl) rfl rfl rfl ?_
  refine st_op (ev_nilEq rfl rfl Try.underlying28) rfl rfl rfl ?_
  try show aw _ _ _ _ _ _
  refine aw_cond (t := false) rfl ?_
  try show aw _ _ _ _ _ _
  refine aw_skip ?_
  try show aw _ _ _ _ _ _
  refine aw_seq ?_
  refine aw_marks (fun b => b < H.next) [(false, false), (false, false), (false, false), (false, false), (false, false), (false, false), (false, false), (false, false), (false, false), (false, false), (false, false), (false, false)] mixed (by kernel_rfl) (by kernel_rfl) ?_
  refine sm_op (ev_move rfl) rfl rfl rfl ?_
  refine sm_op (ev_nilCheck rfl) rfl rfl rfl ?_
  refine sm_op (ev_fieldAddr rfl fa67_0 (o' := 0) rfl) rfl rfl rfl ?_
  refine sm_op (ev_fieldAddr rfl fa23_0 (o' := 0) rfl) rfl rfl rfl ?_
  refine sm_op (ev_load rfl (lvar_one one2 hB rfl)) rfl rfl rfl ?_
  refine sm_op (ev_move rfl) rfl rfl rfl ?_
  refine sm_op (ev_nilCheck rfl) rfl rfl rfl ?_
  refine sm_op (ev_fieldAddr rfl fa67_1 (o' := 4) rfl) rfl rfl rfl ?_
  refine sm_op (ev_load rfl (lvar_one one24 hB rfl)) rfl rfl rfl ?_
  refine sm_op (ev_lenSl rfl Try.underlying24) rfl rfl rfl ?_
  refine sm_op (ev_int64 (c := x + (es.length : Int)) rfl rfl rfl (by omega) (by omega)) rfl rfl rfl ?_
  refine sm_op (ev_assign rfl) rfl rfl rfl ?_
  try show aw _ _ _ _ _ _
  refine aw_ret ?_
  exact ⟨_, rfl, rfl, rfl⟩
theorem may_spec (H : Heap) (A : Option Addr) (ns : List Int) (c : Nat) (hrow : Row H A c 1 (ns.map I64c)) (hc : ns.length ≤ c) (hm : ns.length ≤ 1000000) : ∃ v H', Spec Try.prog 49 [.slice A ns.length c] H v H' ∧ (v = .bool (mayL ns) ∧ Ext H H') := by
  refine spec_go1 E0_ok 35 (f := 49) Try.func49 rfl rfl rfl ?_
  refine aw_seq ?_
  refine aw_reg ?_
  refine st_op (ev_assign rfl) rfl rfl rfl ?_
  try show aw _ _ _ _ _ _
  refine aw_seq ?_
  refine aw_seq ?_
  refine aw_reg ?_
  refine st_op (ev_move rfl) rfl rfl rfl ?_
  refine st_op (ev_lenSl rfl Try.underlying42) rfl rfl rfl ?_
  refine st_op (ev_move rfl) rfl rfl rfl ?_
  try show aw _ _ _ _ _ _
  refine aw_block ?_
  refine aw_keep [0, 5, 6, 7] (l' := (.cons 0 (.slice A ns.length c) (.cons 5 (.slice A ns.length c) (.cons 6 (.int .i64 (ns.length : Int)) (.cons 7 (.int .i64 0) .nil))))) (by repeat (first | exact Up.done | refine Up.then ?_ | refine Up.inBlock ?_)) rfl ?_
  refine aw_iter (α := Nat × Int × Heap) (fun a => ns.length - a.1) (fun a => (.cons 0 (.slice A ns.length c) (.cons 5 (.slice A ns.length c) (.cons 6 (.int .i64 (ns.length : Int)) (.cons 7 (.int .i64 (a.1 : Int)) .nil))))) (fun a => a.2.2) (fun a => (a.1 ≤ ns.length) ∧ (0 < a.1 → ns[a.1 - 1]? = some a.2.1) ∧ (a.1 = 0 → a.2.1 = 0) ∧ (mayR 0 ns = mayR a.2.1 (ns.drop a.1)) ∧ (Ext H a.2.2)) (0, 0, H) ⟨Nat.zero_le _, fun h => (Nat.lt_irrefl 0 h).elim, fun _ => rfl, rfl, Ext.refl H⟩ ?_
  rintro ⟨i, pv, Hl⟩ ⟨hi, hp, hp0, hv, hxl1⟩ ih2
  replace hi : i ≤ ns.length := hi
  replace hp : 0 < i → ns[i - 1]? = some pv := hp
  replace hp0 : i = 0 → pv = 0 := hp0
  replace hv : mayR 0 ns = mayR pv (ns.drop i) := hv
  replace hxl1 : Ext H Hl := hxl1
  show aw _ _ _ (RL _ (.cons 0 (.slice A ns.length c) (.cons 5 (.slice A ns.length c) (.cons 6 (.int .i64 (ns.length : Int)) (.cons 7 (.int .i64 (i : Int)) .nil))))) Hl _
  have hxl1n := hxl1.1
  have hr3 := Row.ext hrow hxl1
  have hx4 : Ext H Hl := Ext.trans (Ext.refl H) hxl1
  refine aw_seq ?_
  refine aw_reg ?_
  refine st_op (ev_int rfl rfl rfl) rfl rfl rfl ?_
  try show aw _ _ _ _ _ _
  refine aw_seq ?_
  refine aw_cond (t := decide ((i : Int) < (ns.length : Int))) rfl ?_
  by_cases hc5 : (decide ((i : Int) < (ns.length : Int))) = true
  · rw [hc5]
    rw [if_pos rfl]
    have hc5 := of_decide_eq_true hc5
    refine aw_skip ?_
    try show aw _ _ _ _ _ _
    refine aw_seq ?_
    refine aw_block ?_
    refine aw_seq ?_
    refine aw_reg ?_
    refine st_op (ev_move rfl) rfl rfl rfl ?_
    have hi6 : 0 ≤ ((i : Int) : Int) := by omega
    have hi7 : ((i : Int) : Int) < ((ns.length : Nat) : Int) := by omega
    obtain ⟨x8, hx9⟩ : ∃ e, ns[i]? = some e := ⟨_, List.getElem?_eq_getElem (by omega)⟩
    obtain ⟨b10, o11, rfl, hr12⟩ := Row.at_ hr3 (getMap I64c hx9)
    have b10lt := hr12.1
    refine st_op (ev_indexAddr rfl rfl hi6 hi7 el42 (o' := o11 + i * 1) (by first | rfl | (simp only [Int.toNat_natCast]; rfl) | simp)) rfl rfl rfl ?_
    refine st_op (ev_load rfl (hr12.lvar0 one3 (getMap I64c hx9) rfl)) rfl rfl rfl ?_
    refine st_op (ev_assign rfl) rfl rfl rfl ?_
    refine st_op (ev_assign rfl) rfl rfl rfl ?_
    try show aw _ _ _ _ _ _
    refine aw_seq ?_
    refine aw_reg ?_
    refine st_op (ev_move rfl) rfl rfl rfl ?_
    refine st_op (ev_int rfl rfl rfl) rfl rfl rfl ?_
    refine st_op (ev_move rfl) rfl rfl rfl ?_
    refine st_bool 14 rfl (fun hb13 => ?_) (fun hb13 => ?_)
    ·
      have hb13 := of_decide_eq_true hb13
      refine st_skip rfl rfl rfl ?_
      refine st_skip rfl rfl rfl ?_
      refine st_op (ev_pickT rfl rfl) rfl rfl rfl ?_
      refine st_op (ev_move rfl) rfl rfl rfl ?_
      refine st_skip rfl rfl rfl ?_
      refine st_skip rfl rfl rfl ?_
      refine st_skip rfl rfl rfl ?_
      refine st_skip rfl rfl rfl ?_
      refine st_skip rfl rfl rfl ?_
      refine st_skip rfl rfl rfl ?_
      refine st_skip rfl rfl rfl ?_
      refine st_skip rfl rfl rfl ?_
      refine st_skip rfl rfl rfl ?_
      refine st_skip rfl rfl rfl ?_
      refine st_skip rfl rfl rfl ?_
      refine st_op (ev_pickT rfl rfl) rfl rfl rfl ?_
      try show aw _ _ _ _ _ _
      refine aw_cond (t := true) rfl ?_
      try show aw _ _ _ _ _ _
      refine aw_seq ?_
      refine aw_reg ?_
      refine st_op (ev_assign rfl) rfl rfl rfl ?_
      try show aw _ _ _ _ _ _
      refine aw_ret ?_
      have hok : (!(decide (x8 < 1) || decide (x8 > 7) || decide (pv ≥ x8))) = false := by simp; omega
      exact ⟨_, rfl, by rw [mayL, hv, drop_at hx9, mayR, hok]; rfl, hx4⟩
    ·
      have hb13 := of_decide_eq_false hb13
      refine st_op (ev_move rfl) rfl rfl rfl ?_
      refine st_op (ev_int rfl rfl rfl) rfl rfl rfl ?_
      refine st_op (ev_pickF rfl rfl) rfl rfl rfl ?_
      refine st_op (ev_move rfl) rfl rfl rfl ?_
      refine st_bool 18 rfl (fun hb14 => ?_) (fun hb14 => ?_)
      ·
        have hb14 := of_decide_eq_true hb14
        refine st_skip rfl rfl rfl ?_
        refine st_skip rfl rfl rfl ?_
        refine st_skip rfl rfl rfl ?_
        refine st_skip rfl rfl rfl ?_
        refine st_skip rfl rfl rfl ?_
        refine st_skip rfl rfl rfl ?_
        refine st_skip rfl rfl rfl ?_
        refine st_skip rfl rfl rfl ?_
        refine st_skip rfl rfl rfl ?_
        refine st_skip rfl rfl rfl ?_
        refine st_skip rfl rfl rfl ?_
        refine st_op (ev_pickT rfl rfl) rfl rfl rfl ?_
        try show aw _ _ _ _ _ _
        refine aw_cond (t := true) rfl ?_
        try show aw _ _ _ _ _ _
        refine aw_seq ?_
        refine aw_reg ?_
        refine st_op (ev_assign rfl) rfl rfl rfl ?_
        try show aw _ _ _ _ _ _
        refine aw_ret ?_
        have hok : (!(decide (x8 < 1) || decide (x8 > 7) || decide (pv ≥ x8))) = false := by simp; omega
        exact ⟨_, rfl, by rw [mayL, hv, drop_at hx9, mayR, hok]; rfl, hx4⟩
      ·
        have hb14 := of_decide_eq_false hb14
        refine st_op (ev_move rfl) rfl rfl rfl ?_
        refine st_op (ev_int rfl rfl rfl) rfl rfl rfl ?_
        refine st_op (ev_move rfl) rfl rfl rfl ?_
        refine st_bool 21 rfl (fun hb15 => ?_) (fun hb15 => ?_)
        ·
          have hb15 := of_decide_eq_true hb15
          refine st_op (ev_move rfl) rfl rfl rfl ?_
          refine st_op (ev_move rfl) rfl rfl rfl ?_
          refine st_op (ev_int64 (c := (i : Int) - 1) rfl rfl rfl (by omega) (by omega)) rfl rfl rfl ?_
          have hi16 : 0 ≤ ((i : Int) - 1 : Int) := by omega
          have hi17 : ((i : Int) - 1 : Int) < ((ns.length : Nat) : Int) := by omega
          obtain ⟨x18, hx19⟩ : ∃ e, ns[(((i : Int) - 1)).toNat]? = some e := ⟨_, List.getElem?_eq_getElem (by omega)⟩
          refine st_op (ev_indexAddr rfl rfl hi16 hi17 el42 (o' := o11 + ((((i : Int) - 1)).toNat) * 1) (by first | rfl | (simp only [Int.toNat_natCast]; rfl) | simp)) rfl rfl rfl ?_
          refine st_op (ev_load rfl (hr12.lvar0 one3 (getMap I64c hx19) rfl)) rfl rfl rfl ?_
          refine st_op (ev_move rfl) rfl rfl rfl ?_
          refine st_op (ev_int rfl rfl rfl) rfl rfl rfl ?_
          refine st_op (ev_pickT rfl rfl) rfl rfl rfl ?_
          refine st_op (ev_pickF rfl rfl) rfl rfl rfl ?_
          try show aw _ _ _ _ _ _
          refine aw_cond (t := decide (x18 ≥ x8)) rfl ?_
          by_cases hc20 : (decide (x18 ≥ x8)) = true
          · rw [hc20]
            rw [if_pos rfl]
            have hc20 := of_decide_eq_true hc20
            refine aw_seq ?_
            refine aw_reg ?_
            refine st_op (ev_assign rfl) rfl rfl rfl ?_
            try show aw _ _ _ _ _ _
            refine aw_ret ?_
            have hpy : x18 = pv := by have h1 := hp (by omega); have h2 := hx19; rw [show (((i : Int) - 1)).toNat = i - 1 by omega, h1] at h2; cases h2; rfl
            have hok : (!(decide (x8 < 1) || decide (x8 > 7) || decide (pv ≥ x8))) = false := by simp; omega
            exact ⟨_, rfl, by rw [mayL, hv, drop_at hx9, mayR, hok]; rfl, hx4⟩
          · rw [Bool.not_eq_true] at hc20; rw [hc20]
            rw [if_neg Bool.false_ne_true]
            have hc20 := of_decide_eq_false hc20
            refine aw_skip ?_
            try show aw _ _ _ _ _ _
            refine aw_reg ?_
            refine st_op (ev_int64 (c := (i : Int) + 1) rfl rfl rfl (by omega) (by omega)) rfl rfl rfl ?_
            refine st_op (ev_move rfl) rfl rfl rfl ?_
            try show aw _ _ _ _ _ _
            refine aw_keep [0, 5, 6, 7] (l' := (.cons 0 (.slice (some ⟨b10, o11, none⟩) ns.length c) (.cons 5 (.slice (some ⟨b10, o11, none⟩) ns.length c) (.cons 6 (.int .i64 (ns.length : Int)) (.cons 7 (.int .i64 ((i : Int) + 1)) .nil))))) (by repeat (first | exact Up.done | refine Up.then ?_ | refine Up.inBlock ?_)) rfl ?_
            have hpy : x18 = pv := by have h1 := hp (by omega); have h2 := hx19; rw [show (((i : Int) - 1)).toNat = i - 1 by omega, h1] at h2; cases h2; rfl
            have hok : (!(decide (x8 < 1) || decide (x8 > 7) || decide (pv ≥ x8))) = true := by simp; omega
            exact ih2 (i + 1, x8, Hl) ⟨by omega, fun _ => by simpa using hx9, fun h => by omega, by rw [hv, drop_at hx9, mayR, hok, Bool.true_and], hx4⟩ (by simp only; omega)
        ·
          have hb15 := of_decide_eq_false hb15
          refine st_skip rfl rfl rfl ?_
          refine st_skip rfl rfl rfl ?_
          refine st_skip rfl rfl rfl ?_
          refine st_skip rfl rfl rfl ?_
          refine st_skip rfl rfl rfl ?_
          refine st_skip rfl rfl rfl ?_
          refine st_skip rfl rfl rfl ?_
          refine st_op (ev_pickF rfl rfl) rfl rfl rfl ?_
          refine st_op (ev_pickF rfl rfl) rfl rfl rfl ?_
          try show aw _ _ _ _ _ _
          refine aw_cond (t := false) rfl ?_
          try show aw _ _ _ _ _ _
          refine aw_skip ?_
          try show aw _ _ _ _ _ _
          refine aw_reg ?_
          refine st_op (ev_int64 (c := (i : Int) + 1) rfl rfl rfl (by omega) (by omega)) rfl rfl rfl ?_
          refine st_op (ev_move rfl) rfl rfl rfl ?_
          try show aw _ _ _ _ _ _
          refine aw_keep [0, 5, 6, 7] (l' := (.cons 0 (.slice (some ⟨b10, o11, none⟩) ns.length c) (.cons 5 (.slice (some ⟨b10, o11, none⟩) ns.length c) (.cons 6 (.int .i64 (ns.length : Int)) (.cons 7 (.int .i64 ((i : Int) + 1)) .nil))))) (by repeat (first | exact Up.done | refine Up.then ?_ | refine Up.inBlock ?_)) rfl ?_
          have hok : (!(decide (x8 < 1) || decide (x8 > 7) || decide (pv ≥ x8))) = true := by simp; omega
          exact ih2 (i + 1, x8, Hl) ⟨by omega, fun _ => by simpa using hx9, fun h => by omega, by rw [hv, drop_at hx9, mayR, hok, Bool.true_and], hx4⟩ (by simp only; omega)
  · rw [Bool.not_eq_true] at hc5; rw [hc5]
    rw [if_neg Bool.false_ne_true]
    have hc5 := of_decide_eq_false hc5
    refine aw_exit ?_
    try show aw _ _ _ _ _ _
    refine aw_seq ?_
    refine aw_reg ?_
    refine st_op (ev_move rfl) rfl rfl rfl ?_
    refine st_op (ev_lenSl rfl Try.underlying42) rfl rfl rfl ?_
    refine st_op (ev_int rfl rfl rfl) rfl rfl rfl ?_
    refine st_op (ev_assign rfl) rfl rfl rfl ?_
    try show aw _ _ _ _ _ _
    refine aw_ret ?_
    exact ⟨_, rfl, by rw [mayL, hv, List.drop_eq_nil_of_le (by omega)]; rfl, hx4⟩
theorem decode_spec (H : Heap) (s : ByteArray) (hss : s.size ≤ 1000000) : ∃ v H', Spec Try.prog 46 [.string s] H v H' ∧ (∃ A' c', v = .tuple #[.slice A' (decS s).length c', .bool (okS s)] ∧ Mine H H' A' c' 1 ((decS s).map I64c) ∧ Ext H H') := by
  refine spec_go1 E0_ok 24 (f := 46) Try.func46 rfl rfl rfl ?_
  refine aw_seq ?_
  refine aw_reg ?_
  refine st_op (ev_assign rfl) rfl rfl rfl ?_
  refine st_op (ev_assign rfl) rfl rfl rfl ?_
  try show aw _ _ _ _ _ _
  refine aw_seq ?_
  refine aw_reg ?_
  refine st_op (ev_assign rfl) rfl rfl rfl ?_
  try show aw _ _ _ _ _ _
  refine aw_seq ?_
  refine aw_seq ?_
  refine aw_reg ?_
  refine st_op (ev_move rfl) rfl rfl rfl ?_
  refine st_op (ev_lenStr rfl Try.underlying9) rfl rfl rfl ?_
  refine st_op (ev_move rfl) rfl rfl rfl ?_
  try show aw _ _ _ _ _ _
  refine aw_block ?_
  refine aw_keep [0, 4, 7, 8] (l' := (.cons 0 (.string s) (.cons 4 (.slice none 0 0) (.cons 7 (.int .i64 ((s).size : Int)) (.cons 8 (.int .i64 0) .nil))))) (by repeat (first | exact Up.done | refine Up.then ?_ | refine Up.inBlock ?_)) rfl ?_
  refine aw_iter (α := Nat × Nat × Heap) (fun a => s.size - a.1) (fun a => (.cons 0 (.string s) (.cons 4 (accV a.2.1 a.1) (.cons 7 (.int .i64 ((s).size : Int)) (.cons 8 (.int .i64 (a.1 : Int)) .nil))))) (fun a => a.2.2) (fun a => (a.1 ≤ s.size) ∧ (Acc a.2.2 a.2.1 1 (((decN s).take a.1).map I64c)) ∧ (H.next ≤ a.2.1) ∧ (Ext H a.2.2)) (0, H.next, H) ⟨(show 0 ≤ s.size from Nat.zero_le _), (show Acc H H.next 1 (((decN s).take 0).map I64c) from .nil _ _ _), (show H.next ≤ H.next from ((Ext.refl H)).1), (show Ext H H from (Ext.refl H))⟩ ?_
  rintro ⟨i, b, Hl⟩ ⟨hi, hA, hb, hx⟩ ih1
  replace hi : i ≤ s.size := hi
  replace hA : Acc Hl b 1 (((decN s).take i).map I64c) := hA
  replace hb : H.next ≤ b := hb
  replace hx : Ext H Hl := hx
  show aw _ _ _ (RL _ (.cons 0 (.string s) (.cons 4 (accV b i) (.cons 7 (.int .i64 ((s).size : Int)) (.cons 8 (.int .i64 (i : Int)) .nil))))) Hl _
  have hxn := hx.1
  refine aw_seq ?_
  refine aw_reg ?_
  refine st_op (ev_int rfl rfl rfl) rfl rfl rfl ?_
  try show aw _ _ _ _ _ _
  refine aw_seq ?_
  refine aw_cond (t := decide ((i : Int) < ((s).size : Int))) rfl ?_
  by_cases hc2 : (decide ((i : Int) < ((s).size : Int))) = true
  · rw [hc2]
    rw [if_pos rfl]
    have hc2 := of_decide_eq_true hc2
    refine aw_skip ?_
    try show aw _ _ _ _ _ _
    refine aw_seq ?_
    refine aw_block ?_
    refine aw_seq ?_
    refine aw_reg ?_
    refine st_op (ev_move rfl) rfl rfl rfl ?_
    refine st_op (ev_assign rfl) rfl rfl rfl ?_
    try show aw _ _ _ _ _ _
    refine aw_reg ?_
    refine st_op (ev_move rfl) rfl rfl rfl ?_
    refine st_op (ev_move rfl) rfl rfl rfl ?_
    refine st_op (ev_move rfl) rfl rfl rfl ?_
    obtain ⟨y3, hy4⟩ : ∃ y, (s).data.toList[i]? = some y := ⟨_, List.getElem?_eq_getElem (by simp; omega)⟩
    have y3t := y3.toNat_lt
    refine st_op (ev_ixStr Try.underlying9 rfl rfl (ba_get hy4)) rfl rfl rfl ?_
    refine st_op (ev_convIdI Try.underlying5 Try.underlying3 rfl (by omega) (by omega)) rfl rfl rfl ?_
    refine st_op (ev_int64 (c := (y3.toNat : Int) - 48) rfl rfl rfl (by omega) (by omega)) rfl rfl rfl ?_
    obtain ⟨b5, H6, he7, b5e, H6n, hB9, f8⟩ := mem_build Hl (xs := [.int .i64 ((y3.toNat : Int) - 48)]) (m := 1) (rows := [[.int .i64 ((y3.toNat : Int) - 48)]]) rfl eok42 (by decide) (by decide) zf3 rfl (allLen rfl) rfl
    refine st_op (he7 _ _ _ _ _ _ _ _ rfl) rfl rfl rfl ?_
    have ha10 := Acc.ext hA (show Ext Hl H6 from ⟨by omega, fun q hq => f8 q (by omega)⟩)
    have hx11 : Ext H H6 := Ext.step hx (b := b5) (by have := (hx).1; omega) (by omega) f8
    obtain ⟨b12, H13, W14, he15, b12e, H13n, ha17, f16⟩ := mem_append1 (cx := 1) (m := i) (old := ((decN s).take i).map I64c) (by rw [List.length_map, List.length_take, decN_len]; omega) eok42 (by decide) ha10 hB9 rfl rfl (by omega) (by omega)
    refine st_op (he15 _ _ _ _ _ _ _ _ _ _ rfl rfl isrow42) rfl rfl rfl ?_
    have hx19 : Ext H H13 := Ext.step2 hx11 (b := b12) (b0 := b) (by have := (hx11).1; omega) (by omega) (by omega) f16
    refine st_op (ev_assign rfl) rfl rfl rfl ?_
    try show aw _ _ _ _ _ _
    refine aw_reg ?_
    refine st_op (ev_int64 (c := (i : Int) + 1) rfl rfl rfl (by omega) (by omega)) rfl rfl rfl ?_
    refine st_op (ev_move rfl) rfl rfl rfl ?_
    try show aw _ _ _ _ _ _
    refine aw_keep [0, 4, 7, 8] (l' := (.cons 0 (.string s) (.cons 4 (accV b12 (i + 1)) (.cons 7 (.int .i64 ((s).size : Int)) (.cons 8 (.int .i64 ((i : Int) + 1)) .nil))))) (by repeat (first | exact Up.done | refine Up.then ?_ | refine Up.inBlock ?_)) rfl ?_
    exact ih1 (i + 1, b12, H13) ⟨(show (i + 1) ≤ s.size from by omega), (show Acc H13 b12 1 (((decN s).take (i + 1)).map I64c) from by rw [List.take_add_one, List.map_append, show (decN s)[i]? = some ((y3.toNat : Int) - 48) by rw [decN, List.getElem?_map, hy4]; rfl]; exact ha17), (show H.next ≤ b12 from by omega), (show Ext H H13 from hx19)⟩ (by simp only; omega)
  · rw [Bool.not_eq_true] at hc2; rw [hc2]
    rw [if_neg Bool.false_ne_true]
    have hc2 := of_decide_eq_false hc2
    refine aw_exit ?_
    try show aw _ _ _ _ _ _
    refine aw_seq ?_
    refine aw_seq ?_
    refine aw_reg ?_
    refine st_op (ev_move rfl) rfl rfl rfl ?_
    refine st_call rfl rfl rfl ent49 rfl rfl rfl ?_
    obtain rfl : i = s.size := by omega
    rw [List.take_of_length_le (by rw [decN_len]; exact Nat.le_refl _)] at hA
    obtain ⟨A1, c1, e1, hm1⟩ := hA.mine (H0 := H) (n := (decN s).length) (by simp) hb
    have hcap := hm1.cap (by rw [List.length_map, decN_len]; omega)
    rw [List.length_map] at hcap
    obtain ⟨_, H21, hs20, hs20v, hx22⟩ := may_spec Hl A1 (decN s) c1 hm1.row hcap (by rw [decN_len]; omega)
    rw [hs20v, ← e1, decN_len] at hs20; clear hs20v
    rw [decN_len] at e1
    have hx22n := hx22.1
    refine ⟨_, H21, hs20, ?_⟩
    have hx23 : Ext H H21 := Ext.trans hx hx22
    have hm2 := Mine.ext hm1 hx22
    refine st_op (ev_not rfl) rfl rfl rfl ?_
    try show aw _ _ _ _ _ _
    refine aw_cond (t := !(mayL (decN s))) rfl ?_
    by_cases hc24 : (!(mayL (decN s))) = true
    · rw [hc24]
      rw [if_pos rfl]
      have hc24 : (mayL (decN s)) = false := by simpa using hc24
      refine aw_seq ?_
      refine aw_reg ?_
      refine st_op (ev_assign rfl) rfl rfl rfl ?_
      refine st_op (ev_assign rfl) rfl rfl rfl ?_
      try show aw _ _ _ _ _ _
      refine aw_ret ?_
      have hok : okS s = false := by assumption
      exact ⟨_, rfl, none, 0, by rw [decS, hok]; rfl, by rw [decS, hok]; exact .nil, hx23⟩
    · rw [Bool.not_eq_true] at hc24; rw [hc24]
      rw [if_neg Bool.false_ne_true]
      have hc24 : (mayL (decN s)) = true := by simpa using hc24
      refine aw_skip ?_
      try show aw _ _ _ _ _ _
      refine aw_seq ?_
      refine aw_reg ?_
      refine st_op (ev_move rfl) rfl rfl rfl ?_
      refine st_op (ev_assign rfl) rfl rfl rfl ?_
      refine st_op (ev_assign rfl) rfl rfl rfl ?_
      try show aw _ _ _ _ _ _
      refine aw_ret ?_
      have hok : okS s = true := by assumption
      exact ⟨_, rfl, A1, c1, by rw [decS, if_pos hok, decN_len, hok, ← e1]; rfl, by rw [decS, if_pos hok]; exact hm2, hx23⟩
theorem confat_spec (H : Heap) (p : Nat) (hp : p < H.next) (x tm : Int) (cf dt : ByteArray) (A : Option Addr) (es : List Entry) (c : Nat) (hB : H.blk p = some ⟨[.int .i64 x, .int .i64 tm, .string cf, .string dt, .slice A es.length c], 5, false, false⟩) (hrow : Row H A c 4 (es.map Entry.cells)) (hc : es.length ≤ c) (hm : es.length ≤ 1000000) (hx0 : 0 ≤ x) (hx1 : x ≤ 1099511627776) (hds : ∀ e ∈ es, e.data.size ≤ 1000000) (hcs : cf.size ≤ 1000000) (i : Int) : ∃ v H', Spec Try.prog 38 [.pointer (some ⟨p, 0, none⟩), .int .i64 i] H v H' ∧ (∃ A' c', v = .tuple #[.slice A' (confF x cf es i).1.length c', .int .i64 (confF x cf es i).2] ∧ Mine H H' A' c' 1 ((confF x cf es i).1.map I64c) ∧ Ext H H') := by
  refine spec_go2 E0_ok 64 (f := 38) Try.func38 rfl rfl rfl ?_
  refine aw_seq ?_
  refine aw_reg ?_
  refine st_op (ev_assign rfl) rfl rfl rfl ?_
  refine st_op (ev_assign rfl) rfl rfl rfl ?_
  try show aw _ _ _ _ _ _
  refine aw_seq ?_
  refine aw_seq ?_
  refine aw_reg ?_
  refine st_op (ev_move rfl) rfl rfl rfl ?_
  refine st_op (ev_nilEq rfl rfl Try.underlying28) rfl rfl rfl ?_
  try show aw _ _ _ _ _ _
  refine aw_cond (t := false) rfl ?_
  try show aw _ _ _ _ _ _
  refine aw_skip ?_
  try show aw _ _ _ _ _ _
  refine aw_seq ?_
  refine aw_seq ?_
  refine aw_reg ?_
  refine st_op (ev_move rfl) rfl rfl rfl ?_
  refine st_op (ev_move rfl) rfl rfl rfl ?_
  refine st_call rfl rfl rfl ent16 rfl rfl rfl ?_
  obtain ⟨_, _, hs1, hs1v, hs1h⟩ := last_spec H p (by omega) x tm cf dt A es c hB hrow hc (by omega) (by omega) (by omega)
  rw [hs1v, hs1h] at hs1; clear hs1v hs1h
  refine ⟨_, _, hs1, ?_⟩
  obtain ⟨z2, hz3, hz4⟩ : ∃ z, (if x + (es.length : Int) < i then x + (es.length : Int) else i) = z ∧ (i ≥ z ∧ x + (es.length : Int) ≥ z ∧ (z = i ∨ z = x + (es.length : Int))) := ⟨_, rfl, by split <;> omega⟩
  refine st_op (ev_minE hz3 rfl rfl) rfl rfl rfl ?_
  refine st_op (ev_assign rfl) rfl rfl rfl ?_
  try show aw _ _ _ _ _ _
  refine aw_block ?_
  have hz0 := hz3
  refine aw_keep [0, 6] (l' := (.cons 0 (.pointer (some ⟨p, 0, none⟩)) (.cons 6 (.int .i64 z2) .nil))) (by repeat (first | exact Up.done | refine Up.then ?_ | refine Up.inBlock ?_)) rfl ?_
  refine aw_iter (α := Int × Heap) (fun a => (a.1 - x).toNat) (fun a => (.cons 0 (.pointer (some ⟨p, 0, none⟩)) (.cons 6 (.int .i64 a.1) .nil))) (fun a => a.2) (fun a => (a.1 ≤ x + es.length) ∧ (confDn es (z2 - x).toNat = confDn es (a.1 - x).toNat) ∧ (Ext H a.2)) (z2, H) ⟨(show z2 ≤ x + es.length from by omega), (show confDn es (z2 - x).toNat = confDn es (z2 - x).toNat from rfl), (show Ext H H from (Ext.refl H))⟩ ?_
  rintro ⟨kk, Hl⟩ ⟨hkk, hv, hx⟩ ih5
  replace hkk : kk ≤ x + es.length := hkk
  replace hv : confDn es (z2 - x).toNat = confDn es (kk - x).toNat := hv
  replace hx : Ext H Hl := hx
  show aw _ _ _ (RL _ (.cons 0 (.pointer (some ⟨p, 0, none⟩)) (.cons 6 (.int .i64 kk) .nil))) Hl _
  have hxn := hx.1
  have hBl := (hx.2 p hp).trans hB
  have hrl := Row.ext hrow hx
  refine aw_seq ?_
  refine aw_seq ?_
  refine aw_reg ?_
  refine st_op (ev_move rfl) rfl rfl rfl ?_
  refine st_op (ev_move rfl) rfl rfl rfl ?_
  refine st_call rfl rfl rfl ent14 rfl rfl rfl ?_
  obtain ⟨_, _, hs6, hs6v, hs6h⟩ := first_spec Hl p (by omega) x tm cf dt A es c hBl hrl hc (by omega) (by omega) (by omega)
  rw [hs6v, hs6h] at hs6; clear hs6v hs6h
  refine ⟨_, _, hs6, ?_⟩
  refine st_op (ev_int rfl rfl rfl) rfl rfl rfl ?_
  try show aw _ _ _ _ _ _
  refine aw_cond (t := decide (kk ≥ x + 1)) rfl ?_
  by_cases hc7 : (decide (kk ≥ x + 1)) = true
  · rw [hc7]
    rw [if_pos rfl]
    have hc7 := of_decide_eq_true hc7
    refine aw_skip ?_
    try show aw _ _ _ _ _ _
    refine aw_seq ?_
    refine aw_block ?_
    refine aw_seq ?_
    refine aw_marksN (fun b => b < Hl.next) 12 [false, false, false, false, false, false, false, false, false, false, true, false] [(false, false, false), (false, false, false), (false, false, false), (true, false, false), (false, false, false), (false, false, false), (false, true, false), (false, false, false), (false, false, false), (true, false, false), (false, true, true), (false, false, false)] rfl mixed (by kernel_rfl) (by kernel_rfl) (fun base9 H8 base9e H8n hx10 => ?_)
    have hB11 := (hx10.2 p (by omega)).trans hBl
    have hr12 := Row.ext hrl hx10
    have hx13 : Ext H H8 := Ext.trans hx hx10
    refine sn_op (ev_move rfl) rfl rfl rfl rfl (fun h => nomatch h) ?_
    refine sn_op (ev_nilCheck rfl) rfl rfl rfl rfl (fun h => nomatch h) ?_
    refine sn_op (ev_fieldAddr rfl fa67_1 (o' := 4) rfl) rfl rfl rfl rfl (fun h => nomatch h) ?_
    refine sn_read 12 rfl (ev_load rfl (lvar_one one24 hB11 rfl)) rfl rfl rfl (fun b hb => by cases hb; dsimp only; exact ⟨by omega, by omega⟩) (fun h => nomatch h) ?_
    refine sn_op (ev_move rfl) rfl rfl rfl rfl (fun h => nomatch h) ?_
    refine sn_op (ev_move rfl) rfl rfl rfl rfl (fun h => nomatch h) ?_
    refine sn_call rfl rfl rfl ent14 rfl rfl rfl ?_
    obtain ⟨_, _, hs14, hs14v, hs14h⟩ := first_spec H8 p (by omega) x tm cf dt A es c hB11 hr12 hc (by omega) (by omega) (by omega)
    rw [hs14v, hs14h] at hs14; clear hs14v hs14h
    refine ⟨_, _, hs14, (fun _ _ _ => rfl), ?_⟩
    refine sn_op (ev_int64 (c := kk - (x + 1)) rfl rfl rfl (by omega) (by omega)) rfl rfl rfl rfl (fun h => nomatch h) ?_
    have hi15 : 0 ≤ (kk - (x + 1) : Int) := by omega
    have hi16 : (kk - (x + 1) : Int) < ((es.length : Nat) : Int) := by omega
    obtain ⟨x17, hx18⟩ : ∃ e, es[((kk - (x + 1))).toNat]? = some e := ⟨_, List.getElem?_eq_getElem (by omega)⟩
    obtain ⟨b19, o20, rfl, hr21⟩ := Row.at_ hr12 (getMap Entry.cells hx18)
    have b19lt := hr21.1
    have b19lt0 : b19 < H.next := by obtain ⟨_, _, hq, hr⟩ := Row.at_ hrow (getMap Entry.cells hx18); cases hq; exact hr.1
    refine sn_op (ev_indexAddr rfl rfl hi15 hi16 el24 (o' := o20 + (((kk - (x + 1))).toNat) * 4) (by first | rfl | (simp only [Int.toNat_natCast]; rfl) | simp)) rfl rfl rfl rfl (fun h => nomatch h) ?_
    refine sn_read 12 rfl (ev_load rfl (hr21.agg many37 (by decide) (getMap Entry.cells hx18))) rfl rfl rfl (fun b hb => by cases hb; dsimp only; exact ⟨by omega, by omega⟩) (fun h => nomatch h) ?_
    obtain ⟨b22, b22e⟩ : ∃ b, base9 + 10 = b := ⟨_, rfl⟩
    refine sn_alloc b22 b22e zero37 rfl rfl rfl rfl (fun _ b (hb : b < Hl.next) => by omega) (fun H23 H23n hB25 f24 => ?_)
    have hB26 := (f24 p (by omega)).trans hB11
    have hx27 : Ext H H23 := Ext.step hx13 (b := b22) (by have := (hx13).1; omega) (by omega) f24
    have hr28 := Row.ext hrow hx27
    obtain ⟨H29, he30, H29n, hB31, f32⟩ := mem_store (v := .agg #[.int .i64 x17.index, .int .i64 x17.term, .int .i64 x17.kind, .string x17.data]) (o := 0) (cs' := [.int .i64 x17.index, .int .i64 x17.term, .int .i64 x17.kind, .string x17.data]) 4 rfl rfl size37 hB25 rfl rfl rfl
    refine sn_op0 (he30 _ _ _ _ _ _ _ _ _ rfl rfl) rfl rfl rfl (fun h => nomatch h) ?_
    have hB33 := (f32 p (by omega)).trans hB26
    have hx34 : Ext H H29 := Ext.step hx27 (b := b22) (by have := (hx27).1; omega) (by omega) f32
    have hr35 := Row.ext hrow hx34
    try show aw _ _ _ _ _ _
    refine aw_seq ?_
    refine aw_reg ?_
    refine st_op (ev_fieldAddr rfl fa37_3 (o' := 3) rfl) rfl rfl rfl ?_
    refine st_op (ev_load rfl (lvar_one one9 hB31 rfl)) rfl rfl rfl ?_
    refine st_call rfl rfl rfl ent46 rfl rfl rfl ?_
    obtain ⟨_, H40, hs39, A36, c37, hs39v, hm38, hx41⟩ := decode_spec H29 x17.data (by first | assumption | exact hds _ (List.mem_of_getElem? hx18))
    rw [hs39v] at hs39; clear hs39v
    have hx41n := hx41.1
    refine ⟨_, H40, hs39, ?_⟩
    have hB42 := (hx41.2 p (by omega)).trans hB33
    have hr43 := Row.ext hr35 hx41
    have hB44 := (hx41.2 b22 (by omega)).trans hB31
    have hx45 : Ext H H40 := Ext.trans hx34 hx41
    refine st_op (ev_move rfl) rfl rfl rfl ?_
    refine st_op (ev_extract rfl rfl) rfl rfl rfl ?_
    refine st_op (ev_extract rfl rfl) rfl rfl rfl ?_
    refine st_op (ev_assign rfl) rfl rfl rfl ?_
    refine st_op (ev_assign rfl) rfl rfl rfl ?_
    try show aw _ _ _ _ _ _
    refine aw_seq ?_
    refine aw_reg ?_
    refine st_op (ev_move rfl) rfl rfl rfl ?_
    refine st_op (ev_move rfl) rfl rfl rfl ?_
    refine st_bool 41 rfl (fun hb46 => ?_) (fun hb46 => ?_)
    ·
      refine st_op (ev_fieldAddr rfl fa37_2 (o' := 2) rfl) rfl rfl rfl ?_
      refine st_op (ev_load rfl (lvar_one one3 hB44 rfl)) rfl rfl rfl ?_
      refine st_op (ev_int rfl rfl rfl) rfl rfl rfl ?_
      refine st_op (ev_pickT rfl rfl) rfl rfl rfl ?_
      try show aw _ _ _ _ _ _
      refine aw_cond (t := x17.kind == 3) rfl ?_
      by_cases hc47 : (x17.kind == 3) = true
      · rw [hc47]
        rw [if_pos rfl]
        have hc47 := eq_of_beq hc47
        refine aw_seq ?_
        refine aw_reg ?_
        refine st_op (ev_move rfl) rfl rfl rfl ?_
        refine st_op (ev_move rfl) rfl rfl rfl ?_
        refine st_op (ev_assign rfl) rfl rfl rfl ?_
        refine st_op (ev_assign rfl) rfl rfl rfl ?_
        try show aw _ _ _ _ _ _
        refine aw_ret ?_
        have hcond : (okS x17.data && x17.kind == 3) = true := by simp_all
        have hcf : confF x cf es i = (decS x17.data, kk) := by unfold confF; rw [hz0, hv, show (kk - x).toNat = (kk - (x + 1)).toNat + 1 by omega, confDn, hx18]; simp only [hcond, if_true]; rw [show x + 1 + ((kk - (x + 1)).toNat : Int) = kk by omega]
        exact ⟨_, rfl, A36, c37, by rw [hcf]; rfl, by rw [hcf]; exact Mine.older hm38 (by omega), hx45⟩
      · rw [Bool.not_eq_true] at hc47; rw [hc47]
        rw [if_neg Bool.false_ne_true]
        have hc47 := ne_of_beq_false hc47
        refine aw_skip ?_
        try show aw _ _ _ _ _ _
        refine aw_reg ?_
        refine st_op (ev_move rfl) rfl rfl rfl ?_
        refine st_op (ev_int64 (c := kk - 1) rfl rfl rfl (by omega) (by omega)) rfl rfl rfl ?_
        refine st_op (ev_assign rfl) rfl rfl rfl ?_
        try show aw _ _ _ _ _ _
        refine aw_keep [0, 6] (l' := (.cons 0 (.pointer (some ⟨p, 0, none⟩)) (.cons 6 (.int .i64 (kk - 1)) .nil))) (by repeat (first | exact Up.done | refine Up.then ?_ | refine Up.inBlock ?_)) rfl ?_
        have hcond : (okS x17.data && x17.kind == 3) = false := by simp_all
        exact ih5 (kk - 1, H40) ⟨(show (kk - 1) ≤ x + es.length from by omega), (show confDn es (z2 - x).toNat = confDn es ((kk - 1) - x).toNat from by rw [hv, show (kk - x).toNat = (kk - (x + 1)).toNat + 1 by omega, confDn, hx18]; simp only [hcond]; rw [show (kk - 1 - x).toNat = (kk - (x + 1)).toNat by omega]; rfl), (show Ext H H40 from hx45)⟩ (by simp only; omega)
    ·
      refine st_skip rfl rfl rfl ?_
      refine st_skip rfl rfl rfl ?_
      refine st_skip rfl rfl rfl ?_
      refine st_op (ev_pickF rfl rfl) rfl rfl rfl ?_
      try show aw _ _ _ _ _ _
      refine aw_cond (t := false) rfl ?_
      try show aw _ _ _ _ _ _
      refine aw_skip ?_
      try show aw _ _ _ _ _ _
      refine aw_reg ?_
      refine st_op (ev_move rfl) rfl rfl rfl ?_
      refine st_op (ev_int64 (c := kk - 1) rfl rfl rfl (by omega) (by omega)) rfl rfl rfl ?_
      refine st_op (ev_assign rfl) rfl rfl rfl ?_
      try show aw _ _ _ _ _ _
      refine aw_keep [0, 6] (l' := (.cons 0 (.pointer (some ⟨p, 0, none⟩)) (.cons 6 (.int .i64 (kk - 1)) .nil))) (by repeat (first | exact Up.done | refine Up.then ?_ | refine Up.inBlock ?_)) rfl ?_
      have hcond : (okS x17.data && x17.kind == 3) = false := by simp_all
      exact ih5 (kk - 1, H40) ⟨(show (kk - 1) ≤ x + es.length from by omega), (show confDn es (z2 - x).toNat = confDn es ((kk - 1) - x).toNat from by rw [hv, show (kk - x).toNat = (kk - (x + 1)).toNat + 1 by omega, confDn, hx18]; simp only [hcond]; rw [show (kk - 1 - x).toNat = (kk - (x + 1)).toNat by omega]; rfl), (show Ext H H40 from hx45)⟩ (by simp only; omega)
  · rw [Bool.not_eq_true] at hc7; rw [hc7]
    rw [if_neg Bool.false_ne_true]
    have hc7 := of_decide_eq_false hc7
    refine aw_exit ?_
    try show aw _ _ _ _ _ _
    refine aw_seq ?_
    refine aw_seq ?_
    refine aw_reg ?_
    refine st_op (ev_move rfl) rfl rfl rfl ?_
    refine st_op (ev_nilCheck rfl) rfl rfl rfl ?_
    refine st_op (ev_fieldAddr rfl fa67_0 (o' := 0) rfl) rfl rfl rfl ?_
    refine st_op (ev_fieldAddr rfl fa23_2 (o' := 2) rfl) rfl rfl rfl ?_
    refine st_op (ev_load rfl (lvar_one one9 hBl rfl)) rfl rfl rfl ?_
    refine st_call rfl rfl rfl ent46 rfl rfl rfl ?_
    obtain ⟨_, H52, hs51, A48, c49, hs51v, hm50, hx53⟩ := decode_spec Hl cf (by first | assumption | exact hds _ (List.mem_of_getElem? hx18))
    rw [hs51v] at hs51; clear hs51v
    have hx53n := hx53.1
    refine ⟨_, H52, hs51, ?_⟩
    have hB54 := (hx53.2 p (by omega)).trans hBl
    have hr55 := Row.ext hrl hx53
    have hx56 : Ext H H52 := Ext.trans hx hx53
    refine st_op (ev_move rfl) rfl rfl rfl ?_
    refine st_op (ev_extract rfl rfl) rfl rfl rfl ?_
    refine st_op (ev_extract rfl rfl) rfl rfl rfl ?_
    refine st_op (ev_assign rfl) rfl rfl rfl ?_
    refine st_op (ev_assign rfl) rfl rfl rfl ?_
    try show aw _ _ _ _ _ _
    refine aw_seq ?_
    refine aw_reg ?_
    refine st_op (ev_move rfl) rfl rfl rfl ?_
    try show aw _ _ _ _ _ _
    refine aw_cond (t := okS cf) rfl ?_
    by_cases hc57 : (okS cf) = true
    · rw [hc57]
      rw [if_pos rfl]
      refine aw_seq ?_
      refine aw_marks (fun b => b < H52.next) [(false, false), (false, false), (false, false), (false, false), (false, false), (false, false), (false, false), (false, false)] mixed (by kernel_rfl) (by kernel_rfl) ?_
      refine sm_op (ev_move rfl) rfl rfl rfl ?_
      refine sm_op (ev_move rfl) rfl rfl rfl ?_
      refine sm_op (ev_nilCheck rfl) rfl rfl rfl ?_
      refine sm_op (ev_fieldAddr rfl fa67_0 (o' := 0) rfl) rfl rfl rfl ?_
      refine sm_op (ev_fieldAddr rfl fa23_0 (o' := 0) rfl) rfl rfl rfl ?_
      refine sm_op (ev_load rfl (lvar_one one2 hB54 rfl)) rfl rfl rfl ?_
      refine sm_op (ev_assign rfl) rfl rfl rfl ?_
      refine sm_op (ev_assign rfl) rfl rfl rfl ?_
      try show aw _ _ _ _ _ _
      refine aw_ret ?_
      have hdn : confDn es ((if x + es.length < i then x + es.length else i) - x).toNat = none := by rw [hz0, hv, show (kk - x).toNat = 0 by omega]; rfl
      have hcf : confF x cf es i = (decS cf, x) := by unfold confF; rw [hdn]; simp_all
      exact ⟨_, rfl, A48, c49, by rw [hcf]; rfl, by rw [hcf]; exact Mine.older hm50 (by omega), hx56⟩
    · rw [Bool.not_eq_true] at hc57; rw [hc57]
      rw [if_neg Bool.false_ne_true]
      refine aw_skip ?_
      try show aw _ _ _ _ _ _
      refine aw_seq ?_
      refine aw_reg ?_
      refine st_op (ev_assign rfl) rfl rfl rfl ?_
      refine st_op (ev_assign rfl) rfl rfl rfl ?_
      try show aw _ _ _ _ _ _
      refine aw_ret ?_
      have hdn : confDn es ((if x + es.length < i then x + es.length else i) - x).toNat = none := by rw [hz0, hv, show (kk - x).toNat = 0 by omega]; rfl
      have hcf : confF x cf es i = ([], 0) := by unfold confF; rw [hdn]; simp_all
      exact ⟨_, rfl, none, 0, by rw [hcf]; rfl, by rw [hcf]; exact .nil, hx56⟩
theorem conf_spec (H : Heap) (p : Nat) (hp : p < H.next) (x tm : Int) (cf dt : ByteArray) (A : Option Addr) (es : List Entry) (c : Nat) (hB : H.blk p = some ⟨[.int .i64 x, .int .i64 tm, .string cf, .string dt, .slice A es.length c], 5, false, false⟩) (hrow : Row H A c 4 (es.map Entry.cells)) (hc : es.length ≤ c) (hm : es.length ≤ 1000000) (hx0 : 0 ≤ x) (hx1 : x ≤ 1099511627776) (hds : ∀ e ∈ es, e.data.size ≤ 1000000) (hcs : cf.size ≤ 1000000) : ∃ v H', Spec Try.prog 20 [.pointer (some ⟨p, 0, none⟩)] H v H' ∧ (∃ A' c', v = .tuple #[.slice A' (confF x cf es (x + (es.length : Int))).1.length c', .int .i64 (confF x cf es (x + (es.length : Int))).2] ∧ Mine H H' A' c' 1 ((confF x cf es (x + (es.length : Int))).1.map I64c) ∧ Ext H H') := by
  refine spec_go1 E0_ok 10 (f := 20) Try.func20 rfl rfl rfl ?_
  refine aw_seq ?_
  refine aw_reg ?_
  refine st_op (ev_assign rfl) rfl rfl rfl ?_
  refine st_op (ev_assign rfl) rfl rfl rfl ?_
  try show aw _ _ _ _ _ _
  refine aw_seq ?_
  refine aw_reg ?_
  refine st_op (ev_move rfl) rfl rfl rfl ?_
  refine st_op (ev_move rfl) rfl rfl rfl ?_
  refine st_call rfl rfl rfl ent16 rfl rfl rfl ?_
  obtain ⟨_, _, hs1, hs1v, hs1h⟩ := last_spec H p (by omega) x tm cf dt A es c hB hrow hc (by omega) (by omega) (by omega)
  rw [hs1v, hs1h] at hs1; clear hs1v hs1h
  refine ⟨_, _, hs1, ?_⟩
  refine st_call rfl rfl rfl ent38 rfl rfl rfl ?_
  obtain ⟨_, H6, hs5, A2, c3, hs5v, hm4, hx7⟩ := confat_spec H p (by omega) x tm cf dt A es c hB hrow hc (by omega) (by omega) (by omega) hds hcs (x + (es.length : Int))
  rw [hs5v] at hs5; clear hs5v
  have hx7n := hx7.1
  refine ⟨_, H6, hs5, ?_⟩
  have hB8 := (hx7.2 p (by omega)).trans hB
  have hr9 := Row.ext hrow hx7
  have hx10 : Ext H H6 := Ext.trans (Ext.refl H) hx7
  refine st_op (ev_extract rfl rfl) rfl rfl rfl ?_
  refine st_op (ev_extract rfl rfl) rfl rfl rfl ?_
  refine st_op (ev_assign rfl) rfl rfl rfl ?_
  refine st_op (ev_assign rfl) rfl rfl rfl ?_
  try show aw _ _ _ _ _ _
  refine aw_ret ?_
  exact ⟨_, rfl, A2, c3, rfl, Mine.older hm4 (by omega), hx10⟩
theorem logconf_spec (H : Heap) (n : Int) (A : Option Addr) (ats : List Int) (c : Nat) (hrow : Row H A c 1 (ats.map I64c)) (hc : ats.length ≤ c) (hm : ats.length ≤ 140737488351232) : ∃ v H', Spec Try.prog 6 [.int .i64 n, .slice A ats.length c] H v H' ∧ (v = .bool true) := by
  refine spec_go2 E0_ok 108 (f := 6) Try.func6 rfl rfl rfl ?_
  refine aw_seq ?_
  refine aw_reg ?_
  refine st_op (ev_assign rfl) rfl rfl rfl ?_
  try show aw _ _ _ _ _ _
  refine aw_seq ?_
  refine aw_reg ?_
  refine st_call rfl rfl rfl ent9 rfl rfl rfl ?_
  obtain ⟨_, _, hs1, hs1v, hs1h⟩ := begun_spec H
  rw [hs1v, hs1h] at hs1; clear hs1v hs1h
  refine ⟨_, _, hs1, ?_⟩
  refine st_op (ev_assign rfl) rfl rfl rfl ?_
  try show aw _ _ _ _ _ _
  refine aw_seq ?_
  refine aw_seq ?_
  refine aw_reg ?_
  refine st_op (ev_move rfl) rfl rfl rfl ?_
  refine st_op (ev_not rfl) rfl rfl rfl ?_
  try show aw _ _ _ _ _ _
  refine aw_cond (t := false) rfl ?_
  try show aw _ _ _ _ _ _
  refine aw_skip ?_
  try show aw _ _ _ _ _ _
  refine aw_seq ?_
  refine aw_seq ?_
  refine aw_reg ?_
  refine st_op (ev_move rfl) rfl rfl rfl ?_
  refine st_op (ev_int rfl rfl rfl) rfl rfl rfl ?_
  refine st_op (ev_move rfl) rfl rfl rfl ?_
  refine st_bool 21 rfl (fun hb2 => ?_) (fun hb2 => ?_)
  ·
    have hb2 := of_decide_eq_true hb2
    refine st_skip rfl rfl rfl ?_
    refine st_skip rfl rfl rfl ?_
    refine st_op (ev_pickT rfl rfl) rfl rfl rfl ?_
    try show aw _ _ _ _ _ _
    refine aw_cond (t := true) rfl ?_
    try show aw _ _ _ _ _ _
    refine aw_seq ?_
    refine aw_reg ?_
    refine st_op (ev_assign rfl) rfl rfl rfl ?_
    try show aw _ _ _ _ _ _
    refine aw_ret ?_
    first | exact ⟨_, rfl, rfl⟩ | (exfalso; omega) | (exfalso; simp_all; done)
  ·
    have hb2 := of_decide_eq_false hb2
    refine st_op (ev_move rfl) rfl rfl rfl ?_
    refine st_op (ev_int rfl rfl rfl) rfl rfl rfl ?_
    refine st_op (ev_pickF rfl rfl) rfl rfl rfl ?_
    try show aw _ _ _ _ _ _
    refine aw_cond (t := decide (n > 30)) rfl ?_
    by_cases hc3 : (decide (n > 30)) = true
    · rw [hc3]
      rw [if_pos rfl]
      have hc3 := of_decide_eq_true hc3
      refine aw_seq ?_
      refine aw_reg ?_
      refine st_op (ev_assign rfl) rfl rfl rfl ?_
      try show aw _ _ _ _ _ _
      refine aw_ret ?_
      first | exact ⟨_, rfl, rfl⟩ | (exfalso; omega) | (exfalso; simp_all; done)
    · rw [Bool.not_eq_true] at hc3; rw [hc3]
      rw [if_neg Bool.false_ne_true]
      have hc3 := of_decide_eq_false hc3
      refine aw_skip ?_
      try show aw _ _ _ _ _ _
      refine aw_seq ?_
      refine aw_reg ?_
      refine st_op (ev_assign rfl) rfl rfl rfl ?_
      try show aw _ _ _ _ _ _
      refine aw_seq ?_
      refine aw_reg ?_
      refine st_op (ev_assign rfl) rfl rfl rfl ?_
      refine st_op (ev_assign rfl) rfl rfl rfl ?_
      try show aw _ _ _ _ _ _
      refine aw_seq ?_
      refine aw_seq ?_
      refine aw_reg ?_
      refine st_op (ev_assign rfl) rfl rfl rfl ?_
      try show aw _ _ _ _ _ _
      refine aw_block ?_
      refine aw_keep [0, 1, 6, 7, 8, 9] (l' := (.cons 0 (.int .i64 n) (.cons 1 (.slice A ats.length c) (.cons 6 (.slice none 0 0) (.cons 7 (.string (⟨#[49, 50, 51]⟩)) (.cons 8 (.int .i64 5) (.cons 9 (.int .i64 0) .nil))))))) (by repeat (first | exact Up.done | refine Up.then ?_ | refine Up.inBlock ?_)) rfl ?_
      refine aw_iter (α := Nat × Nat × List Entry × ByteArray × Int × Heap) (fun a => n.toNat - a.1) (fun a => (.cons 0 (.int .i64 n) (.cons 1 (.slice A ats.length c) (.cons 6 (accV a.2.1 a.1) (.cons 7 (.string a.2.2.2.1) (.cons 8 (.int .i64 a.2.2.2.2.1) (.cons 9 (.int .i64 (a.1 : Int)) .nil))))))) (fun a => a.2.2.2.2.2) (fun a => ((a.1 : Int) ≤ n) ∧ (a.2.2.1.length = a.1) ∧ (Acc a.2.2.2.2.2 a.2.1 4 (a.2.2.1.map Entry.cells)) ∧ (H.next ≤ a.2.1) ∧ (rowOk 5 1 a.2.2.1 = true) ∧ (∀ u ∈ a.2.2.1, u.term = 1) ∧ (confOk a.2.2.1 a.2.2.2.1 a.2.2.2.2.1) ∧ (wantOk a.2.2.2.1) ∧ (∀ u ∈ a.2.2.1, u.data.size ≤ 1000000) ∧ (Ext H a.2.2.2.2.2)) (0, H.next, ([] : List Entry), ⟨#[49, 50, 51]⟩, 5, H) ⟨(show (0 : Int) ≤ n from by omega), (show ([] : List Entry).length = 0 from rfl), (show Acc H H.next 4 (([] : List Entry).map Entry.cells) from .nil _ _ _), (show H.next ≤ H.next from ((Ext.refl H)).1), (show rowOk 5 1 ([] : List Entry) = true from rfl), (show ∀ u ∈ ([] : List Entry), u.term = 1 from fun u hu => by cases hu), (show confOk ([] : List Entry) (⟨#[49, 50, 51]⟩) 5 from .inl ⟨rfl, rfl, rfl⟩), (show wantOk (⟨#[49, 50, 51]⟩) from .inl rfl), (show ∀ u ∈ ([] : List Entry), u.data.size ≤ 1000000 from fun u hu => by cases hu), (show Ext H H from (Ext.refl H))⟩ ?_
      rintro ⟨i, b, L, wt, wh, Hl⟩ ⟨hi, hL, hA, hb, hrk, htm, hcf, hwt, hsz, hx⟩ ih4
      replace hi : (i : Int) ≤ n := hi
      replace hL : L.length = i := hL
      replace hA : Acc Hl b 4 (L.map Entry.cells) := hA
      replace hb : H.next ≤ b := hb
      replace hrk : rowOk 5 1 L = true := hrk
      replace htm : ∀ u ∈ L, u.term = 1 := htm
      replace hcf : confOk L wt wh := hcf
      replace hwt : wantOk wt := hwt
      replace hsz : ∀ u ∈ L, u.data.size ≤ 1000000 := hsz
      replace hx : Ext H Hl := hx
      show aw _ _ _ (RL _ (.cons 0 (.int .i64 n) (.cons 1 (.slice A ats.length c) (.cons 6 (accV b i) (.cons 7 (.string wt) (.cons 8 (.int .i64 wh) (.cons 9 (.int .i64 (i : Int)) .nil))))))) Hl _
      have hxn := hx.1
      have hro := Row.ext hrow hx
      refine aw_seq ?_
      refine aw_seq ?_
      refine aw_reg ?_
      refine st_op (ev_move rfl) rfl rfl rfl ?_
      refine st_op (ev_move rfl) rfl rfl rfl ?_
      refine st_op (ev_int rfl rfl rfl) rfl rfl rfl ?_
      try show aw _ _ _ _ _ _
      refine aw_cond (t := decide ((i : Int) < n)) rfl ?_
      by_cases hc5 : (decide ((i : Int) < n)) = true
      · rw [hc5]
        rw [if_pos rfl]
        have hc5 := of_decide_eq_true hc5
        refine aw_skip ?_
        try show aw _ _ _ _ _ _
        refine aw_seq ?_
        refine aw_block ?_
        refine aw_seq ?_
        refine aw_reg ?_
        refine st_op (ev_move rfl) rfl rfl rfl ?_
        refine st_op (ev_int64 (c := 6 + (i : Int)) rfl rfl rfl (by omega) (by omega)) rfl rfl rfl ?_
        refine st_op (ev_build zero37 pl37 (parts := [(0, .int .i64 (6 + (i : Int))), (1, .int .i64 1), (2, .int .i64 1), (3, .string (⟨#[49, 50]⟩))]) rfl (cs := [.int .i64 (6 + (i : Int)), .int .i64 1, .int .i64 1, .string (⟨#[49, 50]⟩)]) rfl) rfl rfl rfl ?_
        obtain ⟨b6, H7, he8, b6e, H7n, hB10, f9⟩ := mem_alloc Hl zero37
        refine st_op (he8 _ _ _ _ _ _ _) rfl rfl rfl ?_
        have ha11 := Acc.ext hA (show Ext Hl H7 from ⟨by omega, fun q hq => f9 q (by omega)⟩)
        have hr12 := Row.alloc hro b6e (by omega) f9
        have hx13 : Ext H H7 := Ext.step hx (b := b6) (by have := (hx).1; omega) (by omega) f9
        obtain ⟨H14, he15, H14n, hB16, f17⟩ := mem_store (v := .agg #[.int .i64 (6 + (i : Int)), .int .i64 1, .int .i64 1, .string (⟨#[49, 50]⟩)]) (o := 0) (cs' := [.int .i64 (6 + (i : Int)), .int .i64 1, .int .i64 1, .string (⟨#[49, 50]⟩)]) 4 rfl rfl size37 hB10 rfl rfl rfl
        refine st_op0 (he15 _ _ _ _ _ _ _ _ _ rfl rfl) rfl rfl ?_
        have ha18 := Acc.write ha11 hB10 (by omega) f17
        have hr19 := Row.write hr12 hB10 (by decide) (by omega) f17
        have hx20 : Ext H H14 := Ext.step hx13 (b := b6) (by have := (hx13).1; omega) (by omega) f17
        try show aw _ _ _ _ _ _
        refine aw_seq ?_
        refine aw_seq ?_
        refine aw_reg ?_
        refine st_op (ev_assign rfl) rfl rfl rfl ?_
        try show aw _ _ _ _ _ _
        refine aw_block ?_
        refine aw_keep [0, 1, 6, 7, 8, 9, 10, 11] (l' := (.cons 0 (.int .i64 n) (.cons 1 (.slice A ats.length c) (.cons 6 (accV b i) (.cons 7 (.string wt) (.cons 8 (.int .i64 wh) (.cons 9 (.int .i64 (i : Int)) (.cons 10 (.pointer (some ⟨b6, 0, none⟩)) (.cons 11 (.int .i64 0) .nil))))))))) (by repeat (first | exact Up.done | refine Up.then ?_ | refine Up.inBlock ?_)) rfl ?_
        refine aw_iter (α := Nat × Int × ByteArray × Heap) (fun a => ats.length - a.1) (fun a => (.cons 0 (.int .i64 n) (.cons 1 (.slice A ats.length c) (.cons 6 (accV b i) (.cons 7 (.string wt) (.cons 8 (.int .i64 wh) (.cons 9 (.int .i64 (i : Int)) (.cons 10 (.pointer (some ⟨b6, 0, none⟩)) (.cons 11 (.int .i64 (a.1 : Int)) .nil))))))))) (fun a => a.2.2.2) (fun a => (a.1 ≤ ats.length) ∧ (a.2.2.2.blk b6 = some ⟨[.int .i64 (6 + (i : Int)), .int .i64 1, .int .i64 a.2.1, .string a.2.2.1], 4, false, false⟩) ∧ (kindOk a.2.1 a.2.2.1) ∧ (Acc a.2.2.2 b 4 (L.map Entry.cells)) ∧ (Ext H a.2.2.2) ∧ (H14.next ≤ a.2.2.2.next)) (0, 1, ⟨#[49, 50]⟩, H14) ⟨(show 0 ≤ ats.length from Nat.zero_le _), (show H14.blk b6 = some ⟨[.int .i64 (6 + (i : Int)), .int .i64 1, .int .i64 1, .string (⟨#[49, 50]⟩)], 4, false, false⟩ from hB16), (show kindOk 1 (⟨#[49, 50]⟩) from .inl ⟨rfl, rfl⟩), (show Acc H14 b 4 (L.map Entry.cells) from ha18), (show Ext H H14 from hx20), (show H14.next ≤ H14.next from Nat.le_refl _)⟩ ?_
        rintro ⟨k, kd, dt, Hk⟩ ⟨hk, hE, hkd, hAk, hxk, hnk⟩ ih21
        replace hk : k ≤ ats.length := hk
        replace hE : Hk.blk b6 = some ⟨[.int .i64 (6 + (i : Int)), .int .i64 1, .int .i64 kd, .string dt], 4, false, false⟩ := hE
        replace hkd : kindOk kd dt := hkd
        replace hAk : Acc Hk b 4 (L.map Entry.cells) := hAk
        replace hxk : Ext H Hk := hxk
        replace hnk : H14.next ≤ Hk.next := hnk
        show aw _ _ _ (RL _ (.cons 0 (.int .i64 n) (.cons 1 (.slice A ats.length c) (.cons 6 (accV b i) (.cons 7 (.string wt) (.cons 8 (.int .i64 wh) (.cons 9 (.int .i64 (i : Int)) (.cons 10 (.pointer (some ⟨b6, 0, none⟩)) (.cons 11 (.int .i64 (k : Int)) .nil))))))))) Hk _
        have hxkn := hxk.1
        have hrk1 := Row.ext hrow hxk
        refine aw_seq ?_
        refine aw_seq ?_
        refine aw_reg ?_
        refine st_op (ev_move rfl) rfl rfl rfl ?_
        refine st_op (ev_move rfl) rfl rfl rfl ?_
        refine st_op (ev_lenSl rfl Try.underlying42) rfl rfl rfl ?_
        refine st_op (ev_int rfl rfl rfl) rfl rfl rfl ?_
        refine st_op (ev_move rfl) rfl rfl rfl ?_
        refine st_bool 37 rfl (fun hb22 => ?_) (fun hb22 => ?_)
        ·
          have hb22 := of_decide_eq_true hb22
          refine st_op (ev_move rfl) rfl rfl rfl ?_
          refine st_op (ev_int rfl rfl rfl) rfl rfl rfl ?_
          refine st_op (ev_pickT rfl rfl) rfl rfl rfl ?_
          try show aw _ _ _ _ _ _
          refine aw_cond (t := decide ((k : Int) < 10)) rfl ?_
          by_cases hc23 : (decide ((k : Int) < 10)) = true
          · rw [hc23]
            rw [if_pos rfl]
            have hc23 := of_decide_eq_true hc23
            refine aw_skip ?_
            try show aw _ _ _ _ _ _
            refine aw_seq ?_
            refine aw_block ?_
            refine aw_seq ?_
            refine aw_reg ?_
            refine st_op (ev_move rfl) rfl rfl rfl ?_
            refine st_op (ev_move rfl) rfl rfl rfl ?_
            have hi24 : 0 ≤ ((k : Int) : Int) := by omega
            have hi25 : ((k : Int) : Int) < ((ats.length : Nat) : Int) := by omega
            obtain ⟨x26, hx27⟩ : ∃ e, ats[k]? = some e := ⟨_, List.getElem?_eq_getElem (by omega)⟩
            obtain ⟨b28, o29, rfl, hr30⟩ := Row.at_ hrk1 (getMap I64c hx27)
            have b28lt := hr30.1
            refine st_op (ev_indexAddr rfl rfl hi24 hi25 el42 (o' := o29 + k * 1) (by first | rfl | (simp only [Int.toNat_natCast]; rfl) | simp)) rfl rfl rfl ?_
            refine st_op (ev_load rfl (hr30.lvar0 one3 (getMap I64c hx27) rfl)) rfl rfl rfl ?_
            refine st_op (ev_move rfl) rfl rfl rfl ?_
            refine st_op (ev_int rfl rfl rfl) rfl rfl rfl ?_
            try show aw _ _ _ _ _ _
            refine aw_cond (t := x26 == (i : Int)) rfl ?_
            by_cases hc31 : (x26 == (i : Int)) = true
            · rw [hc31]
              rw [if_pos rfl]
              have hc31 := eq_of_beq hc31
              refine aw_seq ?_
              refine aw_reg ?_
              refine st_op (ev_fieldAddr rfl fa37_2 (o' := 2) rfl) rfl rfl rfl ?_
              obtain ⟨H32, he33, H32n, hB34, f35⟩ := mem_store (v := .int .i64 3) (o := 2) (cs' := [.int .i64 (6 + (i : Int)), .int .i64 1, .int .i64 3, .string dt]) 1 rfl rfl size3 hE rfl rfl rfl
              refine st_op0 (he33 _ _ _ _ _ _ _ _ _ rfl rfl) rfl rfl ?_
              have ha36 := Acc.write hAk hE (by omega) f35
              have hr37 := RowIn.next hr30 (show Hk.next ≤ H32.next by omega) (f35 b28 (RowIn.ne hr30 hE (by decide)))
              have hx38 : Ext H H32 := Ext.step hxk (b := b6) (by have := (hxk).1; omega) (by omega) f35
              try show aw _ _ _ _ _ _
              refine aw_reg ?_
              obtain ⟨b39, H40, he41, b39e, H40n, hB43, f42⟩ := mem_build H32 (xs := [.string (⟨#[49, 50]⟩), .string (⟨#[49, 50, 51, 52]⟩), .string (⟨#[120]⟩), .string (⟨#[49, 51]⟩)]) (m := 4) (rows := [[.string (⟨#[49, 50]⟩)], [.string (⟨#[49, 50, 51, 52]⟩)], [.string (⟨#[120]⟩)], [.string (⟨#[49, 51]⟩)]]) rfl eok43 (by decide) (by decide) zf9 rfl (allLen rfl) rfl
              refine st_op (he41 _ _ _ _ _ _ _ _ rfl) rfl rfl rfl ?_
              have ha44 := Acc.ext ha36 (show Ext H32 H40 from ⟨by omega, fun q hq => f42 q (by omega)⟩)
              have hr45 := RowIn.next hr37 (show H32.next ≤ H40.next by omega) (f42 b28 (by have := hr37.1; omega))
              have hB46 := (f42 b6 (by omega)).trans hB34
              have hx47 : Ext H H40 := Ext.step hx38 (b := b39) (by have := (hx38).1; omega) (by omega) f42
              refine st_op (ev_move rfl) rfl rfl rfl ?_
              obtain ⟨z48, hz49⟩ : ∃ z, k % 4 = z := ⟨_, rfl⟩
              rcases (show z48 = 0 ∨ z48 = 1 ∨ z48 = 2 ∨ z48 = 3 by omega) with rfl | rfl | rfl | rfl
              ·
                refine st_op (ev_remE hz49 rfl rfl rfl) rfl rfl rfl ?_
                have hi50 : 0 ≤ (0 : Int) := by omega
                have hi51 : (0 : Int) < ((4 : Nat) : Int) := by omega
                refine st_op (ev_indexAddr rfl rfl hi50 hi51 el43 (o' := 0 + 0 * 1) rfl) rfl rfl rfl ?_
                refine st_op (ev_load rfl (hB43.lvar0 one9 rfl rfl)) rfl rfl rfl ?_
                refine st_op (ev_fieldAddr rfl fa37_3 (o' := 3) rfl) rfl rfl rfl ?_
                obtain ⟨H52, he53, H52n, hB54, f55⟩ := mem_store (v := .string (⟨#[49, 50]⟩)) (o := 3) (cs' := [.int .i64 (6 + (i : Int)), .int .i64 1, .int .i64 3, .string (⟨#[49, 50]⟩)]) 1 rfl rfl size9 hB46 rfl rfl rfl
                refine st_op0 (he53 _ _ _ _ _ _ _ _ _ rfl rfl) rfl rfl ?_
                have ha56 := Acc.write ha44 hB46 (by omega) f55
                have hr57 := RowIn.next hr45 (show H40.next ≤ H52.next by omega) (f55 b28 (RowIn.ne hr45 hB46 (by decide)))
                have hr58 := RowIn.next hB43 (show H40.next ≤ H52.next by omega) (f55 b39 (RowIn.ne hB43 hB46 (by decide)))
                have hx59 : Ext H H52 := Ext.step hx47 (b := b6) (by have := (hx47).1; omega) (by omega) f55
                try show aw _ _ _ _ _ _
                refine aw_reg ?_
                refine st_op (ev_move rfl) rfl rfl rfl ?_
                refine st_op (ev_int64 (c := (k : Int) + 1) rfl rfl rfl (by omega) (by omega)) rfl rfl rfl ?_
                refine st_op (ev_assign rfl) rfl rfl rfl ?_
                try show aw _ _ _ _ _ _
                refine aw_keep [0, 1, 6, 7, 8, 9, 10, 11] (l' := (.cons 0 (.int .i64 n) (.cons 1 (.slice (some ⟨b28, o29, none⟩) ats.length c) (.cons 6 (accV b i) (.cons 7 (.string wt) (.cons 8 (.int .i64 wh) (.cons 9 (.int .i64 (i : Int)) (.cons 10 (.pointer (some ⟨b6, 0, none⟩)) (.cons 11 (.int .i64 ((k : Int) + 1)) .nil))))))))) (by repeat (first | exact Up.done | refine Up.then ?_ | refine Up.inBlock ?_)) rfl ?_
                exact ih21 (k + 1, 3, ⟨#[49, 50]⟩, H52) ⟨(show (k + 1) ≤ ats.length from by omega), (show H52.blk b6 = some ⟨[.int .i64 (6 + (i : Int)), .int .i64 1, .int .i64 3, .string (⟨#[49, 50]⟩)], 4, false, false⟩ from hB54), (show kindOk 3 (⟨#[49, 50]⟩) from .inr ⟨rfl, by simp⟩), (show Acc H52 b 4 (L.map Entry.cells) from ha56), (show Ext H H52 from hx59), (show H14.next ≤ H52.next from by omega)⟩ (by simp only; omega)
              ·
                refine st_op (ev_remE hz49 rfl rfl rfl) rfl rfl rfl ?_
                have hi60 : 0 ≤ (1 : Int) := by omega
                have hi61 : (1 : Int) < ((4 : Nat) : Int) := by omega
                refine st_op (ev_indexAddr rfl rfl hi60 hi61 el43 (o' := 0 + 1 * 1) rfl) rfl rfl rfl ?_
                refine st_op (ev_load rfl (hB43.lvar0 one9 rfl rfl)) rfl rfl rfl ?_
                refine st_op (ev_fieldAddr rfl fa37_3 (o' := 3) rfl) rfl rfl rfl ?_
                obtain ⟨H62, he63, H62n, hB64, f65⟩ := mem_store (v := .string (⟨#[49, 50, 51, 52]⟩)) (o := 3) (cs' := [.int .i64 (6 + (i : Int)), .int .i64 1, .int .i64 3, .string (⟨#[49, 50, 51, 52]⟩)]) 1 rfl rfl size9 hB46 rfl rfl rfl
                refine st_op0 (he63 _ _ _ _ _ _ _ _ _ rfl rfl) rfl rfl ?_
                have ha66 := Acc.write ha44 hB46 (by omega) f65
                have hr67 := RowIn.next hr45 (show H40.next ≤ H62.next by omega) (f65 b28 (RowIn.ne hr45 hB46 (by decide)))
                have hr68 := RowIn.next hB43 (show H40.next ≤ H62.next by omega) (f65 b39 (RowIn.ne hB43 hB46 (by decide)))
                have hx69 : Ext H H62 := Ext.step hx47 (b := b6) (by have := (hx47).1; omega) (by omega) f65
                try show aw _ _ _ _ _ _
                refine aw_reg ?_
                refine st_op (ev_move rfl) rfl rfl rfl ?_
                refine st_op (ev_int64 (c := (k : Int) + 1) rfl rfl rfl (by omega) (by omega)) rfl rfl rfl ?_
                refine st_op (ev_assign rfl) rfl rfl rfl ?_
                try show aw _ _ _ _ _ _
                refine aw_keep [0, 1, 6, 7, 8, 9, 10, 11] (l' := (.cons 0 (.int .i64 n) (.cons 1 (.slice (some ⟨b28, o29, none⟩) ats.length c) (.cons 6 (accV b i) (.cons 7 (.string wt) (.cons 8 (.int .i64 wh) (.cons 9 (.int .i64 (i : Int)) (.cons 10 (.pointer (some ⟨b6, 0, none⟩)) (.cons 11 (.int .i64 ((k : Int) + 1)) .nil))))))))) (by repeat (first | exact Up.done | refine Up.then ?_ | refine Up.inBlock ?_)) rfl ?_
                exact ih21 (k + 1, 3, ⟨#[49, 50, 51, 52]⟩, H62) ⟨(show (k + 1) ≤ ats.length from by omega), (show H62.blk b6 = some ⟨[.int .i64 (6 + (i : Int)), .int .i64 1, .int .i64 3, .string (⟨#[49, 50, 51, 52]⟩)], 4, false, false⟩ from hB64), (show kindOk 3 (⟨#[49, 50, 51, 52]⟩) from .inr ⟨rfl, by simp⟩), (show Acc H62 b 4 (L.map Entry.cells) from ha66), (show Ext H H62 from hx69), (show H14.next ≤ H62.next from by omega)⟩ (by simp only; omega)
              ·
                refine st_op (ev_remE hz49 rfl rfl rfl) rfl rfl rfl ?_
                have hi70 : 0 ≤ (2 : Int) := by omega
                have hi71 : (2 : Int) < ((4 : Nat) : Int) := by omega
                refine st_op (ev_indexAddr rfl rfl hi70 hi71 el43 (o' := 0 + 2 * 1) rfl) rfl rfl rfl ?_
                refine st_op (ev_load rfl (hB43.lvar0 one9 rfl rfl)) rfl rfl rfl ?_
                refine st_op (ev_fieldAddr rfl fa37_3 (o' := 3) rfl) rfl rfl rfl ?_
                obtain ⟨H72, he73, H72n, hB74, f75⟩ := mem_store (v := .string (⟨#[120]⟩)) (o := 3) (cs' := [.int .i64 (6 + (i : Int)), .int .i64 1, .int .i64 3, .string (⟨#[120]⟩)]) 1 rfl rfl size9 hB46 rfl rfl rfl
                refine st_op0 (he73 _ _ _ _ _ _ _ _ _ rfl rfl) rfl rfl ?_
                have ha76 := Acc.write ha44 hB46 (by omega) f75
                have hr77 := RowIn.next hr45 (show H40.next ≤ H72.next by omega) (f75 b28 (RowIn.ne hr45 hB46 (by decide)))
                have hr78 := RowIn.next hB43 (show H40.next ≤ H72.next by omega) (f75 b39 (RowIn.ne hB43 hB46 (by decide)))
                have hx79 : Ext H H72 := Ext.step hx47 (b := b6) (by have := (hx47).1; omega) (by omega) f75
                try show aw _ _ _ _ _ _
                refine aw_reg ?_
                refine st_op (ev_move rfl) rfl rfl rfl ?_
                refine st_op (ev_int64 (c := (k : Int) + 1) rfl rfl rfl (by omega) (by omega)) rfl rfl rfl ?_
                refine st_op (ev_assign rfl) rfl rfl rfl ?_
                try show aw _ _ _ _ _ _
                refine aw_keep [0, 1, 6, 7, 8, 9, 10, 11] (l' := (.cons 0 (.int .i64 n) (.cons 1 (.slice (some ⟨b28, o29, none⟩) ats.length c) (.cons 6 (accV b i) (.cons 7 (.string wt) (.cons 8 (.int .i64 wh) (.cons 9 (.int .i64 (i : Int)) (.cons 10 (.pointer (some ⟨b6, 0, none⟩)) (.cons 11 (.int .i64 ((k : Int) + 1)) .nil))))))))) (by repeat (first | exact Up.done | refine Up.then ?_ | refine Up.inBlock ?_)) rfl ?_
                exact ih21 (k + 1, 3, ⟨#[120]⟩, H72) ⟨(show (k + 1) ≤ ats.length from by omega), (show H72.blk b6 = some ⟨[.int .i64 (6 + (i : Int)), .int .i64 1, .int .i64 3, .string (⟨#[120]⟩)], 4, false, false⟩ from hB74), (show kindOk 3 (⟨#[120]⟩) from .inr ⟨rfl, by simp⟩), (show Acc H72 b 4 (L.map Entry.cells) from ha76), (show Ext H H72 from hx79), (show H14.next ≤ H72.next from by omega)⟩ (by simp only; omega)
              ·
                refine st_op (ev_remE hz49 rfl rfl rfl) rfl rfl rfl ?_
                have hi80 : 0 ≤ (3 : Int) := by omega
                have hi81 : (3 : Int) < ((4 : Nat) : Int) := by omega
                refine st_op (ev_indexAddr rfl rfl hi80 hi81 el43 (o' := 0 + 3 * 1) rfl) rfl rfl rfl ?_
                refine st_op (ev_load rfl (hB43.lvar0 one9 rfl rfl)) rfl rfl rfl ?_
                refine st_op (ev_fieldAddr rfl fa37_3 (o' := 3) rfl) rfl rfl rfl ?_
                obtain ⟨H82, he83, H82n, hB84, f85⟩ := mem_store (v := .string (⟨#[49, 51]⟩)) (o := 3) (cs' := [.int .i64 (6 + (i : Int)), .int .i64 1, .int .i64 3, .string (⟨#[49, 51]⟩)]) 1 rfl rfl size9 hB46 rfl rfl rfl
                refine st_op0 (he83 _ _ _ _ _ _ _ _ _ rfl rfl) rfl rfl ?_
                have ha86 := Acc.write ha44 hB46 (by omega) f85
                have hr87 := RowIn.next hr45 (show H40.next ≤ H82.next by omega) (f85 b28 (RowIn.ne hr45 hB46 (by decide)))
                have hr88 := RowIn.next hB43 (show H40.next ≤ H82.next by omega) (f85 b39 (RowIn.ne hB43 hB46 (by decide)))
                have hx89 : Ext H H82 := Ext.step hx47 (b := b6) (by have := (hx47).1; omega) (by omega) f85
                try show aw _ _ _ _ _ _
                refine aw_reg ?_
                refine st_op (ev_move rfl) rfl rfl rfl ?_
                refine st_op (ev_int64 (c := (k : Int) + 1) rfl rfl rfl (by omega) (by omega)) rfl rfl rfl ?_
                refine st_op (ev_assign rfl) rfl rfl rfl ?_
                try show aw _ _ _ _ _ _
                refine aw_keep [0, 1, 6, 7, 8, 9, 10, 11] (l' := (.cons 0 (.int .i64 n) (.cons 1 (.slice (some ⟨b28, o29, none⟩) ats.length c) (.cons 6 (accV b i) (.cons 7 (.string wt) (.cons 8 (.int .i64 wh) (.cons 9 (.int .i64 (i : Int)) (.cons 10 (.pointer (some ⟨b6, 0, none⟩)) (.cons 11 (.int .i64 ((k : Int) + 1)) .nil))))))))) (by repeat (first | exact Up.done | refine Up.then ?_ | refine Up.inBlock ?_)) rfl ?_
                exact ih21 (k + 1, 3, ⟨#[49, 51]⟩, H82) ⟨(show (k + 1) ≤ ats.length from by omega), (show H82.blk b6 = some ⟨[.int .i64 (6 + (i : Int)), .int .i64 1, .int .i64 3, .string (⟨#[49, 51]⟩)], 4, false, false⟩ from hB84), (show kindOk 3 (⟨#[49, 51]⟩) from .inr ⟨rfl, by simp⟩), (show Acc H82 b 4 (L.map Entry.cells) from ha86), (show Ext H H82 from hx89), (show H14.next ≤ H82.next from by omega)⟩ (by simp only; omega)
            · rw [Bool.not_eq_true] at hc31; rw [hc31]
              rw [if_neg Bool.false_ne_true]
              have hc31 := ne_of_beq_false hc31
              refine aw_skip ?_
              try show aw _ _ _ _ _ _
              refine aw_reg ?_
              refine st_op (ev_move rfl) rfl rfl rfl ?_
              refine st_op (ev_int64 (c := (k : Int) + 1) rfl rfl rfl (by omega) (by omega)) rfl rfl rfl ?_
              refine st_op (ev_assign rfl) rfl rfl rfl ?_
              try show aw _ _ _ _ _ _
              refine aw_keep [0, 1, 6, 7, 8, 9, 10, 11] (l' := (.cons 0 (.int .i64 n) (.cons 1 (.slice (some ⟨b28, o29, none⟩) ats.length c) (.cons 6 (accV b i) (.cons 7 (.string wt) (.cons 8 (.int .i64 wh) (.cons 9 (.int .i64 (i : Int)) (.cons 10 (.pointer (some ⟨b6, 0, none⟩)) (.cons 11 (.int .i64 ((k : Int) + 1)) .nil))))))))) (by repeat (first | exact Up.done | refine Up.then ?_ | refine Up.inBlock ?_)) rfl ?_
              exact ih21 (k + 1, kd, dt, Hk) ⟨(show (k + 1) ≤ ats.length from by omega), (show Hk.blk b6 = some ⟨[.int .i64 (6 + (i : Int)), .int .i64 1, .int .i64 kd, .string dt], 4, false, false⟩ from hE), (show kindOk kd dt from hkd), (show Acc Hk b 4 (L.map Entry.cells) from hAk), (show Ext H Hk from hxk), (show H14.next ≤ Hk.next from by omega)⟩ (by simp only; omega)
          · rw [Bool.not_eq_true] at hc23; rw [hc23]
            rw [if_neg Bool.false_ne_true]
            have hc23 := of_decide_eq_false hc23
            refine aw_exit ?_
            try show aw _ _ _ _ _ _
            refine aw_seq ?_
            refine aw_seq ?_
            refine aw_reg ?_
            refine st_op (ev_fieldAddr rfl fa37_2 (o' := 2) rfl) rfl rfl rfl ?_
            refine st_op (ev_load rfl (lvar_one one3 hE rfl)) rfl rfl rfl ?_
            refine st_op (ev_int rfl rfl rfl) rfl rfl rfl ?_
            refine st_op (ev_move rfl) rfl rfl rfl ?_
            refine st_bool 59 rfl (fun hb90 => ?_) (fun hb90 => ?_)
            ·
              have hb90 := eq_of_beq hb90
              refine st_op (ev_fieldAddr rfl fa37_3 (o' := 3) rfl) rfl rfl rfl ?_
              refine st_op (ev_load rfl (lvar_one one9 hE rfl)) rfl rfl rfl ?_
              refine st_op (ev_str rfl rfl rfl) rfl rfl rfl ?_
              refine st_op (ev_pickT rfl rfl) rfl rfl rfl ?_
              try show aw _ _ _ _ _ _
              refine aw_cond (t := !((dt).toList == (⟨#[120]⟩ : ByteArray).toList)) rfl ?_
              by_cases hc91 : (!((dt).toList == (⟨#[120]⟩ : ByteArray).toList)) = true
              · rw [hc91]
                rw [if_pos rfl]
                refine aw_marks (fun b => b < Hk.next) [(false, false), (false, false), (false, false), (false, false), (false, false), (false, false)] mixed (by kernel_rfl) (by kernel_rfl) ?_
                refine sm_op (ev_fieldAddr rfl fa37_3 (o' := 3) rfl) rfl rfl rfl ?_
                refine sm_op (ev_load rfl (lvar_one one9 hE rfl)) rfl rfl rfl ?_
                refine sm_op (ev_fieldAddr rfl fa37_0 (o' := 0) rfl) rfl rfl rfl ?_
                refine sm_op (ev_load rfl (lvar_one one2 hE rfl)) rfl rfl rfl ?_
                refine sm_op (ev_assign rfl) rfl rfl rfl ?_
                refine sm_op (ev_assign rfl) rfl rfl rfl ?_
                try show aw _ _ _ _ _ _
                refine aw_reg ?_
                refine st_op (ev_move rfl) rfl rfl rfl ?_
                refine st_op (ev_load rfl (lvar_part (l := [.int .i64 (6 + (i : Int)), .int .i64 1, .int .i64 kd, .string dt]) many37 hE rfl rfl (by decide))) rfl rfl rfl ?_
                obtain ⟨b92, H93, he94, b92e, H93n, hB96, f95⟩ := mem_build Hk (xs := [.agg #[.int .i64 (6 + (i : Int)), .int .i64 1, .int .i64 kd, .string dt]]) (m := 1) (rows := [[.int .i64 (6 + (i : Int)), .int .i64 1, .int .i64 kd, .string dt]]) rfl eok24 (by decide) (by decide) zf37 rfl (allLen rfl) rfl
                refine st_op (he94 _ _ _ _ _ _ _ _ rfl) rfl rfl rfl ?_
                have hB97 := (f95 b6 (by omega)).trans hE
                have ha98 := Acc.ext hAk (show Ext Hk H93 from ⟨by omega, fun q hq => f95 q (by omega)⟩)
                have hr99 := Row.alloc hrk1 b92e (by omega) f95
                have hx100 : Ext H H93 := Ext.step hxk (b := b92) (by have := (hxk).1; omega) (by omega) f95
                obtain ⟨b101, H102, W103, he104, b101e, H102n, ha106, f105⟩ := mem_append1 (cx := 1) (m := i) (old := L.map Entry.cells) (by rw [List.length_map, hL]) eok24 (by decide) ha98 hB96 rfl rfl (by omega) (by omega)
                refine st_op (he104 _ _ _ _ _ _ _ _ _ _ rfl rfl isrow24) rfl rfl rfl ?_
                have hx108 : Ext H H102 := Ext.step2 hx100 (b := b101) (b0 := b) (by have := (hx100).1; omega) (by omega) (by omega) f105
                refine st_op (ev_assign rfl) rfl rfl rfl ?_
                try show aw _ _ _ _ _ _
                refine aw_reg ?_
                refine st_op (ev_move rfl) rfl rfl rfl ?_
                refine st_op (ev_int64 (c := (i : Int) + 1) rfl rfl rfl (by omega) (by omega)) rfl rfl rfl ?_
                refine st_op (ev_assign rfl) rfl rfl rfl ?_
                try show aw _ _ _ _ _ _
                refine aw_keep [0, 1, 6, 7, 8, 9] (l' := (.cons 0 (.int .i64 n) (.cons 1 (.slice A ats.length c) (.cons 6 (accV b101 (i + 1)) (.cons 7 (.string dt) (.cons 8 (.int .i64 (6 + (i : Int))) (.cons 9 (.int .i64 ((i : Int) + 1)) .nil))))))) (by repeat (first | exact Up.done | refine Up.then ?_ | refine Up.inBlock ?_)) rfl ?_
                have hkd3 : kd = 3 := by assumption
                subst hkd3
                have hst := (conf_new (L := L) (wh := wh) (wt := wt) (ix := 6 + (i : Int)) hkd (by assumption) (by rw [hL])).1
                have hw2 := (conf_new (L := L) (wh := wh) (wt := wt) (ix := 6 + (i : Int)) hkd (by assumption) (by rw [hL])).2
                exact ih4 (i + 1, b101, L ++ [(⟨6 + (i : Int), 1, 3, dt⟩ : Entry)], dt, 6 + (i : Int), H102) ⟨(show ((i + 1) : Int) ≤ n from by omega), (show (L ++ [(⟨6 + (i : Int), 1, 3, dt⟩ : Entry)]).length = (i + 1) from by rw [List.length_append, hL]; rfl), (show Acc H102 b101 4 ((L ++ [(⟨6 + (i : Int), 1, 3, dt⟩ : Entry)]).map Entry.cells) from by rw [List.map_append]; exact ha106), (show H.next ≤ b101 from by omega), (show rowOk 5 1 (L ++ [(⟨6 + (i : Int), 1, 3, dt⟩ : Entry)]) = true from rowOk_snoc hrk (by decide) (by rw [hL]; omega) (by rw [hL]; show 6 + (i : Int) = _; omega) (fun u hu => by rw [htm u hu]; exact Int.le_refl _) (by show (1 : Int) ≤ 1; decide)), (show ∀ u ∈ (L ++ [(⟨6 + (i : Int), 1, 3, dt⟩ : Entry)]), u.term = 1 from by intro u hu; rcases List.mem_append.1 hu with hu | hu; exact htm u hu; (simp at hu; subst hu; rfl)), (show confOk (L ++ [(⟨6 + (i : Int), 1, 3, dt⟩ : Entry)]) dt (6 + (i : Int)) from hst), (show wantOk dt from hw2), (show ∀ u ∈ (L ++ [(⟨6 + (i : Int), 1, 3, dt⟩ : Entry)]), u.data.size ≤ 1000000 from by intro u hu; rcases List.mem_append.1 hu with hu | hu; exact hsz u hu; (simp at hu; subst hu; exact kind_size hkd)), (show Ext H H102 from hx108)⟩ (by simp only; omega)
              · rw [Bool.not_eq_true] at hc91; rw [hc91]
                rw [if_neg Bool.false_ne_true]
                refine aw_skip ?_
                try show aw _ _ _ _ _ _
                refine aw_reg ?_
                refine st_op (ev_move rfl) rfl rfl rfl ?_
                refine st_op (ev_load rfl (lvar_part (l := [.int .i64 (6 + (i : Int)), .int .i64 1, .int .i64 kd, .string dt]) many37 hE rfl rfl (by decide))) rfl rfl rfl ?_
                obtain ⟨b109, H110, he111, b109e, H110n, hB113, f112⟩ := mem_build Hk (xs := [.agg #[.int .i64 (6 + (i : Int)), .int .i64 1, .int .i64 kd, .string dt]]) (m := 1) (rows := [[.int .i64 (6 + (i : Int)), .int .i64 1, .int .i64 kd, .string dt]]) rfl eok24 (by decide) (by decide) zf37 rfl (allLen rfl) rfl
                refine st_op (he111 _ _ _ _ _ _ _ _ rfl) rfl rfl rfl ?_
                have hB114 := (f112 b6 (by omega)).trans hE
                have ha115 := Acc.ext hAk (show Ext Hk H110 from ⟨by omega, fun q hq => f112 q (by omega)⟩)
                have hr116 := Row.alloc hrk1 b109e (by omega) f112
                have hx117 : Ext H H110 := Ext.step hxk (b := b109) (by have := (hxk).1; omega) (by omega) f112
                obtain ⟨b118, H119, W120, he121, b118e, H119n, ha123, f122⟩ := mem_append1 (cx := 1) (m := i) (old := L.map Entry.cells) (by rw [List.length_map, hL]) eok24 (by decide) ha115 hB113 rfl rfl (by omega) (by omega)
                refine st_op (he121 _ _ _ _ _ _ _ _ _ _ rfl rfl isrow24) rfl rfl rfl ?_
                have hx125 : Ext H H119 := Ext.step2 hx117 (b := b118) (b0 := b) (by have := (hx117).1; omega) (by omega) (by omega) f122
                refine st_op (ev_assign rfl) rfl rfl rfl ?_
                try show aw _ _ _ _ _ _
                refine aw_reg ?_
                refine st_op (ev_move rfl) rfl rfl rfl ?_
                refine st_op (ev_int64 (c := (i : Int) + 1) rfl rfl rfl (by omega) (by omega)) rfl rfl rfl ?_
                refine st_op (ev_assign rfl) rfl rfl rfl ?_
                try show aw _ _ _ _ _ _
                refine aw_keep [0, 1, 6, 7, 8, 9] (l' := (.cons 0 (.int .i64 n) (.cons 1 (.slice A ats.length c) (.cons 6 (accV b118 (i + 1)) (.cons 7 (.string wt) (.cons 8 (.int .i64 wh) (.cons 9 (.int .i64 ((i : Int) + 1)) .nil))))))) (by repeat (first | exact Up.done | refine Up.then ?_ | refine Up.inBlock ?_)) rfl ?_
                have hst := conf_old (ix := 6 + (i : Int)) hcf (by first | exact .inl (by assumption) | (refine .inr ?_; have hq : (!(dt.toList == cx.toList)) = false := (by assumption); revert hq; cases hz : (dt.toList == cx.toList); (intro hq; cases hq); (intro _; exact eq_of_beq hz))) hkd
                have hw2 := hwt
                exact ih4 (i + 1, b118, L ++ [(⟨6 + (i : Int), 1, kd, dt⟩ : Entry)], wt, wh, H119) ⟨(show ((i + 1) : Int) ≤ n from by omega), (show (L ++ [(⟨6 + (i : Int), 1, kd, dt⟩ : Entry)]).length = (i + 1) from by rw [List.length_append, hL]; rfl), (show Acc H119 b118 4 ((L ++ [(⟨6 + (i : Int), 1, kd, dt⟩ : Entry)]).map Entry.cells) from by rw [List.map_append]; exact ha123), (show H.next ≤ b118 from by omega), (show rowOk 5 1 (L ++ [(⟨6 + (i : Int), 1, kd, dt⟩ : Entry)]) = true from rowOk_snoc hrk (by decide) (by rw [hL]; omega) (by rw [hL]; show 6 + (i : Int) = _; omega) (fun u hu => by rw [htm u hu]; exact Int.le_refl _) (by show (1 : Int) ≤ 1; decide)), (show ∀ u ∈ (L ++ [(⟨6 + (i : Int), 1, kd, dt⟩ : Entry)]), u.term = 1 from by intro u hu; rcases List.mem_append.1 hu with hu | hu; exact htm u hu; (simp at hu; subst hu; rfl)), (show confOk (L ++ [(⟨6 + (i : Int), 1, kd, dt⟩ : Entry)]) wt wh from hst), (show wantOk wt from hw2), (show ∀ u ∈ (L ++ [(⟨6 + (i : Int), 1, kd, dt⟩ : Entry)]), u.data.size ≤ 1000000 from by intro u hu; rcases List.mem_append.1 hu with hu | hu; exact hsz u hu; (simp at hu; subst hu; exact kind_size hkd)), (show Ext H H119 from hx125)⟩ (by simp only; omega)
            ·
              have hb90 := ne_of_beq_false hb90
              refine st_skip rfl rfl rfl ?_
              refine st_skip rfl rfl rfl ?_
              refine st_skip rfl rfl rfl ?_
              refine st_op (ev_pickF rfl rfl) rfl rfl rfl ?_
              try show aw _ _ _ _ _ _
              refine aw_cond (t := false) rfl ?_
              try show aw _ _ _ _ _ _
              refine aw_skip ?_
              try show aw _ _ _ _ _ _
              refine aw_reg ?_
              refine st_op (ev_move rfl) rfl rfl rfl ?_
              refine st_op (ev_load rfl (lvar_part (l := [.int .i64 (6 + (i : Int)), .int .i64 1, .int .i64 kd, .string dt]) many37 hE rfl rfl (by decide))) rfl rfl rfl ?_
              obtain ⟨b126, H127, he128, b126e, H127n, hB130, f129⟩ := mem_build Hk (xs := [.agg #[.int .i64 (6 + (i : Int)), .int .i64 1, .int .i64 kd, .string dt]]) (m := 1) (rows := [[.int .i64 (6 + (i : Int)), .int .i64 1, .int .i64 kd, .string dt]]) rfl eok24 (by decide) (by decide) zf37 rfl (allLen rfl) rfl
              refine st_op (he128 _ _ _ _ _ _ _ _ rfl) rfl rfl rfl ?_
              have hB131 := (f129 b6 (by omega)).trans hE
              have ha132 := Acc.ext hAk (show Ext Hk H127 from ⟨by omega, fun q hq => f129 q (by omega)⟩)
              have hr133 := Row.alloc hrk1 b126e (by omega) f129
              have hx134 : Ext H H127 := Ext.step hxk (b := b126) (by have := (hxk).1; omega) (by omega) f129
              obtain ⟨b135, H136, W137, he138, b135e, H136n, ha140, f139⟩ := mem_append1 (cx := 1) (m := i) (old := L.map Entry.cells) (by rw [List.length_map, hL]) eok24 (by decide) ha132 hB130 rfl rfl (by omega) (by omega)
              refine st_op (he138 _ _ _ _ _ _ _ _ _ _ rfl rfl isrow24) rfl rfl rfl ?_
              have hx142 : Ext H H136 := Ext.step2 hx134 (b := b135) (b0 := b) (by have := (hx134).1; omega) (by omega) (by omega) f139
              refine st_op (ev_assign rfl) rfl rfl rfl ?_
              try show aw _ _ _ _ _ _
              refine aw_reg ?_
              refine st_op (ev_move rfl) rfl rfl rfl ?_
              refine st_op (ev_int64 (c := (i : Int) + 1) rfl rfl rfl (by omega) (by omega)) rfl rfl rfl ?_
              refine st_op (ev_assign rfl) rfl rfl rfl ?_
              try show aw _ _ _ _ _ _
              refine aw_keep [0, 1, 6, 7, 8, 9] (l' := (.cons 0 (.int .i64 n) (.cons 1 (.slice A ats.length c) (.cons 6 (accV b135 (i + 1)) (.cons 7 (.string wt) (.cons 8 (.int .i64 wh) (.cons 9 (.int .i64 ((i : Int) + 1)) .nil))))))) (by repeat (first | exact Up.done | refine Up.then ?_ | refine Up.inBlock ?_)) rfl ?_
              have hst := conf_old (ix := 6 + (i : Int)) hcf (by first | exact .inl (by assumption) | (refine .inr ?_; have hq : (!(dt.toList == cx.toList)) = false := (by assumption); revert hq; cases hz : (dt.toList == cx.toList); (intro hq; cases hq); (intro _; exact eq_of_beq hz))) hkd
              have hw2 := hwt
              exact ih4 (i + 1, b135, L ++ [(⟨6 + (i : Int), 1, kd, dt⟩ : Entry)], wt, wh, H136) ⟨(show ((i + 1) : Int) ≤ n from by omega), (show (L ++ [(⟨6 + (i : Int), 1, kd, dt⟩ : Entry)]).length = (i + 1) from by rw [List.length_append, hL]; rfl), (show Acc H136 b135 4 ((L ++ [(⟨6 + (i : Int), 1, kd, dt⟩ : Entry)]).map Entry.cells) from by rw [List.map_append]; exact ha140), (show H.next ≤ b135 from by omega), (show rowOk 5 1 (L ++ [(⟨6 + (i : Int), 1, kd, dt⟩ : Entry)]) = true from rowOk_snoc hrk (by decide) (by rw [hL]; omega) (by rw [hL]; show 6 + (i : Int) = _; omega) (fun u hu => by rw [htm u hu]; exact Int.le_refl _) (by show (1 : Int) ≤ 1; decide)), (show ∀ u ∈ (L ++ [(⟨6 + (i : Int), 1, kd, dt⟩ : Entry)]), u.term = 1 from by intro u hu; rcases List.mem_append.1 hu with hu | hu; exact htm u hu; (simp at hu; subst hu; rfl)), (show confOk (L ++ [(⟨6 + (i : Int), 1, kd, dt⟩ : Entry)]) wt wh from hst), (show wantOk wt from hw2), (show ∀ u ∈ (L ++ [(⟨6 + (i : Int), 1, kd, dt⟩ : Entry)]), u.data.size ≤ 1000000 from by intro u hu; rcases List.mem_append.1 hu with hu | hu; exact hsz u hu; (simp at hu; subst hu; exact kind_size hkd)), (show Ext H H136 from hx142)⟩ (by simp only; omega)
        ·
          have hb22 := of_decide_eq_false hb22
          refine st_skip rfl rfl rfl ?_
          refine st_skip rfl rfl rfl ?_
          refine st_op (ev_pickF rfl rfl) rfl rfl rfl ?_
          try show aw _ _ _ _ _ _
          refine aw_cond (t := false) rfl ?_
          try show aw _ _ _ _ _ _
          refine aw_exit ?_
          try show aw _ _ _ _ _ _
          refine aw_seq ?_
          refine aw_seq ?_
          refine aw_reg ?_
          refine st_op (ev_fieldAddr rfl fa37_2 (o' := 2) rfl) rfl rfl rfl ?_
          refine st_op (ev_load rfl (lvar_one one3 hE rfl)) rfl rfl rfl ?_
          refine st_op (ev_int rfl rfl rfl) rfl rfl rfl ?_
          refine st_op (ev_move rfl) rfl rfl rfl ?_
          refine st_bool 59 rfl (fun hb143 => ?_) (fun hb143 => ?_)
          ·
            have hb143 := eq_of_beq hb143
            refine st_op (ev_fieldAddr rfl fa37_3 (o' := 3) rfl) rfl rfl rfl ?_
            refine st_op (ev_load rfl (lvar_one one9 hE rfl)) rfl rfl rfl ?_
            refine st_op (ev_str rfl rfl rfl) rfl rfl rfl ?_
            refine st_op (ev_pickT rfl rfl) rfl rfl rfl ?_
            try show aw _ _ _ _ _ _
            refine aw_cond (t := !((dt).toList == (⟨#[120]⟩ : ByteArray).toList)) rfl ?_
            by_cases hc144 : (!((dt).toList == (⟨#[120]⟩ : ByteArray).toList)) = true
            · rw [hc144]
              rw [if_pos rfl]
              refine aw_marks (fun b => b < Hk.next) [(false, false), (false, false), (false, false), (false, false), (false, false), (false, false)] mixed (by kernel_rfl) (by kernel_rfl) ?_
              refine sm_op (ev_fieldAddr rfl fa37_3 (o' := 3) rfl) rfl rfl rfl ?_
              refine sm_op (ev_load rfl (lvar_one one9 hE rfl)) rfl rfl rfl ?_
              refine sm_op (ev_fieldAddr rfl fa37_0 (o' := 0) rfl) rfl rfl rfl ?_
              refine sm_op (ev_load rfl (lvar_one one2 hE rfl)) rfl rfl rfl ?_
              refine sm_op (ev_assign rfl) rfl rfl rfl ?_
              refine sm_op (ev_assign rfl) rfl rfl rfl ?_
              try show aw _ _ _ _ _ _
              refine aw_reg ?_
              refine st_op (ev_move rfl) rfl rfl rfl ?_
              refine st_op (ev_load rfl (lvar_part (l := [.int .i64 (6 + (i : Int)), .int .i64 1, .int .i64 kd, .string dt]) many37 hE rfl rfl (by decide))) rfl rfl rfl ?_
              obtain ⟨b145, H146, he147, b145e, H146n, hB149, f148⟩ := mem_build Hk (xs := [.agg #[.int .i64 (6 + (i : Int)), .int .i64 1, .int .i64 kd, .string dt]]) (m := 1) (rows := [[.int .i64 (6 + (i : Int)), .int .i64 1, .int .i64 kd, .string dt]]) rfl eok24 (by decide) (by decide) zf37 rfl (allLen rfl) rfl
              refine st_op (he147 _ _ _ _ _ _ _ _ rfl) rfl rfl rfl ?_
              have hB150 := (f148 b6 (by omega)).trans hE
              have ha151 := Acc.ext hAk (show Ext Hk H146 from ⟨by omega, fun q hq => f148 q (by omega)⟩)
              have hr152 := Row.alloc hrk1 b145e (by omega) f148
              have hx153 : Ext H H146 := Ext.step hxk (b := b145) (by have := (hxk).1; omega) (by omega) f148
              obtain ⟨b154, H155, W156, he157, b154e, H155n, ha159, f158⟩ := mem_append1 (cx := 1) (m := i) (old := L.map Entry.cells) (by rw [List.length_map, hL]) eok24 (by decide) ha151 hB149 rfl rfl (by omega) (by omega)
              refine st_op (he157 _ _ _ _ _ _ _ _ _ _ rfl rfl isrow24) rfl rfl rfl ?_
              have hx161 : Ext H H155 := Ext.step2 hx153 (b := b154) (b0 := b) (by have := (hx153).1; omega) (by omega) (by omega) f158
              refine st_op (ev_assign rfl) rfl rfl rfl ?_
              try show aw _ _ _ _ _ _
              refine aw_reg ?_
              refine st_op (ev_move rfl) rfl rfl rfl ?_
              refine st_op (ev_int64 (c := (i : Int) + 1) rfl rfl rfl (by omega) (by omega)) rfl rfl rfl ?_
              refine st_op (ev_assign rfl) rfl rfl rfl ?_
              try show aw _ _ _ _ _ _
              refine aw_keep [0, 1, 6, 7, 8, 9] (l' := (.cons 0 (.int .i64 n) (.cons 1 (.slice A ats.length c) (.cons 6 (accV b154 (i + 1)) (.cons 7 (.string dt) (.cons 8 (.int .i64 (6 + (i : Int))) (.cons 9 (.int .i64 ((i : Int) + 1)) .nil))))))) (by repeat (first | exact Up.done | refine Up.then ?_ | refine Up.inBlock ?_)) rfl ?_
              have hkd3 : kd = 3 := by assumption
              subst hkd3
              have hst := (conf_new (L := L) (wh := wh) (wt := wt) (ix := 6 + (i : Int)) hkd (by assumption) (by rw [hL])).1
              have hw2 := (conf_new (L := L) (wh := wh) (wt := wt) (ix := 6 + (i : Int)) hkd (by assumption) (by rw [hL])).2
              exact ih4 (i + 1, b154, L ++ [(⟨6 + (i : Int), 1, 3, dt⟩ : Entry)], dt, 6 + (i : Int), H155) ⟨(show ((i + 1) : Int) ≤ n from by omega), (show (L ++ [(⟨6 + (i : Int), 1, 3, dt⟩ : Entry)]).length = (i + 1) from by rw [List.length_append, hL]; rfl), (show Acc H155 b154 4 ((L ++ [(⟨6 + (i : Int), 1, 3, dt⟩ : Entry)]).map Entry.cells) from by rw [List.map_append]; exact ha159), (show H.next ≤ b154 from by omega), (show rowOk 5 1 (L ++ [(⟨6 + (i : Int), 1, 3, dt⟩ : Entry)]) = true from rowOk_snoc hrk (by decide) (by rw [hL]; omega) (by rw [hL]; show 6 + (i : Int) = _; omega) (fun u hu => by rw [htm u hu]; exact Int.le_refl _) (by show (1 : Int) ≤ 1; decide)), (show ∀ u ∈ (L ++ [(⟨6 + (i : Int), 1, 3, dt⟩ : Entry)]), u.term = 1 from by intro u hu; rcases List.mem_append.1 hu with hu | hu; exact htm u hu; (simp at hu; subst hu; rfl)), (show confOk (L ++ [(⟨6 + (i : Int), 1, 3, dt⟩ : Entry)]) dt (6 + (i : Int)) from hst), (show wantOk dt from hw2), (show ∀ u ∈ (L ++ [(⟨6 + (i : Int), 1, 3, dt⟩ : Entry)]), u.data.size ≤ 1000000 from by intro u hu; rcases List.mem_append.1 hu with hu | hu; exact hsz u hu; (simp at hu; subst hu; exact kind_size hkd)), (show Ext H H155 from hx161)⟩ (by simp only; omega)
            · rw [Bool.not_eq_true] at hc144; rw [hc144]
              rw [if_neg Bool.false_ne_true]
              refine aw_skip ?_
              try show aw _ _ _ _ _ _
              refine aw_reg ?_
              refine st_op (ev_move rfl) rfl rfl rfl ?_
              refine st_op (ev_load rfl (lvar_part (l := [.int .i64 (6 + (i : Int)), .int .i64 1, .int .i64 kd, .string dt]) many37 hE rfl rfl (by decide))) rfl rfl rfl ?_
              obtain ⟨b162, H163, he164, b162e, H163n, hB166, f165⟩ := mem_build Hk (xs := [.agg #[.int .i64 (6 + (i : Int)), .int .i64 1, .int .i64 kd, .string dt]]) (m := 1) (rows := [[.int .i64 (6 + (i : Int)), .int .i64 1, .int .i64 kd, .string dt]]) rfl eok24 (by decide) (by decide) zf37 rfl (allLen rfl) rfl
              refine st_op (he164 _ _ _ _ _ _ _ _ rfl) rfl rfl rfl ?_
              have hB167 := (f165 b6 (by omega)).trans hE
              have ha168 := Acc.ext hAk (show Ext Hk H163 from ⟨by omega, fun q hq => f165 q (by omega)⟩)
              have hr169 := Row.alloc hrk1 b162e (by omega) f165
              have hx170 : Ext H H163 := Ext.step hxk (b := b162) (by have := (hxk).1; omega) (by omega) f165
              obtain ⟨b171, H172, W173, he174, b171e, H172n, ha176, f175⟩ := mem_append1 (cx := 1) (m := i) (old := L.map Entry.cells) (by rw [List.length_map, hL]) eok24 (by decide) ha168 hB166 rfl rfl (by omega) (by omega)
              refine st_op (he174 _ _ _ _ _ _ _ _ _ _ rfl rfl isrow24) rfl rfl rfl ?_
              have hx178 : Ext H H172 := Ext.step2 hx170 (b := b171) (b0 := b) (by have := (hx170).1; omega) (by omega) (by omega) f175
              refine st_op (ev_assign rfl) rfl rfl rfl ?_
              try show aw _ _ _ _ _ _
              refine aw_reg ?_
              refine st_op (ev_move rfl) rfl rfl rfl ?_
              refine st_op (ev_int64 (c := (i : Int) + 1) rfl rfl rfl (by omega) (by omega)) rfl rfl rfl ?_
              refine st_op (ev_assign rfl) rfl rfl rfl ?_
              try show aw _ _ _ _ _ _
              refine aw_keep [0, 1, 6, 7, 8, 9] (l' := (.cons 0 (.int .i64 n) (.cons 1 (.slice A ats.length c) (.cons 6 (accV b171 (i + 1)) (.cons 7 (.string wt) (.cons 8 (.int .i64 wh) (.cons 9 (.int .i64 ((i : Int) + 1)) .nil))))))) (by repeat (first | exact Up.done | refine Up.then ?_ | refine Up.inBlock ?_)) rfl ?_
              have hst := conf_old (ix := 6 + (i : Int)) hcf (by first | exact .inl (by assumption) | (refine .inr ?_; have hq : (!(dt.toList == cx.toList)) = false := (by assumption); revert hq; cases hz : (dt.toList == cx.toList); (intro hq; cases hq); (intro _; exact eq_of_beq hz))) hkd
              have hw2 := hwt
              exact ih4 (i + 1, b171, L ++ [(⟨6 + (i : Int), 1, kd, dt⟩ : Entry)], wt, wh, H172) ⟨(show ((i + 1) : Int) ≤ n from by omega), (show (L ++ [(⟨6 + (i : Int), 1, kd, dt⟩ : Entry)]).length = (i + 1) from by rw [List.length_append, hL]; rfl), (show Acc H172 b171 4 ((L ++ [(⟨6 + (i : Int), 1, kd, dt⟩ : Entry)]).map Entry.cells) from by rw [List.map_append]; exact ha176), (show H.next ≤ b171 from by omega), (show rowOk 5 1 (L ++ [(⟨6 + (i : Int), 1, kd, dt⟩ : Entry)]) = true from rowOk_snoc hrk (by decide) (by rw [hL]; omega) (by rw [hL]; show 6 + (i : Int) = _; omega) (fun u hu => by rw [htm u hu]; exact Int.le_refl _) (by show (1 : Int) ≤ 1; decide)), (show ∀ u ∈ (L ++ [(⟨6 + (i : Int), 1, kd, dt⟩ : Entry)]), u.term = 1 from by intro u hu; rcases List.mem_append.1 hu with hu | hu; exact htm u hu; (simp at hu; subst hu; rfl)), (show confOk (L ++ [(⟨6 + (i : Int), 1, kd, dt⟩ : Entry)]) wt wh from hst), (show wantOk wt from hw2), (show ∀ u ∈ (L ++ [(⟨6 + (i : Int), 1, kd, dt⟩ : Entry)]), u.data.size ≤ 1000000 from by intro u hu; rcases List.mem_append.1 hu with hu | hu; exact hsz u hu; (simp at hu; subst hu; exact kind_size hkd)), (show Ext H H172 from hx178)⟩ (by simp only; omega)
          ·
            have hb143 := ne_of_beq_false hb143
            refine st_skip rfl rfl rfl ?_
            refine st_skip rfl rfl rfl ?_
            refine st_skip rfl rfl rfl ?_
            refine st_op (ev_pickF rfl rfl) rfl rfl rfl ?_
            try show aw _ _ _ _ _ _
            refine aw_cond (t := false) rfl ?_
            try show aw _ _ _ _ _ _
            refine aw_skip ?_
            try show aw _ _ _ _ _ _
            refine aw_reg ?_
            refine st_op (ev_move rfl) rfl rfl rfl ?_
            refine st_op (ev_load rfl (lvar_part (l := [.int .i64 (6 + (i : Int)), .int .i64 1, .int .i64 kd, .string dt]) many37 hE rfl rfl (by decide))) rfl rfl rfl ?_
            obtain ⟨b179, H180, he181, b179e, H180n, hB183, f182⟩ := mem_build Hk (xs := [.agg #[.int .i64 (6 + (i : Int)), .int .i64 1, .int .i64 kd, .string dt]]) (m := 1) (rows := [[.int .i64 (6 + (i : Int)), .int .i64 1, .int .i64 kd, .string dt]]) rfl eok24 (by decide) (by decide) zf37 rfl (allLen rfl) rfl
            refine st_op (he181 _ _ _ _ _ _ _ _ rfl) rfl rfl rfl ?_
            have hB184 := (f182 b6 (by omega)).trans hE
            have ha185 := Acc.ext hAk (show Ext Hk H180 from ⟨by omega, fun q hq => f182 q (by omega)⟩)
            have hr186 := Row.alloc hrk1 b179e (by omega) f182
            have hx187 : Ext H H180 := Ext.step hxk (b := b179) (by have := (hxk).1; omega) (by omega) f182
            obtain ⟨b188, H189, W190, he191, b188e, H189n, ha193, f192⟩ := mem_append1 (cx := 1) (m := i) (old := L.map Entry.cells) (by rw [List.length_map, hL]) eok24 (by decide) ha185 hB183 rfl rfl (by omega) (by omega)
            refine st_op (he191 _ _ _ _ _ _ _ _ _ _ rfl rfl isrow24) rfl rfl rfl ?_
            have hx195 : Ext H H189 := Ext.step2 hx187 (b := b188) (b0 := b) (by have := (hx187).1; omega) (by omega) (by omega) f192
            refine st_op (ev_assign rfl) rfl rfl rfl ?_
            try show aw _ _ _ _ _ _
            refine aw_reg ?_
            refine st_op (ev_move rfl) rfl rfl rfl ?_
            refine st_op (ev_int64 (c := (i : Int) + 1) rfl rfl rfl (by omega) (by omega)) rfl rfl rfl ?_
            refine st_op (ev_assign rfl) rfl rfl rfl ?_
            try show aw _ _ _ _ _ _
            refine aw_keep [0, 1, 6, 7, 8, 9] (l' := (.cons 0 (.int .i64 n) (.cons 1 (.slice A ats.length c) (.cons 6 (accV b188 (i + 1)) (.cons 7 (.string wt) (.cons 8 (.int .i64 wh) (.cons 9 (.int .i64 ((i : Int) + 1)) .nil))))))) (by repeat (first | exact Up.done | refine Up.then ?_ | refine Up.inBlock ?_)) rfl ?_
            have hst := conf_old (ix := 6 + (i : Int)) hcf (by first | exact .inl (by assumption) | (refine .inr ?_; have hq : (!(dt.toList == cx.toList)) = false := (by assumption); revert hq; cases hz : (dt.toList == cx.toList); (intro hq; cases hq); (intro _; exact eq_of_beq hz))) hkd
            have hw2 := hwt
            exact ih4 (i + 1, b188, L ++ [(⟨6 + (i : Int), 1, kd, dt⟩ : Entry)], wt, wh, H189) ⟨(show ((i + 1) : Int) ≤ n from by omega), (show (L ++ [(⟨6 + (i : Int), 1, kd, dt⟩ : Entry)]).length = (i + 1) from by rw [List.length_append, hL]; rfl), (show Acc H189 b188 4 ((L ++ [(⟨6 + (i : Int), 1, kd, dt⟩ : Entry)]).map Entry.cells) from by rw [List.map_append]; exact ha193), (show H.next ≤ b188 from by omega), (show rowOk 5 1 (L ++ [(⟨6 + (i : Int), 1, kd, dt⟩ : Entry)]) = true from rowOk_snoc hrk (by decide) (by rw [hL]; omega) (by rw [hL]; show 6 + (i : Int) = _; omega) (fun u hu => by rw [htm u hu]; exact Int.le_refl _) (by show (1 : Int) ≤ 1; decide)), (show ∀ u ∈ (L ++ [(⟨6 + (i : Int), 1, kd, dt⟩ : Entry)]), u.term = 1 from by intro u hu; rcases List.mem_append.1 hu with hu | hu; exact htm u hu; (simp at hu; subst hu; rfl)), (show confOk (L ++ [(⟨6 + (i : Int), 1, kd, dt⟩ : Entry)]) wt wh from hst), (show wantOk wt from hw2), (show ∀ u ∈ (L ++ [(⟨6 + (i : Int), 1, kd, dt⟩ : Entry)]), u.data.size ≤ 1000000 from by intro u hu; rcases List.mem_append.1 hu with hu | hu; exact hsz u hu; (simp at hu; subst hu; exact kind_size hkd)), (show Ext H H189 from hx195)⟩ (by simp only; omega)
      · rw [Bool.not_eq_true] at hc5; rw [hc5]
        rw [if_neg Bool.false_ne_true]
        have hc5 := of_decide_eq_false hc5
        refine aw_exit ?_
        try show aw _ _ _ _ _ _
        refine aw_seq ?_
        refine aw_reg ?_
        refine st_op (ev_build zero23 pl23 (parts := [(0, .int .i64 5), (1, .int .i64 1), (2, .string (⟨#[49, 50, 51]⟩))]) rfl (cs := [.int .i64 5, .int .i64 1, .string (⟨#[49, 50, 51]⟩), .string (⟨#[]⟩)]) rfl) rfl rfl rfl ?_
        refine st_op (ev_move rfl) rfl rfl rfl ?_
        refine st_call rfl rfl rfl ent12 rfl rfl rfl ?_
        obtain ⟨A1, c1, e1, hm1⟩ := hA.mine (H0 := H) (n := L.length) (by simp) hb
        have hcap := hm1.cap (by rw [List.length_map]; omega)
        rw [List.length_map] at hcap
        obtain ⟨v197, H198, hs196, hd199, hx200⟩ := new_spec Hl 5 1 ⟨#[49, 50, 51]⟩ ⟨#[]⟩ A1 L c1 hm1.row hcap (by omega)
        rw [← e1, hL] at hs196
        have hx200n := hx200.1
        obtain ⟨p, A3, c3, rfl, hp, hm3, hp0, hp1⟩ : ∃ p A3 c3, v197 = .pointer (some ⟨p, 0, none⟩) ∧ H198.blk p = some ⟨[.int .i64 5, .int .i64 1, .string ⟨#[49, 50, 51]⟩, .string ⟨#[]⟩, .slice A3 L.length c3], 5, false, false⟩ ∧ Mine Hl H198 A3 c3 4 (L.map Entry.cells) ∧ Hl.next ≤ p ∧ p < H198.next := by
          rcases hd199 with ⟨_, hno⟩ | ⟨_, h⟩
          · exfalso; rw [newOk, hrk, show inF [5, 1] = true by decide, show decide ((L.length : Int) ≤ 200) = true by simp; omega] at hno; cases hno
          · exact h
        refine ⟨_, H198, hs196, ?_⟩
        have hx201 : Ext H H198 := Ext.trans hx hx200
        refine st_op (ev_assign rfl) rfl rfl rfl ?_
        try show aw _ _ _ _ _ _
        refine aw_seq ?_
        refine aw_seq ?_
        refine aw_reg ?_
        refine st_op (ev_move rfl) rfl rfl rfl ?_
        refine st_op (ev_nilEq rfl rfl Try.underlying28) rfl rfl rfl ?_
        try show aw _ _ _ _ _ _
        refine aw_cond (t := false) rfl ?_
        try show aw _ _ _ _ _ _
        refine aw_skip ?_
        try show aw _ _ _ _ _ _
        refine aw_seq ?_
        refine aw_reg ?_
        refine st_op (ev_move rfl) rfl rfl rfl ?_
        refine st_call rfl rfl rfl ent20 rfl rfl rfl ?_
        have hr202 := hm3.row
        obtain ⟨_, Hc, hsc, Ac, cc, hvc, hmc, hxc⟩ := conf_spec H198 p (by omega) 5 1 (⟨#[49, 50, 51]⟩) (⟨#[]⟩) A3 L c3 hp hr202 (by have := hm3.cap (by simp; omega); simpa using this) (by omega) (by omega) (by omega) hsz (by decide)
        rw [conf_end hcf] at hvc hmc
        rw [hvc] at hsc; clear hvc
        have hxcn := hxc.1
        obtain ⟨hdec, hdig, hws⟩ := want_dec hwt
        rw [hdec] at hsc hmc
        have hdl := decN_len wt
        refine ⟨_, Hc, hsc, ?_⟩
        refine st_op (ev_move rfl) rfl rfl rfl ?_
        refine st_op (ev_extract rfl rfl) rfl rfl rfl ?_
        refine st_op (ev_extract rfl rfl) rfl rfl rfl ?_
        refine st_op (ev_assign rfl) rfl rfl rfl ?_
        refine st_op (ev_assign rfl) rfl rfl rfl ?_
        try show aw _ _ _ _ _ _
        refine aw_seq ?_
        refine aw_seq ?_
        refine aw_reg ?_
        refine st_op (ev_move rfl) rfl rfl rfl ?_
        refine st_op (ev_move rfl) rfl rfl rfl ?_
        refine st_op (ev_int rfl rfl rfl) rfl rfl rfl ?_
        refine st_op (ev_move rfl) rfl rfl rfl ?_
        refine st_bool 85 rfl (fun hb203 => ?_) (fun hb203 => ?_)
        ·
          have hb203 : ¬ (wh = wh) := by simpa using hb203
          refine st_skip rfl rfl rfl ?_
          refine st_skip rfl rfl rfl ?_
          refine st_skip rfl rfl rfl ?_
          refine st_skip rfl rfl rfl ?_
          refine st_skip rfl rfl rfl ?_
          refine st_op (ev_pickT rfl rfl) rfl rfl rfl ?_
          try show aw _ _ _ _ _ _
          refine aw_cond (t := true) rfl ?_
          try show aw _ _ _ _ _ _
          refine aw_seq ?_
          refine aw_reg ?_
          refine st_op (ev_assign rfl) rfl rfl rfl ?_
          try show aw _ _ _ _ _ _
          refine aw_ret ?_
          first | exact ⟨_, rfl, rfl⟩ | (exfalso; omega) | (exfalso; simp_all; done)
        ·
          have hb203 : (wh = wh) := by simpa using hb203
          refine st_op (ev_move rfl) rfl rfl rfl ?_
          refine st_op (ev_lenSl rfl Try.underlying42) rfl rfl rfl ?_
          refine st_op (ev_move rfl) rfl rfl rfl ?_
          refine st_op (ev_lenStr rfl Try.underlying9) rfl rfl rfl ?_
          refine st_op (ev_int rfl rfl rfl) rfl rfl rfl ?_
          refine st_op (ev_pickF rfl rfl) rfl rfl rfl ?_
          try show aw _ _ _ _ _ _
          refine aw_cond (t := ((decN wt).length : Int) != ((wt).size : Int)) rfl ?_
          by_cases hc204 : (((decN wt).length : Int) != ((wt).size : Int)) = true
          · rw [hc204]
            rw [if_pos rfl]
            have hc204 : ¬ (((decN wt).length : Int) = ((wt).size : Int)) := by simpa using hc204
            refine aw_seq ?_
            refine aw_reg ?_
            refine st_op (ev_assign rfl) rfl rfl rfl ?_
            try show aw _ _ _ _ _ _
            refine aw_ret ?_
            first | exact ⟨_, rfl, rfl⟩ | (exfalso; omega) | (exfalso; simp_all; done)
          · rw [Bool.not_eq_true] at hc204; rw [hc204]
            rw [if_neg Bool.false_ne_true]
            have hc204 : (((decN wt).length : Int) = ((wt).size : Int)) := by simpa using hc204
            refine aw_skip ?_
            try show aw _ _ _ _ _ _
            refine aw_seq ?_
            refine aw_seq ?_
            refine aw_reg ?_
            refine st_op (ev_assign rfl) rfl rfl rfl ?_
            try show aw _ _ _ _ _ _
            refine aw_block ?_
            have hxj0 : Ext Hc Hc := .refl _
            refine aw_keep [7, 13, 15] (l' := (.cons 7 (.string wt) (.cons 13 (.slice Ac ((decN wt).length) cc) (.cons 15 (.int .i64 0) .nil)))) (by repeat (first | exact Up.done | refine Up.then ?_ | refine Up.inBlock ?_)) rfl ?_
            refine aw_iter (α := Nat × Heap) (fun a => (decN wt).length - a.1) (fun a => (.cons 7 (.string wt) (.cons 13 (.slice Ac ((decN wt).length) cc) (.cons 15 (.int .i64 (a.1 : Int)) .nil)))) (fun a => a.2) (fun a => (a.1 ≤ (decN wt).length) ∧ (Ext Hc a.2)) (0, Hc) ⟨(show 0 ≤ (decN wt).length from Nat.zero_le _), (show Ext Hc Hc from hxj0)⟩ ?_
            rintro ⟨j, Hj⟩ ⟨hj, hxj⟩ ih205
            replace hj : j ≤ (decN wt).length := hj
            replace hxj : Ext Hc Hj := hxj
            show aw _ _ _ (RL _ (.cons 7 (.string wt) (.cons 13 (.slice Ac ((decN wt).length) cc) (.cons 15 (.int .i64 (j : Int)) .nil)))) Hj _
            have hmj := Mine.ext hmc hxj
            refine aw_seq ?_
            refine aw_seq ?_
            refine aw_reg ?_
            refine st_op (ev_move rfl) rfl rfl rfl ?_
            refine st_op (ev_move rfl) rfl rfl rfl ?_
            refine st_op (ev_lenSl rfl Try.underlying42) rfl rfl rfl ?_
            refine st_op (ev_int rfl rfl rfl) rfl rfl rfl ?_
            try show aw _ _ _ _ _ _
            refine aw_cond (t := decide ((j : Int) < ((decN wt).length : Int))) rfl ?_
            by_cases hc206 : (decide ((j : Int) < ((decN wt).length : Int))) = true
            · rw [hc206]
              rw [if_pos rfl]
              have hc206 := of_decide_eq_true hc206
              refine aw_skip ?_
              try show aw _ _ _ _ _ _
              refine aw_seq ?_
              refine aw_block ?_
              refine aw_seq ?_
              refine aw_marks (fun b => b < Hj.next) [(false, false), (false, false), (false, false), (false, false), (false, false), (false, false), (false, false), (false, false), (false, false), (false, false)] mixed (by kernel_rfl) (by kernel_rfl) ?_
              refine sm_op (ev_move rfl) rfl rfl rfl ?_
              refine sm_op (ev_move rfl) rfl rfl rfl ?_
              have hr207 := hmj.row
              have hi208 : 0 ≤ ((j : Int) : Int) := by omega
              have hi209 : ((j : Int) : Int) < (((decN wt).length : Nat) : Int) := by omega
              obtain ⟨x210, hx211⟩ : ∃ e, (decN wt)[j]? = some e := ⟨_, List.getElem?_eq_getElem (by omega)⟩
              obtain ⟨b212, o213, rfl, hr214⟩ := Row.at_ hr207 (getMap I64c hx211)
              have b212lt := hr214.1
              refine sm_op (ev_indexAddr rfl rfl hi208 hi209 el42 (o' := o213 + j * 1) (by first | rfl | (simp only [Int.toNat_natCast]; rfl) | simp)) rfl rfl rfl ?_
              refine sm_op (ev_load rfl (hr214.lvar0 one3 (getMap I64c hx211) rfl)) rfl rfl rfl ?_
              refine sm_op (ev_move rfl) rfl rfl rfl ?_
              refine sm_op (ev_move rfl) rfl rfl rfl ?_
              obtain ⟨y215, hy216⟩ : ∃ y, (wt).data.toList[j]? = some y := ⟨_, List.getElem?_eq_getElem (by simp; omega)⟩
              have y215t := y215.toNat_lt
              refine sm_op (ev_ixStr Try.underlying9 rfl rfl (ba_get hy216)) rfl rfl rfl ?_
              have hd218 := hdig _ (List.mem_of_getElem? hy216)
              have hw217 : IntKind.u8.wrap ((y215.toNat : Int) - 48) = (y215.toNat : Int) - 48 := by rw [IntKind.wrap_u8]; omega
              refine sm_op (ev_subW hw217 rfl rfl rfl) rfl rfl rfl ?_
              refine sm_op (ev_convIdI Try.underlying5 Try.underlying3 rfl (by omega) (by omega)) rfl rfl rfl ?_
              refine sm_op (ev_int rfl rfl rfl) rfl rfl rfl ?_
              try show aw _ _ _ _ _ _
              refine aw_cond (t := x210 != (y215.toNat : Int) - 48) rfl ?_
              by_cases hc219 : (x210 != (y215.toNat : Int) - 48) = true
              · rw [hc219]
                rw [if_pos rfl]
                have hc219 : ¬ (x210 = (y215.toNat : Int) - 48) := by simpa using hc219
                refine aw_seq ?_
                refine aw_reg ?_
                refine st_op (ev_assign rfl) rfl rfl rfl ?_
                try show aw _ _ _ _ _ _
                refine aw_ret ?_
                first | exact ⟨_, rfl, rfl⟩ | (exfalso; omega) | (exfalso; have h1 := hx211; rw [decN, List.getElem?_map, hy216] at h1; simp at h1; omega)
              · rw [Bool.not_eq_true] at hc219; rw [hc219]
                rw [if_neg Bool.false_ne_true]
                have hc219 : (x210 = (y215.toNat : Int) - 48) := by simpa using hc219
                refine aw_skip ?_
                try show aw _ _ _ _ _ _
                refine aw_reg ?_
                refine st_op (ev_move rfl) rfl rfl rfl ?_
                refine st_op (ev_int64 (c := (j : Int) + 1) rfl rfl rfl (by omega) (by omega)) rfl rfl rfl ?_
                refine st_op (ev_assign rfl) rfl rfl rfl ?_
                try show aw _ _ _ _ _ _
                refine aw_keep [7, 13, 15] (l' := (.cons 7 (.string wt) (.cons 13 (.slice (some ⟨b212, o213, none⟩) ((decN wt).length) cc) (.cons 15 (.int .i64 ((j : Int) + 1)) .nil)))) (by repeat (first | exact Up.done | refine Up.then ?_ | refine Up.inBlock ?_)) rfl ?_
                exact ih205 (j + 1, Hj) ⟨(show (j + 1) ≤ (decN wt).length from by omega), (show Ext Hc Hj from hxj)⟩ (by simp only; omega)
            · rw [Bool.not_eq_true] at hc206; rw [hc206]
              rw [if_neg Bool.false_ne_true]
              have hc206 := of_decide_eq_false hc206
              refine aw_exit ?_
              try show aw _ _ _ _ _ _
              refine aw_seq ?_
              refine aw_reg ?_
              refine st_op (ev_assign rfl) rfl rfl rfl ?_
              try show aw _ _ _ _ _ _
              refine aw_ret ?_
              first | exact ⟨_, rfl, rfl⟩ | (exfalso; omega) | (exfalso; have h1 := hx211; rw [decN, List.getElem?_map, hy216] at h1; simp at h1; omega)
end Go.AM
