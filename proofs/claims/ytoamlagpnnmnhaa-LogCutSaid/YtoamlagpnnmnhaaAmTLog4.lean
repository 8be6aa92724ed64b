/- Part of a machine of its own for this claim: the program's code over memory without draws. -/
import Derived.Test.YtoamlagpnnmnhaaAmE
import Derived.Test.YtoamlagpnnmnhaaAmD
import Derived.Test.YtoamlagpnnmnhaaProg
import Derived.KernelRfl
set_option linter.unusedVariables false
set_option linter.unusedSimpArgs false
set_option linter.unusedVariables false
set_option linter.unusedSimpArgs false
namespace Go.AM
open Go Go.Proofs

noncomputable def E0 : TypeId → Bool := eqTy Try.prog
theorem E0_ok : EqOk Try.prog E0 := eqTy_ok
theorem mixed : Try.prog.follows .mixedOrders = true := by kernel_rfl
structure Entry where
  index : Int
  term : Int
  kind : Int
  data : ByteArray
def Entry.cells (e : Entry) : List Value := [.int .i64 e.index, .int .i64 e.term, .int .i64 e.kind, .string e.data]
def I64c (n : Int) : List Value := [.int .i64 n]
def badNum (n : Int) : Bool := decide (n < 0) || decide (n > 1099511627776)
def idxF {α : Type} (p : α → Bool) : List α → Int → Int
  | [], _ => -1
  | x :: l, i => if p x then i else idxF p l (i + 1)
def rowOk : Int → Int → List Entry → Bool
  | _, _, [] => true
  | ix, tm, e :: es => if (e.index != IntKind.i64.wrap (ix + 1)) || decide (e.term < tm) then false else rowOk e.index e.term es
def cutB (s : ByteArray) (n : Int) : ByteArray := if (s.size : Int) > n then s.extract 0 n.toNat else s
def Entry.cut (e : Entry) : Entry := { e with data := cutB e.data 60 }
def inF (l : List Int) : Bool := !(decide (idxF badNum l 0 ≥ 0))
theorem inTwo_iff {x tm : Int} (h : inF [x, tm] = true) : 0 ≤ x ∧ x ≤ 1099511627776 ∧ 0 ≤ tm ∧ tm ≤ 1099511627776 := by
  simp only [inF, idxF] at h
  have h1 : badNum x = false := by
    cases hb : badNum x with
    | false => rfl
    | true => simp [hb] at h
  have h2 : badNum tm = false := by
    cases hb : badNum tm with
    | false => rfl
    | true => simp [h1, hb] at h
  simp [badNum] at h1 h2
  omega
def newOk (x tm : Int) (es : List Entry) : Bool := inF [x, tm] && decide ((es.length : Int) ≤ 200) && rowOk x tm es
def getE (x : Int) (es : List Entry) (i n : Int) : List Entry := if i < x + 1 ∨ i > x + es.length ∨ n < 1 then [] else (es.drop (i - (x + 1)).toNat).take n.toNat
def Entry.eqE (a b : Entry) : Bool := a.index == b.index && a.term == b.term && a.kind == b.kind && a.data.toList == b.data.toList
def eqEs : List Entry → List Entry → Bool
  | [], [] => true
  | a :: l, b :: k => a.eqE b && eqEs l k
  | _, _ => false
theorem eqEs_len : ∀ {a b : List Entry}, a.length ≠ b.length → eqEs a b = false
  | [], [], h => absurd rfl h
  | [], _ :: _, _ => rfl
  | _ :: _, [], _ => rfl
  | a :: l, b :: k, h => by simp [eqEs, eqEs_len (a := l) (b := k) (by simpa using h)]
theorem eqE_refl (a : Entry) : a.eqE a = true := by simp [Entry.eqE]
theorem eqEs_refl : ∀ l : List Entry, eqEs l l = true
  | [] => rfl
  | a :: l => by simp [eqEs, eqE_refl, eqEs_refl l]
theorem getE_first (x : Int) (es : List Entry) {n : Int} (hn : 1 ≤ n) : getE x es (x + 1) n = es.take n.toNat := by
  unfold getE
  split
  · have : es = [] := List.eq_nil_of_length_eq_zero (by omega)
    subst this; simp
  · rw [show (x + 1 - (x + 1)).toNat = 0 by omega, List.drop_zero]
theorem resA_cell {fn : Func} {n a t : Nat} {r : Slots} {H : Heap} {ad : Addr} {v : Value} (hr : fn.results = #[.cell a t]) (ha : lk r a = some (.pointer (some ad))) (hl : lvar Try.prog H t ad = some v) : resA Try.prog fn (RL n r) H = some v := by
  unfold resA
  rw [hr]
  have : (RL n r).f a = lk r a := rfl
  simp [resOne, this, ha, ptr?, hl, oneOrAll]
noncomputable def X0 (f : FuncId) : List Tmp := (bif_ (Nat.ble 26 f) (bif_ (Nat.ble 39 f) (bif_ (Nat.ble 45 f) (bif_ (Nat.ble 48 f) (bif_ (Nat.ble 50 f) (bif_ (Nat.ble 51 f) [0, 2, 3, 7, 37] [0, 2, 3, 4, 5, 9, 22]) (bif_ (Nat.ble 49 f) [0, 2, 3, 4, 5, 6, 7, 8, 30] [0, 1, 4, 5, 7, 8, 9, 16])) (bif_ (Nat.ble 46 f) (bif_ (Nat.ble 47 f) [0, 1, 2, 4, 5, 6, 7, 8, 9, 10, 16, 35, 46, 61] [0, 2, 3, 4, 5, 7, 8, 9, 22]) [0, 2])) (bif_ (Nat.ble 42 f) (bif_ (Nat.ble 43 f) (bif_ (Nat.ble 44 f) [0, 1, 4] [0, 1, 2, 3]) [0, 1, 2, 3, 4]) (bif_ (Nat.ble 40 f) (bif_ (Nat.ble 41 f) [0, 1, 2, 3] [0, 1, 2]) [0, 1, 2]))) (bif_ (Nat.ble 32 f) (bif_ (Nat.ble 35 f) (bif_ (Nat.ble 37 f) (bif_ (Nat.ble 38 f) [0, 1, 4, 5, 6, 7, 8, 9, 10, 11, 13, 21, 45, 57] [0, 1, 2, 3, 4]) (bif_ (Nat.ble 36 f) [0, 2, 4] [0, 1, 2, 6, 8, 9, 10, 11, 12, 25])) (bif_ (Nat.ble 33 f) (bif_ (Nat.ble 34 f) [0, 2] [0, 1, 4, 8]) [0, 2, 4])) (bif_ (Nat.ble 29 f) (bif_ (Nat.ble 30 f) (bif_ (Nat.ble 31 f) [0, 1, 3, 4, 5, 6, 7, 8, 9, 33, 53, 57, 68] [0, 1, 2, 3, 6, 7, 21]) [0, 1, 2, 3, 6]) (bif_ (Nat.ble 27 f) (bif_ (Nat.ble 28 f) [0, 1, 2, 3, 6, 7, 8] [0, 1, 2, 6, 7, 8]) [0, 1, 2, 4, 5, 10, 24])))) (bif_ (Nat.ble 13 f) (bif_ (Nat.ble 19 f) (bif_ (Nat.ble 22 f) (bif_ (Nat.ble 24 f) (bif_ (Nat.ble 25 f) [0, 1, 3, 5] [0, 1, 3, 4, 22]) (bif_ (Nat.ble 23 f) [0, 1, 2, 3, 4, 5, 26] [0, 1, 2, 4, 5, 6, 7, 8, 9, 10, 12, 13, 16, 25, 30, 59, 64, 84, 110])) (bif_ (Nat.ble 20 f) (bif_ (Nat.ble 21 f) [0, 1, 2, 4, 5, 6, 7, 30, 37, 59] [0, 2, 3]) [0, 1, 2, 6, 7, 10])) (bif_ (Nat.ble 16 f) (bif_ (Nat.ble 17 f) (bif_ (Nat.ble 18 f) [0, 1, 4, 5, 6, 24] [0, 1, 4, 5, 10, 14, 26]) [0, 2, 4]) (bif_ (Nat.ble 14 f) (bif_ (Nat.ble 15 f) [0, 1, 4, 5, 6, 7, 8, 11, 14, 36, 63, 68, 96] [0, 2, 4]) [0, 1, 2, 6, 7, 25]))) (bif_ (Nat.ble 6 f) (bif_ (Nat.ble 9 f) (bif_ (Nat.ble 11 f) (bif_ (Nat.ble 12 f) [0, 1, 2, 4, 25] [0, 1, 4, 5, 6, 7, 16]) (bif_ (Nat.ble 10 f) [0, 1, 2] [0, 1, 2, 3, 4, 5, 12])) (bif_ (Nat.ble 7 f) (bif_ (Nat.ble 8 f) [0, 1, 2, 3, 5, 6, 7] [0, 1, 2, 3, 6, 7, 8, 9, 10, 11, 12, 13, 14, 15, 16, 17, 18, 19, 20, 21, 22, 23, 24, 27, 44, 46, 54, 70, 138, 164, 180, 191, 206]) [0, 1, 4, 5, 6, 7, 8, 9, 10, 11, 12, 13, 14, 15, 18, 24, 27, 40, 48, 63, 76, 91, 95, 107])) (bif_ (Nat.ble 3 f) (bif_ (Nat.ble 4 f) (bif_ (Nat.ble 5 f) [0, 1, 2, 4, 5, 6, 7, 8, 9, 10, 13, 24, 28, 42] [0, 1, 4, 5, 6, 7, 8, 9, 10, 11, 15, 30, 33, 45]) [0, 1, 2, 3, 4, 8, 9, 10, 11, 12, 13, 16, 44]) []))))
theorem begun_ran : okF (runF Try.prog X0 1000 40 9 [] Hp.nil) = true := by kernel_rfl
theorem begun_spec (H : Heap) : ∃ v H', Spec Try.prog 9 [] H v H' ∧ v = .bool true ∧ H' = H := ⟨_, _, okF_any mixed begun_ran H, rfl, rfl⟩

def termOf (x tm : Int) (es : List Entry) (i : Int) : Int × Bool :=
  if i < x ∨ i > x + es.length then (0, false) else if i = x then (tm, true) else match es[(i - (x + 1)).toNat]? with
    | some e => (e.term, true)
    | none => (0, false)
def fitsB (x tm : Int) (es : List Entry) (i t : Int) : Bool := (termOf x tm es i).2 && ((termOf x tm es i).1 == t)
def newerB (x tm : Int) (es : List Entry) (i t : Int) : Bool := decide (t > (termOf x tm es (x + es.length)).1) || ((t == (termOf x tm es (x + es.length)).1) && decide (i ≥ x + es.length))
def stays (x tm : Int) (es : List Entry) (u : Entry) : Bool := decide (u.index ≤ x) || fitsB x tm es u.index u.term
def conseq : List Entry → Prop
  | a :: b :: l => b.index = IntKind.i64.wrap (a.index + 1) ∧ conseq (b :: l)
  | _ => True
theorem rowOk_conseq : ∀ {l : List Entry} {i t : Int}, rowOk i t l = true → conseq l
  | [], _, _, _ => trivial
  | [_], _, _, _ => trivial
  | a :: b :: l, i, t, h => by
    rw [rowOk] at h
    split at h
    · cases h
    · refine ⟨?_, rowOk_conseq h⟩
      rw [rowOk] at h
      split at h
      · cases h
      · rename_i h2
        simp only [Bool.or_eq_true, bne_iff_ne, ne_eq, decide_eq_true_eq, not_or, Decidable.not_not] at h2
        exact h2.1
theorem conseq_tail {a : Entry} : ∀ {l : List Entry}, conseq (a :: l) → conseq l
  | [], _ => trivial
  | _ :: _, h => h.2
theorem wrap_id {n : Int} (h0 : -9223372036854775808 ≤ n) (h1 : n ≤ 9223372036854775807) : IntKind.i64.wrap n = n := by
  rw [IntKind.wrap_i64]; omega
def putC (x tm : Int) (es us : List Entry) : Option Bool :=
  match us with
  | [] => some true
  | u0 :: _ => if u0.index > x + es.length + 1 ∨ rowOk (IntKind.i64.wrap (u0.index - 1)) u0.term us = false then some false else
    match us.dropWhile (stays x tm es) with
    | [] => some true
    | u :: l => if u.term < (termOf x tm es (u.index - 1)).1 ∨ u.index - (x + 1) + ((l.length : Int) + 1) > 200 then some false else none

theorem putC_bad {x tm : Int} {es us : List Entry} {e : Entry} (he : us[0]? = some e) (h : e.index > x + es.length + 1 ∨ rowOk (IntKind.i64.wrap (e.index - 1)) e.term us = false) : putC x tm es us = some false := by
  cases us with
  | nil => simp at he
  | cons u0 us => simp at he; subst he; simp only [putC]; rw [if_pos h]
theorem putC_done {x tm : Int} {es us : List Entry} {e : Entry} (he : us[0]? = some e) (h : e.index ≤ x + es.length + 1) (h2 : rowOk (IntKind.i64.wrap (e.index - 1)) e.term us = true) (hd : us.dropWhile (stays x tm es) = []) : putC x tm es us = some true := by
  cases us with
  | nil => simp at he
  | cons u0 us => simp at he; subst he; simp only [putC]; rw [if_neg (by rw [h2]; simp; omega), hd]
theorem putC_full {x tm : Int} {es us : List Entry} {e u : Entry} {l : List Entry} (he : us[0]? = some e) (h : e.index ≤ x + es.length + 1) (h2 : rowOk (IntKind.i64.wrap (e.index - 1)) e.term us = true) (hd : us.dropWhile (stays x tm es) = u :: l)
    (h3 : u.term < (termOf x tm es (u.index - 1)).1 ∨ u.index - (x + 1) + ((l.length : Int) + 1) > 200) : putC x tm es us = some false := by
  cases us with
  | nil => simp at he
  | cons u0 us => simp at he; subst he; simp only [putC]; rw [if_neg (by rw [h2]; simp; omega), hd]; simp only; rw [if_pos h3]
theorem putC_go {x tm : Int} {es us : List Entry} {e u : Entry} {l : List Entry} (he : us[0]? = some e) (h : e.index ≤ x + es.length + 1) (h2 : rowOk (IntKind.i64.wrap (e.index - 1)) e.term us = true) (hd : us.dropWhile (stays x tm es) = u :: l)
    (h3 : ¬ (u.term < (termOf x tm es (u.index - 1)).1 ∨ u.index - (x + 1) + ((l.length : Int) + 1) > 200)) : putC x tm es us = none := by
  cases us with
  | nil => simp at he
  | cons u0 us => simp at he; subst he; simp only [putC]; rw [if_neg (by rw [h2]; simp; omega), hd]; simp only; rw [if_neg h3]
theorem next_le {e : Entry} {L1 : List Entry} {m : Int} (hc : conseq (e :: L1)) (h0 : -9223372036854775808 ≤ e.index) (h1 : e.index ≤ m) (hm : m ≤ 4611686018427387904) : ∀ u, L1[0]? = some u → u.index ≤ m + 1 := by
  intro u hu
  cases L1 with
  | nil => simp at hu
  | cons y l =>
    simp at hu
    subst hu
    have := hc.1
    rw [wrap_id (by omega) (by omega)] at this
    omega
theorem fits_le {x tm : Int} {es : List Entry} {i t : Int} (h : fitsB x tm es i t = true) : i ≤ x + es.length := by
  unfold fitsB termOf at h
  split at h
  · simp at h
  · omega
theorem dw_head {p : Entry → Bool} {l : List Entry} {e : Entry} (h : l[0]? = some e) (hn : p e = false) : l.dropWhile p = e :: l.drop 1 := by
  cases l with
  | nil => simp at h
  | cons a l => simp at h; subst h; simp [List.dropWhile, hn]
theorem head_drop {l : List Entry} {e : Entry} (h : l[0]? = some e) : l = e :: l.drop 1 := by
  cases l with
  | nil => simp at h
  | cons a l => simp at h; subst h; rfl
theorem rowOk_cons {i t : Int} {e : Entry} {l : List Entry} : rowOk i t (e :: l) = true ↔ e.index = IntKind.i64.wrap (i + 1) ∧ t ≤ e.term ∧ rowOk e.index e.term l = true := by
  rw [rowOk]
  split
  · rename_i h
    simp only [Bool.or_eq_true, bne_iff_ne, ne_eq, decide_eq_true_eq] at h
    constructor
    · intro h; cases h
    · rintro ⟨h1, h2, _⟩; rcases h with h | h
      · exact absurd h1 h
      · omega
  · rename_i h
    simp only [Bool.or_eq_true, bne_iff_ne, ne_eq, decide_eq_true_eq, not_or, Decidable.not_not] at h
    exact ⟨fun k => ⟨h.1, by omega, k⟩, fun k => k.2.2⟩
theorem rowOk_at : ∀ {l : List Entry} {i t : Int}, rowOk i t l = true → 0 ≤ i → i + l.length ≤ 4611686018427387904 → ∀ (k : Nat) (e : Entry), l[k]? = some e → e.index = i + 1 + k
  | [], _, _, _, _, _, k, e, h => by simp at h
  | a :: l, i, t, h, h0, hm, k, e, he => by
    obtain ⟨h1, _, h3⟩ := rowOk_cons.1 h
    simp only [List.length_cons] at hm
    rw [wrap_id (by omega) (by omega)] at h1
    cases k with
    | zero => simp at he; subst he; omega
    | succ k =>
      have := rowOk_at h3 (by omega) (by omega) k e (by simpa using he)
      rw [this, h1]; omega
theorem rowOk_take : ∀ {l : List Entry} {i t : Int} (m : Nat), rowOk i t l = true → rowOk i t (l.take m) = true
  | [], _, _, _, h => by simpa using h
  | a :: l, i, t, 0, h => rfl
  | a :: l, i, t, m + 1, h => by
    obtain ⟨h1, h2, h3⟩ := rowOk_cons.1 h
    rw [List.take_succ_cons]
    exact rowOk_cons.2 ⟨h1, h2, rowOk_take m h3⟩
/-- From some element on. -/
theorem rowOk_from : ∀ {l : List Entry} {i t : Int} (k : Nat) (e : Entry), rowOk i t l = true → l[k]? = some e → ∃ i', rowOk i' e.term (l.drop k) = true ∧ e.index = IntKind.i64.wrap (i' + 1)
  | [], _, _, k, e, _, h => by simp at h
  | a :: l, i, t, 0, e, h, he => by
    simp at he; subst he
    obtain ⟨h1, h2, h3⟩ := rowOk_cons.1 h
    exact ⟨i, rowOk_cons.2 ⟨h1, Int.le_refl _, h3⟩, h1⟩
  | a :: l, i, t, k + 1, e, h, he => by
    obtain ⟨h1, h2, h3⟩ := rowOk_cons.1 h
    simpa using rowOk_from k e h3 (by simpa using he)
theorem rowOk_shift {i i' t : Int} : ∀ {l : List Entry}, rowOk i t l = true → IntKind.i64.wrap (i + 1) = IntKind.i64.wrap (i' + 1) → rowOk i' t l = true
  | [], _, _ => rfl
  | a :: l, h, hi => by
    obtain ⟨h1, h2, h3⟩ := rowOk_cons.1 h
    exact rowOk_cons.2 ⟨by rw [h1, hi], h2, h3⟩
theorem dropWhile_all {p : Entry → Bool} : ∀ {l : List Entry}, (∀ u ∈ l, p u = true) → l.dropWhile p = []
  | [], _ => rfl
  | a :: l, h => by rw [List.dropWhile_cons_of_pos (h a (by simp))]; exact dropWhile_all fun u hu => h u (by simp [hu])
theorem getE_sub {x : Int} {es : List Entry} {i n : Int} : ∀ u ∈ getE x es i n, u ∈ es := by
  intro u hu
  unfold getE at hu
  split at hu
  · cases hu
  · exact List.mem_of_mem_drop (List.mem_of_mem_take hu)
theorem getE_len (x : Int) (es : List Entry) (i n : Int) : (getE x es i n).length ≤ es.length := by
  unfold getE
  split
  · simp
  · rw [List.length_take, List.length_drop]; omega
theorem newOk_row {x tm : Int} {es : List Entry} (h : newOk x tm es = true) : rowOk x tm es = true := by
  simp only [newOk, Bool.and_eq_true] at h; exact h.2
theorem row_in {x tm : Int} {es : List Entry} (h : rowOk x tm es = true) (h0 : 0 ≤ x) (h1 : x ≤ 1099511627776) (hl : es.length ≤ 1000000) : ∀ u ∈ es, -9223372036854775808 ≤ u.index ∧ u.index ≤ 9223372036854775807 := by
  intro u hu
  obtain ⟨k, hk⟩ := List.mem_iff_getElem?.1 hu
  have := rowOk_at h h0 (by omega) k u hk
  have := (List.getElem?_eq_some_iff.1 hk).1
  omega
theorem stays_mem {x tm : Int} {es : List Entry} (h : rowOk x tm es = true) (h0 : 0 ≤ x) (h1 : x ≤ 1099511627776) (hl : es.length ≤ 1000000) : ∀ u ∈ es, stays x tm es u = true := by
  intro u hu
  obtain ⟨k, hk⟩ := List.mem_iff_getElem?.1 hu
  have h2 := rowOk_at h h0 (by omega) k u hk
  have h3 := (List.getElem?_eq_some_iff.1 hk).1
  simp only [stays, Bool.or_eq_true]
  refine .inr ?_
  have : termOf x tm es u.index = (u.term, true) := by
    rw [termOf, if_neg (by omega), if_neg (by omega), show (u.index - (x + 1)).toNat = k by omega, hk]
  rw [fitsB, this]
  simp
theorem again_put {x tm : Int} {es : List Entry} {fr n : Int} (h : rowOk x tm es = true) (h0 : 0 ≤ x) (h1 : x ≤ 1099511627776) (hl : es.length ≤ 1000000) (hf : 0 ≤ fr) (hf2 : fr < es.length) : putC x tm es (getE x es (x + 1 + fr) n) = some true := by
  by_cases hn : n < 1
  · rw [show getE x es (x + 1 + fr) n = [] by unfold getE; rw [if_pos (by omega)]]; rfl
  · have hg : getE x es (x + 1 + fr) n = (es.drop fr.toNat).take n.toNat := by
      unfold getE; rw [if_neg (by omega), show (x + 1 + fr - (x + 1)).toNat = fr.toNat by omega]
    obtain ⟨e, he⟩ : ∃ e, es[fr.toNat]? = some e := ⟨_, List.getElem?_eq_getElem (by omega)⟩
    have hi := rowOk_at h h0 (by omega) _ e he
    obtain ⟨i', hr, hi'⟩ := rowOk_from _ e h he
    have hhead : (getE x es (x + 1 + fr) n)[0]? = some e := by
      rw [hg, List.getElem?_take, if_pos (by omega), List.getElem?_drop, Nat.add_zero, he]
    refine putC_done hhead (by omega) ?_ (dropWhile_all fun u hu => stays_mem h h0 h1 hl u (getE_sub u hu))
    rw [hg]
    refine rowOk_take _ (rowOk_shift hr ?_)
    rw [← hi', wrap_id (n := e.index - 1) (by omega) (by omega), Int.sub_add_cancel, wrap_id (by omega) (by omega)]

def entN (j : Nat) : Entry := ⟨(j : Int) + 1, 1, 1, ⟨#[]⟩⟩
def entsN (n : Nat) : List Entry := (List.range n).map entN
theorem entsN_len (n : Nat) : (entsN n).length = n := by simp [entsN]
theorem entsN_succ (n : Nat) : entsN (n + 1) = entsN n ++ [entN n] := by simp [entsN, List.range_succ]
theorem entsN_at {n k : Nat} (h : k < n) : (entsN n)[k]? = some (entN k) := by simp [entsN, h]
theorem rowOk_snoc {i t : Int} : ∀ {l : List Entry} {e : Entry}, rowOk i t l = true → 0 ≤ i → i + l.length ≤ 4611686018427387904 → e.index = i + l.length + 1 → (∀ u ∈ l, u.term ≤ e.term) → t ≤ e.term → rowOk i t (l ++ [e]) = true
  | [], e, _, h0, hm, hi, _, ht => rowOk_cons.2 ⟨by rw [wrap_id (by simp at hm; omega) (by simp at hm; omega), hi]; simp, ht, rfl⟩
  | a :: l, e, h, h0, hm, hi, hu, ht => by
    obtain ⟨h1, h2, h3⟩ := rowOk_cons.1 h
    simp only [List.length_cons] at hm hi
    have h1' := h1
    rw [wrap_id (by omega) (by omega)] at h1'
    rw [List.cons_append]
    exact rowOk_cons.2 ⟨h1, h2, rowOk_snoc h3 (by omega) (by omega) (by rw [hi, h1']; omega) (fun u hu' => hu u (by simp [hu'])) (hu a (by simp))⟩
theorem entsN_row : ∀ n : Nat, n ≤ 50 → rowOk 0 0 (entsN n) = true
  | 0, _ => rfl
  | n + 1, h => by
    rw [entsN_succ]
    refine rowOk_snoc (entsN_row n (by omega)) (by decide) (by rw [entsN_len]; omega) (by rw [entsN_len]; simp [entN]) (fun u hu => ?_) (by simp [entN])
    obtain ⟨j, _, rfl⟩ := List.mem_map.1 hu
    simp [entN]
theorem entsN_new {n : Nat} (h : n ≤ 50) : newOk 0 0 (entsN n) = true := by
  simp only [newOk, Bool.and_eq_true, decide_eq_true_eq]
  exact ⟨⟨by decide, by rw [entsN_len]; omega⟩, entsN_row n h⟩
def entX (at_ : Int) : Entry := ⟨at_, 2, 1, ⟨#[]⟩⟩
theorem entX_stays {n : Nat} {a : Int} (h1 : 1 ≤ a) (h2 : a ≤ n) : stays 0 0 (entsN n) (entX a) = false := by
  have : termOf 0 0 (entsN n) a = (1, true) := by
    rw [termOf, entsN_len, if_neg (by omega), if_neg (by omega), entsN_at (by omega)]
    rfl
  simp only [stays, fitsB, entX, this, Bool.or_eq_false_iff, decide_eq_false_iff_not]
  exact ⟨decide_eq_false (by omega), rfl⟩
theorem entX_prev {n : Nat} {a : Int} (h1 : 1 ≤ a) (h2 : a ≤ n) : (termOf 0 0 (entsN n) (a - 1)).1 ≤ 1 := by
  rw [termOf, entsN_len, if_neg (by omega)]
  split
  · decide
  · rw [entsN_at (by omega)]; exact Int.le_refl _
theorem cut_put {n : Nat} {a : Int} (h1 : 1 ≤ a) (h2 : a ≤ n) (hn : n ≤ 50) : putC 0 0 (entsN n) [entX a] = none := by
  refine putC_go (e := entX a) rfl ?_ ?_ (dw_head (e := entX a) rfl (entX_stays h1 h2)) ?_
  · rw [entsN_len]; show a ≤ _; omega
  · refine rowOk_cons.2 ⟨?_, Int.le_refl _, rfl⟩
    show a = _
    rw [show (entX a).index = a from rfl, wrap_id (n := a - 1) (by omega) (by omega), Int.sub_add_cancel, wrap_id (by omega) (by omega)]
  · have := entX_prev h1 h2
    rw [not_or]
    refine ⟨?_, ?_⟩
    · show ¬ (2 : Int) < _
      rw [show (entX a).index = a from rfl]; omega
    · rw [show (entX a).index = a from rfl]; simp; omega
def cutL (n : Nat) (a : Int) : List Entry := (entsN n).take (a - (0 + 1)).toNat ++ [entX a]
theorem cutL_len {n : Nat} {a : Int} (h1 : 1 ≤ a) (h2 : a ≤ n) : ((cutL n a).length : Int) = a := by
  simp only [cutL, List.length_append, List.length_take, entsN_len, List.length_singleton]; omega
theorem cutL_term {n : Nat} {a : Int} (h1 : 1 ≤ a) (h2 : a ≤ n) : termOf 0 0 (cutL n a) a = (2, true) := by
  have hl := cutL_len h1 h2
  rw [termOf, if_neg (by omega), if_neg (by omega)]
  have : (cutL n a)[(a - (0 + 1)).toNat]? = some (entX a) := by
    unfold cutL
    have : ((entsN n).take (a - (0 + 1)).toNat).length = (a - (0 + 1)).toNat := by rw [List.length_take, entsN_len]; omega
    rw [List.getElem?_append_right (by omega), this, Nat.sub_self]; rfl
  rw [this]; rfl
theorem cutL_newer {n : Nat} {a : Int} (h1 : 1 ≤ a) (h2 : a ≤ n) (i t : Int) : newerB 0 0 (cutL n a) i t = (decide (t > 2) || ((t == 2) && decide (i ≥ a))) := by
  have hl := cutL_len h1 h2
  unfold newerB
  rw [show (0 : Int) + ((cutL n a).length : Int) = a by omega, cutL_term h1 h2]

theorem ElemInfo.mk37 : ∃ i, Try.prog.info? 37 = some i ∧ i.size = 4 ∧ i.bytes = 40 ∧ (i.zero.map fun z => z.cells.size) = some 4 := elemInfo (by kernel_rfl)
theorem ElemInfo.mk2 : ∃ i, Try.prog.info? 2 = some i ∧ i.size = 1 ∧ i.bytes = 8 ∧ (i.zero.map fun z => z.cells.size) = some 1 := elemInfo (by kernel_rfl)
theorem zf2 : ∃ i z, Try.prog.info? 2 = some i ∧ i.zero = some z ∧ z.cells.toList.all flat = true := zeroFlat (by kernel_rfl)
theorem zf37 : ∃ i z, Try.prog.info? 37 = some i ∧ i.zero = some z ∧ z.cells.toList.all flat = true := zeroFlat (by kernel_rfl)
theorem el24 : elemIs Try.prog 24 4 = true := by kernel_rfl
theorem el71 : elemIs Try.prog 71 1 = true := by kernel_rfl
theorem ent10 : enters Try.prog 10 = true := by kernel_rfl
theorem ent11 : enters Try.prog 11 = true := by kernel_rfl
theorem ent12 : enters Try.prog 12 = true := by kernel_rfl
theorem ent13 : enters Try.prog 13 = true := by kernel_rfl
theorem ent14 : enters Try.prog 14 = true := by kernel_rfl
theorem ent15 : enters Try.prog 15 = true := by kernel_rfl
theorem ent16 : enters Try.prog 16 = true := by kernel_rfl
theorem ent17 : enters Try.prog 17 = true := by kernel_rfl
theorem ent18 : enters Try.prog 18 = true := by kernel_rfl
theorem ent19 : enters Try.prog 19 = true := by kernel_rfl
theorem ent27 : enters Try.prog 27 = true := by kernel_rfl
theorem ent33 : enters Try.prog 33 = true := by kernel_rfl
theorem ent34 : enters Try.prog 34 = true := by kernel_rfl
theorem ent35 : enters Try.prog 35 = true := by kernel_rfl
theorem ent36 : enters Try.prog 36 = true := by kernel_rfl
theorem ent37 : enters Try.prog 37 = true := by kernel_rfl
theorem ent44 : enters Try.prog 44 = true := by kernel_rfl
theorem ent45 : enters Try.prog 45 = true := by kernel_rfl
theorem ent48 : enters Try.prog 48 = true := by kernel_rfl
theorem ent9 : enters Try.prog 9 = true := by kernel_rfl
theorem eok24 : ElemOk Try.prog 24 37 4 40 := ⟨Try.underlying24, ElemInfo.mk37⟩
theorem eok71 : ElemOk Try.prog 71 2 1 8 := ⟨Try.underlying71, ElemInfo.mk2⟩
theorem fa23_0 : fieldIs Try.prog 23 0 0 = true := by kernel_rfl
theorem fa23_1 : fieldIs Try.prog 23 1 1 = true := by kernel_rfl
theorem fa23_2 : fieldIs Try.prog 23 2 2 = true := by kernel_rfl
theorem fa23_3 : fieldIs Try.prog 23 3 3 = true := by kernel_rfl
theorem fa37_0 : fieldIs Try.prog 37 0 0 = true := by kernel_rfl
theorem fa37_1 : fieldIs Try.prog 37 1 1 = true := by kernel_rfl
theorem fa37_2 : fieldIs Try.prog 37 2 2 = true := by kernel_rfl
theorem fa37_3 : fieldIs Try.prog 37 3 3 = true := by kernel_rfl
theorem fa67_0 : fieldIs Try.prog 67 0 0 = true := by kernel_rfl
theorem fa67_1 : fieldIs Try.prog 67 1 4 = true := by kernel_rfl
theorem isrow24 : isRow Try.prog (some 24) = true := by kernel_rfl
theorem many23 : manyB Try.prog 23 4 = true := by kernel_rfl
theorem many37 : manyB Try.prog 37 4 = true := by kernel_rfl
theorem one2 : oneB Try.prog 2 = true := by kernel_rfl
theorem one24 : oneB Try.prog 24 = true := by kernel_rfl
theorem one3 : oneB Try.prog 3 = true := by kernel_rfl
theorem one9 : oneB Try.prog 9 = true := by kernel_rfl
theorem pl23 : placesOf Try.prog 23 = some [(0, 1), (1, 1), (2, 1), (3, 1)] := by kernel_rfl
theorem pl37 : placesOf Try.prog 37 = some [(0, 1), (1, 1), (2, 1), (3, 1)] := by kernel_rfl
theorem pl67 : placesOf Try.prog 67 = some [(0, 4), (4, 1)] := by kernel_rfl
theorem size23 : sizeIs Try.prog 23 4 = true := by kernel_rfl
theorem size24 : sizeIs Try.prog 24 1 = true := by kernel_rfl
theorem size3 : sizeIs Try.prog 3 1 = true := by kernel_rfl
theorem size37 : sizeIs Try.prog 37 4 = true := by kernel_rfl
theorem size9 : sizeIs Try.prog 9 1 = true := by kernel_rfl
theorem zero23 : ZeroIs Try.prog 23 [.int .i64 0, .int .i64 0, .string (⟨#[]⟩), .string (⟨#[]⟩)] := ⟨.agg #[.int .i64 0, .int .i64 0, .string (⟨#[]⟩), .string (⟨#[]⟩)], by kernel_rfl, rfl, rfl, rfl⟩
theorem zero37 : ZeroIs Try.prog 37 [.int .i64 0, .int .i64 0, .int .i64 0, .string (⟨#[]⟩)] := ⟨.agg #[.int .i64 0, .int .i64 0, .int .i64 0, .string (⟨#[]⟩)], by kernel_rfl, rfl, rfl, rfl⟩
theorem zero67 : ZeroIs Try.prog 67 [.int .i64 0, .int .i64 0, .string (⟨#[]⟩), .string (⟨#[]⟩), .slice none 0 0] := ⟨.agg #[.int .i64 0, .int .i64 0, .string (⟨#[]⟩), .string (⟨#[]⟩), .slice none 0 0], by kernel_rfl, rfl, rfl, rfl⟩
theorem bad_spec (H : Heap) (n : Int) : ∃ v H', Spec Try.prog 45 [.int .i64 n] H v H' ∧ (v = .bool (badNum n) ∧ H' = H) := by
  refine spec_go1 E0_ok 9 (f := 45) Try.func45 rfl rfl rfl ?_
  refine aw_seq ?_
  refine aw_reg ?_
  refine st_op (ev_assign rfl) rfl rfl rfl ?_
  try show aw _ _ _ _ _ _
  refine aw_seq ?_
  refine aw_reg ?_
  refine st_op (ev_move rfl) rfl rfl rfl ?_
  refine st_op (ev_int rfl rfl rfl) rfl rfl rfl ?_
  refine st_op (ev_move rfl) rfl rfl rfl ?_
  refine st_bool 5 rfl (fun hb1 => ?_) (fun hb1 => ?_)
  ·
    have hb1 := of_decide_eq_true hb1
    refine st_skip rfl rfl rfl ?_
    refine st_skip rfl rfl rfl ?_
    refine st_op (ev_pickT rfl rfl) rfl rfl rfl ?_
    refine st_op (ev_assign rfl) rfl rfl rfl ?_
    try show aw _ _ _ _ _ _
    refine aw_ret ?_
    exact ⟨_, rfl, by first | (simp_all [badNum, oneOrAll]; done) | (simp_all [badNum, oneOrAll]; omega), rfl⟩
  ·
    have hb1 := of_decide_eq_false hb1
    refine st_op (ev_move rfl) rfl rfl rfl ?_
    refine st_op (ev_int rfl rfl rfl) rfl rfl rfl ?_
    refine st_op (ev_pickF rfl rfl) rfl rfl rfl ?_
    refine st_op (ev_assign rfl) rfl rfl rfl ?_
    try show aw _ _ _ _ _ _
    refine aw_ret ?_
    exact ⟨_, rfl, by first | (simp_all [badNum, oneOrAll]; done) | (simp_all [badNum, oneOrAll]; omega), rfl⟩
theorem idx_spec (H : Heap) (A : Option Addr) (ns : List Int) (c : Nat) (hrow : Row H A c 1 (ns.map I64c)) (hc : ns.length ≤ c) (hm : ns.length ≤ 1099511627776) : ∃ v H', Spec Try.prog 48 [.slice A ns.length c, .func (.func 45) #[] #[]] H v H' ∧ (v = .int .i64 (idxF badNum ns 0) ∧ Ext H H') := by
  refine spec_go2 E0_ok 19 (f := 48) Try.func48 rfl rfl rfl ?_
  refine aw_seq ?_
  refine aw_reg ?_
  refine st_op (ev_assign rfl) rfl rfl rfl ?_
  try show aw _ _ _ _ _ _
  refine aw_seq ?_
  refine aw_seq ?_
  refine aw_reg ?_
  refine st_op (ev_move rfl) rfl rfl rfl ?_
  refine st_op (ev_lenSl rfl Try.underlying71) rfl rfl rfl ?_
  refine st_op (ev_move rfl) rfl rfl rfl ?_
  try show aw _ _ _ _ _ _
  refine aw_block ?_
  refine aw_keep [0, 1, 7, 8] (l' := (.cons 0 (.slice A ns.length c) (.cons 1 (.func (.func 45) #[] #[]) (.cons 7 (.int .i64 (ns.length : Int)) (.cons 8 (.int .i64 0) .nil))))) (by repeat (first | exact Up.done | refine Up.then ?_ | refine Up.inBlock ?_)) rfl ?_
  refine aw_iter (α := Nat × Heap) (fun a => ns.length - a.1) (fun a => (.cons 0 (.slice A ns.length c) (.cons 1 (.func (.func 45) #[] #[]) (.cons 7 (.int .i64 (ns.length : Int)) (.cons 8 (.int .i64 (a.1 : Int)) .nil))))) (fun a => a.2) (fun a => (a.1 ≤ ns.length) ∧ (idxF badNum ns 0 = idxF badNum (ns.drop a.1) (a.1 : Int)) ∧ (Ext H a.2)) (0, H) ⟨Nat.zero_le _, rfl, Ext.refl H⟩ ?_
  rintro ⟨i, Hl⟩ ⟨hi, hv, hxl1⟩ ih2
  replace hi : i ≤ ns.length := hi
  replace hv : idxF badNum ns 0 = idxF badNum (ns.drop i) (i : Int) := hv
  replace hxl1 : Ext H Hl := hxl1
  show aw _ _ _ (RL _ (.cons 0 (.slice A ns.length c) (.cons 1 (.func (.func 45) #[] #[]) (.cons 7 (.int .i64 (ns.length : Int)) (.cons 8 (.int .i64 (i : Int)) .nil))))) Hl _
  have hxl1n := hxl1.1
  have hr3 := Row.ext hrow hxl1
  have hx4 : Ext H Hl := Ext.trans (Ext.refl H) hxl1
  refine aw_seq ?_
  refine aw_reg ?_
  refine st_op (ev_int rfl rfl rfl) rfl rfl rfl ?_
  try show aw _ _ _ _ _ _
  refine aw_seq ?_
  refine aw_cond (t := decide ((i : Int) < (ns.length : Int))) rfl ?_
  by_cases hc5 : (decide ((i : Int) < (ns.length : Int))) = true
  · rw [hc5]
    rw [if_pos rfl]
    have hc5 := of_decide_eq_true hc5
    refine aw_skip ?_
    try show aw _ _ _ _ _ _
    refine aw_seq ?_
    refine aw_block ?_
    refine aw_seq ?_
    refine aw_reg ?_
    refine st_op (ev_move rfl) rfl rfl rfl ?_
    refine st_op (ev_assign rfl) rfl rfl rfl ?_
    try show aw _ _ _ _ _ _
    refine aw_seq ?_
    refine aw_reg ?_
    refine st_op (ev_move rfl) rfl rfl rfl ?_
    refine st_op (ev_move rfl) rfl rfl rfl ?_
    refine st_op (ev_move rfl) rfl rfl rfl ?_
    have hi6 : 0 ≤ ((i : Int) : Int) := by omega
    have hi7 : ((i : Int) : Int) < ((ns.length : Nat) : Int) := by omega
    obtain ⟨x8, hx9⟩ : ∃ e, ns[i]? = some e := ⟨_, List.getElem?_eq_getElem (by omega)⟩
    obtain ⟨b10, o11, rfl, hr12⟩ := Row.at_ hr3 (getMap I64c hx9)
    have b10lt := hr12.1
    refine st_op (ev_indexAddr rfl rfl hi6 hi7 el71 (o' := o11 + i * 1) (by first | rfl | (simp only [Int.toNat_natCast]; rfl) | simp)) rfl rfl rfl ?_
    refine st_op (ev_load rfl (hr12.lvar0 one2 (getMap I64c hx9) rfl)) rfl rfl rfl ?_
    refine st_callv rfl rfl rfl rfl rfl ent45 rfl rfl rfl ?_
    obtain ⟨_, _, hs13, hs13v, hs13h⟩ := bad_spec Hl x8
    rw [hs13v, hs13h] at hs13; clear hs13v hs13h
    refine ⟨_, _, hs13, ?_⟩
    try show aw _ _ _ _ _ _
    refine aw_cond (t := badNum x8) rfl ?_
    by_cases hc14 : (badNum x8) = true
    · rw [hc14]
      rw [if_pos rfl]
      refine aw_seq ?_
      refine aw_reg ?_
      refine st_op (ev_move rfl) rfl rfl rfl ?_
      refine st_op (ev_assign rfl) rfl rfl rfl ?_
      try show aw _ _ _ _ _ _
      refine aw_ret ?_
      refine ⟨_, rfl, ?_, hx4⟩; show Value.int _ _ = Value.int _ _; congr 1; rw [hv]; first | (rw [drop_at hx9, idxF]; simp_all; done) | (rw [List.drop_eq_nil_of_le (by omega)]; rfl)
    · rw [Bool.not_eq_true] at hc14; rw [hc14]
      rw [if_neg Bool.false_ne_true]
      refine aw_skip ?_
      try show aw _ _ _ _ _ _
      refine aw_reg ?_
      refine st_op (ev_int64 (c := (i : Int) + 1) rfl rfl rfl (by omega) (by omega)) rfl rfl rfl ?_
      refine st_op (ev_move rfl) rfl rfl rfl ?_
      try show aw _ _ _ _ _ _
      refine aw_keep [0, 1, 7, 8] (l' := (.cons 0 (.slice (some ⟨b10, o11, none⟩) ns.length c) (.cons 1 (.func (.func 45) #[] #[]) (.cons 7 (.int .i64 (ns.length : Int)) (.cons 8 (.int .i64 ((i : Int) + 1)) .nil))))) (by repeat (first | exact Up.done | refine Up.then ?_ | refine Up.inBlock ?_)) rfl ?_
      exact ih2 (i + 1, Hl) ⟨by omega, by rw [hv, drop_at hx9, idxF]; simp_all, hx4⟩ (by simp only; omega)
  · rw [Bool.not_eq_true] at hc5; rw [hc5]
    rw [if_neg Bool.false_ne_true]
    have hc5 := of_decide_eq_false hc5
    refine aw_exit ?_
    try show aw _ _ _ _ _ _
    refine aw_seq ?_
    refine aw_reg ?_
    refine st_op (ev_assign rfl) rfl rfl rfl ?_
    try show aw _ _ _ _ _ _
    refine aw_ret ?_
    refine ⟨_, rfl, ?_, hx4⟩; show Value.int _ _ = Value.int _ _; congr 1; rw [hv]; first | (rw [drop_at hx9, idxF]; simp_all; done) | (rw [List.drop_eq_nil_of_le (by omega)]; rfl)
theorem contains_spec (H : Heap) (A : Option Addr) (ns : List Int) (c : Nat) (hrow : Row H A c 1 (ns.map I64c)) (hc : ns.length ≤ c) (hm : ns.length ≤ 1099511627776) : ∃ v H', Spec Try.prog 44 [.slice A ns.length c, .func (.func 45) #[] #[]] H v H' ∧ (v = .bool (decide (idxF badNum ns 0 ≥ 0)) ∧ Ext H H') := by
  refine spec_go2 E0_ok 9 (f := 44) Try.func44 rfl rfl rfl ?_
  refine aw_seq ?_
  refine aw_reg ?_
  refine st_op (ev_assign rfl) rfl rfl rfl ?_
  try show aw _ _ _ _ _ _
  refine aw_seq ?_
  refine aw_reg ?_
  refine st_op (ev_move rfl) rfl rfl rfl ?_
  refine st_op (ev_move rfl) rfl rfl rfl ?_
  refine st_call rfl rfl rfl ent48 rfl rfl rfl ?_
  obtain ⟨_, H2, hs1, hs1v, hx3⟩ := idx_spec H A ns c hrow hc hm
  rw [hs1v] at hs1; clear hs1v
  have hx3n := hx3.1
  refine ⟨_, H2, hs1, ?_⟩
  have hr4 := Row.ext hrow hx3
  have hx5 : Ext H H2 := Ext.trans (Ext.refl H) hx3
  refine st_op (ev_int rfl rfl rfl) rfl rfl rfl ?_
  refine st_op (ev_assign rfl) rfl rfl rfl ?_
  try show aw _ _ _ _ _ _
  refine aw_ret ?_
  exact ⟨_, rfl, rfl, hx5⟩
theorem in_spec (H : Heap) (A : Option Addr) (ns : List Int) (c : Nat) (hrow : Row H A c 1 (ns.map I64c)) (hc : ns.length ≤ c) (hm : ns.length ≤ 1099511627776) : ∃ v H', Spec Try.prog 34 [.slice A ns.length c] H v H' ∧ (v = .bool (inF ns) ∧ Ext H H') := by
  refine spec_go1 E0_ok 6 (f := 34) Try.func34 rfl rfl rfl ?_
  refine aw_seq ?_
  refine aw_reg ?_
  refine st_op (ev_assign rfl) rfl rfl rfl ?_
  try show aw _ _ _ _ _ _
  refine aw_seq ?_
  refine aw_reg ?_
  refine st_op (ev_move rfl) rfl rfl rfl ?_
  refine st_call rfl rfl rfl ent44 rfl rfl rfl ?_
  obtain ⟨_, H2, hs1, hs1v, hx3⟩ := contains_spec H A ns c hrow hc hm
  rw [hs1v] at hs1; clear hs1v
  have hx3n := hx3.1
  refine ⟨_, H2, hs1, ?_⟩
  have hr4 := Row.ext hrow hx3
  have hx5 : Ext H H2 := Ext.trans (Ext.refl H) hx3
  refine st_op (ev_not rfl) rfl rfl rfl ?_
  refine st_op (ev_assign rfl) rfl rfl rfl ?_
  try show aw _ _ _ _ _ _
  refine aw_ret ?_
  exact ⟨_, rfl, rfl, hx5⟩
theorem row_spec (H : Heap) (index term : Int) (A : Option Addr) (es : List Entry) (c : Nat) (hrow : Row H A c 4 (es.map Entry.cells)) (hc : es.length ≤ c) (hm : es.length ≤ 1099511627776) : ∃ v H', Spec Try.prog 35 [.int .i64 index, .int .i64 term, .slice A es.length c] H v H' ∧ (v = .bool (rowOk index term es) ∧ Ext H H') := by
  refine spec_go3 E0_ok 31 (f := 35) Try.func35 rfl rfl rfl ?_
  refine aw_seq ?_
  refine aw_reg ?_
  refine st_op (ev_assign rfl) rfl rfl rfl ?_
  try show aw _ _ _ _ _ _
  refine aw_seq ?_
  refine aw_seq ?_
  refine aw_reg ?_
  refine st_op (ev_move rfl) rfl rfl rfl ?_
  refine st_op (ev_lenSl rfl Try.underlying24) rfl rfl rfl ?_
  refine st_op (ev_move rfl) rfl rfl rfl ?_
  try show aw _ _ _ _ _ _
  refine aw_block ?_
  refine aw_keep [0, 1, 2, 9, 10, 11] (l' := (.cons 0 (.int .i64 index) (.cons 1 (.int .i64 term) (.cons 2 (.slice A es.length c) (.cons 9 (.slice A es.length c) (.cons 10 (.int .i64 (es.length : Int)) (.cons 11 (.int .i64 0) .nil))))))) (by repeat (first | exact Up.done | refine Up.then ?_ | refine Up.inBlock ?_)) rfl ?_
  refine aw_iter (α := Nat × Int × Int × Heap) (fun a => es.length - a.1) (fun a => (.cons 0 (.int .i64 a.2.1) (.cons 1 (.int .i64 a.2.2.1) (.cons 2 (.slice A es.length c) (.cons 9 (.slice A es.length c) (.cons 10 (.int .i64 (es.length : Int)) (.cons 11 (.int .i64 (a.1 : Int)) .nil))))))) (fun a => a.2.2.2) (fun a => (a.1 ≤ es.length) ∧ (rowOk index term es = rowOk a.2.1 a.2.2.1 (es.drop a.1)) ∧ (Ext H a.2.2.2)) (0, index, term, H) ⟨Nat.zero_le _, rfl, Ext.refl H⟩ ?_
  rintro ⟨i, ix, tm, Hl⟩ ⟨hi, hv, hxl1⟩ ih2
  replace hi : i ≤ es.length := hi
  replace hv : rowOk index term es = rowOk ix tm (es.drop i) := hv
  replace hxl1 : Ext H Hl := hxl1
  show aw _ _ _ (RL _ (.cons 0 (.int .i64 ix) (.cons 1 (.int .i64 tm) (.cons 2 (.slice A es.length c) (.cons 9 (.slice A es.length c) (.cons 10 (.int .i64 (es.length : Int)) (.cons 11 (.int .i64 (i : Int)) .nil))))))) Hl _
  have hxl1n := hxl1.1
  have hr3 := Row.ext hrow hxl1
  have hx4 : Ext H Hl := Ext.trans (Ext.refl H) hxl1
  refine aw_seq ?_
  refine aw_reg ?_
  refine st_op (ev_int rfl rfl rfl) rfl rfl rfl ?_
  try show aw _ _ _ _ _ _
  refine aw_seq ?_
  refine aw_cond (t := decide ((i : Int) < (es.length : Int))) rfl ?_
  by_cases hc5 : (decide ((i : Int) < (es.length : Int))) = true
  · rw [hc5]
    rw [if_pos rfl]
    have hc5 := of_decide_eq_true hc5
    refine aw_skip ?_
    try show aw _ _ _ _ _ _
    refine aw_seq ?_
    refine aw_block ?_
    refine aw_seq ?_
    refine aw_reg ?_
    have hi6 : 0 ≤ ((i : Int) : Int) := by omega
    have hi7 : ((i : Int) : Int) < ((es.length : Nat) : Int) := by omega
    obtain ⟨x8, hx9⟩ : ∃ e, es[i]? = some e := ⟨_, List.getElem?_eq_getElem (by omega)⟩
    obtain ⟨b10, o11, rfl, hr12⟩ := Row.at_ hr3 (getMap Entry.cells hx9)
    have b10lt := hr12.1
    refine st_op (ev_indexAddr rfl rfl hi6 hi7 el24 (o' := o11 + i * 4) (by first | rfl | (simp only [Int.toNat_natCast]; rfl) | simp)) rfl rfl rfl ?_
    refine st_op (ev_load rfl (hr12.agg many37 (by decide) (getMap Entry.cells hx9))) rfl rfl rfl ?_
    obtain ⟨b13, H14, he15, b13e, H14n, hB17, f16⟩ := mem_alloc Hl zero37
    refine st_op (he15 _ _ _ _ _ _ _) rfl rfl rfl ?_
    have hr18 := RowIn.next hr12 (show Hl.next ≤ H14.next by omega) (f16 b10 (by have := hr12.1; omega))
    have hx19 : Ext H H14 := Ext.step hx4 (b := b13) (by have := (hx4).1; omega) (by omega) f16
    obtain ⟨H20, he21, H20n, hB22, f23⟩ := mem_store (v := .agg #[.int .i64 x8.index, .int .i64 x8.term, .int .i64 x8.kind, .string x8.data]) (o := 0) (cs' := [.int .i64 x8.index, .int .i64 x8.term, .int .i64 x8.kind, .string x8.data]) 4 rfl rfl size37 hB17 rfl rfl rfl
    refine st_op0 (he21 _ _ _ _ _ _ _ _ _ rfl rfl) rfl rfl ?_
    have hr24 := RowIn.next hr18 (show H14.next ≤ H20.next by omega) (f23 b10 (by omega))
    have hx25 : Ext H H20 := Ext.step hx19 (b := b13) (by have := (hx19).1; omega) (by omega) f23
    try show aw _ _ _ _ _ _
    refine aw_seq ?_
    refine aw_seq ?_
    refine aw_reg ?_
    refine st_op (ev_fieldAddr rfl fa37_0 (o' := 0) rfl) rfl rfl rfl ?_
    refine st_op (ev_load rfl (lvar_one one2 hB22 rfl)) rfl rfl rfl ?_
    refine st_op (ev_move rfl) rfl rfl rfl ?_
    refine st_op (ev_int rfl rfl rfl) rfl rfl rfl ?_
    refine st_op (ev_int rfl rfl rfl) rfl rfl rfl ?_
    refine st_op (ev_move rfl) rfl rfl rfl ?_
    refine st_bool 20 rfl (fun hb26 => ?_) (fun hb26 => ?_)
    ·
      have hb26 : ¬ (x8.index = (IntKind.i64.wrap (ix + 1))) := by simpa using hb26
      refine st_skip rfl rfl rfl ?_
      refine st_skip rfl rfl rfl ?_
      refine st_skip rfl rfl rfl ?_
      refine st_skip rfl rfl rfl ?_
      refine st_op (ev_pickT rfl rfl) rfl rfl rfl ?_
      try show aw _ _ _ _ _ _
      refine aw_cond (t := true) rfl ?_
      try show aw _ _ _ _ _ _
      refine aw_seq ?_
      refine aw_reg ?_
      refine st_op (ev_assign rfl) rfl rfl rfl ?_
      try show aw _ _ _ _ _ _
      refine aw_ret ?_
      refine ⟨_, rfl, ?_, hx25⟩; show Value.bool _ = Value.bool _; congr 1; rw [hv]; first | (rw [drop_at hx9, rowOk]; simp_all; done) | (rw [List.drop_eq_nil_of_le (by omega)]; rfl)
    ·
      have hb26 : (x8.index = (IntKind.i64.wrap (ix + 1))) := by simpa using hb26
      refine st_op (ev_fieldAddr rfl fa37_1 (o' := 1) rfl) rfl rfl rfl ?_
      refine st_op (ev_load rfl (lvar_one one2 hB22 rfl)) rfl rfl rfl ?_
      refine st_op (ev_move rfl) rfl rfl rfl ?_
      refine st_op (ev_int rfl rfl rfl) rfl rfl rfl ?_
      refine st_op (ev_pickF rfl rfl) rfl rfl rfl ?_
      try show aw _ _ _ _ _ _
      refine aw_cond (t := decide (x8.term < tm)) rfl ?_
      by_cases hc27 : (decide (x8.term < tm)) = true
      · rw [hc27]
        rw [if_pos rfl]
        have hc27 := of_decide_eq_true hc27
        refine aw_seq ?_
        refine aw_reg ?_
        refine st_op (ev_assign rfl) rfl rfl rfl ?_
        try show aw _ _ _ _ _ _
        refine aw_ret ?_
        refine ⟨_, rfl, ?_, hx25⟩; show Value.bool _ = Value.bool _; congr 1; rw [hv]; first | (rw [drop_at hx9, rowOk]; simp_all; done) | (rw [List.drop_eq_nil_of_le (by omega)]; rfl)
      · rw [Bool.not_eq_true] at hc27; rw [hc27]
        rw [if_neg Bool.false_ne_true]
        have hc27 := of_decide_eq_false hc27
        refine aw_skip ?_
        try show aw _ _ _ _ _ _
        refine aw_marks (fun b => b < H20.next) [(false, false), (false, false), (false, false), (false, false), (false, false), (false, false)] mixed (by kernel_rfl) (by kernel_rfl) ?_
        refine sm_op (ev_fieldAddr rfl fa37_0 (o' := 0) rfl) rfl rfl rfl ?_
        refine sm_op (ev_load rfl (lvar_one one2 hB22 rfl)) rfl rfl rfl ?_
        refine sm_op (ev_fieldAddr rfl fa37_1 (o' := 1) rfl) rfl rfl rfl ?_
        refine sm_op (ev_load rfl (lvar_one one2 hB22 rfl)) rfl rfl rfl ?_
        refine sm_op (ev_assign rfl) rfl rfl rfl ?_
        refine sm_op (ev_assign rfl) rfl rfl rfl ?_
        try show aw _ _ _ _ _ _
        refine aw_reg ?_
        refine st_op (ev_int64 (c := (i : Int) + 1) rfl rfl rfl (by omega) (by omega)) rfl rfl rfl ?_
        refine st_op (ev_move rfl) rfl rfl rfl ?_
        try show aw _ _ _ _ _ _
        refine aw_keep [0, 1, 2, 9, 10, 11] (l' := (.cons 0 (.int .i64 x8.index) (.cons 1 (.int .i64 x8.term) (.cons 2 (.slice (some ⟨b10, o11, none⟩) es.length c) (.cons 9 (.slice (some ⟨b10, o11, none⟩) es.length c) (.cons 10 (.int .i64 (es.length : Int)) (.cons 11 (.int .i64 ((i : Int) + 1)) .nil))))))) (by repeat (first | exact Up.done | refine Up.then ?_ | refine Up.inBlock ?_)) rfl ?_
        exact ih2 (i + 1, x8.index, x8.term, H20) ⟨by omega, by rw [hv, drop_at hx9, rowOk]; simp_all, hx25⟩ (by simp only; omega)
  · rw [Bool.not_eq_true] at hc5; rw [hc5]
    rw [if_neg Bool.false_ne_true]
    have hc5 := of_decide_eq_false hc5
    refine aw_exit ?_
    try show aw _ _ _ _ _ _
    refine aw_seq ?_
    refine aw_reg ?_
    refine st_op (ev_assign rfl) rfl rfl rfl ?_
    try show aw _ _ _ _ _ _
    refine aw_ret ?_
    refine ⟨_, rfl, ?_, hx4⟩; show Value.bool _ = Value.bool _; congr 1; rw [hv]; first | (rw [drop_at hx9, rowOk]; simp_all; done) | (rw [List.drop_eq_nil_of_le (by omega)]; rfl)
theorem clone_spec (H : Heap) (A : Option Addr) (es : List Entry) (c : Nat) (hrow : Row H A c 4 (es.map Entry.cells)) (hc : es.length ≤ c) (hm : es.length ≤ 1000000) (hA0 : A = none → es = []) : ∃ v H', Spec Try.prog 36 [.slice A es.length c] H v H' ∧ (∃ A' c', v = .slice A' es.length c' ∧ Mine H H' A' c' 4 (es.map Entry.cells) ∧ Ext H H') := by
  refine spec_go1 E0_ok 8 (f := 36) Try.func36 rfl rfl rfl ?_
  refine aw_seq ?_
  refine aw_reg ?_
  refine st_op (ev_assign rfl) rfl rfl rfl ?_
  try show aw _ _ _ _ _ _
  refine aw_seq ?_
  refine aw_seq ?_
  refine aw_reg ?_
  refine st_op (ev_move rfl) rfl rfl rfl ?_
  refine st_op (ev_nilSl rfl rfl Try.underlying24) rfl rfl rfl ?_
  try show aw _ _ _ _ _ _
  refine aw_cond (t := Option.isNone A) rfl ?_
  by_cases hc1 : (Option.isNone A) = true
  · rw [hc1]
    rw [if_pos rfl]
    have hn0 : A = none := by simpa using hc1
    refine aw_seq ?_
    refine aw_reg ?_
    refine st_op (ev_assign rfl) rfl rfl rfl ?_
    try show aw _ _ _ _ _ _
    refine aw_ret ?_
    subst hn0; obtain rfl : es = [] := hA0 rfl; exact ⟨_, rfl, none, 0, rfl, .nil, (Ext.refl H)⟩
  · rw [Bool.not_eq_true] at hc1; rw [hc1]
    rw [if_neg Bool.false_ne_true]
    have hn0 : A ≠ none := by intro h0; simp [h0] at hc1
    refine aw_skip ?_
    try show aw _ _ _ _ _ _
    refine aw_seq ?_
    refine aw_reg ?_
    obtain ⟨b2, H3, he4, b2e, H3n, hB6, f5⟩ := mem_build H (xs := []) (m := 0) (rows := []) rfl eok24 (by decide) (by decide) zf37 rfl (allLen rfl) rfl
    refine st_op (he4 _ _ _ _ _ _ _ _ rfl) rfl rfl rfl ?_
    have hr7 := Row.alloc hrow b2e (by omega) f5
    have hx8 : Ext H H3 := Ext.step (Ext.refl H) (b := b2) (by have := ((Ext.refl H)).1; omega) (by omega) f5
    refine st_op (ev_move rfl) rfl rfl rfl ?_
    obtain ⟨A9, c10, H11, he12, hm13, hx14⟩ := mem_append_all (A := (some ⟨b2, 0, none⟩)) (n := es.length) (by simp) eok24 (by decide) hr7 (map_len (f := Entry.cells) (fun _ => rfl) _) (flat_one (f := Entry.cells) (fun _ => rfl) _) (by omega) (by omega)
    have hx14n := hx14.1
    refine st_op (he12 _ _ _ _ _ _ _ _ _ _ rfl rfl isrow24) rfl rfl rfl ?_
    have hr15 := Row.ext hr7 hx14
    have hr16 := RowIn.next hB6 hx14.1 (hx14.2 b2 hB6.1)
    have hx17 : Ext H H11 := Ext.trans hx8 hx14
    refine st_op (ev_assign rfl) rfl rfl rfl ?_
    try show aw _ _ _ _ _ _
    refine aw_ret ?_
    exact ⟨_, rfl, A9, c10, rfl, Mine.older hm13 (by omega), hx17⟩
theorem cut_spec (H : Heap) (s : ByteArray) (n : Int) (hn : 0 ≤ n) : ∃ v H', Spec Try.prog 33 [.string s, .int .i64 n] H v H' ∧ (v = .string (cutB s n) ∧ H' = H) := by
  refine spec_go2 E0_ok 13 (f := 33) Try.func33 rfl rfl rfl ?_
  refine aw_seq ?_
  refine aw_reg ?_
  refine st_op (ev_assign rfl) rfl rfl rfl ?_
  try show aw _ _ _ _ _ _
  refine aw_seq ?_
  refine aw_seq ?_
  refine aw_reg ?_
  refine st_op (ev_move rfl) rfl rfl rfl ?_
  refine st_op (ev_lenStr rfl Try.underlying9) rfl rfl rfl ?_
  refine st_op (ev_move rfl) rfl rfl rfl ?_
  refine st_op (ev_int rfl rfl rfl) rfl rfl rfl ?_
  try show aw _ _ _ _ _ _
  refine aw_cond (t := decide (((s).size : Int) > n)) rfl ?_
  by_cases hc1 : (decide (((s).size : Int) > n)) = true
  · rw [hc1]
    rw [if_pos rfl]
    have hc1 := of_decide_eq_true hc1
    refine aw_seq ?_
    refine aw_reg ?_
    refine st_op (ev_move rfl) rfl rfl rfl ?_
    refine st_op (ev_move rfl) rfl rfl rfl ?_
    refine st_op (ev_slStr Try.underlying9 rfl rfl rfl (bound_int (by omega) (by omega) rfl) rfl) rfl rfl rfl ?_
    refine st_op (ev_assign rfl) rfl rfl rfl ?_
    try show aw _ _ _ _ _ _
    refine aw_ret ?_
    refine ⟨_, rfl, ?_, rfl⟩; show Value.string _ = Value.string _; congr 1; first | rw [cutB, if_pos (by omega)] | rw [cutB, if_neg (by omega)]
  · rw [Bool.not_eq_true] at hc1; rw [hc1]
    rw [if_neg Bool.false_ne_true]
    have hc1 := of_decide_eq_false hc1
    refine aw_skip ?_
    try show aw _ _ _ _ _ _
    refine aw_seq ?_
    refine aw_reg ?_
    refine st_op (ev_move rfl) rfl rfl rfl ?_
    refine st_op (ev_assign rfl) rfl rfl rfl ?_
    try show aw _ _ _ _ _ _
    refine aw_ret ?_
    refine ⟨_, rfl, ?_, rfl⟩; show Value.string _ = Value.string _; congr 1; first | rw [cutB, if_pos (by omega)] | rw [cutB, if_neg (by omega)]
theorem snap_spec (H : Heap) (x tm : Int) (cf dt : ByteArray) : ∃ v H', Spec Try.prog 10 [.agg #[.int .i64 x, .int .i64 tm, .string cf, .string dt]] H v H' ∧ (v = .agg #[.int .i64 x, .int .i64 tm, .string (cutB cf 60), .string (cutB dt 100)] ∧ Ext H H') := by
  refine spec_go1 E0_ok 12 (f := 10) Try.func10 rfl rfl rfl ?_
  refine aw_seq ?_
  refine aw_reg ?_
  obtain ⟨b1, H2, he3, b1e, H2n, hB5, f4⟩ := mem_box (P := Try.prog) H (v := .agg #[.int .i64 x, .int .i64 tm, .string cf, .string dt]) (cs := [.int .i64 x, .int .i64 tm, .string cf, .string dt]) rfl rfl
  refine st_op (he3 _ _ _ _ _ _ _ _ _ rfl) rfl rfl rfl ?_
  have hx6 : Ext H H2 := Ext.step (Ext.refl H) (b := b1) (by have := ((Ext.refl H)).1; omega) (by omega) f4
  obtain ⟨b7, H8, he9, b7e, H8n, hB11, f10⟩ := mem_alloc H2 zero23
  refine st_op (he9 _ _ _ _ _ _ _) rfl rfl rfl ?_
  have hB12 := (f10 b1 (by omega)).trans hB5
  have hx13 : Ext H H8 := Ext.step hx6 (b := b7) (by have := (hx6).1; omega) (by omega) f10
  try show aw _ _ _ _ _ _
  refine aw_seq ?_
  refine aw_marks (fun b => b < H8.next) [(false, false), (false, false), (false, true), (false, false), (true, false), (false, false), (false, false), (false, false), (false, false), (false, false)] mixed (by kernel_rfl) (by kernel_rfl) ?_
  refine sm_op (ev_fieldAddr rfl fa23_2 (o' := 2) rfl) rfl rfl rfl ?_
  refine sm_op (ev_load rfl (lvar_one one9 hB12 rfl)) rfl rfl rfl ?_
  refine sm_call rfl rfl rfl ent33 rfl rfl rfl ?_
  obtain ⟨_, _, hs14, hs14v, hs14h⟩ := cut_spec H8 cf 60 (by decide)
  rw [hs14v, hs14h] at hs14; clear hs14v hs14h
  refine ⟨_, _, hs14, (fun _ _ _ => rfl), ?_⟩
  refine sm_op (ev_fieldAddr rfl fa23_3 (o' := 3) rfl) rfl rfl rfl ?_
  refine sm_read (ev_load rfl (lvar_one one9 hB12 rfl)) rfl rfl rfl (fun b hb => by cases hb; dsimp only; omega) ?_
  refine sm_call rfl rfl rfl ent33 rfl rfl rfl ?_
  obtain ⟨_, _, hs15, hs15v, hs15h⟩ := cut_spec H8 dt 100 (by decide)
  rw [hs15v, hs15h] at hs15; clear hs15v hs15h
  refine ⟨_, _, hs15, (fun _ _ _ => rfl), ?_⟩
  refine sm_op (ev_fieldAddr rfl fa23_2 (o' := 2) rfl) rfl rfl rfl ?_
  obtain ⟨H16, he17, H16n, hB18, f19⟩ := mem_store (v := .string (cutB cf 60)) (o := 2) (cs' := [.int .i64 x, .int .i64 tm, .string (cutB cf 60), .string dt]) 1 rfl rfl size9 hB12 rfl rfl rfl
  refine sm_op0 (he17 _ _ _ _ _ _ _ _ _ rfl rfl) rfl rfl ?_
  have hB20 := (f19 b7 (by omega)).trans hB11
  have hx21 : Ext H H16 := Ext.step hx13 (b := b1) (by have := (hx13).1; omega) (by omega) f19
  refine sm_op (ev_fieldAddr rfl fa23_3 (o' := 3) rfl) rfl rfl rfl ?_
  obtain ⟨H22, he23, H22n, hB24, f25⟩ := mem_store (v := .string (cutB dt 100)) (o := 3) (cs' := [.int .i64 x, .int .i64 tm, .string (cutB cf 60), .string (cutB dt 100)]) 1 rfl rfl size9 hB18 rfl rfl rfl
  refine sm_op0 (he23 _ _ _ _ _ _ _ _ _ rfl rfl) rfl rfl ?_
  have hB26 := (f25 b7 (by omega)).trans hB20
  have hx27 : Ext H H22 := Ext.step hx21 (b := b1) (by have := (hx21).1; omega) (by omega) f25
  try show aw _ _ _ _ _ _
  refine aw_seq ?_
  refine aw_reg ?_
  refine st_op (ev_load rfl (lvar_part (l := [.int .i64 x, .int .i64 tm, .string (cutB cf 60), .string (cutB dt 100)]) many23 hB24 rfl rfl (by decide))) rfl rfl rfl ?_
  obtain ⟨H28, he29, H28n, hB30, f31⟩ := mem_store (v := .agg #[.int .i64 x, .int .i64 tm, .string (cutB cf 60), .string (cutB dt 100)]) (o := 0) (cs' := [.int .i64 x, .int .i64 tm, .string (cutB cf 60), .string (cutB dt 100)]) 4 rfl rfl size23 hB26 rfl rfl rfl
  refine st_op0 (he29 _ _ _ _ _ _ _ _ _ rfl rfl) rfl rfl ?_
  have hB32 := (f31 b1 (by omega)).trans hB24
  have hx33 : Ext H H28 := Ext.step hx27 (b := b7) (by have := (hx27).1; omega) (by omega) f31
  try show aw _ _ _ _ _ _
  refine aw_ret ?_
  exact ⟨_, resA_cell rfl rfl (lvar_part (l := [.int .i64 x, .int .i64 tm, .string (cutB cf 60), .string (cutB dt 100)]) many23 hB30 rfl rfl (by decide)), rfl, hx33⟩
theorem entries_spec (H : Heap) (n : Int) (hn : 0 ≤ n) (hn2 : n ≤ 1000) (A : Option Addr) (es : List Entry) (c : Nat) (hrow : Row H A c 4 (es.map Entry.cells)) (hc : es.length ≤ c) (hm : es.length ≤ 140737488351232) : ∃ v H', Spec Try.prog 11 [.slice A es.length c, .int .i64 n] H v H' ∧ (∃ A' c', v = .slice A' ((es.take n.toNat).map Entry.cut).length c' ∧ Mine H H' A' c' 4 (((es.take n.toNat).map Entry.cut).map Entry.cells) ∧ Ext H H') := by
  refine spec_go2 E0_ok 32 (f := 11) Try.func11 rfl rfl rfl ?_
  refine aw_seq ?_
  refine aw_reg ?_
  refine st_op (ev_assign rfl) rfl rfl rfl ?_
  try show aw _ _ _ _ _ _
  refine aw_seq ?_
  refine aw_reg ?_
  refine st_op (ev_assign rfl) rfl rfl rfl ?_
  try show aw _ _ _ _ _ _
  refine aw_seq ?_
  refine aw_seq ?_
  refine aw_reg ?_
  refine st_op (ev_assign rfl) rfl rfl rfl ?_
  try show aw _ _ _ _ _ _
  refine aw_block ?_
  refine aw_keep [0, 1, 5, 6] (l' := (.cons 0 (.slice A es.length c) (.cons 1 (.int .i64 n) (.cons 5 (.slice none 0 0) (.cons 6 (.int .i64 0) .nil))))) (by repeat (first | exact Up.done | refine Up.then ?_ | refine Up.inBlock ?_)) rfl ?_
  refine aw_iter (α := Nat × Nat × Heap) (fun a => es.length - a.1) (fun a => (.cons 0 (.slice A es.length c) (.cons 1 (.int .i64 n) (.cons 5 (accV a.2.1 a.1) (.cons 6 (.int .i64 (a.1 : Int)) .nil))))) (fun a => a.2.2) (fun a => (a.1 ≤ es.length) ∧ ((a.1 : Int) ≤ n) ∧ (Acc a.2.2 a.2.1 4 ((es.take a.1).map fun e => e.cut.cells)) ∧ (H.next ≤ a.2.1) ∧ (Ext H a.2.2)) (0, H.next, H) ⟨(show 0 ≤ es.length from Nat.zero_le _), (show (0 : Int) ≤ n from by omega), (show Acc H H.next 4 ((es.take 0).map fun e => e.cut.cells) from .nil _ _ _), (show H.next ≤ H.next from ((Ext.refl H)).1), (show Ext H H from (Ext.refl H))⟩ ?_
  rintro ⟨i, b, Hl⟩ ⟨hi, hi2, hA, hb, hx⟩ ih1
  replace hi : i ≤ es.length := hi
  replace hi2 : (i : Int) ≤ n := hi2
  replace hA : Acc Hl b 4 ((es.take i).map fun e => e.cut.cells) := hA
  replace hb : H.next ≤ b := hb
  replace hx : Ext H Hl := hx
  show aw _ _ _ (RL _ (.cons 0 (.slice A es.length c) (.cons 1 (.int .i64 n) (.cons 5 (accV b i) (.cons 6 (.int .i64 (i : Int)) .nil))))) Hl _
  have hxn := hx.1
  have hro := Row.ext hrow hx
  refine aw_seq ?_
  refine aw_seq ?_
  refine aw_reg ?_
  refine st_op (ev_move rfl) rfl rfl rfl ?_
  refine st_op (ev_move rfl) rfl rfl rfl ?_
  refine st_op (ev_lenSl rfl Try.underlying24) rfl rfl rfl ?_
  refine st_op (ev_int rfl rfl rfl) rfl rfl rfl ?_
  refine st_op (ev_move rfl) rfl rfl rfl ?_
  refine st_bool 12 rfl (fun hb2 => ?_) (fun hb2 => ?_)
  ·
    have hb2 := of_decide_eq_true hb2
    refine st_op (ev_move rfl) rfl rfl rfl ?_
    refine st_op (ev_move rfl) rfl rfl rfl ?_
    refine st_op (ev_int rfl rfl rfl) rfl rfl rfl ?_
    refine st_op (ev_pickT rfl rfl) rfl rfl rfl ?_
    try show aw _ _ _ _ _ _
    refine aw_cond (t := decide ((i : Int) < n)) rfl ?_
    by_cases hc3 : (decide ((i : Int) < n)) = true
    · rw [hc3]
      rw [if_pos rfl]
      have hc3 := of_decide_eq_true hc3
      refine aw_skip ?_
      try show aw _ _ _ _ _ _
      refine aw_seq ?_
      refine aw_block ?_
      refine aw_seq ?_
      refine aw_reg ?_
      refine st_op (ev_move rfl) rfl rfl rfl ?_
      refine st_op (ev_move rfl) rfl rfl rfl ?_
      have hi4 : 0 ≤ ((i : Int) : Int) := by omega
      have hi5 : ((i : Int) : Int) < ((es.length : Nat) : Int) := by omega
      obtain ⟨x6, hx7⟩ : ∃ e, es[i]? = some e := ⟨_, List.getElem?_eq_getElem (by omega)⟩
      obtain ⟨b8, o9, rfl, hr10⟩ := Row.at_ hro (getMap Entry.cells hx7)
      have b8lt := hr10.1
      refine st_op (ev_indexAddr rfl rfl hi4 hi5 el24 (o' := o9 + i * 4) (by first | rfl | (simp only [Int.toNat_natCast]; rfl) | simp)) rfl rfl rfl ?_
      refine st_op (ev_load rfl (hr10.agg many37 (by decide) (getMap Entry.cells hx7))) rfl rfl rfl ?_
      obtain ⟨b11, H12, he13, b11e, H12n, hB15, f14⟩ := mem_alloc Hl zero37
      refine st_op (he13 _ _ _ _ _ _ _) rfl rfl rfl ?_
      have ha16 := Acc.ext hA (show Ext Hl H12 from ⟨by omega, fun q hq => f14 q (by omega)⟩)
      have hr17 := RowIn.next hr10 (show Hl.next ≤ H12.next by omega) (f14 b8 (by have := hr10.1; omega))
      have hx18 : Ext H H12 := Ext.step hx (b := b11) (by have := (hx).1; omega) (by omega) f14
      obtain ⟨H19, he20, H19n, hB21, f22⟩ := mem_store (v := .agg #[.int .i64 x6.index, .int .i64 x6.term, .int .i64 x6.kind, .string x6.data]) (o := 0) (cs' := [.int .i64 x6.index, .int .i64 x6.term, .int .i64 x6.kind, .string x6.data]) 4 rfl rfl size37 hB15 rfl rfl rfl
      refine st_op0 (he20 _ _ _ _ _ _ _ _ _ rfl rfl) rfl rfl ?_
      have ha23 := Acc.write ha16 hB15 (by omega) f22
      have hr24 := RowIn.next hr17 (show H12.next ≤ H19.next by omega) (f22 b8 (by omega))
      have hx25 : Ext H H19 := Ext.step hx18 (b := b11) (by have := (hx18).1; omega) (by omega) f22
      try show aw _ _ _ _ _ _
      refine aw_seq ?_
      refine aw_reg ?_
      refine st_op (ev_fieldAddr rfl fa37_3 (o' := 3) rfl) rfl rfl rfl ?_
      refine st_op (ev_load rfl (lvar_one one9 hB21 rfl)) rfl rfl rfl ?_
      refine st_call rfl rfl rfl ent33 rfl rfl rfl ?_
      obtain ⟨_, _, hs26, hs26v, hs26h⟩ := cut_spec H19 x6.data 60 (by decide)
      rw [hs26v, hs26h] at hs26; clear hs26v hs26h
      refine ⟨_, _, hs26, ?_⟩
      refine st_op (ev_fieldAddr rfl fa37_3 (o' := 3) rfl) rfl rfl rfl ?_
      obtain ⟨H27, he28, H27n, hB29, f30⟩ := mem_store (v := .string (cutB x6.data 60)) (o := 3) (cs' := [.int .i64 x6.index, .int .i64 x6.term, .int .i64 x6.kind, .string (cutB x6.data 60)]) 1 rfl rfl size9 hB21 rfl rfl rfl
      refine st_op0 (he28 _ _ _ _ _ _ _ _ _ rfl rfl) rfl rfl ?_
      have ha31 := Acc.write ha23 hB21 (by omega) f30
      have hr32 := RowIn.next hr24 (show H19.next ≤ H27.next by omega) (f30 b8 (by omega))
      have hx33 : Ext H H27 := Ext.step hx25 (b := b11) (by have := (hx25).1; omega) (by omega) f30
      try show aw _ _ _ _ _ _
      refine aw_reg ?_
      refine st_op (ev_move rfl) rfl rfl rfl ?_
      refine st_op (ev_load rfl (lvar_part (l := [.int .i64 x6.index, .int .i64 x6.term, .int .i64 x6.kind, .string (cutB x6.data 60)]) many37 hB29 rfl rfl (by decide))) rfl rfl rfl ?_
      obtain ⟨b34, H35, he36, b34e, H35n, hB38, f37⟩ := mem_build H27 (xs := [.agg #[.int .i64 x6.index, .int .i64 x6.term, .int .i64 x6.kind, .string (cutB x6.data 60)]]) (m := 1) (rows := [[.int .i64 x6.index, .int .i64 x6.term, .int .i64 x6.kind, .string (cutB x6.data 60)]]) rfl eok24 (by decide) (by decide) zf37 rfl (allLen rfl) rfl
      refine st_op (he36 _ _ _ _ _ _ _ _ rfl) rfl rfl rfl ?_
      have ha39 := Acc.ext ha31 (show Ext H27 H35 from ⟨by omega, fun q hq => f37 q (by omega)⟩)
      have hr40 := RowIn.next hr32 (show H27.next ≤ H35.next by omega) (f37 b8 (by have := hr32.1; omega))
      have hB41 := (f37 b11 (by omega)).trans hB29
      have hx42 : Ext H H35 := Ext.step hx33 (b := b34) (by have := (hx33).1; omega) (by omega) f37
      obtain ⟨b43, H44, W45, he46, b43e, H44n, ha48, f47⟩ := mem_append1 (cx := 1) (m := i) (old := (es.take i).map fun e => e.cut.cells) (by simp; try omega) eok24 (by decide) ha39 hB38 rfl rfl (by omega) (by omega)
      refine st_op (he46 _ _ _ _ _ _ _ _ _ _ rfl rfl isrow24) rfl rfl rfl ?_
      have hx50 : Ext H H44 := Ext.step2 hx42 (b := b43) (b0 := b) (by have := (hx42).1; omega) (by omega) (by omega) f47
      refine st_op (ev_assign rfl) rfl rfl rfl ?_
      try show aw _ _ _ _ _ _
      refine aw_reg ?_
      refine st_op (ev_move rfl) rfl rfl rfl ?_
      refine st_op (ev_int64 (c := (i : Int) + 1) rfl rfl rfl (by omega) (by omega)) rfl rfl rfl ?_
      refine st_op (ev_assign rfl) rfl rfl rfl ?_
      try show aw _ _ _ _ _ _
      refine aw_keep [0, 1, 5, 6] (l' := (.cons 0 (.slice (some ⟨b8, o9, none⟩) es.length c) (.cons 1 (.int .i64 n) (.cons 5 (accV b43 (i + 1)) (.cons 6 (.int .i64 ((i : Int) + 1)) .nil))))) (by repeat (first | exact Up.done | refine Up.then ?_ | refine Up.inBlock ?_)) rfl ?_
      exact ih1 (i + 1, b43, H44) ⟨(show (i + 1) ≤ es.length from by omega), (show ((i + 1) : Int) ≤ n from by omega), (show Acc H44 b43 4 ((es.take (i + 1)).map fun e => e.cut.cells) from by rw [List.take_add_one, List.map_append, hx7]; exact ha48), (show H.next ≤ b43 from by omega), (show Ext H H44 from hx50)⟩ (by simp only; omega)
    · rw [Bool.not_eq_true] at hc3; rw [hc3]
      rw [if_neg Bool.false_ne_true]
      have hc3 := of_decide_eq_false hc3
      refine aw_exit ?_
      try show aw _ _ _ _ _ _
      refine aw_seq ?_
      refine aw_reg ?_
      refine st_op (ev_move rfl) rfl rfl rfl ?_
      refine st_op (ev_assign rfl) rfl rfl rfl ?_
      try show aw _ _ _ _ _ _
      refine aw_ret ?_
      have htk : es.take i = es.take n.toNat := by rcases Nat.lt_or_ge n.toNat es.length with h | h; (rw [show i = n.toNat by omega]); (rw [List.take_of_length_le (by omega), List.take_of_length_le h])
      have hfin : i = (es.take n.toNat).length := by rw [← htk, List.length_take]; omega
      rw [htk] at hA; obtain ⟨A1, c1, e1, hm1⟩ := hA.mine (H0 := H) (n := ((es.take n.toNat).map Entry.cut).length) (by simp) hb
      refine ⟨_, rfl, A1, c1, ?_, by rw [List.map_map]; exact hm1, hx⟩; rw [← e1]; show accV b i = _; congr 1; rw [List.length_map]; exact hfin
  ·
    have hb2 := of_decide_eq_false hb2
    refine st_skip rfl rfl rfl ?_
    refine st_skip rfl rfl rfl ?_
    refine st_skip rfl rfl rfl ?_
    refine st_op (ev_pickF rfl rfl) rfl rfl rfl ?_
    try show aw _ _ _ _ _ _
    refine aw_cond (t := false) rfl ?_
    try show aw _ _ _ _ _ _
    refine aw_exit ?_
    try show aw _ _ _ _ _ _
    refine aw_seq ?_
    refine aw_reg ?_
    refine st_op (ev_move rfl) rfl rfl rfl ?_
    refine st_op (ev_assign rfl) rfl rfl rfl ?_
    try show aw _ _ _ _ _ _
    refine aw_ret ?_
    have htk : es.take i = es.take n.toNat := by rcases Nat.lt_or_ge n.toNat es.length with h | h; (rw [show i = n.toNat by omega]); (rw [List.take_of_length_le (by omega), List.take_of_length_le h])
    have hfin : i = (es.take n.toNat).length := by rw [← htk, List.length_take]; omega
    rw [htk] at hA; obtain ⟨A1, c1, e1, hm1⟩ := hA.mine (H0 := H) (n := ((es.take n.toNat).map Entry.cut).length) (by simp) hb
    refine ⟨_, rfl, A1, c1, ?_, by rw [List.map_map]; exact hm1, hx⟩; rw [← e1]; show accV b i = _; congr 1; rw [List.length_map]; exact hfin
theorem new_spec (H : Heap) (x tm : Int) (cf dt : ByteArray) (A : Option Addr) (es : List Entry) (c : Nat) (hrow : Row H A c 4 (es.map Entry.cells)) (hc : es.length ≤ c) (hm : es.length ≤ 140737488351232) : ∃ v H', Spec Try.prog 12 [.agg #[.int .i64 x, .int .i64 tm, .string cf, .string dt], .slice A es.length c] H v H' ∧ ((v = .pointer none ∧ newOk x tm es = false ∨ newOk x tm es = true ∧ ∃ p A' c', v = .pointer (some ⟨p, 0, none⟩) ∧ H'.blk p = some ⟨[.int .i64 x, .int .i64 tm, .string cf, .string dt, .slice A' es.length c'], 5, false, false⟩ ∧ Mine H H' A' c' 4 (es.map Entry.cells) ∧ H.next ≤ p ∧ p < H'.next) ∧ Ext H H') := by
  refine spec_go2 E0_ok 31 (f := 12) Try.func12 rfl rfl rfl ?_
  refine aw_seq ?_
  refine aw_reg ?_
  obtain ⟨b1, H2, he3, b1e, H2n, hB5, f4⟩ := mem_box (P := Try.prog) H (v := .agg #[.int .i64 x, .int .i64 tm, .string cf, .string dt]) (cs := [.int .i64 x, .int .i64 tm, .string cf, .string dt]) rfl rfl
  refine st_op (he3 _ _ _ _ _ _ _ _ _ rfl) rfl rfl rfl ?_
  have hr6 := Row.alloc hrow b1e (by omega) f4
  have hx7 : Ext H H2 := Ext.step (Ext.refl H) (b := b1) (by have := ((Ext.refl H)).1; omega) (by omega) f4
  refine st_op (ev_assign rfl) rfl rfl rfl ?_
  try show aw _ _ _ _ _ _
  refine aw_seq ?_
  refine aw_seq ?_
  refine aw_reg ?_
  refine st_op (ev_fieldAddr rfl fa23_0 (o' := 0) rfl) rfl rfl rfl ?_
  refine st_op (ev_load rfl (lvar_one one2 hB5 rfl)) rfl rfl rfl ?_
  refine st_op (ev_fieldAddr rfl fa23_1 (o' := 1) rfl) rfl rfl rfl ?_
  refine st_op (ev_load rfl (lvar_one one2 hB5 rfl)) rfl rfl rfl ?_
  obtain ⟨b8, H9, he10, b8e, H9n, hB12, f11⟩ := mem_build H2 (xs := [.int .i64 x, .int .i64 tm]) (m := 2) (rows := [[.int .i64 x], [.int .i64 tm]]) rfl eok71 (by decide) (by decide) zf2 rfl (allLen rfl) rfl
  refine st_op (he10 _ _ _ _ _ _ _ _ rfl) rfl rfl rfl ?_
  have hr13 := Row.alloc hr6 b8e (by omega) f11
  have hB14 := (f11 b1 (by omega)).trans hB5
  have hx15 : Ext H H9 := Ext.step hx7 (b := b8) (by have := (hx7).1; omega) (by omega) f11
  refine st_call rfl rfl rfl ent34 rfl rfl rfl ?_
  obtain ⟨_, H17, hs16, hs16v, hx18⟩ := in_spec H9 (some ⟨b8, 0, none⟩) [x, tm] 2 (hB12.row) (by simp) (by simp)
  rw [hs16v] at hs16; clear hs16v
  have hx18n := hx18.1
  refine ⟨_, H17, hs16, ?_⟩
  have hr19 := Row.ext hr13 hx18
  have hB20 := (hx18.2 b1 (by omega)).trans hB14
  have hr21 := RowIn.next hB12 hx18.1 (hx18.2 b8 hB12.1)
  have hx22 : Ext H H17 := Ext.trans hx15 hx18
  refine st_op (ev_not rfl) rfl rfl rfl ?_
  refine st_op (ev_move rfl) rfl rfl rfl ?_
  refine st_bool 12 rfl (fun hb23 => ?_) (fun hb23 => ?_)
  ·
    have hb23 : (inF [x, tm]) = false := by simpa using hb23
    refine st_skip rfl rfl rfl ?_
    refine st_skip rfl rfl rfl ?_
    refine st_skip rfl rfl rfl ?_
    refine st_op (ev_pickT rfl rfl) rfl rfl rfl ?_
    refine st_op (ev_move rfl) rfl rfl rfl ?_
    refine st_skip rfl rfl rfl ?_
    refine st_skip rfl rfl rfl ?_
    refine st_skip rfl rfl rfl ?_
    refine st_skip rfl rfl rfl ?_
    refine st_skip rfl rfl rfl ?_
    refine st_skip rfl rfl rfl ?_
    refine st_skip rfl rfl rfl ?_
    refine st_op (ev_pickT rfl rfl) rfl rfl rfl ?_
    try show aw _ _ _ _ _ _
    refine aw_cond (t := true) rfl ?_
    try show aw _ _ _ _ _ _
    refine aw_seq ?_
    refine aw_reg ?_
    refine st_op (ev_assign rfl) rfl rfl rfl ?_
    try show aw _ _ _ _ _ _
    refine aw_ret ?_
    exact ⟨_, rfl, .inl ⟨rfl, by first | (simp_all [newOk]; done) | (simp_all [newOk]; omega)⟩, hx22⟩
  ·
    have hb23 : (inF [x, tm]) = true := by simpa using hb23
    have hb23i := inTwo_iff hb23
    refine st_op (ev_move rfl) rfl rfl rfl ?_
    refine st_op (ev_lenSl rfl Try.underlying24) rfl rfl rfl ?_
    refine st_op (ev_int rfl rfl rfl) rfl rfl rfl ?_
    refine st_op (ev_pickF rfl rfl) rfl rfl rfl ?_
    refine st_op (ev_move rfl) rfl rfl rfl ?_
    refine st_bool 17 rfl (fun hb24 => ?_) (fun hb24 => ?_)
    ·
      have hb24 := of_decide_eq_true hb24
      refine st_skip rfl rfl rfl ?_
      refine st_skip rfl rfl rfl ?_
      refine st_skip rfl rfl rfl ?_
      refine st_skip rfl rfl rfl ?_
      refine st_skip rfl rfl rfl ?_
      refine st_skip rfl rfl rfl ?_
      refine st_skip rfl rfl rfl ?_
      refine st_op (ev_pickT rfl rfl) rfl rfl rfl ?_
      try show aw _ _ _ _ _ _
      refine aw_cond (t := true) rfl ?_
      try show aw _ _ _ _ _ _
      refine aw_seq ?_
      refine aw_reg ?_
      refine st_op (ev_assign rfl) rfl rfl rfl ?_
      try show aw _ _ _ _ _ _
      refine aw_ret ?_
      exact ⟨_, rfl, .inl ⟨rfl, by first | (simp_all [newOk]; done) | (simp_all [newOk]; omega)⟩, hx22⟩
    ·
      have hb24 := of_decide_eq_false hb24
      refine st_op (ev_fieldAddr rfl fa23_0 (o' := 0) rfl) rfl rfl rfl ?_
      refine st_op (ev_load rfl (lvar_one one2 hB20 rfl)) rfl rfl rfl ?_
      refine st_op (ev_fieldAddr rfl fa23_1 (o' := 1) rfl) rfl rfl rfl ?_
      refine st_op (ev_load rfl (lvar_one one2 hB20 rfl)) rfl rfl rfl ?_
      refine st_op (ev_move rfl) rfl rfl rfl ?_
      refine st_call rfl rfl rfl ent35 rfl rfl rfl ?_
      obtain ⟨_, H26, hs25, hs25v, hx27⟩ := row_spec H17 x tm A es c hr19 hc (by omega)
      rw [hs25v] at hs25; clear hs25v
      have hx27n := hx27.1
      refine ⟨_, H26, hs25, ?_⟩
      have hr28 := Row.ext hr19 hx27
      have hB29 := (hx27.2 b1 (by omega)).trans hB20
      have hr30 := RowIn.next hr21 hx27.1 (hx27.2 b8 hr21.1)
      have hx31 : Ext H H26 := Ext.trans hx22 hx27
      refine st_op (ev_not rfl) rfl rfl rfl ?_
      refine st_op (ev_pickF rfl rfl) rfl rfl rfl ?_
      try show aw _ _ _ _ _ _
      refine aw_cond (t := !(rowOk x tm es)) rfl ?_
      by_cases hc32 : (!(rowOk x tm es)) = true
      · rw [hc32]
        rw [if_pos rfl]
        have hc32 : (rowOk x tm es) = false := by simpa using hc32
        refine aw_seq ?_
        refine aw_reg ?_
        refine st_op (ev_assign rfl) rfl rfl rfl ?_
        try show aw _ _ _ _ _ _
        refine aw_ret ?_
        exact ⟨_, rfl, .inl ⟨rfl, by first | (simp_all [newOk]; done) | (simp_all [newOk]; omega)⟩, hx31⟩
      · rw [Bool.not_eq_true] at hc32; rw [hc32]
        rw [if_neg Bool.false_ne_true]
        have hc32 : (rowOk x tm es) = true := by simpa using hc32
        refine aw_skip ?_
        try show aw _ _ _ _ _ _
        refine aw_seq ?_
        refine aw_marks (fun b => b < H26.next) [(true, false), (false, false), (false, true), (false, false), (false, false), (false, false)] mixed (by kernel_rfl) (by kernel_rfl) ?_
        refine sm_read (ev_load rfl (lvar_part (l := [.int .i64 x, .int .i64 tm, .string cf, .string dt]) many23 hB29 rfl rfl (by decide))) rfl rfl rfl (fun b hb => by cases hb; dsimp only; omega) ?_
        refine sm_op (ev_move rfl) rfl rfl rfl ?_
        refine sm_call rfl rfl rfl ent36 rfl rfl rfl ?_
        obtain ⟨_, H37, hs36, A33, c34, hs36v, hm35, hx38⟩ := clone_spec H26 A es c hr28 hc (by omega) (Row.anil hr28)
        rw [hs36v] at hs36; clear hs36v
        have hx38n := hx38.1
        refine ⟨_, H37, hs36, (fun _ b hb => hx38.2 b (by omega)), ?_⟩
        have hr39 := Row.ext hr28 hx38
        have hB40 := (hx38.2 b1 (by omega)).trans hB29
        have hr41 := RowIn.next hr30 hx38.1 (hx38.2 b8 hr30.1)
        have hx42 : Ext H H37 := Ext.trans hx31 hx38
        refine sm_op (ev_build zero67 pl67 (parts := [(0, .agg #[.int .i64 x, .int .i64 tm, .string cf, .string dt]), (1, .slice A33 es.length c34)]) rfl (cs := [.int .i64 x, .int .i64 tm, .string cf, .string dt, .slice A33 es.length c34]) rfl) rfl rfl rfl ?_
        obtain ⟨b43, H44, he45, b43e, H44n, hB47, f46⟩ := mem_box (P := Try.prog) H37 (v := .agg #[.int .i64 x, .int .i64 tm, .string cf, .string dt, .slice A33 es.length c34]) (cs := [.int .i64 x, .int .i64 tm, .string cf, .string dt, .slice A33 es.length c34]) rfl rfl
        refine sm_op (he45 _ _ _ _ _ _ _ _ _ rfl) rfl rfl rfl ?_
        have hr48 := Row.alloc hr39 b43e (by omega) f46
        have hB49 := (f46 b1 (by omega)).trans hB40
        have hr50 := RowIn.next hr41 (show H37.next ≤ H44.next by omega) (f46 b8 (by have := hr41.1; omega))
        have hm51 := Mine.ext hm35 (show Ext H37 H44 from ⟨by omega, fun q hq => f46 q (by omega)⟩)
        have hx52 : Ext H H44 := Ext.step hx42 (b := b43) (by have := (hx42).1; omega) (by omega) f46
        refine sm_op (ev_assign rfl) rfl rfl rfl ?_
        try show aw _ _ _ _ _ _
        refine aw_ret ?_
        exact ⟨_, rfl, .inr ⟨by first | (simp_all [newOk]; done) | (simp_all [newOk]; omega), b43, A33, c34, rfl, hB47, Mine.older hm51 (by omega), by omega, by omega⟩, hx52⟩
theorem first_spec (H : Heap) (p : Nat) (hp : p < H.next) (x tm : Int) (cf dt : ByteArray) (A : Option Addr) (es : List Entry) (c : Nat) (hB : H.blk p = some ⟨[.int .i64 x, .int .i64 tm, .string cf, .string dt, .slice A es.length c], 5, false, false⟩) (hrow : Row H A c 4 (es.map Entry.cells)) (hc : es.length ≤ c) (hm : es.length ≤ 1000000) (hx0 : 0 ≤ x) (hx1 : x ≤ 1099511627776) : ∃ v H', Spec Try.prog 14 [.pointer (some ⟨p, 0, none⟩)] H v H' ∧ (v = .int .i64 (x + 1) ∧ H' = H) := by
  refine spec_go1 E0_ok 11 (f := 14) Try.func14 rfl rfl rfl ?_
  refine aw_seq ?_
  refine aw_reg ?_
  refine st_op (ev_assign rfl) rfl rfl rfl ?_
  try show aw _ _ _ _ _ _
  refine aw_seq ?_
  refine aw_seq ?_
  refine aw_reg ?_
  refine st_op (ev_move rfl) rfl rfl rfl ?_
  refine st_op (ev_nilEq rfl rfl Try.underlying28) rfl rfl rfl ?_
  try show aw _ _ _ _ _ _
  refine aw_cond (t := false) rfl ?_
  try show aw _ _ _ _ _ _
  refine aw_skip ?_
  try show aw _ _ _ _ _ _
  refine aw_seq ?_
  refine aw_reg ?_
  refine st_op (ev_move rfl) rfl rfl rfl ?_
  refine st_op (ev_nilCheck rfl) rfl rfl rfl ?_
  refine st_op (ev_fieldAddr rfl fa67_0 (o' := 0) rfl) rfl rfl rfl ?_
  refine st_op (ev_fieldAddr rfl fa23_0 (o' := 0) rfl) rfl rfl rfl ?_
  refine st_op (ev_load rfl (lvar_one one2 hB rfl)) rfl rfl rfl ?_
  refine st_op (ev_int64 (c := x + 1) rfl rfl rfl (by omega) (by omega)) rfl rfl rfl ?_
  refine st_op (ev_assign rfl) rfl rfl rfl ?_
  try show aw _ _ _ _ _ _
  refine aw_ret ?_
  exact ⟨_, rfl, rfl, rfl⟩
theorem last_spec (H : Heap) (p : Nat) (hp : p < H.next) (x tm : Int) (cf dt : ByteArray) (A : Option Addr) (es : List Entry) (c : Nat) (hB : H.blk p = some ⟨[.int .i64 x, .int .i64 tm, .string cf, .string dt, .slice A es.length c], 5, false, false⟩) (hrow : Row H A c 4 (es.map Entry.cells)) (hc : es.length ≤ c) (hm : es.length ≤ 1000000) (hx0 : 0 ≤ x) (hx1 : x ≤ 1099511627776) : ∃ v H', Spec Try.prog 16 [.pointer (some ⟨p, 0, none⟩)] H v H' ∧ (v = .int .i64 (x + (es.length : Int)) ∧ H' = H) := by
  refine spec_go1 E0_ok 16 (f := 16) Try.func16 rfl rfl rfl ?_
  refine aw_seq ?_
  refine aw_reg ?_
  refine st_op (ev_assign rfl) rfl rfl rfl ?_
  try show aw _ _ _ _ _ _
  refine aw_seq ?_
  refine aw_seq ?_
  refine aw_reg ?_
  refine st_op (ev_move rfl) rfl rfl rfl ?_
  refine st_op (ev_nilEq rfl rfl Try.underlying28) rfl rfl rfl ?_
  try show aw _ _ _ _ _ _
  refine aw_cond (t := false) rfl ?_
  try show aw _ _ _ _ _ _
  refine aw_skip ?_
  try show aw _ _ _ _ _ _
  refine aw_seq ?_
  refine aw_marks (fun b => b < H.next) [(false, false), (false, false), (false, false), (false, false), (false, false), (false, false), (false, false), (false, false), (false, false), (false, false), (false, false), (false, false)] mixed (by kernel_rfl) (by kernel_rfl) ?_
  refine sm_op (ev_move rfl) rfl rfl rfl ?_
  refine sm_op (ev_nilCheck rfl) rfl rfl rfl ?_
  refine sm_op (ev_fieldAddr rfl fa67_0 (o' := 0) rfl) rfl rfl rfl ?_
  refine sm_op (ev_fieldAddr rfl fa23_0 (o' := 0) rfl) rfl rfl rfl ?_
  refine sm_op (ev_load rfl (lvar_one one2 hB rfl)) rfl rfl rfl ?_
  refine sm_op (ev_move rfl) rfl rfl rfl ?_
  refine sm_op (ev_nilCheck rfl) rfl rfl rfl ?_
  refine sm_op (ev_fieldAddr rfl fa67_1 (o' := 4) rfl) rfl rfl rfl ?_
  refine sm_op (ev_load rfl (lvar_one one24 hB rfl)) rfl rfl rfl ?_
  refine sm_op (ev_lenSl rfl Try.underlying24) rfl rfl rfl ?_
  refine sm_op (ev_int64 (c := x + (es.length : Int)) rfl rfl rfl (by omega) (by omega)) rfl rfl rfl ?_
  refine sm_op (ev_assign rfl) rfl rfl rfl ?_
  try show aw _ _ _ _ _ _
  refine aw_ret ?_
  exact ⟨_, rfl, rfl, rfl⟩
theorem get_spec (H : Heap) (p : Nat) (hp : p < H.next) (x tm : Int) (cf dt : ByteArray) (A : Option Addr) (es : List Entry) (c : Nat) (hB : H.blk p = some ⟨[.int .i64 x, .int .i64 tm, .string cf, .string dt, .slice A es.length c], 5, false, false⟩) (hrow : Row H A c 4 (es.map Entry.cells)) (hc : es.length ≤ c) (hm : es.length ≤ 1000000) (hx0 : 0 ≤ x) (hx1 : x ≤ 1099511627776) (i n : Int) : ∃ v H', Spec Try.prog 13 [.pointer (some ⟨p, 0, none⟩), .int .i64 i, .int .i64 n] H v H' ∧ (∃ A' c', v = .slice A' (getE x es i n).length c' ∧ Mine H H' A' c' 4 ((getE x es i n).map Entry.cells) ∧ Ext H H') := by
  refine spec_go3 E0_ok 42 (f := 13) Try.func13 rfl rfl rfl ?_
  refine aw_seq ?_
  refine aw_reg ?_
  refine st_op (ev_assign rfl) rfl rfl rfl ?_
  try show aw _ _ _ _ _ _
  refine aw_seq ?_
  refine aw_seq ?_
  refine aw_reg ?_
  refine st_op (ev_move rfl) rfl rfl rfl ?_
  refine st_op (ev_nilEq rfl rfl Try.underlying28) rfl rfl rfl ?_
  refine st_op (ev_move rfl) rfl rfl rfl ?_
  refine st_op (ev_move rfl) rfl rfl rfl ?_
  refine st_op (ev_move rfl) rfl rfl rfl ?_
  refine st_call rfl rfl rfl ent14 rfl rfl rfl ?_
  obtain ⟨_, _, hs1, hs1v, hs1h⟩ := first_spec H p (by omega) x tm cf dt A es c hB hrow hc (by omega) (by omega) (by omega)
  rw [hs1v, hs1h] at hs1; clear hs1v hs1h
  refine ⟨_, _, hs1, ?_⟩
  refine st_op (ev_int rfl rfl rfl) rfl rfl rfl ?_
  refine st_op (ev_pickF rfl rfl) rfl rfl rfl ?_
  refine st_op (ev_move rfl) rfl rfl rfl ?_
  refine st_bool 16 rfl (fun hb2 => ?_) (fun hb2 => ?_)
  ·
    have hb2 := of_decide_eq_true hb2
    refine st_skip rfl rfl rfl ?_
    refine st_skip rfl rfl rfl ?_
    refine st_skip rfl rfl rfl ?_
    refine st_skip rfl rfl rfl ?_
    refine st_op (ev_pickT rfl rfl) rfl rfl rfl ?_
    refine st_op (ev_move rfl) rfl rfl rfl ?_
    refine st_skip rfl rfl rfl ?_
    refine st_skip rfl rfl rfl ?_
    refine st_op (ev_pickT rfl rfl) rfl rfl rfl ?_
    try show aw _ _ _ _ _ _
    refine aw_cond (t := true) rfl ?_
    try show aw _ _ _ _ _ _
    refine aw_seq ?_
    refine aw_reg ?_
    refine st_op (ev_assign rfl) rfl rfl rfl ?_
    try show aw _ _ _ _ _ _
    refine aw_ret ?_
    have hget : getE x es i n = [] := by rw [getE, if_pos (by omega)]
    exact ⟨_, rfl, none, 0, by rw [hget]; rfl, by rw [hget]; exact .nil, (Ext.refl H)⟩
  ·
    have hb2 := of_decide_eq_false hb2
    refine st_op (ev_move rfl) rfl rfl rfl ?_
    refine st_op (ev_move rfl) rfl rfl rfl ?_
    refine st_call rfl rfl rfl ent16 rfl rfl rfl ?_
    obtain ⟨_, _, hs3, hs3v, hs3h⟩ := last_spec H p (by omega) x tm cf dt A es c hB hrow hc (by omega) (by omega) (by omega)
    rw [hs3v, hs3h] at hs3; clear hs3v hs3h
    refine ⟨_, _, hs3, ?_⟩
    refine st_op (ev_int rfl rfl rfl) rfl rfl rfl ?_
    refine st_op (ev_pickF rfl rfl) rfl rfl rfl ?_
    refine st_op (ev_move rfl) rfl rfl rfl ?_
    refine st_bool 22 rfl (fun hb4 => ?_) (fun hb4 => ?_)
    ·
      have hb4 := of_decide_eq_true hb4
      refine st_skip rfl rfl rfl ?_
      refine st_skip rfl rfl rfl ?_
      refine st_op (ev_pickT rfl rfl) rfl rfl rfl ?_
      try show aw _ _ _ _ _ _
      refine aw_cond (t := true) rfl ?_
      try show aw _ _ _ _ _ _
      refine aw_seq ?_
      refine aw_reg ?_
      refine st_op (ev_assign rfl) rfl rfl rfl ?_
      try show aw _ _ _ _ _ _
      refine aw_ret ?_
      have hget : getE x es i n = [] := by rw [getE, if_pos (by omega)]
      exact ⟨_, rfl, none, 0, by rw [hget]; rfl, by rw [hget]; exact .nil, (Ext.refl H)⟩
    ·
      have hb4 := of_decide_eq_false hb4
      refine st_op (ev_move rfl) rfl rfl rfl ?_
      refine st_op (ev_int rfl rfl rfl) rfl rfl rfl ?_
      refine st_op (ev_pickF rfl rfl) rfl rfl rfl ?_
      try show aw _ _ _ _ _ _
      refine aw_cond (t := decide (n < 1)) rfl ?_
      by_cases hc5 : (decide (n < 1)) = true
      · rw [hc5]
        rw [if_pos rfl]
        have hc5 := of_decide_eq_true hc5
        refine aw_seq ?_
        refine aw_reg ?_
        refine st_op (ev_assign rfl) rfl rfl rfl ?_
        try show aw _ _ _ _ _ _
        refine aw_ret ?_
        have hget : getE x es i n = [] := by rw [getE, if_pos (by omega)]
        exact ⟨_, rfl, none, 0, by rw [hget]; rfl, by rw [hget]; exact .nil, (Ext.refl H)⟩
      · rw [Bool.not_eq_true] at hc5; rw [hc5]
        rw [if_neg Bool.false_ne_true]
        have hc5 := of_decide_eq_false hc5
        refine aw_skip ?_
        try show aw _ _ _ _ _ _
        refine aw_seq ?_
        refine aw_marks (fun b => b < H.next) [(false, false), (false, false), (false, false), (true, false), (false, false), (false, false), (false, true), (false, false), (false, false), (false, false)] mixed (by kernel_rfl) (by kernel_rfl) ?_
        refine sm_op (ev_move rfl) rfl rfl rfl ?_
        refine sm_op (ev_nilCheck rfl) rfl rfl rfl ?_
        refine sm_op (ev_fieldAddr rfl fa67_1 (o' := 4) rfl) rfl rfl rfl ?_
        refine sm_read (ev_load rfl (lvar_one one24 hB rfl)) rfl rfl rfl (fun b hb => by cases hb; dsimp only; omega) ?_
        refine sm_op (ev_move rfl) rfl rfl rfl ?_
        refine sm_op (ev_move rfl) rfl rfl rfl ?_
        refine sm_call rfl rfl rfl ent14 rfl rfl rfl ?_
        obtain ⟨_, _, hs6, hs6v, hs6h⟩ := first_spec H p (by omega) x tm cf dt A es c hB hrow hc (by omega) (by omega) (by omega)
        rw [hs6v, hs6h] at hs6; clear hs6v hs6h
        refine ⟨_, _, hs6, (fun _ _ _ => rfl), ?_⟩
        refine sm_op (ev_int64 (c := i - (x + 1)) rfl rfl rfl (by omega) (by omega)) rfl rfl rfl ?_
        obtain ⟨A7, c8, L9, hL10, hl11, hs12, hr13, hc14⟩ := sliceA_typed Entry.cells el24 (by decide) hrow hc (lo := some (.int .i64 (i - (x + 1)))) (hi := none) (l := ((i - (x + 1))).toNat) (h := es.length) rfl (bound_int (by omega) (by omega) rfl) (by omega) (by omega)
        refine sm_op (ev_slice rfl rfl rfl rfl hs12) rfl rfl rfl ?_
        refine sm_op (ev_assign rfl) rfl rfl rfl ?_
        try show aw _ _ _ _ _ _
        refine aw_seq ?_
        refine aw_reg ?_
        refine st_op (ev_move rfl) rfl rfl rfl ?_
        refine st_op (ev_move rfl) rfl rfl rfl ?_
        refine st_op (ev_move rfl) rfl rfl rfl ?_
        refine st_op (ev_lenSl rfl Try.underlying24) rfl rfl rfl ?_
        obtain ⟨z15, hz16, hz17⟩ : ∃ z, (if (L9.length : Int) < n then (L9.length : Int) else n) = z ∧ (n ≥ z ∧ (L9.length : Int) ≥ z ∧ (z = n ∨ z = (L9.length : Int))) := ⟨_, rfl, by split <;> omega⟩
        refine st_op (ev_minE hz16 rfl rfl) rfl rfl rfl ?_
        obtain ⟨A18, c19, L20, hL21, hl22, hs23, hr24, hc25⟩ := sliceA_typed Entry.cells el24 (by decide) hr13 hc14 (lo := none) (hi := some (.int .i64 z15)) (l := 0) (h := (z15).toNat) (by rw [Option.isSome_some, if_pos rfl]; exact bound_int (by omega) (by omega) rfl) rfl (by omega) (by omega)
        refine st_op (ev_slice rfl rfl rfl rfl hs23) rfl rfl rfl ?_
        refine st_call rfl rfl rfl ent36 rfl rfl rfl ?_
        obtain ⟨_, H30, hs29, A26, c27, hs29v, hm28, hx31⟩ := clone_spec H A18 L20 c19 hr24 hc25 (by omega) (Row.anil hr24)
        rw [hs29v] at hs29; clear hs29v
        have hx31n := hx31.1
        refine ⟨_, H30, hs29, ?_⟩
        have hB32 := (hx31.2 p (by omega)).trans hB
        have hr33 := Row.ext hrow hx31
        have hr34 := Row.ext hr13 hx31
        have hr35 := Row.ext hr24 hx31
        have hx36 : Ext H H30 := Ext.trans (Ext.refl H) hx31
        refine st_op (ev_assign rfl) rfl rfl rfl ?_
        try show aw _ _ _ _ _ _
        refine aw_ret ?_
        have hget : L20 = getE x es i n := by rw [hL21, hL10, getE, if_neg (by omega), List.drop_zero, List.take_take, List.take_eq_take_iff, List.length_drop]; omega
        exact ⟨_, rfl, A26, c27, by rw [← hget]; rfl, by rw [← hget]; exact Mine.older hm28 (by omega), hx36⟩
theorem eqentry_spec (H : Heap) (a b : Entry) : ∃ v H', Spec Try.prog 37 [.agg #[.int .i64 a.index, .int .i64 a.term, .int .i64 a.kind, .string a.data], .agg #[.int .i64 b.index, .int .i64 b.term, .int .i64 b.kind, .string b.data]] H v H' ∧ (v = .bool (a.eqE b) ∧ Ext H H') := by
  refine spec_go2 E0_ok 31 (f := 37) Try.func37 rfl rfl rfl ?_
  refine aw_seq ?_
  refine aw_reg ?_
  obtain ⟨b1, H2, he3, b1e, H2n, hB5, f4⟩ := mem_box (P := Try.prog) H (v := .agg #[.int .i64 a.index, .int .i64 a.term, .int .i64 a.kind, .string a.data]) (cs := [.int .i64 a.index, .int .i64 a.term, .int .i64 a.kind, .string a.data]) rfl rfl
  refine st_op (he3 _ _ _ _ _ _ _ _ _ rfl) rfl rfl rfl ?_
  have hx6 : Ext H H2 := Ext.step (Ext.refl H) (b := b1) (by have := ((Ext.refl H)).1; omega) (by omega) f4
  obtain ⟨b7, H8, he9, b7e, H8n, hB11, f10⟩ := mem_box (P := Try.prog) H2 (v := .agg #[.int .i64 b.index, .int .i64 b.term, .int .i64 b.kind, .string b.data]) (cs := [.int .i64 b.index, .int .i64 b.term, .int .i64 b.kind, .string b.data]) rfl rfl
  refine st_op (he9 _ _ _ _ _ _ _ _ _ rfl) rfl rfl rfl ?_
  have hB12 := (f10 b1 (by omega)).trans hB5
  have hx13 : Ext H H8 := Ext.step hx6 (b := b7) (by have := (hx6).1; omega) (by omega) f10
  refine st_op (ev_assign rfl) rfl rfl rfl ?_
  try show aw _ _ _ _ _ _
  refine aw_seq ?_
  refine aw_reg ?_
  refine st_op (ev_fieldAddr rfl fa37_0 (o' := 0) rfl) rfl rfl rfl ?_
  refine st_op (ev_load rfl (lvar_one one2 hB12 rfl)) rfl rfl rfl ?_
  refine st_op (ev_fieldAddr rfl fa37_0 (o' := 0) rfl) rfl rfl rfl ?_
  refine st_op (ev_load rfl (lvar_one one2 hB11 rfl)) rfl rfl rfl ?_
  refine st_op (ev_int rfl rfl rfl) rfl rfl rfl ?_
  refine st_op (ev_move rfl) rfl rfl rfl ?_
  refine st_bool 10 rfl (fun hb14 => ?_) (fun hb14 => ?_)
  ·
    have hb14 := eq_of_beq hb14
    refine st_op (ev_fieldAddr rfl fa37_1 (o' := 1) rfl) rfl rfl rfl ?_
    refine st_op (ev_load rfl (lvar_one one2 hB12 rfl)) rfl rfl rfl ?_
    refine st_op (ev_fieldAddr rfl fa37_1 (o' := 1) rfl) rfl rfl rfl ?_
    refine st_op (ev_load rfl (lvar_one one2 hB11 rfl)) rfl rfl rfl ?_
    refine st_op (ev_int rfl rfl rfl) rfl rfl rfl ?_
    refine st_op (ev_pickT rfl rfl) rfl rfl rfl ?_
    refine st_op (ev_move rfl) rfl rfl rfl ?_
    refine st_bool 17 rfl (fun hb15 => ?_) (fun hb15 => ?_)
    ·
      have hb15 := eq_of_beq hb15
      refine st_op (ev_fieldAddr rfl fa37_2 (o' := 2) rfl) rfl rfl rfl ?_
      refine st_op (ev_load rfl (lvar_one one3 hB12 rfl)) rfl rfl rfl ?_
      refine st_op (ev_fieldAddr rfl fa37_2 (o' := 2) rfl) rfl rfl rfl ?_
      refine st_op (ev_load rfl (lvar_one one3 hB11 rfl)) rfl rfl rfl ?_
      refine st_op (ev_int rfl rfl rfl) rfl rfl rfl ?_
      refine st_op (ev_pickT rfl rfl) rfl rfl rfl ?_
      refine st_op (ev_move rfl) rfl rfl rfl ?_
      refine st_bool 24 rfl (fun hb16 => ?_) (fun hb16 => ?_)
      ·
        have hb16 := eq_of_beq hb16
        refine st_op (ev_fieldAddr rfl fa37_3 (o' := 3) rfl) rfl rfl rfl ?_
        refine st_op (ev_load rfl (lvar_one one9 hB12 rfl)) rfl rfl rfl ?_
        refine st_op (ev_fieldAddr rfl fa37_3 (o' := 3) rfl) rfl rfl rfl ?_
        refine st_op (ev_load rfl (lvar_one one9 hB11 rfl)) rfl rfl rfl ?_
        refine st_op (ev_str rfl rfl rfl) rfl rfl rfl ?_
        refine st_op (ev_pickT rfl rfl) rfl rfl rfl ?_
        refine st_op (ev_assign rfl) rfl rfl rfl ?_
        try show aw _ _ _ _ _ _
        refine aw_ret ?_
        exact ⟨_, rfl, by simp_all [Entry.eqE, oneOrAll], hx13⟩
      ·
        have hb16 := ne_of_beq_false hb16
        refine st_skip rfl rfl rfl ?_
        refine st_skip rfl rfl rfl ?_
        refine st_skip rfl rfl rfl ?_
        refine st_skip rfl rfl rfl ?_
        refine st_skip rfl rfl rfl ?_
        refine st_op (ev_pickF rfl rfl) rfl rfl rfl ?_
        refine st_op (ev_assign rfl) rfl rfl rfl ?_
        try show aw _ _ _ _ _ _
        refine aw_ret ?_
        exact ⟨_, rfl, by simp_all [Entry.eqE, oneOrAll], hx13⟩
    ·
      have hb15 := ne_of_beq_false hb15
      refine st_skip rfl rfl rfl ?_
      refine st_skip rfl rfl rfl ?_
      refine st_skip rfl rfl rfl ?_
      refine st_skip rfl rfl rfl ?_
      refine st_skip rfl rfl rfl ?_
      refine st_op (ev_pickF rfl rfl) rfl rfl rfl ?_
      refine st_op (ev_move rfl) rfl rfl rfl ?_
      refine st_skip rfl rfl rfl ?_
      refine st_skip rfl rfl rfl ?_
      refine st_skip rfl rfl rfl ?_
      refine st_skip rfl rfl rfl ?_
      refine st_skip rfl rfl rfl ?_
      refine st_op (ev_pickF rfl rfl) rfl rfl rfl ?_
      refine st_op (ev_assign rfl) rfl rfl rfl ?_
      try show aw _ _ _ _ _ _
      refine aw_ret ?_
      exact ⟨_, rfl, by simp_all [Entry.eqE, oneOrAll], hx13⟩
  ·
    have hb14 := ne_of_beq_false hb14
    refine st_skip rfl rfl rfl ?_
    refine st_skip rfl rfl rfl ?_
    refine st_skip rfl rfl rfl ?_
    refine st_skip rfl rfl rfl ?_
    refine st_skip rfl rfl rfl ?_
    refine st_op (ev_pickF rfl rfl) rfl rfl rfl ?_
    refine st_op (ev_move rfl) rfl rfl rfl ?_
    refine st_skip rfl rfl rfl ?_
    refine st_skip rfl rfl rfl ?_
    refine st_skip rfl rfl rfl ?_
    refine st_skip rfl rfl rfl ?_
    refine st_skip rfl rfl rfl ?_
    refine st_op (ev_pickF rfl rfl) rfl rfl rfl ?_
    refine st_op (ev_move rfl) rfl rfl rfl ?_
    refine st_skip rfl rfl rfl ?_
    refine st_skip rfl rfl rfl ?_
    refine st_skip rfl rfl rfl ?_
    refine st_skip rfl rfl rfl ?_
    refine st_skip rfl rfl rfl ?_
    refine st_op (ev_pickF rfl rfl) rfl rfl rfl ?_
    refine st_op (ev_assign rfl) rfl rfl rfl ?_
    try show aw _ _ _ _ _ _
    refine aw_ret ?_
    exact ⟨_, rfl, by simp_all [Entry.eqE, oneOrAll], hx13⟩
theorem eqentries_spec (H : Heap) (A : Option Addr) (es : List Entry) (c : Nat) (hrow : Row H A c 4 (es.map Entry.cells)) (hc : es.length ≤ c) (hm : es.length ≤ 1099511627776) (A2 : Option Addr) (fs : List Entry) (c2 : Nat) (hrow2 : Row H A2 c2 4 (fs.map Entry.cells)) (hc2 : fs.length ≤ c2) (hm2 : fs.length ≤ 1099511627776) : ∃ v H', Spec Try.prog 17 [.slice A es.length c, .slice A2 fs.length c2] H v H' ∧ (v = .bool (eqEs es fs) ∧ Ext H H') := by
  refine spec_go2 E0_ok 27 (f := 17) Try.func17 rfl rfl rfl ?_
  refine aw_seq ?_
  refine aw_reg ?_
  refine st_op (ev_assign rfl) rfl rfl rfl ?_
  try show aw _ _ _ _ _ _
  refine aw_seq ?_
  refine aw_seq ?_
  refine aw_reg ?_
  refine st_op (ev_move rfl) rfl rfl rfl ?_
  refine st_op (ev_lenSl rfl Try.underlying24) rfl rfl rfl ?_
  refine st_op (ev_move rfl) rfl rfl rfl ?_
  refine st_op (ev_lenSl rfl Try.underlying24) rfl rfl rfl ?_
  refine st_op (ev_int rfl rfl rfl) rfl rfl rfl ?_
  try show aw _ _ _ _ _ _
  refine aw_cond (t := (es.length : Int) != (fs.length : Int)) rfl ?_
  by_cases hc1 : ((es.length : Int) != (fs.length : Int)) = true
  · rw [hc1]
    rw [if_pos rfl]
    have hc1 : ¬ ((es.length : Int) = (fs.length : Int)) := by simpa using hc1
    refine aw_seq ?_
    refine aw_reg ?_
    refine st_op (ev_assign rfl) rfl rfl rfl ?_
    try show aw _ _ _ _ _ _
    refine aw_ret ?_
    refine ⟨_, rfl, ?_, (Ext.refl H)⟩; show Value.bool _ = Value.bool _; congr 1; symm; first | (rw [eqEs_len (by omega)]; done) | (rw [hv, List.drop_eq_nil_of_le (by omega), List.drop_eq_nil_of_le (by omega)]; rfl)
  · rw [Bool.not_eq_true] at hc1; rw [hc1]
    rw [if_neg Bool.false_ne_true]
    have hc1 : ((es.length : Int) = (fs.length : Int)) := by simpa using hc1
    refine aw_skip ?_
    try show aw _ _ _ _ _ _
    refine aw_seq ?_
    refine aw_seq ?_
    refine aw_reg ?_
    refine st_op (ev_assign rfl) rfl rfl rfl ?_
    try show aw _ _ _ _ _ _
    refine aw_block ?_
    refine aw_keep [0, 1, 5] (l' := (.cons 0 (.slice A es.length c) (.cons 1 (.slice A2 fs.length c2) (.cons 5 (.int .i64 0) .nil)))) (by repeat (first | exact Up.done | refine Up.then ?_ | refine Up.inBlock ?_)) rfl ?_
    refine aw_iter (α := Nat × Heap) (fun a => es.length - a.1) (fun a => (.cons 0 (.slice A es.length c) (.cons 1 (.slice A2 fs.length c2) (.cons 5 (.int .i64 (a.1 : Int)) .nil)))) (fun a => a.2) (fun a => (a.1 ≤ es.length) ∧ (eqEs es fs = eqEs (es.drop a.1) (fs.drop a.1)) ∧ (Ext H a.2)) (0, H) ⟨Nat.zero_le _, rfl, Ext.refl H⟩ ?_
    rintro ⟨i, Hl⟩ ⟨hi, hv, hxl2⟩ ih3
    replace hi : i ≤ es.length := hi
    replace hv : eqEs es fs = eqEs (es.drop i) (fs.drop i) := hv
    replace hxl2 : Ext H Hl := hxl2
    show aw _ _ _ (RL _ (.cons 0 (.slice A es.length c) (.cons 1 (.slice A2 fs.length c2) (.cons 5 (.int .i64 (i : Int)) .nil)))) Hl _
    have hxl2n := hxl2.1
    have hr4 := Row.ext hrow hxl2
    have hr5 := Row.ext hrow2 hxl2
    have hx6 : Ext H Hl := Ext.trans (Ext.refl H) hxl2
    refine aw_seq ?_
    refine aw_seq ?_
    refine aw_reg ?_
    refine st_op (ev_move rfl) rfl rfl rfl ?_
    refine st_op (ev_move rfl) rfl rfl rfl ?_
    refine st_op (ev_lenSl rfl Try.underlying24) rfl rfl rfl ?_
    refine st_op (ev_int rfl rfl rfl) rfl rfl rfl ?_
    try show aw _ _ _ _ _ _
    refine aw_cond (t := decide ((i : Int) < (es.length : Int))) rfl ?_
    by_cases hc7 : (decide ((i : Int) < (es.length : Int))) = true
    · rw [hc7]
      rw [if_pos rfl]
      have hc7 := of_decide_eq_true hc7
      refine aw_skip ?_
      try show aw _ _ _ _ _ _
      refine aw_seq ?_
      refine aw_block ?_
      refine aw_seq ?_
      refine aw_marks (fun b => b < Hl.next) [(false, false), (false, false), (false, false), (false, false), (false, false), (false, false), (false, false), (false, false), (false, false), (false, false)] mixed (by kernel_rfl) (by kernel_rfl) ?_
      refine sm_op (ev_move rfl) rfl rfl rfl ?_
      refine sm_op (ev_move rfl) rfl rfl rfl ?_
      have hi8 : 0 ≤ ((i : Int) : Int) := by omega
      have hi9 : ((i : Int) : Int) < ((es.length : Nat) : Int) := by omega
      obtain ⟨x10, hx11⟩ : ∃ e, es[i]? = some e := ⟨_, List.getElem?_eq_getElem (by omega)⟩
      obtain ⟨b12, o13, rfl, hr14⟩ := Row.at_ hr4 (getMap Entry.cells hx11)
      have b12lt := hr14.1
      refine sm_op (ev_indexAddr rfl rfl hi8 hi9 el24 (o' := o13 + i * 4) (by first | rfl | (simp only [Int.toNat_natCast]; rfl) | simp)) rfl rfl rfl ?_
      refine sm_op (ev_load rfl (hr14.agg many37 (by decide) (getMap Entry.cells hx11))) rfl rfl rfl ?_
      refine sm_op (ev_move rfl) rfl rfl rfl ?_
      refine sm_op (ev_move rfl) rfl rfl rfl ?_
      have hi15 : 0 ≤ ((i : Int) : Int) := by omega
      have hi16 : ((i : Int) : Int) < ((fs.length : Nat) : Int) := by omega
      obtain ⟨x17, hx18⟩ : ∃ e, fs[i]? = some e := ⟨_, List.getElem?_eq_getElem (by omega)⟩
      obtain ⟨b19, o20, rfl, hr21⟩ := Row.at_ hr5 (getMap Entry.cells hx18)
      have b19lt := hr21.1
      refine sm_op (ev_indexAddr rfl rfl hi15 hi16 el24 (o' := o20 + i * 4) (by first | rfl | (simp only [Int.toNat_natCast]; rfl) | simp)) rfl rfl rfl ?_
      refine sm_op (ev_load rfl (hr21.agg many37 (by decide) (getMap Entry.cells hx18))) rfl rfl rfl ?_
      refine sm_call rfl rfl rfl ent37 rfl rfl rfl ?_
      obtain ⟨_, H23, hs22, hs22v, hx24⟩ := eqentry_spec Hl x10 x17
      rw [hs22v] at hs22; clear hs22v
      have hx24n := hx24.1
      refine ⟨_, H23, hs22, (fun _ b hb => hx24.2 b (by omega)), ?_⟩
      have hr25 := RowIn.next hr14 hx24.1 (hx24.2 b12 hr14.1)
      have hr26 := RowIn.next hr21 hx24.1 (hx24.2 b19 hr21.1)
      have hx27 : Ext H H23 := Ext.trans hx6 hx24
      refine sm_op (ev_not rfl) rfl rfl rfl ?_
      try show aw _ _ _ _ _ _
      refine aw_cond (t := !(x10.eqE x17)) rfl ?_
      by_cases hc28 : (!(x10.eqE x17)) = true
      · rw [hc28]
        rw [if_pos rfl]
        have hc28 : (x10.eqE x17) = false := by simpa using hc28
        refine aw_seq ?_
        refine aw_reg ?_
        refine st_op (ev_assign rfl) rfl rfl rfl ?_
        try show aw _ _ _ _ _ _
        refine aw_ret ?_
        refine ⟨_, rfl, ?_, hx27⟩; show Value.bool _ = Value.bool _; congr 1; symm; first | (rw [eqEs_len (by omega)]; done) | (rw [hv, List.drop_eq_nil_of_le (by omega), List.drop_eq_nil_of_le (by omega)]; rfl) | (rw [hv, drop_at hx11, drop_at hx18, eqEs]; simp_all; done)
      · rw [Bool.not_eq_true] at hc28; rw [hc28]
        rw [if_neg Bool.false_ne_true]
        have hc28 : (x10.eqE x17) = true := by simpa using hc28
        refine aw_skip ?_
        try show aw _ _ _ _ _ _
        refine aw_reg ?_
        refine st_op (ev_move rfl) rfl rfl rfl ?_
        refine st_op (ev_int64 (c := (i : Int) + 1) rfl rfl rfl (by omega) (by omega)) rfl rfl rfl ?_
        refine st_op (ev_assign rfl) rfl rfl rfl ?_
        try show aw _ _ _ _ _ _
        refine aw_keep [0, 1, 5] (l' := (.cons 0 (.slice (some ⟨b12, o13, none⟩) es.length c) (.cons 1 (.slice (some ⟨b19, o20, none⟩) fs.length c2) (.cons 5 (.int .i64 ((i : Int) + 1)) .nil)))) (by repeat (first | exact Up.done | refine Up.then ?_ | refine Up.inBlock ?_)) rfl ?_
        exact ih3 (i + 1, H23) ⟨by omega, by rw [hv, drop_at hx11, drop_at hx18, eqEs]; simp_all, hx27⟩ (by simp only; omega)
    · rw [Bool.not_eq_true] at hc7; rw [hc7]
      rw [if_neg Bool.false_ne_true]
      have hc7 := of_decide_eq_false hc7
      refine aw_exit ?_
      try show aw _ _ _ _ _ _
      refine aw_seq ?_
      refine aw_reg ?_
      refine st_op (ev_assign rfl) rfl rfl rfl ?_
      try show aw _ _ _ _ _ _
      refine aw_ret ?_
      refine ⟨_, rfl, ?_, hx6⟩; show Value.bool _ = Value.bool _; congr 1; symm; first | (rw [eqEs_len (by omega)]; done) | (rw [hv, List.drop_eq_nil_of_le (by omega), List.drop_eq_nil_of_le (by omega)]; rfl) | (rw [hv, drop_at hx11, drop_at hx18, eqEs]; simp_all; done)
theorem logown_spec (H : Heap) (x tm : Int) (cf dt : ByteArray) (A : Option Addr) (es : List Entry) (c : Nat) (hrow : Row H A c 4 (es.map Entry.cells)) (hc : es.length ≤ c) (hm : es.length ≤ 140737488351232) : ∃ v H', Spec Try.prog 5 [.agg #[.int .i64 x, .int .i64 tm, .string cf, .string dt], .slice A es.length c] H v H' ∧ (v = .bool true) := by
  refine spec_go2 E0_ok 55 (f := 5) Try.func5 rfl rfl rfl ?_
  refine aw_seq ?_
  refine aw_reg ?_
  obtain ⟨b1, H2, he3, b1e, H2n, hB5, f4⟩ := mem_box (P := Try.prog) H (v := .agg #[.int .i64 x, .int .i64 tm, .string cf, .string dt]) (cs := [.int .i64 x, .int .i64 tm, .string cf, .string dt]) rfl rfl
  refine st_op (he3 _ _ _ _ _ _ _ _ _ rfl) rfl rfl rfl ?_
  have hr6 := Row.alloc hrow b1e (by omega) f4
  have hx7 : Ext H H2 := Ext.step (Ext.refl H) (b := b1) (by have := ((Ext.refl H)).1; omega) (by omega) f4
  refine st_op (ev_assign rfl) rfl rfl rfl ?_
  try show aw _ _ _ _ _ _
  refine aw_seq ?_
  refine aw_reg ?_
  refine st_call rfl rfl rfl ent9 rfl rfl rfl ?_
  obtain ⟨_, _, hs8, hs8v, hs8h⟩ := begun_spec H2
  rw [hs8v, hs8h] at hs8; clear hs8v hs8h
  refine ⟨_, _, hs8, ?_⟩
  refine st_op (ev_assign rfl) rfl rfl rfl ?_
  try show aw _ _ _ _ _ _
  refine aw_seq ?_
  refine aw_seq ?_
  refine aw_reg ?_
  refine st_op (ev_move rfl) rfl rfl rfl ?_
  refine st_op (ev_not rfl) rfl rfl rfl ?_
  try show aw _ _ _ _ _ _
  refine aw_cond (t := false) rfl ?_
  try show aw _ _ _ _ _ _
  refine aw_skip ?_
  try show aw _ _ _ _ _ _
  refine aw_seq ?_
  refine aw_reg ?_
  refine st_op (ev_load rfl (lvar_part (l := [.int .i64 x, .int .i64 tm, .string cf, .string dt]) many23 hB5 rfl rfl (by decide))) rfl rfl rfl ?_
  refine st_call rfl rfl rfl ent10 rfl rfl rfl ?_
  obtain ⟨_, H10, hs9, hs9v, hx11⟩ := snap_spec H2 x tm cf dt
  rw [hs9v] at hs9; clear hs9v
  have hx11n := hx11.1
  refine ⟨_, H10, hs9, ?_⟩
  have hr12 := Row.ext hr6 hx11
  have hB13 := (hx11.2 b1 (by omega)).trans hB5
  have hx14 : Ext H H10 := Ext.trans hx7 hx11
  refine st_op (ev_move rfl) rfl rfl rfl ?_
  refine st_call rfl rfl rfl ent11 rfl rfl rfl ?_
  obtain ⟨_, H19, hs18, A15, c16, hs18v, hm17, hx20⟩ := entries_spec H10 12 (by decide) (by decide) A es c hr12 hc (by omega)
  rw [hs18v] at hs18; clear hs18v
  generalize hfs : ((es).take (12 : Int).toNat).map Entry.cut = fs at hs18 hm17
  have hfsl : fs.length ≤ 12 := by rw [← hfs]; simp; omega
  have hx20n := hx20.1
  refine ⟨_, H19, hs18, ?_⟩
  have hr21 := Row.ext hr12 hx20
  have hB22 := (hx20.2 b1 (by omega)).trans hB13
  have hx23 : Ext H H19 := Ext.trans hx14 hx20
  obtain ⟨H24, he25, H24n, hB26, f27⟩ := mem_store (v := .agg #[.int .i64 x, .int .i64 tm, .string (cutB cf 60), .string (cutB dt 100)]) (o := 0) (cs' := [.int .i64 x, .int .i64 tm, .string (cutB cf 60), .string (cutB dt 100)]) 4 rfl rfl size23 hB22 rfl rfl rfl
  refine st_op0 (he25 _ _ _ _ _ _ _ _ _ rfl rfl) rfl rfl ?_
  have hm28 := Mine.other hm17 (by omega) (by omega) f27
  have hx29 : Ext H H24 := Ext.step hx23 (b := b1) (by have := (hx23).1; omega) (by omega) f27
  refine st_op (ev_assign rfl) rfl rfl rfl ?_
  try show aw _ _ _ _ _ _
  refine aw_seq ?_
  refine aw_reg ?_
  refine st_op (ev_move rfl) rfl rfl rfl ?_
  have hr30 := hm28.row
  obtain ⟨A31, c32, H33, he34, hm35, hx36⟩ := mem_append_all (A := none) (n := fs.length) (by simp) eok24 (by decide) hr30 (map_len (f := Entry.cells) (fun _ => rfl) _) (flat_one (f := Entry.cells) (fun _ => rfl) _) (by omega) (by omega)
  have hx36n := hx36.1
  refine st_op (he34 _ _ _ _ _ _ _ _ _ _ rfl rfl isrow24) rfl rfl rfl ?_
  have hm37 := Mine.ext hm28 hx36
  have hB38 := (hx36.2 b1 (by omega)).trans hB26
  have hr39 := Row.ext hr30 hx36
  have hx40 : Ext H H33 := Ext.trans hx29 hx36
  refine st_op (ev_assign rfl) rfl rfl rfl ?_
  try show aw _ _ _ _ _ _
  refine aw_seq ?_
  refine aw_reg ?_
  refine st_op (ev_load rfl (lvar_part (l := [.int .i64 x, .int .i64 tm, .string (cutB cf 60), .string (cutB dt 100)]) many23 hB38 rfl rfl (by decide))) rfl rfl rfl ?_
  refine st_op (ev_move rfl) rfl rfl rfl ?_
  refine st_call rfl rfl rfl ent12 rfl rfl rfl ?_
  have hr41 := hm35.row
  obtain ⟨v43, H44, hs42, hd46, hx45⟩ := new_spec H33 x tm (cutB cf 60) (cutB dt 100) A31 fs c32 hr41 (by have := hm35.cap (by simp; omega); simpa using this) (by omega)
  have hx45n := hx45.1
  have hm47 := Mine.ext hm37 hx45
  have hB48 := (hx45.2 b1 (by omega)).trans hB38
  have hm49 := Mine.ext hm35 hx45
  have hx50 : Ext H H44 := Ext.trans hx40 hx45
  rcases hd46 with ⟨rfl, hok54⟩ | ⟨hok54, p51, A52, c53, rfl, hp55, hm56, p510, p511⟩
  ·
    refine ⟨_, H44, hs42, ?_⟩
    refine st_op (ev_assign rfl) rfl rfl rfl ?_
    try show aw _ _ _ _ _ _
    refine aw_seq ?_
    refine aw_seq ?_
    refine aw_reg ?_
    refine st_op (ev_move rfl) rfl rfl rfl ?_
    refine st_op (ev_nilEq rfl rfl Try.underlying28) rfl rfl rfl ?_
    try show aw _ _ _ _ _ _
    refine aw_cond (t := true) rfl ?_
    try show aw _ _ _ _ _ _
    refine aw_seq ?_
    refine aw_reg ?_
    refine st_op (ev_assign rfl) rfl rfl rfl ?_
    try show aw _ _ _ _ _ _
    refine aw_ret ?_
    exact ⟨_, rfl, by first | rfl | (simp [eqEs_refl, oneOrAll])⟩
  ·
    have hok54i := inTwo_iff (show inF [x, tm] = true by simp only [newOk, Bool.and_eq_true] at hok54; exact hok54.1.1)
    refine ⟨_, H44, hs42, ?_⟩
    refine st_op (ev_assign rfl) rfl rfl rfl ?_
    try show aw _ _ _ _ _ _
    refine aw_seq ?_
    refine aw_seq ?_
    refine aw_reg ?_
    refine st_op (ev_move rfl) rfl rfl rfl ?_
    refine st_op (ev_nilEq rfl rfl Try.underlying28) rfl rfl rfl ?_
    try show aw _ _ _ _ _ _
    refine aw_cond (t := false) rfl ?_
    try show aw _ _ _ _ _ _
    refine aw_skip ?_
    try show aw _ _ _ _ _ _
    refine aw_seq ?_
    refine aw_seq ?_
    refine aw_reg ?_
    refine st_op (ev_assign rfl) rfl rfl rfl ?_
    try show aw _ _ _ _ _ _
    refine aw_block ?_
    have hmHn := hm35
    have hm1b := hm28
    have hxb0 : Ext H24 H44 := Ext.trans hx36 hx45
    refine aw_keep [1, 6, 7, 8] (l' := (.cons 1 (.slice A15 fs.length c16) (.cons 6 (.slice A31 fs.length c32) (.cons 7 (.pointer (some ⟨p51, 0, none⟩)) (.cons 8 (.int .i64 0) .nil))))) (by repeat (first | exact Up.done | refine Up.then ?_ | refine Up.inBlock ?_)) rfl ?_
    refine aw_iter (α := Nat × List (List Value) × Heap) (fun a => fs.length - a.1) (fun a => (.cons 1 (.slice A15 fs.length c16) (.cons 6 (.slice A31 fs.length c32) (.cons 7 (.pointer (some ⟨p51, 0, none⟩)) (.cons 8 (.int .i64 (a.1 : Int)) .nil))))) (fun a => a.2.2) (fun a => (a.1 ≤ fs.length) ∧ (a.2.1.length = fs.length) ∧ (Mine H24 a.2.2 A31 c32 4 a.2.1) ∧ (a.2.2.blk p51 = some ⟨[.int .i64 x, .int .i64 tm, .string (cutB cf 60), .string (cutB dt 100), .slice A52 fs.length c53], 5, false, false⟩) ∧ (Mine H33 a.2.2 A52 c53 4 (fs.map Entry.cells)) ∧ (Ext H24 a.2.2) ∧ (p51 < a.2.2.next) ∧ (H44.next ≤ a.2.2.next)) (0, fs.map Entry.cells, H44) ⟨(show 0 ≤ fs.length from Nat.zero_le _), (show (fs.map Entry.cells).length = fs.length from by simp), (show Mine H24 H44 A31 c32 4 (fs.map Entry.cells) from hm49), (show H44.blk p51 = some ⟨[.int .i64 x, .int .i64 tm, .string (cutB cf 60), .string (cutB dt 100), .slice A52 fs.length c53], 5, false, false⟩ from hp55), (show Mine H33 H44 A52 c53 4 (fs.map Entry.cells) from hm56), (show Ext H24 H44 from hxb0), (show p51 < H44.next from by omega), (show H44.next ≤ H44.next from Nat.le_refl _)⟩ ?_
    rintro ⟨i, rows, Hl⟩ ⟨hi, hrl, hM, hP, hM3, hxb, hpl, hnl⟩ ih57
    replace hi : i ≤ fs.length := hi
    replace hrl : rows.length = fs.length := hrl
    replace hM : Mine H24 Hl A31 c32 4 rows := hM
    replace hP : Hl.blk p51 = some ⟨[.int .i64 x, .int .i64 tm, .string (cutB cf 60), .string (cutB dt 100), .slice A52 fs.length c53], 5, false, false⟩ := hP
    replace hM3 : Mine H33 Hl A52 c53 4 (fs.map Entry.cells) := hM3
    replace hxb : Ext H24 Hl := hxb
    replace hpl : p51 < Hl.next := hpl
    replace hnl : H44.next ≤ Hl.next := hnl
    show aw _ _ _ (RL _ (.cons 1 (.slice A15 fs.length c16) (.cons 6 (.slice A31 fs.length c32) (.cons 7 (.pointer (some ⟨p51, 0, none⟩)) (.cons 8 (.int .i64 (i : Int)) .nil))))) Hl _
    have hm1l := Mine.ext hm1b hxb
    refine aw_seq ?_
    refine aw_seq ?_
    refine aw_reg ?_
    refine st_op (ev_move rfl) rfl rfl rfl ?_
    refine st_op (ev_move rfl) rfl rfl rfl ?_
    refine st_op (ev_lenSl rfl Try.underlying24) rfl rfl rfl ?_
    refine st_op (ev_int rfl rfl rfl) rfl rfl rfl ?_
    try show aw _ _ _ _ _ _
    refine aw_cond (t := decide ((i : Int) < (fs.length : Int))) rfl ?_
    by_cases hc58 : (decide ((i : Int) < (fs.length : Int))) = true
    · rw [hc58]
      rw [if_pos rfl]
      have hc58 := of_decide_eq_true hc58
      refine aw_skip ?_
      try show aw _ _ _ _ _ _
      refine aw_seq ?_
      refine aw_block ?_
      refine aw_reg ?_
      refine st_op (ev_move rfl) rfl rfl rfl ?_
      refine st_op (ev_move rfl) rfl rfl rfl ?_
      obtain ⟨b, hbA, hbc, hO, hb0⟩ := hM.own (by omega)
      obtain ⟨b2, hbA2, _, hO2, _⟩ := hmHn.own (by rw [List.length_map]; omega)
      rw [hbA] at hbA2; cases hbA2; have hbl := hO2.lt
      obtain ⟨r, hr⟩ : ∃ r, rows[i]? = some r := ⟨_, List.getElem?_eq_getElem (by omega)⟩
      have hi0 : 0 ≤ (i : Int) := by omega
      have hi1 : (i : Int) < ((fs.length : Nat) : Int) := by omega
      refine st_op (ev_indexAddr (b := b) (o := 0) (m := fs.length) (c := c32) (by rw [← hbA]; rfl) rfl hi0 hi1 el24 (o' := 0 + i * 4) rfl) rfl rfl rfl ?_
      refine st_op (ev_fieldAddr rfl fa37_2 (o' := 0 + i * 4 + 2) rfl) rfl rfl rfl ?_
      obtain ⟨H9, he9, H9n, hO9, f9⟩ := mem_storeRow (v := .int .i64 (-3)) (k := 2) size3 rfl rfl hO hr (by decide)
      refine st_op0 (he9 _ _ _ _ _ _ _ _ _ rfl rfl) rfl rfl ?_
      try show aw _ _ _ _ _ _
      refine aw_reg ?_
      refine st_op (ev_move rfl) rfl rfl rfl ?_
      refine st_op (ev_int64 (c := (i : Int) + 1) rfl rfl rfl (by omega) (by omega)) rfl rfl rfl ?_
      refine st_op (ev_assign rfl) rfl rfl rfl ?_
      try show aw _ _ _ _ _ _
      refine aw_keep [1, 6, 7, 8] (l' := (.cons 1 (.slice A15 fs.length c16) (.cons 6 (.slice A31 fs.length c32) (.cons 7 (.pointer (some ⟨p51, 0, none⟩)) (.cons 8 (.int .i64 ((i : Int) + 1)) .nil))))) (by repeat (first | exact Up.done | refine Up.then ?_ | refine Up.inBlock ?_)) rfl ?_
      exact ih57 (i + 1, rows.set i (r.set 2 (.int .i64 (-3))), H9) ⟨(show (i + 1) ≤ fs.length from by omega), (show (rows.set i (r.set 2 (.int .i64 (-3)))).length = fs.length from by rw [List.length_set]; exact hrl), (show Mine H24 H9 A31 c32 4 (rows.set i (r.set 2 (.int .i64 (-3)))) from .inr ⟨b, hbA, hbc, hO9, hb0⟩), (show H9.blk p51 = some ⟨[.int .i64 x, .int .i64 tm, .string (cutB cf 60), .string (cutB dt 100), .slice A52 fs.length c53], 5, false, false⟩ from (f9 p51 (by omega)).trans hP), (show Mine H33 H9 A52 c53 4 (fs.map Entry.cells) from Mine.other hM3 hbl (by omega) f9), (show Ext H24 H9 from Ext.step hxb hb0 (by omega) f9), (show p51 < H9.next from by omega), (show H44.next ≤ H9.next from by omega)⟩ (by simp only; omega)
    · rw [Bool.not_eq_true] at hc58; rw [hc58]
      rw [if_neg Bool.false_ne_true]
      have hc58 := of_decide_eq_false hc58
      refine aw_exit ?_
      try show aw _ _ _ _ _ _
      refine aw_seq ?_
      refine aw_reg ?_
      refine st_op (ev_move rfl) rfl rfl rfl ?_
      refine st_op (ev_move rfl) rfl rfl rfl ?_
      refine st_call rfl rfl rfl ent14 rfl rfl rfl ?_
      have hr59 := hM3.row
      obtain ⟨_, _, hs60, hs60v, hs60h⟩ := first_spec Hl p51 (by omega) x tm (cutB cf 60) (cutB dt 100) A52 fs c53 hP hr59 (by have := hM3.cap (by simp; omega); simpa using this) (by omega) (by omega) (by omega)
      rw [hs60v, hs60h] at hs60; clear hs60v hs60h
      refine ⟨_, _, hs60, ?_⟩
      refine st_call rfl rfl rfl ent13 rfl rfl rfl ?_
      obtain ⟨_, H65, hs64, A61, c62, hs64v, hm63, hx66⟩ := get_spec Hl p51 (by omega) x tm (cutB cf 60) (cutB dt 100) A52 fs c53 hP hr59 (by have := hM3.cap (by simp; omega); simpa using this) (by omega) (by omega) (by omega) (x + 1) 20
      rw [getE_first _ _ (by decide), List.take_of_length_le (show fs.length ≤ (20 : Int).toNat from Nat.le_trans hfsl (by decide))] at hs64v hm63
      rw [hs64v] at hs64; clear hs64v
      have hx66n := hx66.1
      refine ⟨_, H65, hs64, ?_⟩
      have hB67 := (hx66.2 p51 (by omega)).trans hP
      have hm68 := Mine.ext hM3 hx66
      have hm69 := Mine.ext hm1l hx66
      refine st_op (ev_assign rfl) rfl rfl rfl ?_
      try show aw _ _ _ _ _ _
      refine aw_seq ?_
      refine aw_seq ?_
      refine aw_reg ?_
      refine st_op (ev_assign rfl) rfl rfl rfl ?_
      try show aw _ _ _ _ _ _
      refine aw_block ?_
      refine aw_keep [1, 7, 9, 10] (l' := (.cons 1 (.slice A15 fs.length c16) (.cons 7 (.pointer (some ⟨p51, 0, none⟩)) (.cons 9 (.slice A61 fs.length c62) (.cons 10 (.int .i64 0) .nil))))) (by repeat (first | exact Up.done | refine Up.then ?_ | refine Up.inBlock ?_)) rfl ?_
      refine aw_iter (α := Nat × List (List Value) × Heap) (fun a => fs.length - a.1) (fun a => (.cons 1 (.slice A15 fs.length c16) (.cons 7 (.pointer (some ⟨p51, 0, none⟩)) (.cons 9 (.slice A61 fs.length c62) (.cons 10 (.int .i64 (a.1 : Int)) .nil))))) (fun a => a.2.2) (fun a => (a.1 ≤ fs.length) ∧ (a.2.1.length = fs.length) ∧ (Mine Hl a.2.2 A61 c62 4 a.2.1) ∧ (Ext Hl a.2.2) ∧ (H65.next ≤ a.2.2.next)) (0, fs.map Entry.cells, H65) ⟨(show 0 ≤ fs.length from Nat.zero_le _), (show (fs.map Entry.cells).length = fs.length from by simp), (show Mine Hl H65 A61 c62 4 (fs.map Entry.cells) from hm63), (show Ext Hl H65 from hx66), (show H65.next ≤ H65.next from Nat.le_refl _)⟩ ?_
      rintro ⟨k, rws, Hk⟩ ⟨hk, hrl2, hM2, hxg, hnk⟩ ih70
      replace hk : k ≤ fs.length := hk
      replace hrl2 : rws.length = fs.length := hrl2
      replace hM2 : Mine Hl Hk A61 c62 4 rws := hM2
      replace hxg : Ext Hl Hk := hxg
      replace hnk : H65.next ≤ Hk.next := hnk
      show aw _ _ _ (RL _ (.cons 1 (.slice A15 fs.length c16) (.cons 7 (.pointer (some ⟨p51, 0, none⟩)) (.cons 9 (.slice A61 fs.length c62) (.cons 10 (.int .i64 (k : Int)) .nil))))) Hk _
      have hPg := (hxg.2 p51 (by omega)).trans hP
      have hM1g := Mine.ext hm1l hxg
      have hM3g := Mine.ext hM3 hxg
      refine aw_seq ?_
      refine aw_seq ?_
      refine aw_reg ?_
      refine st_op (ev_move rfl) rfl rfl rfl ?_
      refine st_op (ev_move rfl) rfl rfl rfl ?_
      refine st_op (ev_lenSl rfl Try.underlying24) rfl rfl rfl ?_
      refine st_op (ev_int rfl rfl rfl) rfl rfl rfl ?_
      try show aw _ _ _ _ _ _
      refine aw_cond (t := decide ((k : Int) < (fs.length : Int))) rfl ?_
      by_cases hc71 : (decide ((k : Int) < (fs.length : Int))) = true
      · rw [hc71]
        rw [if_pos rfl]
        have hc71 := of_decide_eq_true hc71
        refine aw_skip ?_
        try show aw _ _ _ _ _ _
        refine aw_seq ?_
        refine aw_block ?_
        refine aw_reg ?_
        refine st_op (ev_move rfl) rfl rfl rfl ?_
        refine st_op (ev_move rfl) rfl rfl rfl ?_
        obtain ⟨b, hbA, hbc, hO, hb0⟩ := hM2.own (by omega)
        obtain ⟨r, hr⟩ : ∃ r, rws[k]? = some r := ⟨_, List.getElem?_eq_getElem (by omega)⟩
        have hi0 : 0 ≤ (k : Int) := by omega
        have hi1 : (k : Int) < ((fs.length : Nat) : Int) := by omega
        refine st_op (ev_indexAddr (b := b) (o := 0) (m := fs.length) (c := c62) (by rw [← hbA]; rfl) rfl hi0 hi1 el24 (o' := 0 + k * 4) rfl) rfl rfl rfl ?_
        refine st_op (ev_fieldAddr rfl fa37_2 (o' := 0 + k * 4 + 2) rfl) rfl rfl rfl ?_
        obtain ⟨H9, he9, H9n, hO9, f9⟩ := mem_storeRow (v := .int .i64 (-4)) (k := 2) size3 rfl rfl hO hr (by decide)
        refine st_op0 (he9 _ _ _ _ _ _ _ _ _ rfl rfl) rfl rfl ?_
        try show aw _ _ _ _ _ _
        refine aw_reg ?_
        refine st_op (ev_move rfl) rfl rfl rfl ?_
        refine st_op (ev_int64 (c := (k : Int) + 1) rfl rfl rfl (by omega) (by omega)) rfl rfl rfl ?_
        refine st_op (ev_assign rfl) rfl rfl rfl ?_
        try show aw _ _ _ _ _ _
        refine aw_keep [1, 7, 9, 10] (l' := (.cons 1 (.slice A15 fs.length c16) (.cons 7 (.pointer (some ⟨p51, 0, none⟩)) (.cons 9 (.slice A61 fs.length c62) (.cons 10 (.int .i64 ((k : Int) + 1)) .nil))))) (by repeat (first | exact Up.done | refine Up.then ?_ | refine Up.inBlock ?_)) rfl ?_
        exact ih70 (k + 1, rws.set k (r.set 2 (.int .i64 (-4))), H9) ⟨(show (k + 1) ≤ fs.length from by omega), (show (rws.set k (r.set 2 (.int .i64 (-4)))).length = fs.length from by rw [List.length_set]; exact hrl2), (show Mine Hl H9 A61 c62 4 (rws.set k (r.set 2 (.int .i64 (-4)))) from .inr ⟨b, hbA, hbc, hO9, hb0⟩), (show Ext Hl H9 from Ext.step hxg hb0 (by omega) f9), (show H65.next ≤ H9.next from by omega)⟩ (by simp only; omega)
      · rw [Bool.not_eq_true] at hc71; rw [hc71]
        rw [if_neg Bool.false_ne_true]
        have hc71 := of_decide_eq_false hc71
        refine aw_exit ?_
        try show aw _ _ _ _ _ _
        refine aw_seq ?_
        refine aw_reg ?_
        refine st_op (ev_move rfl) rfl rfl rfl ?_
        refine st_op (ev_move rfl) rfl rfl rfl ?_
        refine st_call rfl rfl rfl ent14 rfl rfl rfl ?_
        have hr72 := hM3g.row
        obtain ⟨_, _, hs73, hs73v, hs73h⟩ := first_spec Hk p51 (by omega) x tm (cutB cf 60) (cutB dt 100) A52 fs c53 hPg hr72 (by have := hM3g.cap (by simp; omega); simpa using this) (by omega) (by omega) (by omega)
        rw [hs73v, hs73h] at hs73; clear hs73v hs73h
        refine ⟨_, _, hs73, ?_⟩
        refine st_call rfl rfl rfl ent13 rfl rfl rfl ?_
        obtain ⟨_, H78, hs77, A74, c75, hs77v, hm76, hx79⟩ := get_spec Hk p51 (by omega) x tm (cutB cf 60) (cutB dt 100) A52 fs c53 hPg hr72 (by have := hM3g.cap (by simp; omega); simpa using this) (by omega) (by omega) (by omega) (x + 1) 20
        rw [getE_first _ _ (by decide), List.take_of_length_le (show fs.length ≤ (20 : Int).toNat from Nat.le_trans hfsl (by decide))] at hs77v hm76
        rw [hs77v] at hs77; clear hs77v
        have hx79n := hx79.1
        refine ⟨_, H78, hs77, ?_⟩
        have hB80 := (hx79.2 p51 (by omega)).trans hPg
        have hm81 := Mine.ext hM3g hx79
        have hm82 := Mine.ext hM1g hx79
        refine st_op (ev_move rfl) rfl rfl rfl ?_
        refine st_call rfl rfl rfl ent17 rfl rfl rfl ?_
        have hr83 := hm76.row
        have hr84 := hm82.row
        obtain ⟨_, H86, hs85, hs85v, hx87⟩ := eqentries_spec H78 A74 fs c75 hr83 (by have := hm76.cap (by simp; omega); simpa using this) (by omega) A15 fs c16 hr84 (by have := hm82.cap (by simp; omega); simpa using this) (by omega)
        rw [hs85v] at hs85; clear hs85v
        have hx87n := hx87.1
        refine ⟨_, H86, hs85, ?_⟩
        have hB88 := (hx87.2 p51 (by omega)).trans hB80
        have hm89 := Mine.ext hm81 hx87
        have hm90 := Mine.ext hm82 hx87
        have hm91 := Mine.ext hm76 hx87
        have hr92 := Row.ext hr83 hx87
        have hr93 := Row.ext hr84 hx87
        refine st_op (ev_assign rfl) rfl rfl rfl ?_
        try show aw _ _ _ _ _ _
        refine aw_ret ?_
        exact ⟨_, rfl, by first | rfl | (simp [eqEs_refl, oneOrAll])⟩
theorem term_spec (H : Heap) (p : Nat) (hp : p < H.next) (x tm : Int) (cf dt : ByteArray) (A : Option Addr) (es : List Entry) (c : Nat) (hB : H.blk p = some ⟨[.int .i64 x, .int .i64 tm, .string cf, .string dt, .slice A es.length c], 5, false, false⟩) (hrow : Row H A c 4 (es.map Entry.cells)) (hc : es.length ≤ c) (hm : es.length ≤ 1000000) (hx0 : 0 ≤ x) (hx1 : x ≤ 1099511627776) (i : Int) : ∃ v H', Spec Try.prog 18 [.pointer (some ⟨p, 0, none⟩), .int .i64 i] H v H' ∧ (v = .tuple #[.int .i64 (termOf x tm es i).1, .bool (termOf x tm es i).2] ∧ H' = H) := by
  refine spec_go2 E0_ok 48 (f := 18) Try.func18 rfl rfl rfl ?_
  refine aw_seq ?_
  refine aw_reg ?_
  refine st_op (ev_assign rfl) rfl rfl rfl ?_
  refine st_op (ev_assign rfl) rfl rfl rfl ?_
  try show aw _ _ _ _ _ _
  refine aw_seq ?_
  refine aw_block ?_
  refine aw_seq ?_
  refine aw_reg ?_
  refine st_op (ev_move rfl) rfl rfl rfl ?_
  refine st_op (ev_nilEq rfl rfl Try.underlying28) rfl rfl rfl ?_
  refine st_op (ev_move rfl) rfl rfl rfl ?_
  refine st_op (ev_move rfl) rfl rfl rfl ?_
  refine st_op (ev_move rfl) rfl rfl rfl ?_
  refine st_op (ev_nilCheck rfl) rfl rfl rfl ?_
  refine st_op (ev_fieldAddr rfl fa67_0 (o' := 0) rfl) rfl rfl rfl ?_
  refine st_op (ev_fieldAddr rfl fa23_0 (o' := 0) rfl) rfl rfl rfl ?_
  refine st_op (ev_load rfl (lvar_one one2 hB rfl)) rfl rfl rfl ?_
  refine st_op (ev_int rfl rfl rfl) rfl rfl rfl ?_
  refine st_op (ev_pickF rfl rfl) rfl rfl rfl ?_
  refine st_op (ev_move rfl) rfl rfl rfl ?_
  refine st_bool 18 rfl (fun hb1 => ?_) (fun hb1 => ?_)
  ·
    have hb1 := of_decide_eq_true hb1
    refine st_skip rfl rfl rfl ?_
    refine st_skip rfl rfl rfl ?_
    refine st_skip rfl rfl rfl ?_
    refine st_skip rfl rfl rfl ?_
    refine st_op (ev_pickT rfl rfl) rfl rfl rfl ?_
    refine st_op (ev_assign rfl) rfl rfl rfl ?_
    try show aw _ _ _ _ _ _
    refine aw_cond (t := true) rfl ?_
    try show aw _ _ _ _ _ _
    refine aw_seq ?_
    refine aw_reg ?_
    refine st_op (ev_assign rfl) rfl rfl rfl ?_
    refine st_op (ev_assign rfl) rfl rfl rfl ?_
    try show aw _ _ _ _ _ _
    refine aw_ret ?_
    have ht : termOf x tm es i = (0, false) := by first | rw [termOf, if_pos (by omega)] | rw [termOf, if_neg (by omega), if_pos (by omega)]
    exact ⟨_, rfl, by rw [ht]; rfl, rfl⟩
  ·
    have hb1 := of_decide_eq_false hb1
    refine st_op (ev_move rfl) rfl rfl rfl ?_
    refine st_op (ev_move rfl) rfl rfl rfl ?_
    refine st_call rfl rfl rfl ent16 rfl rfl rfl ?_
    obtain ⟨_, _, hs2, hs2v, hs2h⟩ := last_spec H p (by omega) x tm cf dt A es c hB hrow hc (by omega) (by omega) (by omega)
    rw [hs2v, hs2h] at hs2; clear hs2v hs2h
    refine ⟨_, _, hs2, ?_⟩
    refine st_op (ev_int rfl rfl rfl) rfl rfl rfl ?_
    refine st_op (ev_pickF rfl rfl) rfl rfl rfl ?_
    refine st_op (ev_assign rfl) rfl rfl rfl ?_
    try show aw _ _ _ _ _ _
    refine aw_cond (t := decide (i > x + (es.length : Int))) rfl ?_
    by_cases hc3 : (decide (i > x + (es.length : Int))) = true
    · rw [hc3]
      rw [if_pos rfl]
      have hc3 := of_decide_eq_true hc3
      refine aw_seq ?_
      refine aw_reg ?_
      refine st_op (ev_assign rfl) rfl rfl rfl ?_
      refine st_op (ev_assign rfl) rfl rfl rfl ?_
      try show aw _ _ _ _ _ _
      refine aw_ret ?_
      have ht : termOf x tm es i = (0, false) := by first | rw [termOf, if_pos (by omega)] | rw [termOf, if_neg (by omega), if_pos (by omega)]
      exact ⟨_, rfl, by rw [ht]; rfl, rfl⟩
    · rw [Bool.not_eq_true] at hc3; rw [hc3]
      rw [if_neg Bool.false_ne_true]
      have hc3 := of_decide_eq_false hc3
      refine aw_seq ?_
      refine aw_reg ?_
      refine st_op (ev_move rfl) rfl rfl rfl ?_
      refine st_op (ev_move rfl) rfl rfl rfl ?_
      refine st_op (ev_nilCheck rfl) rfl rfl rfl ?_
      refine st_op (ev_fieldAddr rfl fa67_0 (o' := 0) rfl) rfl rfl rfl ?_
      refine st_op (ev_fieldAddr rfl fa23_0 (o' := 0) rfl) rfl rfl rfl ?_
      refine st_op (ev_load rfl (lvar_one one2 hB rfl)) rfl rfl rfl ?_
      refine st_op (ev_int rfl rfl rfl) rfl rfl rfl ?_
      refine st_op (ev_assign rfl) rfl rfl rfl ?_
      try show aw _ _ _ _ _ _
      refine aw_cond (t := i == x) rfl ?_
      by_cases hc4 : (i == x) = true
      · rw [hc4]
        rw [if_pos rfl]
        have hc4 := eq_of_beq hc4
        refine aw_seq ?_
        refine aw_reg ?_
        refine st_op (ev_move rfl) rfl rfl rfl ?_
        refine st_op (ev_nilCheck rfl) rfl rfl rfl ?_
        refine st_op (ev_fieldAddr rfl fa67_0 (o' := 0) rfl) rfl rfl rfl ?_
        refine st_op (ev_fieldAddr rfl fa23_1 (o' := 1) rfl) rfl rfl rfl ?_
        refine st_op (ev_load rfl (lvar_one one2 hB rfl)) rfl rfl rfl ?_
        refine st_op (ev_assign rfl) rfl rfl rfl ?_
        refine st_op (ev_assign rfl) rfl rfl rfl ?_
        try show aw _ _ _ _ _ _
        refine aw_ret ?_
        have ht : termOf x tm es i = (tm, true) := by first | rw [termOf, if_pos (by omega)] | rw [termOf, if_neg (by omega), if_pos (by omega)]
        exact ⟨_, rfl, by rw [ht]; rfl, rfl⟩
      · rw [Bool.not_eq_true] at hc4; rw [hc4]
        rw [if_neg Bool.false_ne_true]
        have hc4 := ne_of_beq_false hc4
        refine aw_skip ?_
        try show aw _ _ _ _ _ _
        refine aw_seq ?_
        refine aw_marks (fun b => b < H.next) [(false, false), (false, false), (false, false), (true, false), (false, false), (false, false), (false, true), (false, false), (false, false), (false, false), (false, false), (false, false), (false, false)] mixed (by kernel_rfl) (by kernel_rfl) ?_
        refine sm_op (ev_move rfl) rfl rfl rfl ?_
        refine sm_op (ev_nilCheck rfl) rfl rfl rfl ?_
        refine sm_op (ev_fieldAddr rfl fa67_1 (o' := 4) rfl) rfl rfl rfl ?_
        refine sm_read (ev_load rfl (lvar_one one24 hB rfl)) rfl rfl rfl (fun b hb => by cases hb; dsimp only; omega) ?_
        refine sm_op (ev_move rfl) rfl rfl rfl ?_
        refine sm_op (ev_move rfl) rfl rfl rfl ?_
        refine sm_call rfl rfl rfl ent14 rfl rfl rfl ?_
        obtain ⟨_, _, hs5, hs5v, hs5h⟩ := first_spec H p (by omega) x tm cf dt A es c hB hrow hc (by omega) (by omega) (by omega)
        rw [hs5v, hs5h] at hs5; clear hs5v hs5h
        refine ⟨_, _, hs5, (fun _ _ _ => rfl), ?_⟩
        refine sm_op (ev_int64 (c := i - (x + 1)) rfl rfl rfl (by omega) (by omega)) rfl rfl rfl ?_
        have hi6 : 0 ≤ (i - (x + 1) : Int) := by omega
        have hi7 : (i - (x + 1) : Int) < ((es.length : Nat) : Int) := by omega
        obtain ⟨x8, hx9⟩ : ∃ e, es[((i - (x + 1))).toNat]? = some e := ⟨_, List.getElem?_eq_getElem (by omega)⟩
        obtain ⟨b10, o11, rfl, hr12⟩ := Row.at_ hrow (getMap Entry.cells hx9)
        have b10lt := hr12.1
        refine sm_op (ev_indexAddr rfl rfl hi6 hi7 el24 (o' := o11 + (((i - (x + 1))).toNat) * 4) (by first | rfl | (simp only [Int.toNat_natCast]; rfl) | simp)) rfl rfl rfl ?_
        refine sm_op (ev_fieldAddr rfl fa37_1 (o' := o11 + (((i - (x + 1))).toNat) * 4 + 1) rfl) rfl rfl rfl ?_
        refine sm_op (ev_load rfl (hr12.lvar (k := 1) one2 (getMap Entry.cells hx9) rfl)) rfl rfl rfl ?_
        refine sm_op (ev_assign rfl) rfl rfl rfl ?_
        refine sm_op (ev_assign rfl) rfl rfl rfl ?_
        try show aw _ _ _ _ _ _
        refine aw_ret ?_
        have ht : termOf x tm es i = (x8.term, true) := by first | rw [termOf, if_pos (by omega)] | rw [termOf, if_neg (by omega), if_pos (by omega)] | rw [termOf, if_neg (by omega), if_neg (by omega), hx9]
        exact ⟨_, rfl, by rw [ht]; rfl, rfl⟩
theorem fits_spec (H : Heap) (p : Nat) (hp : p < H.next) (x tm : Int) (cf dt : ByteArray) (A : Option Addr) (es : List Entry) (c : Nat) (hB : H.blk p = some ⟨[.int .i64 x, .int .i64 tm, .string cf, .string dt, .slice A es.length c], 5, false, false⟩) (hrow : Row H A c 4 (es.map Entry.cells)) (hc : es.length ≤ c) (hm : es.length ≤ 1000000) (hx0 : 0 ≤ x) (hx1 : x ≤ 1099511627776) (i t : Int) : ∃ v H', Spec Try.prog 27 [.pointer (some ⟨p, 0, none⟩), .int .i64 i, .int .i64 t] H v H' ∧ (v = .bool (fitsB x tm es i t) ∧ H' = H) := by
  refine spec_go3 E0_ok 21 (f := 27) Try.func27 rfl rfl rfl ?_
  refine aw_seq ?_
  refine aw_reg ?_
  refine st_op (ev_assign rfl) rfl rfl rfl ?_
  try show aw _ _ _ _ _ _
  refine aw_seq ?_
  refine aw_reg ?_
  refine st_op (ev_move rfl) rfl rfl rfl ?_
  refine st_op (ev_move rfl) rfl rfl rfl ?_
  refine st_call rfl rfl rfl ent18 rfl rfl rfl ?_
  obtain ⟨_, _, hs1, hs1v, hs1h⟩ := term_spec H p (by omega) x tm cf dt A es c hB hrow hc (by omega) (by omega) (by omega) i
  rw [hs1v, hs1h] at hs1; clear hs1v hs1h
  refine ⟨_, _, hs1, ?_⟩
  refine st_op (ev_move rfl) rfl rfl rfl ?_
  refine st_op (ev_extract rfl rfl) rfl rfl rfl ?_
  refine st_op (ev_extract rfl rfl) rfl rfl rfl ?_
  refine st_op (ev_assign rfl) rfl rfl rfl ?_
  refine st_op (ev_assign rfl) rfl rfl rfl ?_
  try show aw _ _ _ _ _ _
  refine aw_seq ?_
  refine aw_reg ?_
  refine st_op (ev_move rfl) rfl rfl rfl ?_
  refine st_op (ev_move rfl) rfl rfl rfl ?_
  refine st_bool 16 rfl (fun hb2 => ?_) (fun hb2 => ?_)
  ·
    refine st_op (ev_move rfl) rfl rfl rfl ?_
    refine st_op (ev_move rfl) rfl rfl rfl ?_
    refine st_op (ev_int rfl rfl rfl) rfl rfl rfl ?_
    refine st_op (ev_pickT rfl rfl) rfl rfl rfl ?_
    refine st_op (ev_assign rfl) rfl rfl rfl ?_
    try show aw _ _ _ _ _ _
    refine aw_ret ?_
    exact ⟨_, rfl, by simp_all [fitsB, oneOrAll], rfl⟩
  ·
    refine st_skip rfl rfl rfl ?_
    refine st_skip rfl rfl rfl ?_
    refine st_skip rfl rfl rfl ?_
    refine st_op (ev_pickF rfl rfl) rfl rfl rfl ?_
    refine st_op (ev_assign rfl) rfl rfl rfl ?_
    try show aw _ _ _ _ _ _
    refine aw_ret ?_
    exact ⟨_, rfl, by simp_all [fitsB, oneOrAll], rfl⟩
theorem newer_spec (H : Heap) (p : Nat) (hp : p < H.next) (x tm : Int) (cf dt : ByteArray) (A : Option Addr) (es : List Entry) (c : Nat) (hB : H.blk p = some ⟨[.int .i64 x, .int .i64 tm, .string cf, .string dt, .slice A es.length c], 5, false, false⟩) (hrow : Row H A c 4 (es.map Entry.cells)) (hc : es.length ≤ c) (hm : es.length ≤ 1000000) (hx0 : 0 ≤ x) (hx1 : x ≤ 1099511627776) (i t : Int) : ∃ v H', Spec Try.prog 19 [.pointer (some ⟨p, 0, none⟩), .int .i64 i, .int .i64 t] H v H' ∧ (v = .bool (newerB x tm es i t) ∧ H' = H) := by
  refine spec_go3 E0_ok 32 (f := 19) Try.func19 rfl rfl rfl ?_
  refine aw_seq ?_
  refine aw_reg ?_
  refine st_op (ev_assign rfl) rfl rfl rfl ?_
  try show aw _ _ _ _ _ _
  refine aw_seq ?_
  refine aw_seq ?_
  refine aw_reg ?_
  refine st_op (ev_move rfl) rfl rfl rfl ?_
  refine st_op (ev_nilEq rfl rfl Try.underlying28) rfl rfl rfl ?_
  try show aw _ _ _ _ _ _
  refine aw_cond (t := false) rfl ?_
  try show aw _ _ _ _ _ _
  refine aw_skip ?_
  try show aw _ _ _ _ _ _
  refine aw_seq ?_
  refine aw_reg ?_
  refine st_op (ev_move rfl) rfl rfl rfl ?_
  refine st_op (ev_move rfl) rfl rfl rfl ?_
  refine st_call rfl rfl rfl ent16 rfl rfl rfl ?_
  obtain ⟨_, _, hs1, hs1v, hs1h⟩ := last_spec H p (by omega) x tm cf dt A es c hB hrow hc (by omega) (by omega) (by omega)
  rw [hs1v, hs1h] at hs1; clear hs1v hs1h
  refine ⟨_, _, hs1, ?_⟩
  refine st_call rfl rfl rfl ent18 rfl rfl rfl ?_
  obtain ⟨_, _, hs2, hs2v, hs2h⟩ := term_spec H p (by omega) x tm cf dt A es c hB hrow hc (by omega) (by omega) (by omega) (x + (es.length : Int))
  rw [hs2v, hs2h] at hs2; clear hs2v hs2h
  refine ⟨_, _, hs2, ?_⟩
  refine st_op (ev_move rfl) rfl rfl rfl ?_
  refine st_op (ev_extract rfl rfl) rfl rfl rfl ?_
  refine st_op (ev_extract rfl rfl) rfl rfl rfl ?_
  refine st_op (ev_assign rfl) rfl rfl rfl ?_
  refine st_op (ev_assign rfl) rfl rfl rfl ?_
  try show aw _ _ _ _ _ _
  refine aw_seq ?_
  refine aw_reg ?_
  refine st_op (ev_move rfl) rfl rfl rfl ?_
  refine st_op (ev_move rfl) rfl rfl rfl ?_
  refine st_op (ev_int rfl rfl rfl) rfl rfl rfl ?_
  refine st_op (ev_move rfl) rfl rfl rfl ?_
  refine st_bool 21 rfl (fun hb3 => ?_) (fun hb3 => ?_)
  ·
    have hb3 := of_decide_eq_true hb3
    refine st_skip rfl rfl rfl ?_
    refine st_skip rfl rfl rfl ?_
    refine st_skip rfl rfl rfl ?_
    refine st_skip rfl rfl rfl ?_
    refine st_skip rfl rfl rfl ?_
    refine st_skip rfl rfl rfl ?_
    refine st_skip rfl rfl rfl ?_
    refine st_skip rfl rfl rfl ?_
    refine st_skip rfl rfl rfl ?_
    refine st_op (ev_pickT rfl rfl) rfl rfl rfl ?_
    refine st_op (ev_assign rfl) rfl rfl rfl ?_
    try show aw _ _ _ _ _ _
    refine aw_ret ?_
    exact ⟨_, rfl, by simp_all [newerB, oneOrAll], rfl⟩
  ·
    have hb3 := of_decide_eq_false hb3
    refine st_op (ev_move rfl) rfl rfl rfl ?_
    refine st_op (ev_move rfl) rfl rfl rfl ?_
    refine st_op (ev_int rfl rfl rfl) rfl rfl rfl ?_
    refine st_op (ev_move rfl) rfl rfl rfl ?_
    refine st_bool 25 rfl (fun hb4 => ?_) (fun hb4 => ?_)
    ·
      have hb4 := eq_of_beq hb4
      refine st_op (ev_move rfl) rfl rfl rfl ?_
      refine st_op (ev_move rfl) rfl rfl rfl ?_
      refine st_call rfl rfl rfl ent16 rfl rfl rfl ?_
      obtain ⟨_, _, hs5, hs5v, hs5h⟩ := last_spec H p (by omega) x tm cf dt A es c hB hrow hc (by omega) (by omega) (by omega)
      rw [hs5v, hs5h] at hs5; clear hs5v hs5h
      refine ⟨_, _, hs5, ?_⟩
      refine st_op (ev_int rfl rfl rfl) rfl rfl rfl ?_
      refine st_op (ev_pickT rfl rfl) rfl rfl rfl ?_
      refine st_op (ev_pickF rfl rfl) rfl rfl rfl ?_
      refine st_op (ev_assign rfl) rfl rfl rfl ?_
      try show aw _ _ _ _ _ _
      refine aw_ret ?_
      exact ⟨_, rfl, by simp_all [newerB, oneOrAll], rfl⟩
    ·
      have hb4 := ne_of_beq_false hb4
      refine st_skip rfl rfl rfl ?_
      refine st_skip rfl rfl rfl ?_
      refine st_skip rfl rfl rfl ?_
      refine st_skip rfl rfl rfl ?_
      refine st_op (ev_pickF rfl rfl) rfl rfl rfl ?_
      refine st_op (ev_pickF rfl rfl) rfl rfl rfl ?_
      refine st_op (ev_assign rfl) rfl rfl rfl ?_
      try show aw _ _ _ _ _ _
      refine aw_ret ?_
      exact ⟨_, rfl, by simp_all [newerB, oneOrAll], rfl⟩
theorem put_spec (H : Heap) (p : Nat) (hp : p < H.next) (x tm : Int) (cf dt : ByteArray) (A : Option Addr) (es : List Entry) (c : Nat) (hB : H.blk p = some ⟨[.int .i64 x, .int .i64 tm, .string cf, .string dt, .slice A es.length c], 5, false, false⟩) (hrow : Row H A c 4 (es.map Entry.cells)) (hc : es.length ≤ c) (hm : es.length ≤ 1000000) (hx0 : 0 ≤ x) (hx1 : x ≤ 1099511627776) (A2 : Option Addr) (us : List Entry) (c2 : Nat) (hrow2 : Row H A2 c2 4 (us.map Entry.cells)) (hc2 : us.length ≤ c2) (hm2 : us.length ≤ 1000000) (hwu : ∀ u ∈ us, -9223372036854775808 ≤ u.index ∧ u.index ≤ 9223372036854775807) : ∃ v H', Spec Try.prog 15 [.pointer (some ⟨p, 0, none⟩), .slice A2 us.length c2] H v H' ∧ ((∃ b, putC x tm es us = some b ∧ v = .tuple #[.int .i64 0, .bool b] ∧ Ext H H') ∨ (∃ u l A' c', putC x tm es us = none ∧ us.dropWhile (stays x tm es) = u :: l ∧ v = .tuple #[.int .i64 u.index, .bool true] ∧ H'.blk p = some ⟨[.int .i64 x, .int .i64 tm, .string cf, .string dt, .slice A' (es.take (u.index - (x + 1)).toNat ++ u :: l).length c'], 5, false, false⟩ ∧ Mine H H' A' c' 4 ((es.take (u.index - (x + 1)).toNat ++ u :: l).map Entry.cells) ∧ Ext1 p H H')) := by
  refine spec_go2 E0_ok 110 (f := 15) Try.func15 rfl rfl rfl ?_
  refine aw_seq ?_
  refine aw_reg ?_
  refine st_op (ev_assign rfl) rfl rfl rfl ?_
  refine st_op (ev_assign rfl) rfl rfl rfl ?_
  try show aw _ _ _ _ _ _
  refine aw_seq ?_
  refine aw_seq ?_
  refine aw_reg ?_
  refine st_op (ev_move rfl) rfl rfl rfl ?_
  refine st_op (ev_nilEq rfl rfl Try.underlying28) rfl rfl rfl ?_
  try show aw _ _ _ _ _ _
  refine aw_cond (t := false) rfl ?_
  try show aw _ _ _ _ _ _
  refine aw_skip ?_
  try show aw _ _ _ _ _ _
  refine aw_seq ?_
  refine aw_seq ?_
  refine aw_reg ?_
  refine st_op (ev_move rfl) rfl rfl rfl ?_
  refine st_op (ev_lenSl rfl Try.underlying24) rfl rfl rfl ?_
  refine st_op (ev_int rfl rfl rfl) rfl rfl rfl ?_
  try show aw _ _ _ _ _ _
  refine aw_cond (t := (us.length : Int) == 0) rfl ?_
  by_cases hc1 : ((us.length : Int) == 0) = true
  · rw [hc1]
    rw [if_pos rfl]
    have hc1 := eq_of_beq hc1
    refine aw_seq ?_
    refine aw_reg ?_
    refine st_op (ev_assign rfl) rfl rfl rfl ?_
    refine st_op (ev_assign rfl) rfl rfl rfl ?_
    try show aw _ _ _ _ _ _
    refine aw_ret ?_
    obtain rfl : us = [] := List.eq_nil_of_length_eq_zero (by omega)
    exact ⟨_, rfl, .inl ⟨true, rfl, rfl, (Ext.refl H)⟩⟩
  · rw [Bool.not_eq_true] at hc1; rw [hc1]
    rw [if_neg Bool.false_ne_true]
    have hc1 := ne_of_beq_false hc1
    refine aw_skip ?_
    try show aw _ _ _ _ _ _
    refine aw_seq ?_
    refine aw_seq ?_
    refine aw_marks (fun b => b < H.next) [(false, false), (false, false), (false, false), (true, false), (false, false), (false, true), (false, false), (false, false), (false, false), (false, false), (false, false), (false, false), (false, false), (false, false), (false, false), (false, false), (false, false), (false, false), (false, false), (false, false), (false, false), (false, false)] mixed (by kernel_rfl) (by kernel_rfl) ?_
    refine sm_op (ev_move rfl) rfl rfl rfl ?_
    have hi2 : 0 ≤ (0 : Int) := by omega
    have hi3 : (0 : Int) < ((us.length : Nat) : Int) := by omega
    obtain ⟨x4, hx5⟩ : ∃ e, us[0]? = some e := ⟨_, List.getElem?_eq_getElem (by omega)⟩
    obtain ⟨b6, o7, rfl, hr8⟩ := Row.at_ hrow2 (getMap Entry.cells hx5)
    have b6lt := hr8.1
    refine sm_op (ev_indexAddr rfl rfl hi2 hi3 el24 (o' := o7 + 0 * 4) (by first | rfl | (simp only [Int.toNat_natCast]; rfl) | simp)) rfl rfl rfl ?_
    refine sm_op (ev_fieldAddr rfl fa37_0 (o' := o7 + 0 * 4) rfl) rfl rfl rfl ?_
    refine sm_read (ev_load rfl (hr8.lvar0 one2 (getMap Entry.cells hx5) rfl)) rfl rfl rfl (fun b hb => by cases hb; dsimp only; omega) ?_
    refine sm_op (ev_move rfl) rfl rfl rfl ?_
    refine sm_call rfl rfl rfl ent16 rfl rfl rfl ?_
    obtain ⟨_, _, hs9, hs9v, hs9h⟩ := last_spec H p (by omega) x tm cf dt A es c hB hrow hc (by omega) (by omega) (by omega)
    rw [hs9v, hs9h] at hs9; clear hs9v hs9h
    refine ⟨_, _, hs9, (fun _ _ _ => rfl), ?_⟩
    refine sm_op (ev_int64 (c := (x + (es.length : Int)) + 1) rfl rfl rfl (by omega) (by omega)) rfl rfl rfl ?_
    refine sm_op (ev_int rfl rfl rfl) rfl rfl rfl ?_
    refine sm_op (ev_move rfl) rfl rfl rfl ?_
    refine sm_bool 23 rfl (fun hb10 => ?_) (fun hb10 => ?_)
    ·
      have hb10 := of_decide_eq_true hb10
      refine sm_skip rfl rfl rfl ?_
      refine sm_skip rfl rfl rfl ?_
      refine sm_skip rfl rfl rfl ?_
      refine sm_skip rfl rfl rfl ?_
      refine sm_skip rfl rfl rfl ?_
      refine sm_skip rfl rfl rfl ?_
      refine sm_skip rfl rfl rfl ?_
      refine sm_skip rfl rfl rfl ?_
      refine sm_skip rfl rfl rfl ?_
      refine sm_skip rfl rfl rfl ?_
      refine sm_skip rfl rfl rfl ?_
      refine sm_skip rfl rfl rfl ?_
      refine sm_op (ev_pickT rfl rfl) rfl rfl rfl ?_
      try show aw _ _ _ _ _ _
      refine aw_cond (t := true) rfl ?_
      try show aw _ _ _ _ _ _
      refine aw_seq ?_
      refine aw_reg ?_
      refine st_op (ev_assign rfl) rfl rfl rfl ?_
      refine st_op (ev_assign rfl) rfl rfl rfl ?_
      try show aw _ _ _ _ _ _
      refine aw_ret ?_
      exact ⟨_, rfl, .inl ⟨false, putC_bad hx5 (by first | exact .inl (by omega) | exact .inr (by assumption)), rfl, (Ext.refl H)⟩⟩
    ·
      have hb10 := of_decide_eq_false hb10
      refine sm_op (ev_move rfl) rfl rfl rfl ?_
      have hi11 : 0 ≤ (0 : Int) := by omega
      have hi12 : (0 : Int) < ((us.length : Nat) : Int) := by omega
      refine sm_op (ev_indexAddr rfl rfl hi11 hi12 el24 (o' := o7 + 0 * 4) (by first | rfl | (simp only [Int.toNat_natCast]; rfl) | simp)) rfl rfl rfl ?_
      refine sm_op (ev_fieldAddr rfl fa37_0 (o' := o7 + 0 * 4) rfl) rfl rfl rfl ?_
      refine sm_op (ev_load rfl (hr8.lvar0 one2 (getMap Entry.cells hx5) rfl)) rfl rfl rfl ?_
      refine sm_op (ev_int rfl rfl rfl) rfl rfl rfl ?_
      refine sm_op (ev_move rfl) rfl rfl rfl ?_
      have hi15 : 0 ≤ (0 : Int) := by omega
      have hi16 : (0 : Int) < ((us.length : Nat) : Int) := by omega
      refine sm_op (ev_indexAddr rfl rfl hi15 hi16 el24 (o' := o7 + 0 * 4) (by first | rfl | (simp only [Int.toNat_natCast]; rfl) | simp)) rfl rfl rfl ?_
      refine sm_op (ev_fieldAddr rfl fa37_1 (o' := o7 + 0 * 4 + 1) rfl) rfl rfl rfl ?_
      refine sm_op (ev_load rfl (hr8.lvar (k := 1) one2 (getMap Entry.cells hx5) rfl)) rfl rfl rfl ?_
      refine sm_op (ev_move rfl) rfl rfl rfl ?_
      refine sm_call rfl rfl rfl ent35 rfl rfl rfl ?_
      obtain ⟨_, H20, hs19, hs19v, hx21⟩ := row_spec H (IntKind.i64.wrap (x4.index - 1)) x4.term (some ⟨b6, o7, none⟩) us c2 (hr8.row) hc2 (by omega)
      rw [hs19v] at hs19; clear hs19v
      have hx21n := hx21.1
      refine ⟨_, H20, hs19, (fun _ b hb => hx21.2 b (by omega)), ?_⟩
      have hB22 := (hx21.2 p (by omega)).trans hB
      have hr23 := Row.ext hrow hx21
      have hr24 := RowIn.next hr8 hx21.1 (hx21.2 b6 hr8.1)
      have hx25 : Ext H H20 := Ext.trans (Ext.refl H) hx21
      refine sm_op (ev_not rfl) rfl rfl rfl ?_
      refine sm_op (ev_pickF rfl rfl) rfl rfl rfl ?_
      try show aw _ _ _ _ _ _
      refine aw_cond (t := !(rowOk (IntKind.i64.wrap (x4.index - 1)) x4.term us)) rfl ?_
      by_cases hc26 : (!(rowOk (IntKind.i64.wrap (x4.index - 1)) x4.term us)) = true
      · rw [hc26]
        rw [if_pos rfl]
        have hc26 : (rowOk (IntKind.i64.wrap (x4.index - 1)) x4.term us) = false := by simpa using hc26
        refine aw_seq ?_
        refine aw_reg ?_
        refine st_op (ev_assign rfl) rfl rfl rfl ?_
        refine st_op (ev_assign rfl) rfl rfl rfl ?_
        try show aw _ _ _ _ _ _
        refine aw_ret ?_
        exact ⟨_, rfl, .inl ⟨false, putC_bad hx5 (by first | exact .inl (by omega) | exact .inr (by assumption)), rfl, hx25⟩⟩
      · rw [Bool.not_eq_true] at hc26; rw [hc26]
        rw [if_neg Bool.false_ne_true]
        have hc26 : (rowOk (IntKind.i64.wrap (x4.index - 1)) x4.term us) = true := by simpa using hc26
        refine aw_skip ?_
        try show aw _ _ _ _ _ _
        refine aw_seq ?_
        refine aw_block ?_
        have hrok : rowOk (IntKind.i64.wrap (x4.index - 1)) x4.term us = true := by assumption
        refine aw_keep [0, 1] (l' := (.cons 0 (.pointer (some ⟨p, 0, none⟩)) (.cons 1 (.slice (some ⟨b6, o7, none⟩) us.length c2) .nil))) (by repeat (first | exact Up.done | refine Up.then ?_ | refine Up.inBlock ?_)) rfl ?_
        refine aw_iter (α := Option Addr × Nat × List Entry × Heap) (fun a => a.2.2.1.length) (fun a => (.cons 0 (.pointer (some ⟨p, 0, none⟩)) (.cons 1 (.slice a.1 a.2.2.1.length a.2.1) .nil))) (fun a => a.2.2.2) (fun a => (us.dropWhile (stays x tm es) = a.2.2.1.dropWhile (stays x tm es)) ∧ (Row a.2.2.2 a.1 a.2.1 4 (a.2.2.1.map Entry.cells)) ∧ (a.2.2.1.length ≤ a.2.1) ∧ (a.2.2.1.length ≤ us.length) ∧ (conseq a.2.2.1) ∧ (∀ u ∈ a.2.2.1, -9223372036854775808 ≤ u.index ∧ u.index ≤ 9223372036854775807) ∧ (∀ u, a.2.2.1[0]? = some u → u.index ≤ x + es.length + 1) ∧ (Ext H a.2.2.2)) ((some ⟨b6, o7, none⟩), c2, us, H20) ⟨(show us.dropWhile (stays x tm es) = us.dropWhile (stays x tm es) from rfl), (show Row H20 (some ⟨b6, o7, none⟩) c2 4 (us.map Entry.cells) from (hr24.row)), (show us.length ≤ c2 from hc2), (show us.length ≤ us.length from Nat.le_refl _), (show conseq us from rowOk_conseq hrok), (show ∀ u ∈ us, -9223372036854775808 ≤ u.index ∧ u.index ≤ 9223372036854775807 from hwu), (show ∀ u, us[0]? = some u → u.index ≤ x + es.length + 1 from fun u hu => by rw [hx5] at hu; cases hu; omega), (show Ext H H20 from hx25)⟩ ?_
        rintro ⟨As, cs, L, Hl⟩ ⟨hv, hr, hcs, hll, hcq, hwL, hK, hx⟩ ih27
        replace hv : us.dropWhile (stays x tm es) = L.dropWhile (stays x tm es) := hv
        replace hr : Row Hl As cs 4 (L.map Entry.cells) := hr
        replace hcs : L.length ≤ cs := hcs
        replace hll : L.length ≤ us.length := hll
        replace hcq : conseq L := hcq
        replace hwL : ∀ u ∈ L, -9223372036854775808 ≤ u.index ∧ u.index ≤ 9223372036854775807 := hwL
        replace hK : ∀ u, L[0]? = some u → u.index ≤ x + es.length + 1 := hK
        replace hx : Ext H Hl := hx
        show aw _ _ _ (RL _ (.cons 0 (.pointer (some ⟨p, 0, none⟩)) (.cons 1 (.slice As L.length cs) .nil))) Hl _
        have hxn := hx.1
        have hBl := (hx.2 p hp).trans hB
        have hrl := Row.ext hrow hx
        refine aw_seq ?_
        refine aw_seq ?_
        refine aw_marks (fun b => b < Hl.next) [(false, false), (false, false), (false, false), (false, false), (false, false), (false, false), (false, false), (false, false), (false, false), (false, false), (false, false), (false, false), (false, false), (false, false), (false, false), (false, false), (false, false), (false, false), (false, false), (false, false), (false, false), (false, false), (false, false), (false, false), (false, false), (false, false), (false, false)] mixed (by kernel_rfl) (by kernel_rfl) ?_
        refine sm_op (ev_move rfl) rfl rfl rfl ?_
        refine sm_op (ev_lenSl rfl Try.underlying24) rfl rfl rfl ?_
        refine sm_op (ev_int rfl rfl rfl) rfl rfl rfl ?_
        refine sm_op (ev_move rfl) rfl rfl rfl ?_
        refine sm_bool 40 rfl (fun hb28 => ?_) (fun hb28 => ?_)
        ·
          have hb28 := of_decide_eq_true hb28
          refine sm_op (ev_move rfl) rfl rfl rfl ?_
          have hi29 : 0 ≤ (0 : Int) := by omega
          have hi30 : (0 : Int) < ((L.length : Nat) : Int) := by omega
          obtain ⟨x31, hx32⟩ : ∃ e, L[0]? = some e := ⟨_, List.getElem?_eq_getElem (by omega)⟩
          obtain ⟨b33, o34, rfl, hr35⟩ := Row.at_ hr (getMap Entry.cells hx32)
          have b33lt := hr35.1
          refine sm_op (ev_indexAddr rfl rfl hi29 hi30 el24 (o' := o34 + 0 * 4) (by first | rfl | (simp only [Int.toNat_natCast]; rfl) | simp)) rfl rfl rfl ?_
          have hWx31 := hwL _ (List.mem_of_getElem? hx32)
          have hKx31 := hK _ hx32
          refine sm_op (ev_fieldAddr rfl fa37_0 (o' := o34 + 0 * 4) rfl) rfl rfl rfl ?_
          refine sm_op (ev_load rfl (hr35.lvar0 one2 (getMap Entry.cells hx32) rfl)) rfl rfl rfl ?_
          refine sm_op (ev_move rfl) rfl rfl rfl ?_
          refine sm_op (ev_nilCheck rfl) rfl rfl rfl ?_
          refine sm_op (ev_fieldAddr rfl fa67_0 (o' := 0) rfl) rfl rfl rfl ?_
          refine sm_op (ev_fieldAddr rfl fa23_0 (o' := 0) rfl) rfl rfl rfl ?_
          refine sm_op (ev_load rfl (lvar_one one2 hBl rfl)) rfl rfl rfl ?_
          refine sm_op (ev_int rfl rfl rfl) rfl rfl rfl ?_
          refine sm_op (ev_move rfl) rfl rfl rfl ?_
          refine sm_bool 51 rfl (fun hb36 => ?_) (fun hb36 => ?_)
          ·
            have hb36 := of_decide_eq_true hb36
            refine sm_skip rfl rfl rfl ?_
            refine sm_skip rfl rfl rfl ?_
            refine sm_skip rfl rfl rfl ?_
            refine sm_skip rfl rfl rfl ?_
            refine sm_skip rfl rfl rfl ?_
            refine sm_skip rfl rfl rfl ?_
            refine sm_skip rfl rfl rfl ?_
            refine sm_skip rfl rfl rfl ?_
            refine sm_skip rfl rfl rfl ?_
            refine sm_skip rfl rfl rfl ?_
            refine sm_op (ev_pickT rfl rfl) rfl rfl rfl ?_
            refine sm_op (ev_pickT rfl rfl) rfl rfl rfl ?_
            try show aw _ _ _ _ _ _
            refine aw_cond (t := true) rfl ?_
            try show aw _ _ _ _ _ _
            refine aw_skip ?_
            try show aw _ _ _ _ _ _
            refine aw_block ?_
            refine aw_reg ?_
            refine st_op (ev_move rfl) rfl rfl rfl ?_
            obtain ⟨A37, c38, L39, hL40, hl41, hs42, hr43, hc44⟩ := sliceA_typed Entry.cells el24 (by decide) (hr35.row) hcs (lo := some (.int .i64 1)) (hi := none) (l := 1) (h := L.length) rfl (bound_int (by omega) (by omega) rfl) (by omega) (by omega)
            refine st_op (ev_slice rfl rfl rfl rfl hs42) rfl rfl rfl ?_
            refine st_op (ev_assign rfl) rfl rfl rfl ?_
            try show aw _ _ _ _ _ _
            refine aw_keep [0, 1] (l' := (.cons 0 (.pointer (some ⟨p, 0, none⟩)) (.cons 1 (.slice A37 L39.length c38) .nil))) (by repeat (first | exact Up.done | refine Up.then ?_ | refine Up.inBlock ?_)) rfl ?_
            have hLc : L = x31 :: L39 := by have h0 := head_drop hx32; rw [hL40, List.take_of_length_le (by simp)]; exact h0
            have hst : stays x tm es x31 = true := by simp only [stays, Bool.or_eq_true, decide_eq_true_eq]; first | exact .inl (by omega) | exact .inr (by assumption)
            exact ih27 (A37, c38, L39, Hl) ⟨(show us.dropWhile (stays x tm es) = L39.dropWhile (stays x tm es) from by rw [hv, hLc, List.dropWhile_cons_of_pos hst]), (show Row Hl A37 c38 4 (L39.map Entry.cells) from hr43), (show L39.length ≤ c38 from hc44), (show L39.length ≤ us.length from by omega), (show conseq L39 from conseq_tail (hLc ▸ hcq)), (show ∀ u ∈ L39, -9223372036854775808 ≤ u.index ∧ u.index ≤ 9223372036854775807 from fun u hu => hwL u (by rw [hLc]; exact List.mem_cons_of_mem _ hu)), (show ∀ u, L39[0]? = some u → u.index ≤ x + es.length + 1 from next_le (m := x + es.length) (hLc ▸ hcq) hWx31.1 (by first | omega | exact fits_le (by assumption)) (by omega)), (show Ext H Hl from hx)⟩ (by simp only; omega)
          ·
            have hb36 := of_decide_eq_false hb36
            refine sm_op (ev_move rfl) rfl rfl rfl ?_
            refine sm_op (ev_move rfl) rfl rfl rfl ?_
            have hi45 : 0 ≤ (0 : Int) := by omega
            have hi46 : (0 : Int) < ((L.length : Nat) : Int) := by omega
            refine sm_op (ev_indexAddr rfl rfl hi45 hi46 el24 (o' := o34 + 0 * 4) (by first | rfl | (simp only [Int.toNat_natCast]; rfl) | simp)) rfl rfl rfl ?_
            refine sm_op (ev_fieldAddr rfl fa37_0 (o' := o34 + 0 * 4) rfl) rfl rfl rfl ?_
            refine sm_op (ev_load rfl (hr35.lvar0 one2 (getMap Entry.cells hx32) rfl)) rfl rfl rfl ?_
            refine sm_op (ev_move rfl) rfl rfl rfl ?_
            have hi49 : 0 ≤ (0 : Int) := by omega
            have hi50 : (0 : Int) < ((L.length : Nat) : Int) := by omega
            refine sm_op (ev_indexAddr rfl rfl hi49 hi50 el24 (o' := o34 + 0 * 4) (by first | rfl | (simp only [Int.toNat_natCast]; rfl) | simp)) rfl rfl rfl ?_
            refine sm_op (ev_fieldAddr rfl fa37_1 (o' := o34 + 0 * 4 + 1) rfl) rfl rfl rfl ?_
            refine sm_op (ev_load rfl (hr35.lvar (k := 1) one2 (getMap Entry.cells hx32) rfl)) rfl rfl rfl ?_
            refine sm_call rfl rfl rfl ent27 rfl rfl rfl ?_
            obtain ⟨_, _, hs53, hs53v, hs53h⟩ := fits_spec Hl p (by omega) x tm cf dt A es c hBl hrl hc (by omega) (by omega) (by omega) x31.index x31.term
            rw [hs53v, hs53h] at hs53; clear hs53v hs53h
            refine ⟨_, _, hs53, (fun _ _ _ => rfl), ?_⟩
            refine sm_op (ev_pickF rfl rfl) rfl rfl rfl ?_
            refine sm_op (ev_pickT rfl rfl) rfl rfl rfl ?_
            try show aw _ _ _ _ _ _
            refine aw_cond (t := (fitsB x tm es x31.index x31.term)) rfl ?_
            by_cases hc54 : (fitsB x tm es x31.index x31.term) = true
            · rw [hc54]
              rw [if_pos rfl]
              refine aw_skip ?_
              try show aw _ _ _ _ _ _
              refine aw_block ?_
              refine aw_reg ?_
              refine st_op (ev_move rfl) rfl rfl rfl ?_
              obtain ⟨A55, c56, L57, hL58, hl59, hs60, hr61, hc62⟩ := sliceA_typed Entry.cells el24 (by decide) (hr35.row) hcs (lo := some (.int .i64 1)) (hi := none) (l := 1) (h := L.length) rfl (bound_int (by omega) (by omega) rfl) (by omega) (by omega)
              refine st_op (ev_slice rfl rfl rfl rfl hs60) rfl rfl rfl ?_
              refine st_op (ev_assign rfl) rfl rfl rfl ?_
              try show aw _ _ _ _ _ _
              refine aw_keep [0, 1] (l' := (.cons 0 (.pointer (some ⟨p, 0, none⟩)) (.cons 1 (.slice A55 L57.length c56) .nil))) (by repeat (first | exact Up.done | refine Up.then ?_ | refine Up.inBlock ?_)) rfl ?_
              have hLc : L = x31 :: L57 := by have h0 := head_drop hx32; rw [hL58, List.take_of_length_le (by simp)]; exact h0
              have hst : stays x tm es x31 = true := by simp only [stays, Bool.or_eq_true, decide_eq_true_eq]; first | exact .inl (by omega) | exact .inr (by assumption)
              exact ih27 (A55, c56, L57, Hl) ⟨(show us.dropWhile (stays x tm es) = L57.dropWhile (stays x tm es) from by rw [hv, hLc, List.dropWhile_cons_of_pos hst]), (show Row Hl A55 c56 4 (L57.map Entry.cells) from hr61), (show L57.length ≤ c56 from hc62), (show L57.length ≤ us.length from by omega), (show conseq L57 from conseq_tail (hLc ▸ hcq)), (show ∀ u ∈ L57, -9223372036854775808 ≤ u.index ∧ u.index ≤ 9223372036854775807 from fun u hu => hwL u (by rw [hLc]; exact List.mem_cons_of_mem _ hu)), (show ∀ u, L57[0]? = some u → u.index ≤ x + es.length + 1 from next_le (m := x + es.length) (hLc ▸ hcq) hWx31.1 (by first | omega | exact fits_le (by assumption)) (by omega)), (show Ext H Hl from hx)⟩ (by simp only; omega)
            · rw [Bool.not_eq_true] at hc54; rw [hc54]
              rw [if_neg Bool.false_ne_true]
              refine aw_exit ?_
              try show aw _ _ _ _ _ _
              refine aw_seq ?_
              refine aw_seq ?_
              refine aw_reg ?_
              refine st_op (ev_move rfl) rfl rfl rfl ?_
              refine st_op (ev_lenSl rfl Try.underlying24) rfl rfl rfl ?_
              refine st_op (ev_int rfl rfl rfl) rfl rfl rfl ?_
              try show aw _ _ _ _ _ _
              refine aw_cond (t := (L.length : Int) == 0) rfl ?_
              by_cases hc63 : ((L.length : Int) == 0) = true
              · rw [hc63]
                rw [if_pos rfl]
                have hc63 := eq_of_beq hc63
                exfalso; omega
              · rw [Bool.not_eq_true] at hc63; rw [hc63]
                rw [if_neg Bool.false_ne_true]
                have hc63 := ne_of_beq_false hc63
                refine aw_skip ?_
                try show aw _ _ _ _ _ _
                refine aw_seq ?_
                refine aw_reg ?_
                refine st_op (ev_move rfl) rfl rfl rfl ?_
                have hi64 : 0 ≤ (0 : Int) := by omega
                have hi65 : (0 : Int) < ((L.length : Nat) : Int) := by omega
                refine st_op (ev_indexAddr rfl rfl hi64 hi65 el24 (o' := o34 + 0 * 4) (by first | rfl | (simp only [Int.toNat_natCast]; rfl) | simp)) rfl rfl rfl ?_
                refine st_op (ev_fieldAddr rfl fa37_0 (o' := o34 + 0 * 4) rfl) rfl rfl rfl ?_
                refine st_op (ev_load rfl (hr35.lvar0 one2 (getMap Entry.cells hx32) rfl)) rfl rfl rfl ?_
                refine st_op (ev_assign rfl) rfl rfl rfl ?_
                try show aw _ _ _ _ _ _
                refine aw_seq ?_
                refine aw_reg ?_
                refine st_op (ev_move rfl) rfl rfl rfl ?_
                refine st_op (ev_move rfl) rfl rfl rfl ?_
                refine st_call rfl rfl rfl ent14 rfl rfl rfl ?_
                obtain ⟨_, _, hs68, hs68v, hs68h⟩ := first_spec Hl p (by omega) x tm cf dt A es c hBl hrl hc (by omega) (by omega) (by omega)
                rw [hs68v, hs68h] at hs68; clear hs68v hs68h
                refine ⟨_, _, hs68, ?_⟩
                refine st_op (ev_int64 (c := x31.index - (x + 1)) rfl rfl rfl (by omega) (by omega)) rfl rfl rfl ?_
                refine st_op (ev_assign rfl) rfl rfl rfl ?_
                try show aw _ _ _ _ _ _
                refine aw_seq ?_
                refine aw_seq ?_
                refine aw_reg ?_
                refine st_op (ev_move rfl) rfl rfl rfl ?_
                refine st_op (ev_move rfl) rfl rfl rfl ?_
                refine st_op (ev_int64 (c := x31.index - 1) rfl rfl rfl (by omega) (by omega)) rfl rfl rfl ?_
                refine st_call rfl rfl rfl ent18 rfl rfl rfl ?_
                obtain ⟨_, _, hs69, hs69v, hs69h⟩ := term_spec Hl p (by omega) x tm cf dt A es c hBl hrl hc (by omega) (by omega) (by omega) (x31.index - 1)
                rw [hs69v, hs69h] at hs69; clear hs69v hs69h
                refine ⟨_, _, hs69, ?_⟩
                refine st_op (ev_move rfl) rfl rfl rfl ?_
                refine st_op (ev_extract rfl rfl) rfl rfl rfl ?_
                refine st_op (ev_extract rfl rfl) rfl rfl rfl ?_
                refine st_op (ev_assign rfl) rfl rfl rfl ?_
                refine st_op (ev_assign rfl) rfl rfl rfl ?_
                try show aw _ _ _ _ _ _
                refine aw_seq ?_
                refine aw_reg ?_
                refine st_op (ev_move rfl) rfl rfl rfl ?_
                have hi70 : 0 ≤ (0 : Int) := by omega
                have hi71 : (0 : Int) < ((L.length : Nat) : Int) := by omega
                refine st_op (ev_indexAddr rfl rfl hi70 hi71 el24 (o' := o34 + 0 * 4) (by first | rfl | (simp only [Int.toNat_natCast]; rfl) | simp)) rfl rfl rfl ?_
                refine st_op (ev_fieldAddr rfl fa37_1 (o' := o34 + 0 * 4 + 1) rfl) rfl rfl rfl ?_
                refine st_op (ev_load rfl (hr35.lvar (k := 1) one2 (getMap Entry.cells hx32) rfl)) rfl rfl rfl ?_
                refine st_op (ev_move rfl) rfl rfl rfl ?_
                refine st_op (ev_int rfl rfl rfl) rfl rfl rfl ?_
                refine st_op (ev_move rfl) rfl rfl rfl ?_
                refine st_bool 90 rfl (fun hb74 => ?_) (fun hb74 => ?_)
                ·
                  have hb74 := of_decide_eq_true hb74
                  refine st_skip rfl rfl rfl ?_
                  refine st_skip rfl rfl rfl ?_
                  refine st_skip rfl rfl rfl ?_
                  refine st_skip rfl rfl rfl ?_
                  refine st_skip rfl rfl rfl ?_
                  refine st_op (ev_pickT rfl rfl) rfl rfl rfl ?_
                  try show aw _ _ _ _ _ _
                  refine aw_cond (t := true) rfl ?_
                  try show aw _ _ _ _ _ _
                  refine aw_seq ?_
                  refine aw_reg ?_
                  refine st_op (ev_assign rfl) rfl rfl rfl ?_
                  refine st_op (ev_assign rfl) rfl rfl rfl ?_
                  try show aw _ _ _ _ _ _
                  refine aw_ret ?_
                  have hLe := head_drop hx32
                  have hdw : us.dropWhile (stays x tm es) = x31 :: L.drop 1 := by rw [hv]; exact dw_head hx32 (show stays x tm es x31 = false by simp only [stays, Bool.or_eq_false_iff, decide_eq_false_iff_not]; exact ⟨by omega, by assumption⟩)
                  have hll1 : (L.drop 1).length + 1 = L.length := by rw [List.length_drop]; omega
                  exact ⟨_, rfl, .inl ⟨false, putC_full hx5 (by omega) hrok hdw (by omega), rfl, hx⟩⟩
                ·
                  have hb74 := of_decide_eq_false hb74
                  refine st_op (ev_move rfl) rfl rfl rfl ?_
                  refine st_op (ev_move rfl) rfl rfl rfl ?_
                  refine st_op (ev_lenSl rfl Try.underlying24) rfl rfl rfl ?_
                  refine st_op (ev_int64 (c := (x31.index - (x + 1)) + (L.length : Int)) rfl rfl rfl (by omega) (by omega)) rfl rfl rfl ?_
                  refine st_op (ev_int rfl rfl rfl) rfl rfl rfl ?_
                  refine st_op (ev_pickF rfl rfl) rfl rfl rfl ?_
                  try show aw _ _ _ _ _ _
                  refine aw_cond (t := decide ((x31.index - (x + 1)) + (L.length : Int) > 200)) rfl ?_
                  by_cases hc75 : (decide ((x31.index - (x + 1)) + (L.length : Int) > 200)) = true
                  · rw [hc75]
                    rw [if_pos rfl]
                    have hc75 := of_decide_eq_true hc75
                    refine aw_seq ?_
                    refine aw_reg ?_
                    refine st_op (ev_assign rfl) rfl rfl rfl ?_
                    refine st_op (ev_assign rfl) rfl rfl rfl ?_
                    try show aw _ _ _ _ _ _
                    refine aw_ret ?_
                    have hLe := head_drop hx32
                    have hdw : us.dropWhile (stays x tm es) = x31 :: L.drop 1 := by rw [hv]; exact dw_head hx32 (show stays x tm es x31 = false by simp only [stays, Bool.or_eq_false_iff, decide_eq_false_iff_not]; exact ⟨by omega, by assumption⟩)
                    have hll1 : (L.drop 1).length + 1 = L.length := by rw [List.length_drop]; omega
                    exact ⟨_, rfl, .inl ⟨false, putC_full hx5 (by omega) hrok hdw (by omega), rfl, hx⟩⟩
                  · rw [Bool.not_eq_true] at hc75; rw [hc75]
                    rw [if_neg Bool.false_ne_true]
                    have hc75 := of_decide_eq_false hc75
                    refine aw_skip ?_
                    try show aw _ _ _ _ _ _
                    refine aw_seq ?_
                    refine aw_reg ?_
                    refine st_op (ev_move rfl) rfl rfl rfl ?_
                    refine st_op (ev_move rfl) rfl rfl rfl ?_
                    refine st_op (ev_nilCheck rfl) rfl rfl rfl ?_
                    refine st_op (ev_fieldAddr rfl fa67_1 (o' := 4) rfl) rfl rfl rfl ?_
                    refine st_op (ev_load rfl (lvar_one one24 hBl rfl)) rfl rfl rfl ?_
                    refine st_op (ev_move rfl) rfl rfl rfl ?_
                    refine st_op (ev_move rfl) rfl rfl rfl ?_
                    obtain ⟨A76, c77, L78, hL79, hl80, hs81, hr82, hc83, hO85, hA84⟩ := sliceA_cap Entry.cells el24 (by decide) hrl hc (k1 := .i64) (k2 := .i64) (i := x31.index - (x + 1)) (by omega) (by omega) (by omega)
                    refine st_op (ev_slice rfl rfl rfl rfl hs81) rfl rfl rfl ?_
                    refine st_op (ev_move rfl) rfl rfl rfl ?_
                    obtain ⟨b86, H87, he88, b86e, H87n, ho90, f89⟩ := mem_append_new (m := L78.length) (mx := L.length) (by simp) (by simp) eok24 (by decide) hr82 (hr35.row) (by rw [List.length_map]; omega) hO85 (by rw [List.length_map, List.length_map]; omega) hA84 (map_len (f := Entry.cells) (fun _ => rfl) _) (map_len (f := Entry.cells) (fun _ => rfl) _) (flat_one (f := Entry.cells) (fun _ => rfl) _) (by rw [List.length_map, List.length_map]; omega) (by rw [List.length_map, List.length_map]; omega)
                    rw [← List.map_append] at ho90
                    refine st_op (he88 _ _ _ _ _ _ _ _ _ _ rfl rfl isrow24) rfl rfl rfl ?_
                    have hB91 := (f89 p (by omega)).trans hBl
                    have hr92 := Row.alloc hrl b86e (by omega) f89
                    have hr93 := RowIn.next hr35 (show Hl.next ≤ H87.next by omega) (f89 b33 (by have := hr35.1; omega))
                    have hr94 := Row.alloc hr82 b86e (by omega) f89
                    have hx95 : Ext H H87 := Ext.step hx (b := b86) (by have := (hx).1; omega) (by omega) f89
                    refine st_op (ev_nilCheck rfl) rfl rfl rfl ?_
                    refine st_op (ev_fieldAddr rfl fa67_1 (o' := 4) rfl) rfl rfl rfl ?_
                    obtain ⟨H96, he97, H96n, hB98, f99⟩ := mem_store (v := .slice (some ⟨b86, 0, none⟩) (L78.length + L.length) OPEN) (o := 4) (cs' := [.int .i64 x, .int .i64 tm, .string cf, .string dt, .slice (some ⟨b86, 0, none⟩) (L78.length + L.length) OPEN]) 1 rfl rfl size24 hB91 rfl rfl rfl
                    refine st_op0 (he97 _ _ _ _ _ _ _ _ _ rfl rfl) rfl rfl ?_
                    have hr100 := Row.write hr92 hB91 (by decide) (by omega) f99
                    have hr101 := RowIn.next hr93 (show H87.next ≤ H96.next by omega) (f99 b33 (RowIn.ne hr93 hB91 (by decide)))
                    have hr102 := Row.write hr94 hB91 (by decide) (by omega) f99
                    have hr103 := Own.same ho90 (show H87.next ≤ H96.next by omega) (f99 b86 (RowIn.ne ho90.in_ hB91 (by decide)))
                    have hx104 : Ext1 p H H96 := Ext1.step (Ext.one hx95 p) (b := p) (.inr rfl) (by omega) f99
                    try show aw _ _ _ _ _ _
                    refine aw_seq ?_
                    refine aw_reg ?_
                    refine st_op (ev_move rfl) rfl rfl rfl ?_
                    refine st_op (ev_assign rfl) rfl rfl rfl ?_
                    refine st_op (ev_assign rfl) rfl rfl rfl ?_
                    try show aw _ _ _ _ _ _
                    refine aw_ret ?_
                    have hLe := head_drop hx32
                    have hdw : us.dropWhile (stays x tm es) = x31 :: L.drop 1 := by rw [hv]; exact dw_head hx32 (show stays x tm es x31 = false by simp only [stays, Bool.or_eq_false_iff, decide_eq_false_iff_not]; exact ⟨by omega, by assumption⟩)
                    have hll1 : (L.drop 1).length + 1 = L.length := by rw [List.length_drop]; omega
                    have hpc := putC_go hx5 (by omega) hrok hdw (by omega)
                    refine ⟨_, rfl, .inr ⟨x31, L.drop 1, (some ⟨b86, 0, none⟩), OPEN, hpc, hdw, rfl, ?_, ?_, hx104⟩⟩
                    · rw [← hLe, ← hL79, List.length_append]; exact hB98
                    · rw [← hLe, ← hL79]; exact .inr ⟨b86, rfl, rfl, hr103, by omega⟩
        ·
          have hb28 := of_decide_eq_false hb28
          refine sm_skip rfl rfl rfl ?_
          refine sm_skip rfl rfl rfl ?_
          refine sm_skip rfl rfl rfl ?_
          refine sm_skip rfl rfl rfl ?_
          refine sm_skip rfl rfl rfl ?_
          refine sm_skip rfl rfl rfl ?_
          refine sm_skip rfl rfl rfl ?_
          refine sm_skip rfl rfl rfl ?_
          refine sm_skip rfl rfl rfl ?_
          refine sm_skip rfl rfl rfl ?_
          refine sm_skip rfl rfl rfl ?_
          refine sm_skip rfl rfl rfl ?_
          refine sm_skip rfl rfl rfl ?_
          refine sm_skip rfl rfl rfl ?_
          refine sm_skip rfl rfl rfl ?_
          refine sm_skip rfl rfl rfl ?_
          refine sm_skip rfl rfl rfl ?_
          refine sm_skip rfl rfl rfl ?_
          refine sm_skip rfl rfl rfl ?_
          refine sm_skip rfl rfl rfl ?_
          refine sm_skip rfl rfl rfl ?_
          refine sm_skip rfl rfl rfl ?_
          refine sm_op (ev_pickF rfl rfl) rfl rfl rfl ?_
          try show aw _ _ _ _ _ _
          refine aw_cond (t := false) rfl ?_
          try show aw _ _ _ _ _ _
          refine aw_exit ?_
          try show aw _ _ _ _ _ _
          refine aw_seq ?_
          refine aw_seq ?_
          refine aw_reg ?_
          refine st_op (ev_move rfl) rfl rfl rfl ?_
          refine st_op (ev_lenSl rfl Try.underlying24) rfl rfl rfl ?_
          refine st_op (ev_int rfl rfl rfl) rfl rfl rfl ?_
          try show aw _ _ _ _ _ _
          refine aw_cond (t := (L.length : Int) == 0) rfl ?_
          by_cases hc105 : ((L.length : Int) == 0) = true
          · rw [hc105]
            rw [if_pos rfl]
            have hc105 := eq_of_beq hc105
            refine aw_seq ?_
            refine aw_reg ?_
            refine st_op (ev_assign rfl) rfl rfl rfl ?_
            refine st_op (ev_assign rfl) rfl rfl rfl ?_
            try show aw _ _ _ _ _ _
            refine aw_ret ?_
            have hLn : L = [] := List.eq_nil_of_length_eq_zero (by omega)
            exact ⟨_, rfl, .inl ⟨true, putC_done hx5 (by omega) hrok (by rw [hv, hLn]; rfl), rfl, hx⟩⟩
          · rw [Bool.not_eq_true] at hc105; rw [hc105]
            rw [if_neg Bool.false_ne_true]
            have hc105 := ne_of_beq_false hc105
            exfalso; omega
theorem logagain_spec (H : Heap) (x tm : Int) (cf dt : ByteArray) (A : Option Addr) (es : List Entry) (c : Nat) (hrow : Row H A c 4 (es.map Entry.cells)) (hc : es.length ≤ c) (hm : es.length ≤ 140737488351232) (fr n : Int) : ∃ v H', Spec Try.prog 3 [.agg #[.int .i64 x, .int .i64 tm, .string cf, .string dt], .slice A es.length c, .int .i64 fr, .int .i64 n] H v H' ∧ (v = .bool true) := by
  refine spec_go4 E0_ok 81 (f := 3) Try.func3 rfl rfl rfl ?_
  refine aw_seq ?_
  refine aw_reg ?_
  obtain ⟨b1, H2, he3, b1e, H2n, hB5, f4⟩ := mem_box (P := Try.prog) H (v := .agg #[.int .i64 x, .int .i64 tm, .string cf, .string dt]) (cs := [.int .i64 x, .int .i64 tm, .string cf, .string dt]) rfl rfl
  refine st_op (he3 _ _ _ _ _ _ _ _ _ rfl) rfl rfl rfl ?_
  have hr6 := Row.alloc hrow b1e (by omega) f4
  have hx7 : Ext H H2 := Ext.step (Ext.refl H) (b := b1) (by have := ((Ext.refl H)).1; omega) (by omega) f4
  refine st_op (ev_assign rfl) rfl rfl rfl ?_
  try show aw _ _ _ _ _ _
  refine aw_seq ?_
  refine aw_reg ?_
  refine st_call rfl rfl rfl ent9 rfl rfl rfl ?_
  obtain ⟨_, _, hs8, hs8v, hs8h⟩ := begun_spec H2
  rw [hs8v, hs8h] at hs8; clear hs8v hs8h
  refine ⟨_, _, hs8, ?_⟩
  refine st_op (ev_assign rfl) rfl rfl rfl ?_
  try show aw _ _ _ _ _ _
  refine aw_seq ?_
  refine aw_seq ?_
  refine aw_reg ?_
  refine st_op (ev_move rfl) rfl rfl rfl ?_
  refine st_op (ev_not rfl) rfl rfl rfl ?_
  try show aw _ _ _ _ _ _
  refine aw_cond (t := false) rfl ?_
  try show aw _ _ _ _ _ _
  refine aw_skip ?_
  try show aw _ _ _ _ _ _
  refine aw_seq ?_
  refine aw_reg ?_
  refine st_op (ev_load rfl (lvar_part (l := [.int .i64 x, .int .i64 tm, .string cf, .string dt]) many23 hB5 rfl rfl (by decide))) rfl rfl rfl ?_
  refine st_call rfl rfl rfl ent10 rfl rfl rfl ?_
  obtain ⟨_, H10, hs9, hs9v, hx11⟩ := snap_spec H2 x tm cf dt
  rw [hs9v] at hs9; clear hs9v
  have hx11n := hx11.1
  refine ⟨_, H10, hs9, ?_⟩
  have hr12 := Row.ext hr6 hx11
  have hB13 := (hx11.2 b1 (by omega)).trans hB5
  have hx14 : Ext H H10 := Ext.trans hx7 hx11
  refine st_op (ev_move rfl) rfl rfl rfl ?_
  refine st_call rfl rfl rfl ent11 rfl rfl rfl ?_
  obtain ⟨_, H19, hs18, A15, c16, hs18v, hm17, hx20⟩ := entries_spec H10 12 (by decide) (by decide) A es c hr12 hc (by omega)
  rw [hs18v] at hs18; clear hs18v
  generalize hfs : ((es).take (12 : Int).toNat).map Entry.cut = fs at hs18 hm17
  have hfsl : fs.length ≤ 12 := by rw [← hfs]; simp; omega
  have hx20n := hx20.1
  refine ⟨_, H19, hs18, ?_⟩
  have hr21 := Row.ext hr12 hx20
  have hB22 := (hx20.2 b1 (by omega)).trans hB13
  have hx23 : Ext H H19 := Ext.trans hx14 hx20
  obtain ⟨H24, he25, H24n, hB26, f27⟩ := mem_store (v := .agg #[.int .i64 x, .int .i64 tm, .string (cutB cf 60), .string (cutB dt 100)]) (o := 0) (cs' := [.int .i64 x, .int .i64 tm, .string (cutB cf 60), .string (cutB dt 100)]) 4 rfl rfl size23 hB22 rfl rfl rfl
  refine st_op0 (he25 _ _ _ _ _ _ _ _ _ rfl rfl) rfl rfl ?_
  have hm28 := Mine.other hm17 (by omega) (by omega) f27
  have hx29 : Ext H H24 := Ext.step hx23 (b := b1) (by have := (hx23).1; omega) (by omega) f27
  refine st_op (ev_assign rfl) rfl rfl rfl ?_
  try show aw _ _ _ _ _ _
  refine aw_seq ?_
  refine aw_reg ?_
  refine st_op (ev_load rfl (lvar_part (l := [.int .i64 x, .int .i64 tm, .string (cutB cf 60), .string (cutB dt 100)]) many23 hB26 rfl rfl (by decide))) rfl rfl rfl ?_
  refine st_op (ev_move rfl) rfl rfl rfl ?_
  refine st_call rfl rfl rfl ent12 rfl rfl rfl ?_
  have hr30 := hm28.row
  obtain ⟨v32, H33, hs31, hd35, hx34⟩ := new_spec H24 x tm (cutB cf 60) (cutB dt 100) A15 fs c16 hr30 (by have := hm28.cap (by simp; omega); simpa using this) (by omega)
  have hx34n := hx34.1
  have hm36 := Mine.ext hm28 hx34
  have hB37 := (hx34.2 b1 (by omega)).trans hB26
  have hx38 : Ext H H33 := Ext.trans hx29 hx34
  rcases hd35 with ⟨rfl, hok42⟩ | ⟨hok42, p39, A40, c41, rfl, hp43, hm44, p390, p391⟩
  ·
    refine ⟨_, H33, hs31, ?_⟩
    refine st_op (ev_assign rfl) rfl rfl rfl ?_
    try show aw _ _ _ _ _ _
    refine aw_seq ?_
    refine aw_seq ?_
    refine aw_reg ?_
    refine st_op (ev_move rfl) rfl rfl rfl ?_
    refine st_op (ev_nilEq rfl rfl Try.underlying28) rfl rfl rfl ?_
    refine st_op (ev_move rfl) rfl rfl rfl ?_
    refine st_skip rfl rfl rfl ?_
    refine st_skip rfl rfl rfl ?_
    refine st_skip rfl rfl rfl ?_
    refine st_op (ev_pickT rfl rfl) rfl rfl rfl ?_
    refine st_op (ev_move rfl) rfl rfl rfl ?_
    refine st_skip rfl rfl rfl ?_
    refine st_skip rfl rfl rfl ?_
    refine st_op (ev_pickT rfl rfl) rfl rfl rfl ?_
    refine st_op (ev_move rfl) rfl rfl rfl ?_
    refine st_skip rfl rfl rfl ?_
    refine st_skip rfl rfl rfl ?_
    refine st_op (ev_pickT rfl rfl) rfl rfl rfl ?_
    refine st_op (ev_move rfl) rfl rfl rfl ?_
    refine st_skip rfl rfl rfl ?_
    refine st_skip rfl rfl rfl ?_
    refine st_skip rfl rfl rfl ?_
    refine st_skip rfl rfl rfl ?_
    refine st_op (ev_pickT rfl rfl) rfl rfl rfl ?_
    try show aw _ _ _ _ _ _
    refine aw_cond (t := true) rfl ?_
    try show aw _ _ _ _ _ _
    refine aw_seq ?_
    refine aw_reg ?_
    refine st_op (ev_assign rfl) rfl rfl rfl ?_
    try show aw _ _ _ _ _ _
    refine aw_ret ?_
    first | exact ⟨_, rfl, rfl⟩ | (exfalso; omega) | (refine ⟨_, rfl, ?_⟩; simp [eqEs_refl, oneOrAll]; done)
  ·
    have hok42i := inTwo_iff (show inF [x, tm] = true by simp only [newOk, Bool.and_eq_true] at hok42; exact hok42.1.1)
    refine ⟨_, H33, hs31, ?_⟩
    refine st_op (ev_assign rfl) rfl rfl rfl ?_
    try show aw _ _ _ _ _ _
    refine aw_seq ?_
    refine aw_seq ?_
    refine aw_reg ?_
    refine st_op (ev_move rfl) rfl rfl rfl ?_
    refine st_op (ev_nilEq rfl rfl Try.underlying28) rfl rfl rfl ?_
    refine st_op (ev_move rfl) rfl rfl rfl ?_
    refine st_op (ev_move rfl) rfl rfl rfl ?_
    refine st_op (ev_lenSl rfl Try.underlying24) rfl rfl rfl ?_
    refine st_op (ev_int rfl rfl rfl) rfl rfl rfl ?_
    refine st_op (ev_pickF rfl rfl) rfl rfl rfl ?_
    refine st_op (ev_move rfl) rfl rfl rfl ?_
    refine st_bool 31 rfl (fun hb45 => ?_) (fun hb45 => ?_)
    ·
      have hb45 := eq_of_beq hb45
      refine st_skip rfl rfl rfl ?_
      refine st_skip rfl rfl rfl ?_
      refine st_op (ev_pickT rfl rfl) rfl rfl rfl ?_
      refine st_op (ev_move rfl) rfl rfl rfl ?_
      refine st_skip rfl rfl rfl ?_
      refine st_skip rfl rfl rfl ?_
      refine st_op (ev_pickT rfl rfl) rfl rfl rfl ?_
      refine st_op (ev_move rfl) rfl rfl rfl ?_
      refine st_skip rfl rfl rfl ?_
      refine st_skip rfl rfl rfl ?_
      refine st_skip rfl rfl rfl ?_
      refine st_skip rfl rfl rfl ?_
      refine st_op (ev_pickT rfl rfl) rfl rfl rfl ?_
      try show aw _ _ _ _ _ _
      refine aw_cond (t := true) rfl ?_
      try show aw _ _ _ _ _ _
      refine aw_seq ?_
      refine aw_reg ?_
      refine st_op (ev_assign rfl) rfl rfl rfl ?_
      try show aw _ _ _ _ _ _
      refine aw_ret ?_
      first | exact ⟨_, rfl, rfl⟩ | (exfalso; omega) | (refine ⟨_, rfl, ?_⟩; simp [eqEs_refl, oneOrAll]; done)
    ·
      have hb45 := ne_of_beq_false hb45
      refine st_op (ev_move rfl) rfl rfl rfl ?_
      refine st_op (ev_int rfl rfl rfl) rfl rfl rfl ?_
      refine st_op (ev_pickF rfl rfl) rfl rfl rfl ?_
      refine st_op (ev_move rfl) rfl rfl rfl ?_
      refine st_bool 35 rfl (fun hb46 => ?_) (fun hb46 => ?_)
      ·
        have hb46 := of_decide_eq_true hb46
        refine st_skip rfl rfl rfl ?_
        refine st_skip rfl rfl rfl ?_
        refine st_op (ev_pickT rfl rfl) rfl rfl rfl ?_
        refine st_op (ev_move rfl) rfl rfl rfl ?_
        refine st_skip rfl rfl rfl ?_
        refine st_skip rfl rfl rfl ?_
        refine st_skip rfl rfl rfl ?_
        refine st_skip rfl rfl rfl ?_
        refine st_op (ev_pickT rfl rfl) rfl rfl rfl ?_
        try show aw _ _ _ _ _ _
        refine aw_cond (t := true) rfl ?_
        try show aw _ _ _ _ _ _
        refine aw_seq ?_
        refine aw_reg ?_
        refine st_op (ev_assign rfl) rfl rfl rfl ?_
        try show aw _ _ _ _ _ _
        refine aw_ret ?_
        first | exact ⟨_, rfl, rfl⟩ | (exfalso; omega) | (refine ⟨_, rfl, ?_⟩; simp [eqEs_refl, oneOrAll]; done)
      ·
        have hb46 := of_decide_eq_false hb46
        refine st_op (ev_move rfl) rfl rfl rfl ?_
        refine st_op (ev_int rfl rfl rfl) rfl rfl rfl ?_
        refine st_op (ev_pickF rfl rfl) rfl rfl rfl ?_
        refine st_op (ev_move rfl) rfl rfl rfl ?_
        refine st_bool 39 rfl (fun hb47 => ?_) (fun hb47 => ?_)
        ·
          have hb47 := of_decide_eq_true hb47
          refine st_skip rfl rfl rfl ?_
          refine st_skip rfl rfl rfl ?_
          refine st_skip rfl rfl rfl ?_
          refine st_skip rfl rfl rfl ?_
          refine st_op (ev_pickT rfl rfl) rfl rfl rfl ?_
          try show aw _ _ _ _ _ _
          refine aw_cond (t := true) rfl ?_
          try show aw _ _ _ _ _ _
          refine aw_seq ?_
          refine aw_reg ?_
          refine st_op (ev_assign rfl) rfl rfl rfl ?_
          try show aw _ _ _ _ _ _
          refine aw_ret ?_
          first | exact ⟨_, rfl, rfl⟩ | (exfalso; omega) | (refine ⟨_, rfl, ?_⟩; simp [eqEs_refl, oneOrAll]; done)
        ·
          have hb47 := of_decide_eq_false hb47
          refine st_op (ev_move rfl) rfl rfl rfl ?_
          refine st_op (ev_move rfl) rfl rfl rfl ?_
          refine st_op (ev_lenSl rfl Try.underlying24) rfl rfl rfl ?_
          refine st_op (ev_int rfl rfl rfl) rfl rfl rfl ?_
          refine st_op (ev_pickF rfl rfl) rfl rfl rfl ?_
          try show aw _ _ _ _ _ _
          refine aw_cond (t := decide (fr ≥ (fs.length : Int))) rfl ?_
          by_cases hc48 : (decide (fr ≥ (fs.length : Int))) = true
          · rw [hc48]
            rw [if_pos rfl]
            have hc48 := of_decide_eq_true hc48
            refine aw_seq ?_
            refine aw_reg ?_
            refine st_op (ev_assign rfl) rfl rfl rfl ?_
            try show aw _ _ _ _ _ _
            refine aw_ret ?_
            first | exact ⟨_, rfl, rfl⟩ | (exfalso; omega) | (refine ⟨_, rfl, ?_⟩; simp [eqEs_refl, oneOrAll]; done)
          · rw [Bool.not_eq_true] at hc48; rw [hc48]
            rw [if_neg Bool.false_ne_true]
            have hc48 := of_decide_eq_false hc48
            refine aw_skip ?_
            try show aw _ _ _ _ _ _
            refine aw_seq ?_
            refine aw_reg ?_
            refine st_op (ev_move rfl) rfl rfl rfl ?_
            refine st_op (ev_move rfl) rfl rfl rfl ?_
            refine st_call rfl rfl rfl ent14 rfl rfl rfl ?_
            have hr49 := hm44.row
            obtain ⟨_, _, hs50, hs50v, hs50h⟩ := first_spec H33 p39 (by omega) x tm (cutB cf 60) (cutB dt 100) A40 fs c41 hp43 hr49 (by have := hm44.cap (by simp; omega); simpa using this) (by omega) (by omega) (by omega)
            rw [hs50v, hs50h] at hs50; clear hs50v hs50h
            refine ⟨_, _, hs50, ?_⟩
            refine st_op (ev_move rfl) rfl rfl rfl ?_
            refine st_op (ev_int64 (c := (x + 1) + fr) rfl rfl rfl (by omega) (by omega)) rfl rfl rfl ?_
            refine st_op (ev_move rfl) rfl rfl rfl ?_
            refine st_call rfl rfl rfl ent13 rfl rfl rfl ?_
            obtain ⟨_, H55, hs54, A51, c52, hs54v, hm53, hx56⟩ := get_spec H33 p39 (by omega) x tm (cutB cf 60) (cutB dt 100) A40 fs c41 hp43 hr49 (by have := hm44.cap (by simp; omega); simpa using this) (by omega) (by omega) (by omega) ((x + 1) + fr) n
            rw [hs54v] at hs54; clear hs54v
            have hgsl : (getE x fs ((x + 1) + fr) n).length ≤ 12 := Nat.le_trans (getE_len _ _ _ _) hfsl
            have hgsb : ∀ u ∈ getE x fs ((x + 1) + fr) n, -9223372036854775808 ≤ u.index ∧ u.index ≤ 9223372036854775807 := fun u hu => row_in (newOk_row hok42) (by omega) (by omega) (by omega) u (getE_sub u hu)
            have hgsp := again_put (n := n) (fr := fr) (newOk_row hok42) (by omega) (by omega) (by omega) (by omega) (by omega)
            generalize getE x fs ((x + 1) + fr) n = gs at hs54 hm53 hgsl hgsb hgsp
            have hx56n := hx56.1
            refine ⟨_, H55, hs54, ?_⟩
            have hm57 := Mine.ext hm36 hx56
            have hB58 := (hx56.2 b1 (by omega)).trans hB37
            have hB59 := (hx56.2 p39 (by omega)).trans hp43
            have hm60 := Mine.ext hm44 hx56
            have hx61 : Ext H H55 := Ext.trans hx38 hx56
            refine st_op (ev_assign rfl) rfl rfl rfl ?_
            try show aw _ _ _ _ _ _
            refine aw_seq ?_
            refine aw_reg ?_
            refine st_op (ev_move rfl) rfl rfl rfl ?_
            refine st_op (ev_move rfl) rfl rfl rfl ?_
            refine st_call rfl rfl rfl ent15 rfl rfl rfl ?_
            have hr62 := hm53.row
            have hr68 := hm60.row
            obtain ⟨v64, H65, hs63, hd66⟩ := put_spec H55 p39 (by omega) x tm (cutB cf 60) (cutB dt 100) A40 fs c41 hB59 hr68 (by have := hm60.cap (by simp; omega); simpa using this) (by omega) (by omega) (by omega) A51 gs c52 hr62 (by have := hm53.cap (by simp; omega); simpa using this) (by omega) hgsb
            obtain ⟨rfl, hx67⟩ : v64 = .tuple #[.int .i64 0, .bool true] ∧ Ext H55 H65 := by rcases hd66 with ⟨b, hb, rfl, hx⟩ | ⟨_, _, _, _, hb, _⟩; (rw [hgsp] at hb; cases hb; exact ⟨rfl, hx⟩); (rw [hgsp] at hb; cases hb)
            have hx67n := hx67.1
            refine ⟨_, H65, hs63, ?_⟩
            have hm69 := Mine.ext hm57 hx67
            have hB70 := (hx67.2 b1 (by omega)).trans hB58
            have hB71 := (hx67.2 p39 (by omega)).trans hB59
            have hm72 := Mine.ext hm60 hx67
            have hm73 := Mine.ext hm53 hx67
            have hx74 : Ext H H65 := Ext.trans hx61 hx67
            refine st_op (ev_move rfl) rfl rfl rfl ?_
            refine st_op (ev_extract rfl rfl) rfl rfl rfl ?_
            refine st_op (ev_extract rfl rfl) rfl rfl rfl ?_
            refine st_op (ev_assign rfl) rfl rfl rfl ?_
            refine st_op (ev_assign rfl) rfl rfl rfl ?_
            try show aw _ _ _ _ _ _
            refine aw_seq ?_
            refine aw_marks (fun b => b < H65.next) [(false, false), (false, false), (false, false), (false, false), (false, false), (false, false), (false, false), (false, true), (false, false), (true, false), (false, false), (false, false), (false, false), (false, false), (false, false), (false, false), (false, false), (false, false), (false, false), (false, false), (false, false), (false, false), (false, false), (false, false)] mixed (by kernel_rfl) (by kernel_rfl) ?_
            refine sm_op (ev_move rfl) rfl rfl rfl ?_
            refine sm_op (ev_int rfl rfl rfl) rfl rfl rfl ?_
            refine sm_op (ev_move rfl) rfl rfl rfl ?_
            refine sm_op (ev_move rfl) rfl rfl rfl ?_
            refine sm_op (ev_pickT rfl rfl) rfl rfl rfl ?_
            refine sm_op (ev_move rfl) rfl rfl rfl ?_
            refine sm_op (ev_move rfl) rfl rfl rfl ?_
            refine sm_call rfl rfl rfl ent16 rfl rfl rfl ?_
            have hr75 := hm72.row
            obtain ⟨_, _, hs76, hs76v, hs76h⟩ := last_spec H65 p39 (by omega) x tm (cutB cf 60) (cutB dt 100) A40 fs c41 hB71 hr75 (by have := hm72.cap (by simp; omega); simpa using this) (by omega) (by omega) (by omega)
            rw [hs76v, hs76h] at hs76; clear hs76v hs76h
            refine ⟨_, _, hs76, (fun _ _ _ => rfl), ?_⟩
            refine sm_op (ev_fieldAddr rfl fa23_0 (o' := 0) rfl) rfl rfl rfl ?_
            refine sm_read (ev_load rfl (lvar_one one2 hB70 rfl)) rfl rfl rfl (fun b hb => by cases hb; dsimp only; omega) ?_
            refine sm_op (ev_move rfl) rfl rfl rfl ?_
            refine sm_op (ev_lenSl rfl Try.underlying24) rfl rfl rfl ?_
            refine sm_op (ev_int64 (c := x + (fs.length : Int)) rfl rfl rfl (by omega) (by omega)) rfl rfl rfl ?_
            refine sm_op (ev_int rfl rfl rfl) rfl rfl rfl ?_
            refine sm_op (ev_pickT rfl rfl) rfl rfl rfl ?_
            refine sm_op (ev_move rfl) rfl rfl rfl ?_
            refine sm_bool 73 rfl (fun hb77 => ?_) (fun hb77 => ?_)
            ·
              have hb77 := eq_of_beq hb77
              refine sm_op (ev_move rfl) rfl rfl rfl ?_
              refine sm_op (ev_move rfl) rfl rfl rfl ?_
              refine sm_call rfl rfl rfl ent14 rfl rfl rfl ?_
              obtain ⟨_, _, hs78, hs78v, hs78h⟩ := first_spec H65 p39 (by omega) x tm (cutB cf 60) (cutB dt 100) A40 fs c41 hB71 hr75 (by have := hm72.cap (by simp; omega); simpa using this) (by omega) (by omega) (by omega)
              rw [hs78v, hs78h] at hs78; clear hs78v hs78h
              refine ⟨_, _, hs78, (fun _ _ _ => rfl), ?_⟩
              refine sm_call rfl rfl rfl ent13 rfl rfl rfl ?_
              obtain ⟨_, H83, hs82, A79, c80, hs82v, hm81, hx84⟩ := get_spec H65 p39 (by omega) x tm (cutB cf 60) (cutB dt 100) A40 fs c41 hB71 hr75 (by have := hm72.cap (by simp; omega); simpa using this) (by omega) (by omega) (by omega) (x + 1) 50
              rw [getE_first _ _ (by decide), List.take_of_length_le (show fs.length ≤ (50 : Int).toNat from Nat.le_trans hfsl (by decide))] at hs82v hm81
              rw [hs82v] at hs82; clear hs82v
              have hx84n := hx84.1
              refine ⟨_, H83, hs82, (fun _ b hb => hx84.2 b (by omega)), ?_⟩
              have hm85 := Mine.ext hm69 hx84
              have hB86 := (hx84.2 b1 (by omega)).trans hB70
              have hB87 := (hx84.2 p39 (by omega)).trans hB71
              have hm88 := Mine.ext hm72 hx84
              have hm89 := Mine.ext hm73 hx84
              have hx90 : Ext H H83 := Ext.trans hx74 hx84
              refine sm_op (ev_move rfl) rfl rfl rfl ?_
              refine sm_call rfl rfl rfl ent17 rfl rfl rfl ?_
              have hr91 := hm81.row
              have hr92 := hm85.row
              obtain ⟨_, H94, hs93, hs93v, hx95⟩ := eqentries_spec H83 A79 fs c80 hr91 (by have := hm81.cap (by simp; omega); simpa using this) (by omega) A15 fs c16 hr92 (by have := hm85.cap (by simp; omega); simpa using this) (by omega)
              rw [hs93v] at hs93; clear hs93v
              have hx95n := hx95.1
              refine ⟨_, H94, hs93, (fun _ b hb => hx95.2 b (by omega)), ?_⟩
              have hm96 := Mine.ext hm85 hx95
              have hB97 := (hx95.2 b1 (by omega)).trans hB86
              have hB98 := (hx95.2 p39 (by omega)).trans hB87
              have hm99 := Mine.ext hm88 hx95
              have hm100 := Mine.ext hm89 hx95
              have hm101 := Mine.ext hm81 hx95
              have hr102 := Row.ext hr91 hx95
              have hr103 := Row.ext hr92 hx95
              have hx104 : Ext H H94 := Ext.trans hx90 hx95
              refine sm_op (ev_pickT rfl rfl) rfl rfl rfl ?_
              refine sm_op (ev_assign rfl) rfl rfl rfl ?_
              try show aw _ _ _ _ _ _
              refine aw_ret ?_
              first | exact ⟨_, rfl, rfl⟩ | (exfalso; omega) | (refine ⟨_, rfl, ?_⟩; simp [eqEs_refl, oneOrAll]; done)
            ·
              have hb77 := ne_of_beq_false hb77
              refine sm_skip rfl rfl rfl ?_
              refine sm_skip rfl rfl rfl ?_
              refine sm_skip rfl rfl rfl ?_
              refine sm_skip rfl rfl rfl ?_
              refine sm_skip rfl rfl rfl ?_
              refine sm_skip rfl rfl rfl ?_
              refine sm_op (ev_pickF rfl rfl) rfl rfl rfl ?_
              refine sm_op (ev_assign rfl) rfl rfl rfl ?_
              try show aw _ _ _ _ _ _
              refine aw_ret ?_
              first | exact ⟨_, rfl, rfl⟩ | (exfalso; omega) | (refine ⟨_, rfl, ?_⟩; simp [eqEs_refl, oneOrAll]; done)
theorem logcut_spec (H : Heap) (n aa : Int) : ∃ v H', Spec Try.prog 4 [.int .i64 n, .int .i64 aa] H v H' ∧ (v = .bool true) := by
  refine spec_go2 E0_ok 87 (f := 4) Try.func4 rfl rfl rfl ?_
  refine aw_seq ?_
  refine aw_reg ?_
  refine st_op (ev_assign rfl) rfl rfl rfl ?_
  try show aw _ _ _ _ _ _
  refine aw_seq ?_
  refine aw_reg ?_
  refine st_call rfl rfl rfl ent9 rfl rfl rfl ?_
  obtain ⟨_, _, hs1, hs1v, hs1h⟩ := begun_spec H
  rw [hs1v, hs1h] at hs1; clear hs1v hs1h
  refine ⟨_, _, hs1, ?_⟩
  refine st_op (ev_assign rfl) rfl rfl rfl ?_
  try show aw _ _ _ _ _ _
  refine aw_seq ?_
  refine aw_seq ?_
  refine aw_reg ?_
  refine st_op (ev_move rfl) rfl rfl rfl ?_
  refine st_op (ev_not rfl) rfl rfl rfl ?_
  try show aw _ _ _ _ _ _
  refine aw_cond (t := false) rfl ?_
  try show aw _ _ _ _ _ _
  refine aw_skip ?_
  try show aw _ _ _ _ _ _
  refine aw_seq ?_
  refine aw_seq ?_
  refine aw_reg ?_
  refine st_op (ev_move rfl) rfl rfl rfl ?_
  refine st_op (ev_int rfl rfl rfl) rfl rfl rfl ?_
  refine st_op (ev_move rfl) rfl rfl rfl ?_
  refine st_bool 18 rfl (fun hb2 => ?_) (fun hb2 => ?_)
  ·
    have hb2 := of_decide_eq_true hb2
    refine st_skip rfl rfl rfl ?_
    refine st_skip rfl rfl rfl ?_
    refine st_op (ev_pickT rfl rfl) rfl rfl rfl ?_
    refine st_op (ev_move rfl) rfl rfl rfl ?_
    refine st_skip rfl rfl rfl ?_
    refine st_skip rfl rfl rfl ?_
    refine st_op (ev_pickT rfl rfl) rfl rfl rfl ?_
    refine st_op (ev_move rfl) rfl rfl rfl ?_
    refine st_skip rfl rfl rfl ?_
    refine st_skip rfl rfl rfl ?_
    refine st_skip rfl rfl rfl ?_
    refine st_op (ev_pickT rfl rfl) rfl rfl rfl ?_
    try show aw _ _ _ _ _ _
    refine aw_cond (t := true) rfl ?_
    try show aw _ _ _ _ _ _
    refine aw_seq ?_
    refine aw_reg ?_
    refine st_op (ev_assign rfl) rfl rfl rfl ?_
    try show aw _ _ _ _ _ _
    refine aw_ret ?_
    first | exact ⟨_, rfl, rfl⟩ | (exfalso; omega) | (exfalso; simp_all [cutL_term (n := k) (a := aa) (by omega) (by omega), cutL_newer (n := k) (a := aa) (by omega) (by omega)]; done) | (refine ⟨_, rfl, ?_⟩; simp_all [oneOrAll, cutL_term (n := k) (a := aa) (by omega) (by omega), cutL_newer (n := k) (a := aa) (by omega) (by omega)]; done)
  ·
    have hb2 := of_decide_eq_false hb2
    refine st_op (ev_move rfl) rfl rfl rfl ?_
    refine st_op (ev_int rfl rfl rfl) rfl rfl rfl ?_
    refine st_op (ev_pickF rfl rfl) rfl rfl rfl ?_
    refine st_op (ev_move rfl) rfl rfl rfl ?_
    refine st_bool 22 rfl (fun hb3 => ?_) (fun hb3 => ?_)
    ·
      have hb3 := of_decide_eq_true hb3
      refine st_skip rfl rfl rfl ?_
      refine st_skip rfl rfl rfl ?_
      refine st_op (ev_pickT rfl rfl) rfl rfl rfl ?_
      refine st_op (ev_move rfl) rfl rfl rfl ?_
      refine st_skip rfl rfl rfl ?_
      refine st_skip rfl rfl rfl ?_
      refine st_skip rfl rfl rfl ?_
      refine st_op (ev_pickT rfl rfl) rfl rfl rfl ?_
      try show aw _ _ _ _ _ _
      refine aw_cond (t := true) rfl ?_
      try show aw _ _ _ _ _ _
      refine aw_seq ?_
      refine aw_reg ?_
      refine st_op (ev_assign rfl) rfl rfl rfl ?_
      try show aw _ _ _ _ _ _
      refine aw_ret ?_
      first | exact ⟨_, rfl, rfl⟩ | (exfalso; omega) | (exfalso; simp_all [cutL_term (n := k) (a := aa) (by omega) (by omega), cutL_newer (n := k) (a := aa) (by omega) (by omega)]; done) | (refine ⟨_, rfl, ?_⟩; simp_all [oneOrAll, cutL_term (n := k) (a := aa) (by omega) (by omega), cutL_newer (n := k) (a := aa) (by omega) (by omega)]; done)
    ·
      have hb3 := of_decide_eq_false hb3
      refine st_op (ev_move rfl) rfl rfl rfl ?_
      refine st_op (ev_int rfl rfl rfl) rfl rfl rfl ?_
      refine st_op (ev_pickF rfl rfl) rfl rfl rfl ?_
      refine st_op (ev_move rfl) rfl rfl rfl ?_
      refine st_bool 26 rfl (fun hb4 => ?_) (fun hb4 => ?_)
      ·
        have hb4 := of_decide_eq_true hb4
        refine st_skip rfl rfl rfl ?_
        refine st_skip rfl rfl rfl ?_
        refine st_skip rfl rfl rfl ?_
        refine st_op (ev_pickT rfl rfl) rfl rfl rfl ?_
        try show aw _ _ _ _ _ _
        refine aw_cond (t := true) rfl ?_
        try show aw _ _ _ _ _ _
        refine aw_seq ?_
        refine aw_reg ?_
        refine st_op (ev_assign rfl) rfl rfl rfl ?_
        try show aw _ _ _ _ _ _
        refine aw_ret ?_
        first | exact ⟨_, rfl, rfl⟩ | (exfalso; omega) | (exfalso; simp_all [cutL_term (n := k) (a := aa) (by omega) (by omega), cutL_newer (n := k) (a := aa) (by omega) (by omega)]; done) | (refine ⟨_, rfl, ?_⟩; simp_all [oneOrAll, cutL_term (n := k) (a := aa) (by omega) (by omega), cutL_newer (n := k) (a := aa) (by omega) (by omega)]; done)
      ·
        have hb4 := of_decide_eq_false hb4
        refine st_op (ev_move rfl) rfl rfl rfl ?_
        refine st_op (ev_move rfl) rfl rfl rfl ?_
        refine st_op (ev_int rfl rfl rfl) rfl rfl rfl ?_
        refine st_op (ev_pickF rfl rfl) rfl rfl rfl ?_
        try show aw _ _ _ _ _ _
        refine aw_cond (t := decide (aa > n)) rfl ?_
        by_cases hc5 : (decide (aa > n)) = true
        · rw [hc5]
          rw [if_pos rfl]
          have hc5 := of_decide_eq_true hc5
          refine aw_seq ?_
          refine aw_reg ?_
          refine st_op (ev_assign rfl) rfl rfl rfl ?_
          try show aw _ _ _ _ _ _
          refine aw_ret ?_
          first | exact ⟨_, rfl, rfl⟩ | (exfalso; omega) | (exfalso; simp_all [cutL_term (n := k) (a := aa) (by omega) (by omega), cutL_newer (n := k) (a := aa) (by omega) (by omega)]; done) | (refine ⟨_, rfl, ?_⟩; simp_all [oneOrAll, cutL_term (n := k) (a := aa) (by omega) (by omega), cutL_newer (n := k) (a := aa) (by omega) (by omega)]; done)
        · rw [Bool.not_eq_true] at hc5; rw [hc5]
          rw [if_neg Bool.false_ne_true]
          have hc5 := of_decide_eq_false hc5
          refine aw_skip ?_
          try show aw _ _ _ _ _ _
          refine aw_seq ?_
          refine aw_reg ?_
          refine st_op (ev_assign rfl) rfl rfl rfl ?_
          try show aw _ _ _ _ _ _
          refine aw_seq ?_
          refine aw_seq ?_
          refine aw_reg ?_
          refine st_op (ev_assign rfl) rfl rfl rfl ?_
          try show aw _ _ _ _ _ _
          refine aw_block ?_
          refine aw_keep [0, 1, 6, 7] (l' := (.cons 0 (.int .i64 n) (.cons 1 (.int .i64 aa) (.cons 6 (.slice none 0 0) (.cons 7 (.int .i64 1) .nil))))) (by repeat (first | exact Up.done | refine Up.then ?_ | refine Up.inBlock ?_)) rfl ?_
          refine aw_iter (α := Nat × Nat × Heap) (fun a => n.toNat - a.1) (fun a => (.cons 0 (.int .i64 n) (.cons 1 (.int .i64 aa) (.cons 6 (accV a.2.1 a.1) (.cons 7 (.int .i64 ((a.1 : Int) + 1)) .nil))))) (fun a => a.2.2) (fun a => ((a.1 : Int) ≤ n) ∧ (Acc a.2.2 a.2.1 4 ((entsN a.1).map Entry.cells)) ∧ (H.next ≤ a.2.1) ∧ (Ext H a.2.2)) (0, H.next, H) ⟨(show (0 : Int) ≤ n from by omega), (show Acc H H.next 4 ((entsN 0).map Entry.cells) from .nil _ _ _), (show H.next ≤ H.next from ((Ext.refl H)).1), (show Ext H H from (Ext.refl H))⟩ ?_
          rintro ⟨k, b, Hl⟩ ⟨hk, hA, hb, hx⟩ ih6
          replace hk : (k : Int) ≤ n := hk
          replace hA : Acc Hl b 4 ((entsN k).map Entry.cells) := hA
          replace hb : H.next ≤ b := hb
          replace hx : Ext H Hl := hx
          show aw _ _ _ (RL _ (.cons 0 (.int .i64 n) (.cons 1 (.int .i64 aa) (.cons 6 (accV b k) (.cons 7 (.int .i64 ((k : Int) + 1)) .nil))))) Hl _
          have hxn := hx.1
          refine aw_seq ?_
          refine aw_seq ?_
          refine aw_reg ?_
          refine st_op (ev_move rfl) rfl rfl rfl ?_
          refine st_op (ev_move rfl) rfl rfl rfl ?_
          refine st_op (ev_int rfl rfl rfl) rfl rfl rfl ?_
          try show aw _ _ _ _ _ _
          refine aw_cond (t := decide ((k : Int) + 1 ≤ n)) rfl ?_
          by_cases hc7 : (decide ((k : Int) + 1 ≤ n)) = true
          · rw [hc7]
            rw [if_pos rfl]
            have hc7 := of_decide_eq_true hc7
            refine aw_skip ?_
            try show aw _ _ _ _ _ _
            refine aw_seq ?_
            refine aw_block ?_
            refine aw_reg ?_
            refine st_op (ev_move rfl) rfl rfl rfl ?_
            refine st_op (ev_move rfl) rfl rfl rfl ?_
            refine st_op (ev_build zero37 pl37 (parts := [(0, .int .i64 ((k : Int) + 1)), (1, .int .i64 1), (2, .int .i64 1)]) rfl (cs := [.int .i64 ((k : Int) + 1), .int .i64 1, .int .i64 1, .string (⟨#[]⟩)]) rfl) rfl rfl rfl ?_
            obtain ⟨b8, H9, he10, b8e, H9n, hB12, f11⟩ := mem_build Hl (xs := [.agg #[.int .i64 ((k : Int) + 1), .int .i64 1, .int .i64 1, .string (⟨#[]⟩)]]) (m := 1) (rows := [[.int .i64 ((k : Int) + 1), .int .i64 1, .int .i64 1, .string (⟨#[]⟩)]]) rfl eok24 (by decide) (by decide) zf37 rfl (allLen rfl) rfl
            refine st_op (he10 _ _ _ _ _ _ _ _ rfl) rfl rfl rfl ?_
            have ha13 := Acc.ext hA (show Ext Hl H9 from ⟨by omega, fun q hq => f11 q (by omega)⟩)
            have hx14 : Ext H H9 := Ext.step hx (b := b8) (by have := (hx).1; omega) (by omega) f11
            obtain ⟨b15, H16, W17, he18, b15e, H16n, ha20, f19⟩ := mem_append1 (cx := 1) (m := k) (old := (entsN k).map Entry.cells) (by rw [List.length_map, entsN_len]) eok24 (by decide) ha13 hB12 rfl rfl (by omega) (by omega)
            refine st_op (he18 _ _ _ _ _ _ _ _ _ _ rfl rfl isrow24) rfl rfl rfl ?_
            have hx22 : Ext H H16 := Ext.step2 hx14 (b := b15) (b0 := b) (by have := (hx14).1; omega) (by omega) (by omega) f19
            refine st_op (ev_assign rfl) rfl rfl rfl ?_
            try show aw _ _ _ _ _ _
            refine aw_reg ?_
            refine st_op (ev_move rfl) rfl rfl rfl ?_
            refine st_op (ev_int64 (c := ((k : Int) + 1) + 1) rfl rfl rfl (by omega) (by omega)) rfl rfl rfl ?_
            refine st_op (ev_assign rfl) rfl rfl rfl ?_
            try show aw _ _ _ _ _ _
            refine aw_keep [0, 1, 6, 7] (l' := (.cons 0 (.int .i64 n) (.cons 1 (.int .i64 aa) (.cons 6 (accV b15 (k + 1)) (.cons 7 (.int .i64 (((k : Int) + 1) + 1)) .nil))))) (by repeat (first | exact Up.done | refine Up.then ?_ | refine Up.inBlock ?_)) rfl ?_
            exact ih6 (k + 1, b15, H16) ⟨(show ((k + 1) : Int) ≤ n from by omega), (show Acc H16 b15 4 ((entsN (k + 1)).map Entry.cells) from by rw [entsN_succ, List.map_append]; exact ha20), (show H.next ≤ b15 from by omega), (show Ext H H16 from hx22)⟩ (by simp only; omega)
          · rw [Bool.not_eq_true] at hc7; rw [hc7]
            rw [if_neg Bool.false_ne_true]
            have hc7 := of_decide_eq_false hc7
            refine aw_exit ?_
            try show aw _ _ _ _ _ _
            refine aw_seq ?_
            refine aw_reg ?_
            refine st_op (ev_build zero23 pl23 (parts := []) rfl (cs := [.int .i64 0, .int .i64 0, .string (⟨#[]⟩), .string (⟨#[]⟩)]) rfl) rfl rfl rfl ?_
            refine st_op (ev_move rfl) rfl rfl rfl ?_
            refine st_call rfl rfl rfl ent12 rfl rfl rfl ?_
            have hnk : n = (k : Int) := by omega
            obtain ⟨A1, c1, e1, hm1⟩ := hA.mine (H0 := H) (n := (entsN k).length) (by simp) hb
            rw [entsN_len] at e1
            have hcap := hm1.cap (by rw [List.length_map, entsN_len]; omega)
            rw [List.length_map] at hcap
            obtain ⟨v24, H25, hs23, hd26, hx27⟩ := new_spec Hl 0 0 ⟨#[]⟩ ⟨#[]⟩ A1 (entsN k) c1 hm1.row hcap (by rw [entsN_len]; omega)
            rw [entsN_len, ← e1] at hs23
            have hx27n := hx27.1
            obtain ⟨p, A3, c3, rfl, hp, hm3, hp0, hp1⟩ : ∃ p A3 c3, v24 = .pointer (some ⟨p, 0, none⟩) ∧ H25.blk p = some ⟨[.int .i64 0, .int .i64 0, .string ⟨#[]⟩, .string ⟨#[]⟩, .slice A3 (entsN k).length c3], 5, false, false⟩ ∧ Mine Hl H25 A3 c3 4 ((entsN k).map Entry.cells) ∧ Hl.next ≤ p ∧ p < H25.next := by
              rcases hd26 with ⟨_, hno⟩ | ⟨_, h⟩
              · rw [entsN_new (by omega)] at hno; cases hno
              · exact h
            refine ⟨_, H25, hs23, ?_⟩
            have hx28 : Ext H H25 := Ext.trans hx hx27
            have hel := entsN_len k
            refine st_op (ev_assign rfl) rfl rfl rfl ?_
            try show aw _ _ _ _ _ _
            refine aw_seq ?_
            refine aw_seq ?_
            refine aw_reg ?_
            refine st_op (ev_move rfl) rfl rfl rfl ?_
            refine st_op (ev_nilEq rfl rfl Try.underlying28) rfl rfl rfl ?_
            try show aw _ _ _ _ _ _
            refine aw_cond (t := false) rfl ?_
            try show aw _ _ _ _ _ _
            refine aw_skip ?_
            try show aw _ _ _ _ _ _
            refine aw_seq ?_
            refine aw_reg ?_
            refine st_op (ev_move rfl) rfl rfl rfl ?_
            refine st_op (ev_move rfl) rfl rfl rfl ?_
            refine st_op (ev_build zero37 pl37 (parts := [(0, .int .i64 aa), (1, .int .i64 2), (2, .int .i64 1)]) rfl (cs := [.int .i64 aa, .int .i64 2, .int .i64 1, .string (⟨#[]⟩)]) rfl) rfl rfl rfl ?_
            obtain ⟨b29, H30, he31, b29e, H30n, hB33, f32⟩ := mem_build H25 (xs := [.agg #[.int .i64 aa, .int .i64 2, .int .i64 1, .string (⟨#[]⟩)]]) (m := 1) (rows := [[.int .i64 aa, .int .i64 2, .int .i64 1, .string (⟨#[]⟩)]]) rfl eok24 (by decide) (by decide) zf37 rfl (allLen rfl) rfl
            refine st_op (he31 _ _ _ _ _ _ _ _ rfl) rfl rfl rfl ?_
            have hB34 := (f32 p (by omega)).trans hp
            have hm35 := Mine.ext hm3 (show Ext H25 H30 from ⟨by omega, fun q hq => f32 q (by omega)⟩)
            refine st_call rfl rfl rfl ent15 rfl rfl rfl ?_
            have hr41 := hm35.row
            obtain ⟨v37, H38, hs36, hd39⟩ := put_spec H30 p (by omega) 0 0 (⟨#[]⟩) (⟨#[]⟩) A3 (entsN k) c3 hB34 hr41 (by have := hm35.cap (by simp; omega); simpa using this) (by omega) (by omega) (by omega) (some ⟨b29, 0, none⟩) [entX aa] 1 (hB33.row) (by simp) (by simp) (by intro u hu; simp at hu; subst hu; exact ⟨show _ ≤ aa by omega, show aa ≤ _ by omega⟩)
            obtain ⟨A4, c4, rfl, hp4, hm4, hx4⟩ : ∃ A4 c4, v37 = .tuple #[.int .i64 aa, .bool true] ∧ H38.blk p = some ⟨[.int .i64 0, .int .i64 0, .string ⟨#[]⟩, .string ⟨#[]⟩, .slice A4 (cutL k aa).length c4], 5, false, false⟩ ∧ Mine H30 H38 A4 c4 4 ((cutL k aa).map Entry.cells) ∧ Ext1 p H30 H38 := by
              rcases hd39 with ⟨b, hb, _⟩ | ⟨u, l, A4, c4, _, hd, hv, h1, h2, h3⟩
              · rw [cut_put (by omega) (by omega) (by omega)] at hb; cases hb
              · rw [dw_head (e := entX aa) rfl (entX_stays (by omega) (by omega))] at hd; cases hd; exact ⟨A4, c4, hv, h1, h2, h3⟩
            have hx4n := hx4.1
            have hcl := cutL_len (n := k) (a := aa) (by omega) (by omega)
            refine ⟨_, H38, hs36, ?_⟩
            refine st_op (ev_move rfl) rfl rfl rfl ?_
            refine st_op (ev_extract rfl rfl) rfl rfl rfl ?_
            refine st_op (ev_extract rfl rfl) rfl rfl rfl ?_
            refine st_op (ev_assign rfl) rfl rfl rfl ?_
            refine st_op (ev_assign rfl) rfl rfl rfl ?_
            try show aw _ _ _ _ _ _
            refine aw_seq ?_
            refine aw_reg ?_
            refine st_op (ev_move rfl) rfl rfl rfl ?_
            refine st_op (ev_move rfl) rfl rfl rfl ?_
            refine st_call rfl rfl rfl ent18 rfl rfl rfl ?_
            have hr42 := hm4.row
            obtain ⟨_, _, hs43, hs43v, hs43h⟩ := term_spec H38 p (by omega) 0 0 (⟨#[]⟩) (⟨#[]⟩) A4 (cutL k aa) c4 hp4 hr42 (by have := hm4.cap (by simp; omega); simpa using this) (by omega) (by omega) (by omega) aa
            rw [hs43v, hs43h] at hs43; clear hs43v hs43h
            refine ⟨_, _, hs43, ?_⟩
            refine st_op (ev_move rfl) rfl rfl rfl ?_
            refine st_op (ev_extract rfl rfl) rfl rfl rfl ?_
            refine st_op (ev_extract rfl rfl) rfl rfl rfl ?_
            refine st_op (ev_assign rfl) rfl rfl rfl ?_
            refine st_op (ev_assign rfl) rfl rfl rfl ?_
            try show aw _ _ _ _ _ _
            refine aw_seq ?_
            refine aw_reg ?_
            refine st_op (ev_move rfl) rfl rfl rfl ?_
            refine st_op (ev_move rfl) rfl rfl rfl ?_
            refine st_op (ev_int rfl rfl rfl) rfl rfl rfl ?_
            refine st_op (ev_move rfl) rfl rfl rfl ?_
            refine st_bool 63 rfl (fun hb44 => ?_) (fun hb44 => ?_)
            ·
              have hb44 := eq_of_beq hb44
              refine st_op (ev_move rfl) rfl rfl rfl ?_
              refine st_op (ev_pickT rfl rfl) rfl rfl rfl ?_
              refine st_op (ev_move rfl) rfl rfl rfl ?_
              refine st_op (ev_move rfl) rfl rfl rfl ?_
              refine st_call rfl rfl rfl ent16 rfl rfl rfl ?_
              obtain ⟨_, _, hs45, hs45v, hs45h⟩ := last_spec H38 p (by omega) 0 0 (⟨#[]⟩) (⟨#[]⟩) A4 (cutL k aa) c4 hp4 hr42 (by have := hm4.cap (by simp; omega); simpa using this) (by omega) (by omega) (by omega)
              rw [hs45v, hs45h] at hs45; clear hs45v hs45h
              refine ⟨_, _, hs45, ?_⟩
              refine st_op (ev_move rfl) rfl rfl rfl ?_
              refine st_op (ev_int rfl rfl rfl) rfl rfl rfl ?_
              refine st_op (ev_pickT rfl rfl) rfl rfl rfl ?_
              refine st_op (ev_move rfl) rfl rfl rfl ?_
              refine st_bool 72 rfl (fun hb46 => ?_) (fun hb46 => ?_)
              ·
                have hb46 := eq_of_beq hb46
                refine st_op (ev_move rfl) rfl rfl rfl ?_
                refine st_op (ev_int rfl rfl rfl) rfl rfl rfl ?_
                refine st_op (ev_pickT rfl rfl) rfl rfl rfl ?_
                refine st_op (ev_move rfl) rfl rfl rfl ?_
                refine st_bool 76 rfl (fun hb47 => ?_) (fun hb47 => ?_)
                ·
                  have hb47 := eq_of_beq hb47
                  refine st_op (ev_move rfl) rfl rfl rfl ?_
                  refine st_op (ev_move rfl) rfl rfl rfl ?_
                  refine st_call rfl rfl rfl ent19 rfl rfl rfl ?_
                  obtain ⟨_, _, hs48, hs48v, hs48h⟩ := newer_spec H38 p (by omega) 0 0 (⟨#[]⟩) (⟨#[]⟩) A4 (cutL k aa) c4 hp4 hr42 (by have := hm4.cap (by simp; omega); simpa using this) (by omega) (by omega) (by omega) aa 2
                  rw [hs48v, hs48h] at hs48; clear hs48v hs48h
                  refine ⟨_, _, hs48, ?_⟩
                  refine st_op (ev_pickT rfl rfl) rfl rfl rfl ?_
                  refine st_op (ev_move rfl) rfl rfl rfl ?_
                  refine st_bool 81 rfl (fun hb49 => ?_) (fun hb49 => ?_)
                  ·
                    refine st_op (ev_move rfl) rfl rfl rfl ?_
                    refine st_op (ev_move rfl) rfl rfl rfl ?_
                    refine st_call rfl rfl rfl ent19 rfl rfl rfl ?_
                    obtain ⟨_, _, hs50, hs50v, hs50h⟩ := newer_spec H38 p (by omega) 0 0 (⟨#[]⟩) (⟨#[]⟩) A4 (cutL k aa) c4 hp4 hr42 (by have := hm4.cap (by simp; omega); simpa using this) (by omega) (by omega) (by omega) n 1
                    rw [hs50v, hs50h] at hs50; clear hs50v hs50h
                    refine ⟨_, _, hs50, ?_⟩
                    refine st_op (ev_not rfl) rfl rfl rfl ?_
                    refine st_op (ev_pickT rfl rfl) rfl rfl rfl ?_
                    refine st_op (ev_assign rfl) rfl rfl rfl ?_
                    try show aw _ _ _ _ _ _
                    refine aw_ret ?_
                    first | exact ⟨_, rfl, rfl⟩ | (exfalso; omega) | (exfalso; simp_all [cutL_term (n := k) (a := aa) (by omega) (by omega), cutL_newer (n := k) (a := aa) (by omega) (by omega)]; done) | (refine ⟨_, rfl, ?_⟩; simp_all [oneOrAll, cutL_term (n := k) (a := aa) (by omega) (by omega), cutL_newer (n := k) (a := aa) (by omega) (by omega)]; done)
                  ·
                    refine st_skip rfl rfl rfl ?_
                    refine st_skip rfl rfl rfl ?_
                    refine st_skip rfl rfl rfl ?_
                    refine st_skip rfl rfl rfl ?_
                    refine st_op (ev_pickF rfl rfl) rfl rfl rfl ?_
                    refine st_op (ev_assign rfl) rfl rfl rfl ?_
                    try show aw _ _ _ _ _ _
                    refine aw_ret ?_
                    first | exact ⟨_, rfl, rfl⟩ | (exfalso; omega) | (exfalso; simp_all [cutL_term (n := k) (a := aa) (by omega) (by omega), cutL_newer (n := k) (a := aa) (by omega) (by omega)]; done) | (refine ⟨_, rfl, ?_⟩; simp_all [oneOrAll, cutL_term (n := k) (a := aa) (by omega) (by omega), cutL_newer (n := k) (a := aa) (by omega) (by omega)]; done)
                ·
                  have hb47 := ne_of_beq_false hb47
                  refine st_skip rfl rfl rfl ?_
                  refine st_skip rfl rfl rfl ?_
                  refine st_skip rfl rfl rfl ?_
                  refine st_op (ev_pickF rfl rfl) rfl rfl rfl ?_
                  refine st_op (ev_move rfl) rfl rfl rfl ?_
                  refine st_skip rfl rfl rfl ?_
                  refine st_skip rfl rfl rfl ?_
                  refine st_skip rfl rfl rfl ?_
                  refine st_skip rfl rfl rfl ?_
                  refine st_op (ev_pickF rfl rfl) rfl rfl rfl ?_
                  refine st_op (ev_assign rfl) rfl rfl rfl ?_
                  try show aw _ _ _ _ _ _
                  refine aw_ret ?_
                  first | exact ⟨_, rfl, rfl⟩ | (exfalso; omega) | (exfalso; simp_all [cutL_term (n := k) (a := aa) (by omega) (by omega), cutL_newer (n := k) (a := aa) (by omega) (by omega)]; done) | (refine ⟨_, rfl, ?_⟩; simp_all [oneOrAll, cutL_term (n := k) (a := aa) (by omega) (by omega), cutL_newer (n := k) (a := aa) (by omega) (by omega)]; done)
              ·
                have hb46 := ne_of_beq_false hb46
                refine st_skip rfl rfl rfl ?_
                refine st_skip rfl rfl rfl ?_
                refine st_op (ev_pickF rfl rfl) rfl rfl rfl ?_
                refine st_op (ev_move rfl) rfl rfl rfl ?_
                refine st_skip rfl rfl rfl ?_
                refine st_skip rfl rfl rfl ?_
                refine st_skip rfl rfl rfl ?_
                refine st_op (ev_pickF rfl rfl) rfl rfl rfl ?_
                refine st_op (ev_move rfl) rfl rfl rfl ?_
                refine st_skip rfl rfl rfl ?_
                refine st_skip rfl rfl rfl ?_
                refine st_skip rfl rfl rfl ?_
                refine st_skip rfl rfl rfl ?_
                refine st_op (ev_pickF rfl rfl) rfl rfl rfl ?_
                refine st_op (ev_assign rfl) rfl rfl rfl ?_
                try show aw _ _ _ _ _ _
                refine aw_ret ?_
                first | exact ⟨_, rfl, rfl⟩ | (exfalso; omega) | (exfalso; simp_all [cutL_term (n := k) (a := aa) (by omega) (by omega), cutL_newer (n := k) (a := aa) (by omega) (by omega)]; done) | (refine ⟨_, rfl, ?_⟩; simp_all [oneOrAll, cutL_term (n := k) (a := aa) (by omega) (by omega), cutL_newer (n := k) (a := aa) (by omega) (by omega)]; done)
            ·
              have hb44 := ne_of_beq_false hb44
              refine st_skip rfl rfl rfl ?_
              refine st_op (ev_pickF rfl rfl) rfl rfl rfl ?_
              refine st_op (ev_move rfl) rfl rfl rfl ?_
              refine st_skip rfl rfl rfl ?_
              refine st_skip rfl rfl rfl ?_
              refine st_skip rfl rfl rfl ?_
              refine st_skip rfl rfl rfl ?_
              refine st_op (ev_pickF rfl rfl) rfl rfl rfl ?_
              refine st_op (ev_move rfl) rfl rfl rfl ?_
              refine st_skip rfl rfl rfl ?_
              refine st_skip rfl rfl rfl ?_
              refine st_op (ev_pickF rfl rfl) rfl rfl rfl ?_
              refine st_op (ev_move rfl) rfl rfl rfl ?_
              refine st_skip rfl rfl rfl ?_
              refine st_skip rfl rfl rfl ?_
              refine st_skip rfl rfl rfl ?_
              refine st_op (ev_pickF rfl rfl) rfl rfl rfl ?_
              refine st_op (ev_move rfl) rfl rfl rfl ?_
              refine st_skip rfl rfl rfl ?_
              refine st_skip rfl rfl rfl ?_
              refine st_skip rfl rfl rfl ?_
              refine st_skip rfl rfl rfl ?_
              refine st_op (ev_pickF rfl rfl) rfl rfl rfl ?_
              refine st_op (ev_assign rfl) rfl rfl rfl ?_
              try show aw _ _ _ _ _ _
              refine aw_ret ?_
              first | exact ⟨_, rfl, rfl⟩ | (exfalso; omega) | (exfalso; simp_all [cutL_term (n := k) (a := aa) (by omega) (by omega), cutL_newer (n := k) (a := aa) (by omega) (by omega)]; done) | (refine ⟨_, rfl, ?_⟩; simp_all [oneOrAll, cutL_term (n := k) (a := aa) (by omega) (by omega), cutL_newer (n := k) (a := aa) (by omega) (by omega)]; done)
end Go.AM
