/- Part of a machine of its own for this claim: the program's code over memory without draws. -/
import Derived.Test.YtoamlagpnnmnhaaAmPNet
import Derived.Test.YtoamlagpnnmnhaaAmPDel
set_option linter.unusedVariables false
set_option linter.unusedSimpArgs false
set_option linter.unnecessarySimpa false
/- A log: what its functions come to. -/
set_option linter.unusedSimpArgs false
namespace Go.AM.Spec
open Go
def logRow : Int → Int → List Entry → Bool
  | _, _, [] => true
  | ix, tm, e :: es => if e.index ≠ IntKind.i64.wrap (ix + 1) ∨ e.term < tm then false else logRow e.index e.term es
theorem wrap_id {n : Int} (h0 : -9223372036854775808 ≤ n) (h1 : n ≤ 9223372036854775807) : IntKind.i64.wrap n = n := by
  rw [IntKind.wrap_i64]; omega
theorem logRow_cons {i t : Int} {e : Entry} {l : List Entry} : logRow i t (e :: l) = true ↔ e.index = IntKind.i64.wrap (i + 1) ∧ t ≤ e.term ∧ logRow e.index e.term l = true := by
  rw [logRow]
  split
  · rename_i h
    constructor
    · intro h; cases h
    · rintro ⟨h1, h2, _⟩; rcases h with h | h
      · exact absurd h1 h
      · omega
  · rename_i h
    rw [not_or, Decidable.not_not] at h
    exact ⟨fun k => ⟨h.1, by omega, k⟩, fun k => k.2.2⟩
theorem logRow_step {ix tm : Int} {l : List Entry} {e : Entry} {i : Nat} (he : l[i]? = some e) (h : e.index = IntKind.i64.wrap (ix + 1)) (h2 : ¬ e.term < tm) : logRow ix tm (l.drop i) = logRow e.index e.term (l.drop (i + 1)) := by
  rw [Go.AM.drop_at he, logRow, if_neg (by rw [not_or]; exact ⟨fun q => q h, h2⟩)]
theorem logRow_fail {ix tm : Int} {l : List Entry} {e : Entry} {i : Nat} (he : l[i]? = some e) (h : e.index ≠ IntKind.i64.wrap (ix + 1) ∨ e.term < tm) : logRow ix tm (l.drop i) = false := by
  rw [Go.AM.drop_at he, logRow, if_pos h]
theorem logRow_at : ∀ {l : List Entry} {i t : Int}, logRow i t l = true → 0 ≤ i → i + l.length ≤ 4611686018427387904 → ∀ (k : Nat) (e : Entry), l[k]? = some e → e.index = i + 1 + k
  | [], _, _, _, _, _, k, e, h => by simp at h
  | a :: l, i, t, h, h0, hm, k, e, he => by
    obtain ⟨h1, _, h3⟩ := logRow_cons.1 h
    simp only [List.length_cons] at hm
    rw [wrap_id (by omega) (by omega)] at h1
    cases k with
    | zero => simp at he; subst he; omega
    | succ k =>
      have := logRow_at h3 (by omega) (by omega) k e (by simpa using he)
      rw [this, h1]; omega
theorem logRow_take : ∀ {l : List Entry} {i t : Int} (m : Nat), logRow i t l = true → logRow i t (l.take m) = true
  | [], _, _, _, h => by simpa using h
  | a :: l, i, t, 0, h => rfl
  | a :: l, i, t, m + 1, h => by
    obtain ⟨h1, h2, h3⟩ := logRow_cons.1 h
    rw [List.take_succ_cons]
    exact logRow_cons.2 ⟨h1, h2, logRow_take m h3⟩
/-- From some element on. -/
theorem logRow_drop : ∀ {l : List Entry} {i t : Int} (k : Nat) (e : Entry), logRow i t l = true → l[k]? = some e → logRow e.index e.term (l.drop (k + 1)) = true
  | [], _, _, k, e, _, h => by simp at h
  | a :: l, i, t, 0, e, h, he => by
    simp at he; subst he
    exact (logRow_cons.1 h).2.2
  | a :: l, i, t, k + 1, e, h, he => by
    simpa using logRow_drop k e (logRow_cons.1 h).2.2 (by simpa using he)
theorem logRow_shift {i i' t t' : Int} {e : Entry} {l : List Entry} (h : logRow i t (e :: l) = true) (hi : IntKind.i64.wrap (i + 1) = IntKind.i64.wrap (i' + 1)) (ht : t' ≤ e.term) : logRow i' t' (e :: l) = true := by
  obtain ⟨h1, h2, h3⟩ := logRow_cons.1 h
  exact logRow_cons.2 ⟨by rw [h1, hi], ht, h3⟩
theorem logRow_append : ∀ {l k : List Entry} {i t : Int}, logRow i t l = true → (l = [] → logRow i t k = true) → (∀ e, l[l.length - 1]? = some e → logRow e.index e.term k = true) → logRow i t (l ++ k) = true
  | [], k, i, t, _, h, _ => h rfl
  | [a], k, i, t, h, _, h2 => by
    obtain ⟨h1, h3, _⟩ := logRow_cons.1 h
    exact logRow_cons.2 ⟨h1, h3, h2 a rfl⟩
  | a :: b :: l, k, i, t, h, _, h2 => by
    obtain ⟨h1, h3, h4⟩ := logRow_cons.1 h
    exact logRow_cons.2 ⟨h1, h3, logRow_append h4 (fun q => by cases q) (fun e he => h2 e (by simpa using he))⟩
def Ents (l : List Entry) : Prop := ∀ e ∈ l, (-9223372036854775808 ≤ e.index ∧ e.index ≤ 9223372036854775807) ∧ e.data.size ≤ 2500
theorem Ents.nil : Ents [] := fun _ h => by cases h
theorem Ents.sub {l k : List Entry} (h : Ents l) (hs : ∀ e ∈ k, e ∈ l) : Ents k := fun e he => h e (hs e he)
theorem Ents.take {l : List Entry} (h : Ents l) (n : Nat) : Ents (l.take n) := h.sub fun _ q => List.mem_of_mem_take q
theorem Ents.drop {l : List Entry} (h : Ents l) (n : Nat) : Ents (l.drop n) := h.sub fun _ q => List.mem_of_mem_drop q
theorem Ents.append {l k : List Entry} (h : Ents l) (h2 : Ents k) : Ents (l ++ k) := fun e he => (List.mem_append.1 he).elim (h e) (h2 e)
structure LogOk (x tm : Int) (l : List Entry) : Prop where
  x0 : 0 ≤ x
  x1 : x ≤ 2199023255552
  len : l.length ≤ 200
  row : logRow x tm l = true
  ents : Ents l
variable {x tm : Int} {l us : List Entry}
theorem LogOk.at_ (h : LogOk x tm l) {k : Nat} {e : Entry} (he : l[k]? = some e) : e.index = x + 1 + k := logRow_at h.row h.x0 (by have := h.x1; have := h.len; omega) k e he
def newOk (x tm : Int) (l : List Entry) : Bool := decide ((0 ≤ x ∧ x ≤ 1099511627776) ∧ (0 ≤ tm ∧ tm ≤ 1099511627776) ∧ l.length ≤ 200) && logRow x tm l
theorem newOk_ok (h : newOk x tm l = true) (he : Ents l) : LogOk x tm l := by
  simp only [newOk, Bool.and_eq_true, decide_eq_true_eq] at h
  exact ⟨h.1.1.1, by omega, h.1.2.2, h.2, he⟩
theorem newOk_x (h : newOk x tm l = true) : x ≤ 1099511627776 := by
  simp only [newOk, Bool.and_eq_true, decide_eq_true_eq] at h
  exact h.1.1.2
theorem setOk (h0 : 0 ≤ x) (h1 : x ≤ 2199023255552) : LogOk x tm [] := ⟨h0, h1, Nat.zero_le _, rfl, .nil⟩
def termF (x tm : Int) (l : List Entry) (i : Int) : Int × Bool :=
  if i < x ∨ i > x + l.length then (0, false) else if i = x then (tm, true) else match l[(i - (x + 1)).toNat]? with
    | some e => (e.term, true)
    | none => (0, false)
theorem termF_out {i : Int} (h : i < x ∨ i > x + l.length) : termF x tm l i = (0, false) := if_pos h
theorem termF_base : termF x tm l x = (tm, true) := by rw [termF, if_neg (by omega), if_pos rfl]
theorem termF_at {i : Int} {e : Entry} (h0 : ¬ i < x) (h1 : ¬ i = x) (he : l[(i - (x + 1)).toNat]? = some e) : termF x tm l i = (e.term, true) := by
  have := (List.getElem?_eq_some_iff.1 he).1
  rw [termF, if_neg (by omega), if_neg h1, he]
def fitsF (x tm : Int) (l : List Entry) (i t : Int) : Bool := (termF x tm l i).2 && ((termF x tm l i).1 == t)
def newerF (x tm : Int) (l : List Entry) (i t : Int) : Bool := decide (t > (termF x tm l (x + l.length)).1 ∨ t = (termF x tm l (x + l.length)).1 ∧ i ≥ x + l.length)
def getF (x : Int) (l : List Entry) (i n : Int) : List Entry := if i < x + 1 ∨ i > x + l.length ∨ n < 1 then [] else (l.drop (i - (x + 1)).toNat).take n.toNat
theorem getF_sub {i n : Int} : ∀ u ∈ getF x l i n, u ∈ l := by
  intro u hu
  unfold getF at hu
  split at hu
  · cases hu
  · exact List.mem_of_mem_drop (List.mem_of_mem_take hu)
theorem getF_len (x : Int) (l : List Entry) (i n : Int) : (getF x l i n).length ≤ l.length := by
  unfold getF
  split
  · simp
  · rw [List.length_take, List.length_drop]; omega
def stays (x tm : Int) (l : List Entry) (u : Entry) : Bool := decide (u.index ≤ x) || fitsF x tm l u.index u.term
def putF (x tm : Int) (l us : List Entry) : Int × Bool × List Entry :=
  match us with
  | [] => (0, true, l)
  | u0 :: _ => if u0.index > x + l.length + 1 ∨ logRow (IntKind.i64.wrap (u0.index - 1)) u0.term us = false then (0, false, l) else
    match us.dropWhile (stays x tm l) with
    | [] => (0, true, l)
    | u :: k => if u.term < (termF x tm l (u.index - 1)).1 ∨ u.index - (x + 1) + ((k.length : Int) + 1) > 200 then (0, false, l) else (u.index, true, l.take (u.index - (x + 1)).toNat ++ u :: k)
theorem put_bad {e : Entry} (he : us[0]? = some e) (h : e.index > x + l.length + 1 ∨ logRow (IntKind.i64.wrap (e.index - 1)) e.term us = false) : putF x tm l us = (0, false, l) := by
  cases us with
  | nil => simp at he
  | cons u0 us => simp at he; subst he; simp only [putF]; rw [if_pos h]
theorem put_none {e : Entry} (he : us[0]? = some e) (h : e.index ≤ x + l.length + 1) (h2 : logRow (IntKind.i64.wrap (e.index - 1)) e.term us = true) (hd : us.dropWhile (stays x tm l) = []) : putF x tm l us = (0, true, l) := by
  cases us with
  | nil => simp at he
  | cons u0 us => simp at he; subst he; simp only [putF]; rw [if_neg (by rw [h2]; simp; omega), hd]
theorem put_full {e u : Entry} {k : List Entry} (he : us[0]? = some e) (h : e.index ≤ x + l.length + 1) (h2 : logRow (IntKind.i64.wrap (e.index - 1)) e.term us = true) (hd : us.dropWhile (stays x tm l) = u :: k)
    (h3 : u.term < (termF x tm l (u.index - 1)).1 ∨ u.index - (x + 1) + ((k.length : Int) + 1) > 200) : putF x tm l us = (0, false, l) := by
  cases us with
  | nil => simp at he
  | cons u0 us => simp at he; subst he; simp only [putF]; rw [if_neg (by rw [h2]; simp; omega), hd]; simp only; rw [if_pos h3]
theorem put_go {e u : Entry} {k : List Entry} (he : us[0]? = some e) (h : e.index ≤ x + l.length + 1) (h2 : logRow (IntKind.i64.wrap (e.index - 1)) e.term us = true) (hd : us.dropWhile (stays x tm l) = u :: k)
    (h3 : ¬ (u.term < (termF x tm l (u.index - 1)).1 ∨ u.index - (x + 1) + ((k.length : Int) + 1) > 200)) : putF x tm l us = (u.index, true, l.take (u.index - (x + 1)).toNat ++ u :: k) := by
  cases us with
  | nil => simp at he
  | cons u0 us => simp at he; subst he; simp only [putF]; rw [if_neg (by rw [h2]; simp; omega), hd]; simp only; rw [if_neg h3]
/-- Entries that stand one behind the other. -/
def conseq : List Entry → Prop
  | a :: b :: l => b.index = IntKind.i64.wrap (a.index + 1) ∧ a.term ≤ b.term ∧ conseq (b :: l)
  | _ => True
theorem row_conseq : ∀ {l : List Entry} {i t : Int}, logRow i t l = true → conseq l
  | [], _, _, _ => trivial
  | [_], _, _, _ => trivial
  | _ :: _ :: _, _, _, h => by
    obtain ⟨_, _, h3⟩ := logRow_cons.1 h
    obtain ⟨h1, h2, _⟩ := logRow_cons.1 h3
    exact ⟨h1, h2, row_conseq h3⟩
theorem conseq_row : ∀ {l : List Entry} {e : Entry}, conseq (e :: l) → logRow e.index e.term l = true
  | [], _, _ => rfl
  | _ :: _, _, h => logRow_cons.2 ⟨h.1, h.2.1, conseq_row h.2.2⟩
theorem conseq_head {e : Entry} (h : conseq (e :: us)) (h0 : -9223372036854775808 ≤ e.index) (h1 : e.index ≤ 9223372036854775807) : logRow (IntKind.i64.wrap (e.index - 1)) e.term (e :: us) = true := by
  refine logRow_cons.2 ⟨?_, Int.le_refl _, conseq_row h⟩
  rw [IntKind.wrap_i64, IntKind.wrap_i64]; omega
theorem row_head {e : Entry} {i t : Int} (h : logRow i t (e :: us) = true) : conseq (e :: us) := row_conseq h
theorem conseq_tail {a : Entry} : ∀ {l : List Entry}, conseq (a :: l) → conseq l
  | [], _ => trivial
  | _ :: _, h => h.2.2
theorem next_le {e : Entry} {L1 : List Entry} {m : Int} (hc : conseq (e :: L1)) (h0 : -9223372036854775808 ≤ e.index) (h1 : e.index ≤ m) (hm : m ≤ 4611686018427387904) : ∀ u, L1[0]? = some u → u.index ≤ m + 1 := by
  intro u hu
  cases L1 with
  | nil => simp at hu
  | cons y l =>
    simp at hu
    subst hu
    have := hc.1
    rw [wrap_id (by omega) (by omega)] at this
    omega
theorem fits_le {i t : Int} (h : fitsF x tm l i t = true) : i ≤ x + l.length := by
  unfold fitsF termF at h
  split at h
  · simp at h
  · omega
theorem dw_head {p : Entry → Bool} {l : List Entry} {e : Entry} (h : l[0]? = some e) (hn : p e = false) : l.dropWhile p = e :: l.drop 1 := by
  cases l with
  | nil => simp at h
  | cons a l => simp at h; subst h; simp [List.dropWhile, hn]
theorem head_drop {l : List Entry} {e : Entry} (h : l[0]? = some e) : l = e :: l.drop 1 := by
  cases l with
  | nil => simp at h
  | cons a l => simp at h; subst h; rfl
theorem dropWhile_sub {p : Entry → Bool} : ∀ {l : List Entry}, ∃ n, l.dropWhile p = l.drop n
  | [] => ⟨0, rfl⟩
  | a :: l => by
    cases h : p a with
    | false => exact ⟨0, by simp [List.dropWhile, h]⟩
    | true => obtain ⟨n, hn⟩ := dropWhile_sub (p := p) (l := l); exact ⟨n + 1, by simp [List.dropWhile, h, hn]⟩
theorem conseq_drop : ∀ {l : List Entry} (n : Nat), conseq l → conseq (l.drop n)
  | l, 0, h => by simpa using h
  | [], n + 1, h => by simpa using h
  | a :: l, n + 1, h => by rw [List.drop_succ_cons]; exact conseq_drop n (conseq_tail h)
/-- The first that does not stay stands at most one behind the end. -/
theorem dw_le : ∀ {us : List Entry}, conseq us → Ents us → 0 ≤ x → x ≤ 4611686018427387904 - 1000 → l.length ≤ 200 → (∀ u, us[0]? = some u → u.index ≤ x + l.length + 1) → ∀ {u : Entry} {k : List Entry}, us.dropWhile (stays x tm l) = u :: k → u.index ≤ x + l.length + 1 ∧ ¬ u.index ≤ x
  | [], _, _, _, _, _, _, u, k, h => by cases h
  | a :: us, hc, hE, h0, h1, hl, hh, u, k, h => by
    cases hs : stays x tm l a with
    | false =>
      rw [List.dropWhile_cons_of_neg (by rw [hs]; decide)] at h
      cases h
      simp only [stays, Bool.or_eq_false_iff, decide_eq_false_iff_not] at hs
      exact ⟨hh _ rfl, hs.1⟩
    | true =>
      rw [List.dropWhile_cons_of_pos hs] at h
      have ha : a.index ≤ x + l.length := by
        simp only [stays, Bool.or_eq_true, decide_eq_true_eq] at hs
        rcases hs with hs | hs
        · omega
        · exact fits_le hs
      exact dw_le (conseq_tail hc) (hE.sub fun _ q => List.mem_cons_of_mem _ q) h0 h1 hl (next_le hc (hE a (by simp)).1.1 ha (by omega)) h
theorem put_ok (h : LogOk x tm l) (hE : Ents us) : LogOk x tm (putF x tm l us).2.2 := by
  unfold putF
  split
  · exact h
  · rename_i u0 us'
    split
    · exact h
    · rename_i h1
      rw [not_or] at h1
      have hrow : logRow (IntKind.i64.wrap (u0.index - 1)) u0.term (u0 :: us') = true := by simpa using h1.2
      have hc := row_conseq hrow
      have hh : ∀ u, (u0 :: us')[0]? = some u → u.index ≤ x + l.length + 1 := by intro u hu; simp at hu; subst hu; omega
      split
      · exact h
      · rename_i u k hd
        split
        · exact h
        · rename_i h2
          rw [not_or] at h2
          have x0 := h.x0; have x1 := h.x1; have ln := h.len
          obtain ⟨hu1, hu2⟩ := dw_le hc hE x0 (by omega) ln hh hd
          obtain ⟨n, hn⟩ := dropWhile_sub (p := stays x tm l) (l := u0 :: us')
          have hcu : conseq (u :: k) := by rw [← hd, hn]; exact conseq_drop n hc
          have hEu : Ents (u :: k) := by rw [← hd, hn]; exact hE.drop n
          have hlt : (l.take (u.index - (x + 1)).toNat).length = (u.index - (x + 1)).toNat := by rw [List.length_take]; omega
          refine ⟨x0, x1, by simp only [List.length_append, hlt, List.length_cons]; omega, ?_, (h.ents.take _).append hEu⟩
          refine logRow_append (logRow_take _ h.row) (fun q => ?_) (fun e he => ?_)
          · rw [q] at hlt
            have hix : u.index = x + 1 := by simp at hlt; omega
            have htm : tm ≤ u.term := by
              have := h2.1
              rw [hix, show x + 1 - 1 = x by omega, termF_base] at this
              simpa using this
            exact logRow_cons.2 ⟨by rw [wrap_id (by omega) (by omega)]; exact hix, htm, conseq_row hcu⟩
          · rw [hlt, List.getElem?_take] at he
            split at he
            · have hi := h.at_ he
              have hie : u.index = e.index + 1 := by omega
              have htm : e.term ≤ u.term := by
                have := h2.1
                rw [hie, show e.index + 1 - 1 = e.index by omega, termF_at (e := e) (by omega) (by omega) (by rw [show (e.index - (x + 1)).toNat = (u.index - (x + 1)).toNat - 1 by omega]; exact he)] at this
                simpa using this
              exact logRow_cons.2 ⟨by rw [wrap_id (by omega) (by omega)]; exact hie, htm, conseq_row hcu⟩
            · cases he
theorem put_len (h : LogOk x tm l) (hE : Ents us) : (putF x tm l us).2.2.length ≤ 200 := (put_ok h hE).len
theorem put_last : ((putF x tm l us).2.2.length : Int) ≤ l.length + us.length := by
  cases us with
  | nil => simp [putF]
  | cons u0 us =>
    simp only [putF]
    split
    · simp; omega
    · split
      · simp; omega
      · rename_i u k hd
        split
        · simp; omega
        · obtain ⟨n, hn⟩ := dropWhile_sub (p := stays x tm l) (l := u0 :: us)
          have : (u :: k).length ≤ (u0 :: us).length := by rw [← hd, hn, List.length_drop]; omega
          simp only [List.length_append, List.length_take]; omega
def packOk (x tm : Int) (l : List Entry) (i t : Int) : Bool := decide (x + 1 ≤ i) && fitsF x tm l i t
def packF (x tm : Int) (cf dt : ByteArray) (l : List Entry) (i t : Int) (c d : ByteArray) : Bool × Int × Int × ByteArray × ByteArray × List Entry := if packOk x tm l i t = true then (true, i, t, c, d, l.drop (i - x).toNat) else (false, x, tm, cf, dt, l)
theorem pack_in {i t : Int} (h : packOk x tm l i t = true) : x + 1 ≤ i ∧ i ≤ x + l.length := by
  simp only [packOk, Bool.and_eq_true, decide_eq_true_eq] at h
  exact ⟨h.1, fits_le h.2⟩
theorem pack_no1 {cf dt c d : ByteArray} {i t : Int} (h : i < x + 1) : packF x tm cf dt l i t c d = (false, x, tm, cf, dt, l) := by
  rw [packF, if_neg (by simp only [packOk, Bool.and_eq_true, decide_eq_true_eq, not_and]; omega)]
theorem pack_no2 {cf dt c d : ByteArray} {i t : Int} (h : fitsF x tm l i t = false) : packF x tm cf dt l i t c d = (false, x, tm, cf, dt, l) := by
  rw [packF, if_neg (by rw [packOk, h, Bool.and_false]; decide)]
theorem pack_yes {cf dt c d : ByteArray} {i t : Int} {L : List Entry} (h0 : x + 1 ≤ i) (h : fitsF x tm l i t = true) (hL : L = (l.drop (i - x).toNat).take (l.length - (i - x).toNat)) : packF x tm cf dt l i t c d = (true, i, t, c, d, L) := by
  rw [packF, if_pos (by rw [packOk, h, Bool.and_true]; exact decide_eq_true h0), hL, List.take_of_length_le (by rw [List.length_drop]; omega)]
theorem packF_len {cf dt c d : ByteArray} {i t : Int} (h : l.length ≤ 200) : (packF x tm cf dt l i t c d).2.2.2.2.2.length ≤ 200 := by
  by_cases hp : packOk x tm l i t = true
  · rw [packF, if_pos hp]; simp only [List.length_drop]; omega
  · rw [packF, if_neg hp]; exact h
theorem packF_x {cf dt c d : ByteArray} {i t : Int} (h : 0 ≤ x) : 0 ≤ (packF x tm cf dt l i t c d).2.1 ∧ (packF x tm cf dt l i t c d).2.1 ≤ x + l.length ∧ (packF x tm cf dt l i t c d).2.1 + ((packF x tm cf dt l i t c d).2.2.2.2.2.length : Int) = x + l.length := by
  by_cases hp : packOk x tm l i t = true
  · have := pack_in hp
    rw [packF, if_pos hp]; simp only [List.length_drop]; omega
  · rw [packF, if_neg hp]; refine ⟨h, ?_, rfl⟩; show x ≤ x + (l.length : Int); omega
theorem packF_cf {cf dt c d : ByteArray} {i t : Int} {n : Nat} (h : cf.size ≤ n) (h2 : c.size ≤ n) : (packF x tm cf dt l i t c d).2.2.2.1.size ≤ n := by
  by_cases hp : packOk x tm l i t = true
  · rw [packF, if_pos hp]; exact h2
  · rw [packF, if_neg hp]; exact h
theorem pack_ok {i t : Int} (h : LogOk x tm l) (hp : packOk x tm l i t = true) (hi : x + l.length ≤ 2199023255552) : LogOk i t (l.drop (i - x).toNat) := by
  have hr := pack_in hp
  have x0 := h.x0; have x1 := h.x1; have ln := h.len
  obtain ⟨e, he⟩ : ∃ e, l[(i - (x + 1)).toNat]? = some e := ⟨_, List.getElem?_eq_getElem (by omega)⟩
  have hie := h.at_ he
  simp only [packOk, fitsF, Bool.and_eq_true, decide_eq_true_eq, beq_iff_eq] at hp
  rw [termF_at (by omega) (by omega) he] at hp
  have := logRow_drop _ e h.row he
  refine ⟨by omega, by omega, by rw [List.length_drop]; omega, ?_, h.ents.drop _⟩
  rw [show (i - x).toNat = (i - (x + 1)).toNat + 1 by omega, ← hp.2.2, show i = e.index by omega]
  rw [show (i - (x + 1)).toNat = (e.index - (x + 1)).toNat by omega] at this
  exact this
theorem packF_ok {cf dt c d : ByteArray} {i t : Int} (h : LogOk x tm l) (hi : x + l.length ≤ 2199023255552) : LogOk (packF x tm cf dt l i t c d).2.1 (packF x tm cf dt l i t c d).2.2.1 (packF x tm cf dt l i t c d).2.2.2.2.2 := by
  by_cases hp : packOk x tm l i t = true
  · rw [packF, if_pos hp]; exact pack_ok h hp hi
  · rw [packF, if_neg hp]; exact h
/-- Who belongs, as of an index. -/
def confN (x : Int) (cf : ByteArray) (l : List Entry) : Nat → List Int × Int
  | 0 => if (decC cf).2 = true then ((decC cf).1, x) else ([], 0)
  | n + 1 => match l[n]? with
    | some e => if e.kind = 3 ∧ (decC e.data).2 = true then ((decC e.data).1, x + 1 + n) else confN x cf l n
    | none => confN x cf l n
def confAt (x : Int) (cf : ByteArray) (l : List Entry) (i : Int) : List Int × Int := confN x cf l (min i (x + l.length) - x).toNat
theorem decC_may {s : ByteArray} (h : (decC s).2 = true) : mayC (decC s).1 = true := by
  unfold decC at *
  split at h
  · rename_i q; rw [if_pos q]; exact q
  · cases h
theorem mayC_len {c : List Int} (h : mayC c = true) : c.length ≤ 7 := by
  simp only [mayC, Bool.and_eq_true] at h
  exact (upF_bd h.1 (Int.le_refl _)).2
theorem confN_len {cf : ByteArray} : ∀ n, (confN x cf l n).1.length ≤ 7
  | 0 => by
    unfold confN
    split
    · exact mayC_len (decC_may (by assumption))
    · exact Nat.zero_le _
  | n + 1 => by
    unfold confN
    split
    · split
      · rename_i h; exact mayC_len (decC_may h.2)
      · exact confN_len n
    · exact confN_len n
theorem confN_bd {cf : ByteArray} (h0 : 0 ≤ x) : ∀ n : Nat, 0 ≤ (confN x cf l n).2 ∧ (confN x cf l n).2 ≤ x + n
  | 0 => by
    unfold confN
    split
    · simp; omega
    · simp; omega
  | n + 1 => by
    have ih : 0 ≤ (confN x cf l n).2 ∧ (confN x cf l n).2 ≤ x + n := confN_bd h0 n
    unfold confN
    split
    · split
      · dsimp only; omega
      · omega
    · omega
theorem confAt_bd {cf : ByteArray} {i : Int} (h0 : 0 ≤ x) : 0 ≤ (confAt x cf l i).2 ∧ (confAt x cf l i).2 ≤ x + (l.length : Int) := by
  have := confN_bd (cf := cf) (l := l) h0 (min i (x + l.length) - x).toNat
  unfold confAt
  omega
theorem confN_hit {cf : ByteArray} {n : Nat} {e : Entry} (he : l[n]? = some e) (h : e.kind = 3) (h2 : (decC e.data).2 = true) : confN x cf l (n + 1) = ((decC e.data).1, x + 1 + n) := by
  rw [confN, he]; simp only; rw [if_pos ⟨h, h2⟩]
theorem confN_miss {cf : ByteArray} {n : Nat} {e : Entry} (he : l[n]? = some e) (h : ¬ (e.kind = 3 ∧ (decC e.data).2 = true)) : confN x cf l (n + 1) = confN x cf l n := by
  rw [confN, he]; simp only; rw [if_neg h]
theorem pack_no3 {cf dt c d : ByteArray} {i t : Int} (h : i > x + l.length) : packF x tm cf dt l i t c d = (false, x, tm, cf, dt, l) := pack_no2 (by rw [fitsF, termF_out (.inr h)]; rfl)
theorem conf_down {cf : ByteArray} {A k : Nat} {e : Entry} (he : l[k]? = some e) (h : k + 1 ≤ A → ¬ (e.kind = 3 ∧ (decC e.data).2 = true)) : confN x cf l (min A (k + 1)) = confN x cf l (min A k) := by
  by_cases hA : k + 1 ≤ A
  · rw [Nat.min_eq_right hA, Nat.min_eq_right (by omega), confN_miss he (h hA)]
  · rw [Nat.min_eq_left (by omega), Nat.min_eq_left (by omega)]
theorem conf_found {cf : ByteArray} {A k : Nat} {e : Entry} (he : l[k]? = some e) (hA : k + 1 ≤ A) (h : e.kind = 3) (h2 : (decC e.data).2 = true) : confN x cf l (min A (k + 1)) = ((decC e.data).1, x + 1 + k) := by
  rw [Nat.min_eq_right hA, confN_hit he h h2]
/-- Each step of the document's check. -/
theorem row_first {e : Entry} (he : us[0]? = some e) (h : -9223372036854775808 ≤ e.index ∧ e.index ≤ 9223372036854775807) : logRow (IntKind.i64.wrap (e.index - 1)) e.term us = logRow e.index e.term (us.drop 1) := by
  cases us with
  | nil => simp at he
  | cons a us =>
    simp at he; subst he
    rw [logRow, if_neg (by rw [not_or, Decidable.not_not]; exact ⟨by rw [IntKind.wrap_i64, IntKind.wrap_i64]; omega, by omega⟩)]
    rfl
def badN (y : Int) : Bool := decide (y < 0 ∨ y > 1099511627776)
theorem findF_mem {p : Int → Bool} : ∀ {l : List Int} {i : Int}, 0 ≤ i → (findF p l i ≥ 0 ↔ ∃ y ∈ l, p y = true)
  | [], i, h => by simp [findF]
  | y :: l, i, h => by
    rw [findF]
    split
    · rename_i hp; exact ⟨fun _ => ⟨y, by simp, hp⟩, fun _ => h⟩
    · rename_i hp
      rw [findF_mem (l := l) (i := i + 1) (by omega)]
      constructor
      · rintro ⟨z, hz, h2⟩; exact ⟨z, List.mem_cons_of_mem _ hz, h2⟩
      · rintro ⟨z, hz, h2⟩
        rcases List.mem_cons.1 hz with rfl | hz
        · exact absurd h2 hp
        · exact ⟨z, hz, h2⟩
def inAll (l : List Int) : Bool := decide (∀ n ∈ l, 0 ≤ n ∧ n ≤ 1099511627776)
theorem in_all {l : List Int} : (!(decide (findF badN l 0 ≥ 0))) = inAll l := by
  unfold inAll
  rw [← decide_not, decide_eq_decide, findF_mem (Int.le_refl _)]
  constructor
  · intro h n hn
    cases hb : badN n with
    | true => exact absurd ⟨n, hn, hb⟩ h
    | false => simp [badN] at hb; omega
  · rintro h ⟨n, hn, hb⟩
    have := h n hn
    simp [badN] at hb
    omega
theorem in_two {x tm : Int} : inAll [x, tm] = decide ((0 ≤ x ∧ x ≤ 1099511627776) ∧ (0 ≤ tm ∧ tm ≤ 1099511627776)) := by simp [inAll]
theorem new_is {x tm : Int} {l : List Entry} : newOk x tm l = (inAll [x, tm] && (decide (l.length ≤ 200) && logRow x tm l)) := by
  rw [in_two, newOk, Bool.eq_iff_iff]; simp only [Bool.and_eq_true, decide_eq_true_eq]
  constructor
  · rintro ⟨⟨h1, h2, h3⟩, h4⟩; exact ⟨⟨h1, h2⟩, h3, h4⟩
  · rintro ⟨⟨h1, h2⟩, h3, h4⟩; exact ⟨⟨h1, h2, h3⟩, h4⟩
def EntsI (l : List Entry) : Prop := ∀ e ∈ l, -9223372036854775808 ≤ e.index ∧ e.index ≤ 9223372036854775807
theorem ents_cut {l : List Entry} (h : EntsI l) (n : Nat) : Ents ((l.take n).map Entry.cut) := by
  intro e he
  obtain ⟨q, hq, rfl⟩ := List.mem_map.1 he
  refine ⟨h q (List.mem_of_mem_take hq), ?_⟩
  have := cutB_size (s := q.data) (n := 60) (by decide)
  show (cutB q.data 60).size ≤ 2500
  omega
end Go.AM.Spec
namespace Go.AM
open Go
/-- What is asked of a log. -/
structure OpL where
  kind : Int
  es : List Entry
  esA : Option Addr
  esc : Nat
  s : Snap
  i : Int
  t : Int
  n : Int
def OpL.cells (o : OpL) : List Value := [.int .i64 o.kind, .slice o.esA o.es.length o.esc, .int .i64 o.s.index, .int .i64 o.s.term, .string o.s.conf, .string o.s.data, .int .i64 o.i, .int .i64 o.t, .int .i64 o.n]
theorem OpL.cells_len (m : OpL) : m.cells.length = 9 := rfl
theorem OpL.cells_one (m : OpL) : m.cells.all Value.oneCell' = true := rfl
def OpL.sub : Sub OpL := ⟨4, OpL.esA, OpL.esc, fun m => m.es.map Entry.cells⟩
namespace Spec
def OpsI (l : List OpL) : Prop := ∀ o ∈ l, EntsI o.es
end Spec
end Go.AM
