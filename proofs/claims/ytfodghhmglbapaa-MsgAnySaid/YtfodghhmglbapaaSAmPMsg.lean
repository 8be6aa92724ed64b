/- Part of a machine of its own for this claim: the program's code over memory without draws. -/
import Derived.Test.YtfodghhmglbapaaSAmPNet
import Derived.Test.YtfodghhmglbapaaSAmPWal
import Derived.Test.YtfodghhmglbapaaSAmE
set_option linter.unusedVariables false
set_option linter.unusedSimpArgs false
set_option linter.unnecessarySimpa false
/- Messages as bytes. -/
set_option linter.unusedSimpArgs false
namespace Go.AM.Spec
open Go
/-- A text in pieces. -/
def framesK (k : Int) (d : List Int) : List (Int × List Int) := if _h : d = [] then [] else (k, d.take 3000) :: framesK k (d.drop 3000)
termination_by d.length
decreasing_by
  have := List.length_pos_iff.2 _h
  rw [List.length_drop]
  omega
theorem framesK_nil (k : Int) : framesK k [] = [] := by rw [framesK, dif_pos rfl]
theorem framesK_step {k : Int} {d : List Int} (h : d ≠ []) : framesK k d = (k, d.take 3000) :: framesK k (d.drop 3000) := by rw [framesK, dif_neg h]
theorem list_ind {P : List Int → Prop} (h0 : P []) (h1 : ∀ d, d ≠ [] → P (d.drop 3000) → P d) : ∀ d, P d := by
  intro d
  generalize hn : d.length = n
  induction n using Nat.strongRecOn generalizing d with
  | _ n ih =>
    by_cases h : d = []
    · subst h; exact h0
    · have := List.length_pos_iff.2 h
      exact h1 d h (ih (d.drop 3000).length (by rw [List.length_drop]; omega) _ rfl)
theorem framesK_valid {k : Int} (hk : 1 ≤ k ∧ k ≤ 255) : ∀ d, Bytes d → ∀ f ∈ framesK k d, Valid f := by
  refine list_ind ?_ ?_
  · intro _ f hf; rw [framesK_nil] at hf; cases hf
  · intro d h ih hb f hf
    rw [framesK_step h] at hf
    rcases List.mem_cons.1 hf with rfl | hf
    · exact ⟨hk.1, hk.2, by simp only [List.length_take]; omega, hb.take _⟩
    · exact ih (hb.drop _) f hf
theorem framesK_max (k : Int) : ∀ d : List Int, (flat (framesK k d)).length ≤ 8 * d.length := by
  refine list_ind ?_ ?_
  · rw [framesK_nil]; simp [flat_nil]
  · intro d h ih
    have := List.length_pos_iff.2 h
    have h2 := enc_len_small (n := (d.take 3000).length) (by rw [List.length_take]; omega)
    rw [framesK_step h, flat_cons, List.length_append, frameF_length]
    rw [List.length_drop] at ih
    simp only [List.length_take] at h2 ⊢
    omega
def encE (e : Entry) : List Int := encodeF false 0 0 e.index e.term e.kind e.data
def headM (m : Msg) : List Int := [m.kind, m.from_, m.to_, m.term, m.index, m.logterm, m.commit, (if m.yes = true then 1 else 0), (m.es.length : Int)]
def snapM (m : Msg) : List Int := if m.kind = 5 then snapF m.snap.index m.snap.term m.snap.conf m.snap.data else []
def textF (m : Msg) : List Int := encs (headM m) ++ (m.es.map encE).flatten ++ snapM m
def lenE (m : Msg) : List Int := enc (zig ((textF m).length : Int))
def encM (m : Msg) : List Int := if mayM m = true then frameF 7 (lenE m) ++ flat (framesK 8 (textF m)) else []
theorem entries_len (es : List Entry) : ((es.map encE).flatten).length ≤ 2550 * es.length := by
  induction es with
  | nil => simp
  | cons e es ih =>
    rw [List.map_cons, List.flatten_cons, List.length_append, List.length_cons]
    have := encodeF_len false 0 0 e.index e.term e.kind e.data
    unfold encE
    unfold encE at ih
    omega
theorem entries_bytes (es : List Entry) : Bytes ((es.map encE).flatten) := by
  induction es with
  | nil => exact Bytes.nil
  | cons e es ih => exact Bytes.append (encodeF_bytes _ _ _ _ _ _ _) ih
theorem snapM_bytes (m : Msg) : Bytes (snapM m) := by
  unfold snapM
  split
  · exact snapF_bytes _ _ _ _
  · exact Bytes.nil
theorem textF_bytes (m : Msg) : Bytes (textF m) := ((encs_bytes _).append (entries_bytes _)).append (snapM_bytes m)
theorem may_bnd {m : Msg} (h : mayM m = true) : bndMsg m.kind m.from_ m.to_ m.term m.index m.logterm m.commit ∧ m.es.length ≤ 8 := by
  refine ⟨?_, may_es h⟩
  unfold mayM mayMsg at h
  rw [Bool.and_eq_true, decide_eq_true_eq] at h
  exact h.1
theorem headM_ints {m : Msg} (h : mayM m = true) : Ints (headM m) := by
  obtain ⟨⟨h1, h2, h3, h4, h5, h6, h7⟩, h8⟩ := may_bnd h
  intro x hx
  simp only [headM, List.mem_cons, List.not_mem_nil, or_false] at hx
  rcases hx with rfl | rfl | rfl | rfl | rfl | rfl | rfl | rfl | rfl
  case inr.inr.inr.inr.inr.inr.inr.inl => split <;> omega
  all_goals omega
theorem encs_len {l : List Int} (h : Ints l) : (encs l).length ≤ 10 * l.length := by
  induction l with
  | nil => simp [encs]
  | cons x l ih =>
    have h1 := zig_i64 (h x (List.mem_cons_self ..))
    have h2 := ih (fun y hy => h y (List.mem_cons_of_mem _ hy))
    have e : encs (x :: l) = enc (zig x) ++ encs l := rfl
    rw [e, List.length_append, List.length_cons]
    omega
theorem textF_len {m : Msg} (h : mayM m = true) : (textF m).length ≤ 1800000 := by
  have h1 := encs_len (headM_ints h)
  have h2 := entries_len m.es
  have h3 := (may_bnd h).2
  have h4 : (snapM m).length ≤ 1700000 := by
    unfold snapM
    split
    · exact snapF_len _ _ _ _
    · exact Nat.zero_le _
  have e : (headM m).length = 9 := rfl
  unfold textF
  rw [List.length_append, List.length_append]
  omega
theorem lenE_len (m : Msg) (h : mayM m = true) : 1 ≤ (lenE m).length ∧ (lenE m).length ≤ 10 := by
  have := textF_len h
  exact ⟨enc_pos _, zig_i64 ⟨by omega, by omega⟩⟩
theorem lenE_bytes (m : Msg) : Bytes (lenE m) := enc_bytes _
theorem encM_bytes (m : Msg) : Bytes (encM m) := by
  unfold encM
  split
  · exact (frameF_bytes (by decide) (lenE_bytes m)).append (flat_bytes (framesK_valid (by decide) _ (textF_bytes m)))
  · exact Bytes.nil
theorem encM_len (m : Msg) : (encM m).length ≤ 15000000 := by
  unfold encM
  split
  · rename_i h
    have h1 := framesK_max 8 (textF m)
    have h2 := textF_len h
    have h3 := lenE_len m h
    have h4 := enc_len_small (n := (lenE m).length) (by omega)
    rw [List.length_append, frameF_length]
    omega
  · exact Nat.zero_le _
theorem encM_pos {m : Msg} (h : mayM m = true) : 0 < (encM m).length := by
  unfold encM
  rw [if_pos h, List.length_append]
  have := frameF_pos 7 (lenE m)
  omega
/-- All frames that a row begins with. -/
def allN (l : List Int) : List (Int × List Int) × Int :=
  if h : l = [] then ([], 0)
  else if (openF l).2.2.2 = 0 then
    have : (l.drop (max 1 (openF l).2.2.1.toNat)).length < l.length := by
      rw [List.length_drop]; have := List.length_pos_iff.2 h; omega
    (((openF l).1, (openF l).2.1) :: (allN (l.drop (max 1 (openF l).2.2.1.toNat))).1, (openF l).2.2.1 + (allN (l.drop (max 1 (openF l).2.2.1.toNat))).2)
  else ([], 0)
termination_by l.length
theorem allN_nil : allN [] = ([], 0) := by rw [allN, dif_pos rfl]
theorem allN_bad {l b : List Int} {k n e : Int} (ho : openF l = (k, b, n, e)) (he : e ≠ 0) : allN l = ([], 0) := by
  rw [allN]
  split
  · rfl
  · simp only [ho, if_neg he]
theorem allN_step {l b : List Int} {k n e : Int} (h : l ≠ []) (ho : openF l = (k, b, n, e)) (he : e = 0) (hn : 1 ≤ n) : allN l = ((k, b) :: (allN (l.drop n.toNat)).1, n + (allN (l.drop n.toNat)).2) := by
  rw [allN, dif_neg h]
  simp only [ho, if_pos he]
  rw [show max 1 n.toNat = n.toNat by omega]
theorem allN_bytes (l : List Int) (hb : Bytes l) : ∀ f ∈ (allN l).1, Bytes f.2 := by
  generalize hn : l.length = n
  induction n using Nat.strongRecOn generalizing l with
  | _ n ih =>
    intro f hf
    rw [allN] at hf
    split at hf
    · cases hf
    · rename_i h
      split at hf
      · rcases List.mem_cons.1 hf with rfl | hf
        · exact (open_all hb).2.2.2
        · have := List.length_pos_iff.2 h
          exact ih (l.drop (max 1 (openF l).2.2.1.toNat)).length (by rw [List.length_drop]; omega) _ (hb.drop _) rfl f hf
      · cases hf
/-- What is left when something was read. -/
def tookF (l : List Int) (bad : Bool) (n err : Int) : List Int × Bool := if bad = true ∨ err ≠ 0 then (l, true) else (l.drop n.toNat, false)
def rdNm (l : List Int) (bad : Bool) : Int × List Int × Bool := ((numGet 0 0 l).1, (tookF l bad (numGet 0 0 l).2.1 (numGet 0 0 l).2.2).1, (tookF l bad (numGet 0 0 l).2.1 (numGet 0 0 l).2.2).2)
def readEs : Nat → Int → List Int → Bool → List Entry → List Int × Bool × List Entry
  | 0, _, l, bad, es => (l, bad, es)
  | f + 1, n, l, bad, es =>
    if n > 0 ∧ bad = false ∧ es.length ≤ 8 then
      readEs f (n - 1) (tookF l bad (decF l).2.2.2.2.2.2.2.1 (decF l).2.2.2.2.2.2.2.2).1 (tookF l bad (decF l).2.2.2.2.2.2.2.1 (decF l).2.2.2.2.2.2.2.2).2 (es ++ [⟨(decF l).2.2.2.1, (decF l).2.2.2.2.1, (decF l).2.2.2.2.2.1, (decF l).2.2.2.2.2.2.1⟩])
    else (l, bad, es)
abbrev MParts : Type := Int × Int × Int × Int × Int × Int × Int × Bool × List Entry × Int × Int × ByteArray × ByteArray × List Int × Bool
def readT (l : List Int) (bad : Bool) : MParts :=
  let a1 := rdNm l bad
  let a2 := rdNm a1.2.1 a1.2.2
  let a3 := rdNm a2.2.1 a2.2.2
  let a4 := rdNm a3.2.1 a3.2.2
  let a5 := rdNm a4.2.1 a4.2.2
  let a6 := rdNm a5.2.1 a5.2.2
  let a7 := rdNm a6.2.1 a6.2.2
  let a8 := rdNm a7.2.1 a7.2.2
  let a9 := rdNm a8.2.1 a8.2.2
  let q := readEs 10 a9.1 a9.2.1 a9.2.2 []
  if a1.1 = 5 ∧ q.2.1 = false then
    let s := getSnapF q.1
    let t := tookF q.1 q.2.1 s.2.2.2.2.1 s.2.2.2.2.2
    (a1.1, a2.1, a3.1, a4.1, a5.1, a6.1, a7.1, a8.1 == 1, q.2.2, s.1, s.2.1, s.2.2.1, s.2.2.2.1, t.1, t.2)
  else (a1.1, a2.1, a3.1, a4.1, a5.1, a6.1, a7.1, a8.1 == 1, q.2.2, 0, 0, ⟨#[]⟩, ⟨#[]⟩, q.1, q.2.1)
def msgOf (r : MParts) : Msg := ⟨r.1, r.2.1, r.2.2.1, r.2.2.2.1, r.2.2.2.2.1, r.2.2.2.2.2.1, r.2.2.2.2.2.2.1, r.2.2.2.2.2.2.2.1, r.2.2.2.2.2.2.2.2.1, ⟨r.2.2.2.2.2.2.2.2.2.1, r.2.2.2.2.2.2.2.2.2.2.1, r.2.2.2.2.2.2.2.2.2.2.2.1, r.2.2.2.2.2.2.2.2.2.2.2.2.1⟩⟩
abbrev DParts : Type := Int × Int × Int × Int × Int × Int × Int × Bool × List Entry × Int × Int × ByteArray × ByteArray × Int
def dparts (m : Msg) (e : Int) : DParts := (m.kind, m.from_, m.to_, m.term, m.index, m.logterm, m.commit, m.yes, m.es, m.snap.index, m.snap.term, m.snap.conf, m.snap.data, e)
def bodiesF (b : List Int) : List Int := (((allN b).1.drop 1).map (·.2)).flatten
def decM (b : List Int) : DParts :=
  if (readT (bodiesF b) false).2.2.2.2.2.2.2.2.2.2.2.2.2.2 = true ∨ mayM (msgOf (readT (bodiesF b) false)) = false ∨ encM (msgOf (readT (bodiesF b) false)) ≠ b then dparts zeroM 1 else dparts (msgOf (readT (bodiesF b) false)) 0
/-- What is told is a message's bytes. -/
theorem dec_says {b : List Int} : (∃ m, decM b = dparts m 0 ∧ mayM m = true ∧ encM m = b) ∨ decM b = dparts zeroM 1 := by
  unfold decM
  split
  · exact .inr rfl
  · rename_i h
    simp only [not_or, Bool.not_eq_false, ne_eq, Decidable.not_not] at h
    exact .inl ⟨_, rfl, h.2.1, h.2.2⟩
theorem took_bytes {l : List Int} {bad : Bool} {n err : Int} (h : Bytes l) : Bytes (tookF l bad n err).1 := by
  unfold tookF
  split
  · exact h
  · exact h.drop _
theorem took_len {l : List Int} {bad : Bool} {n err : Int} : (tookF l bad n err).1.length ≤ l.length := by
  unfold tookF
  split
  · exact Nat.le_refl _
  · rw [List.length_drop]; omega
theorem rdNm_rng {l : List Int} {bad : Bool} (h : Bytes l) : -9223372036854775808 ≤ (rdNm l bad).1 ∧ (rdNm l bad).1 ≤ 9223372036854775807 := by
  have := numGet_all l h
  unfold rdNm
  by_cases h0 : (numGet 0 0 l).2.2 = 0
  · exact ⟨(this.1 h0).1, (this.1 h0).2.1⟩
  · have := this.2.2 h0
    simp only
    omega
theorem readEs_next {f : Nat} {n : Int} {l l' : List Int} {bad bad' h : Bool} {es : List Entry} {t v i u q k e : Int} {d : ByteArray} (hn : n > 0) (hf : 0 < f) (hb : bad = false) (hl : es.length ≤ 8) (hd : decF l = (h, t, v, i, u, q, d, k, e)) (ht : tookF l bad k e = (l', bad')) :
    readEs f n l bad es = readEs (f - 1) (n - 1) l' bad' (es ++ [⟨i, u, q, d⟩]) := by
  obtain ⟨f, rfl⟩ : ∃ g, f = g + 1 := ⟨f - 1, by omega⟩
  rw [readEs, if_pos ⟨hn, hb, hl⟩, hd]
  simp only [ht, Nat.add_sub_cancel]
theorem readEs_end {f : Nat} {n : Int} {l : List Int} {bad : Bool} {es : List Entry} (hf : 0 < f) (h : ¬ (n > 0 ∧ bad = false ∧ es.length ≤ 8)) : readEs f n l bad es = (l, bad, es) := by
  obtain ⟨f, rfl⟩ : ∃ g, f = g + 1 := ⟨f - 1, by omega⟩
  rw [readEs, if_neg h]
theorem readEs_len : ∀ (f : Nat) {n : Int} {l : List Int} {bad : Bool} {es : List Entry}, (readEs f n l bad es).2.2.length ≤ es.length + f
  | 0, _, _, _, _ => Nat.le_refl _
  | f + 1, n, l, bad, es => by
    rw [readEs]
    split
    · refine Nat.le_trans (readEs_len f) ?_
      rw [List.length_append, List.length_singleton]
      omega
    · simp
theorem readEs_bytes : ∀ (f : Nat) {n : Int} {l : List Int} {bad : Bool} {es : List Entry}, Bytes l → Bytes (readEs f n l bad es).1
  | 0, _, _, _, _, h => h
  | f + 1, n, l, bad, es, h => by
    rw [readEs]
    split
    · exact readEs_bytes f (took_bytes h)
    · exact h
theorem readT_es {l : List Int} {bad : Bool} : (readT l bad).2.2.2.2.2.2.2.2.1.length ≤ 10 := by
  unfold readT
  simp only
  split
  · exact Nat.le_trans (readEs_len 10) (by simp)
  · exact Nat.le_trans (readEs_len 10) (by simp)
theorem partsR_max (l : List Int) (left : Int) (h : 0 ≤ left) : ((partsR l left).1.length : Int) ≤ left := by
  generalize hn : left.toNat = n
  induction n using Nat.strongRecOn generalizing l left with
  | _ n ih =>
    by_cases h0 : left ≤ 0
    · rw [partsR_done h0]; exact h
    · have ho : openF l = ((openF l).1, (openF l).2.1, (openF l).2.2.1, (openF l).2.2.2) := rfl
      by_cases he : (openF l).2.2.2 = 0
      · by_cases hb : (openF l).1 ≠ 4 ∨ ((openF l).2.1.length : Int) ≠ (if 3000 < left then 3000 else left)
        · rw [partsR_bad h0 ho he hb]; exact h
        · simp only [not_or, ne_eq, Decidable.not_not] at hb
          rw [partsR_step h0 ho he hb.1 hb.2]
          have hp : 0 < (openF l).2.1.length ∧ ((openF l).2.1.length : Int) ≤ left := by have := hb.2; split at this <;> omega
          have := ih (left - ((openF l).2.1.length : Int)).toNat (by omega) (l.drop (openF l).2.2.1.toNat) (left - ((openF l).2.1.length : Int)) (by omega) rfl
          simp only [List.length_append]
          omega
      · rw [partsR_err h0 ho he]; exact h
theorem getSnap_size {b : List Int} (hb : Bytes b) : (getSnapF b).2.2.1.size ≤ 1048576 ∧ (getSnapF b).2.2.2.1.size ≤ 1048576 := by
  have h0 : (0 : Nat) ≤ 1048576 := by decide
  unfold getSnapF
  split
  · exact ⟨h0, h0⟩
  · simp only
    split
    · exact ⟨h0, h0⟩
    · rename_i hc
      simp only [not_or, Bool.not_eq_false] at hc
      split
      · exact ⟨h0, h0⟩
      · have h1 : Bytes (openF b).2.1 := (open_all hb).2.2.2
        refine ⟨rdT_size (rdN_bytes (rdN_bytes h1 _) _) _, ?_⟩
        have h4 := inF_one hc.2.2.2
        have := partsR_max (b.drop (openF b).2.2.1.toNat) _ h4.1
        simp only [strOfNums_size]
        omega
theorem readT_snap {l : List Int} {bad : Bool} (h : Bytes l) : (readT l bad).2.2.2.2.2.2.2.2.2.2.2.1.size ≤ 1048576 ∧ (readT l bad).2.2.2.2.2.2.2.2.2.2.2.2.1.size ≤ 1048576 := by
  have h0 : (0 : Nat) ≤ 1048576 := by decide
  unfold readT
  simp only
  split
  · exact getSnap_size (readEs_bytes 10 (took_bytes (took_bytes (took_bytes (took_bytes (took_bytes (took_bytes (took_bytes (took_bytes (took_bytes h))))))))))
  · exact ⟨h0, h0⟩
theorem enc_next {out b L1 L2 : List Int} {z : Int} (h : 0 < b.length) (hz : (if 3000 < (b.length : Int) then 3000 else (b.length : Int)) = z) (h1 : L1 = (b.drop 0).take (z.toNat - 0)) (h2 : L2 = (b.drop z.toNat).take (b.length - z.toNat)) :
    out ++ flat (framesK 8 b) = (out ++ sealF 8 L1) ++ flat (framesK 8 L2) := by
  have hne : b ≠ [] := fun e => by subst e; simp at h
  have e1 : L1 = b.take 3000 := by
    rw [h1, List.drop_zero, Nat.sub_zero, List.take_eq_take_iff, ← hz]
    split <;> omega
  have e2 : L2 = b.drop 3000 := by
    rw [h2, drop_all, ← hz]
    split
    · rfl
    · rw [List.drop_eq_nil_of_le (by omega), List.drop_eq_nil_of_le (by omega)]
  rw [framesK_step hne, flat_cons, e1, e2, List.append_assoc]
  unfold sealF
  rw [if_neg (by rw [List.length_take]; omega)]
theorem sealF_max {k : Int} {b : List Int} : (sealF k b).length ≤ 7 + b.length := by
  unfold sealF
  split
  · exact Nat.zero_le _
  · rename_i h
    have := enc_len_small (n := b.length) (by omega)
    rw [frameF_length]
    omega
theorem bodies_len (l : List Int) (hb : Bytes l) : ((((allN l).1).map (·.2)).flatten).length ≤ l.length := by
  generalize hn : l.length = n
  induction n using Nat.strongRecOn generalizing l with
  | _ n ih =>
    rw [allN]
    split
    · simp
    · rename_i h
      split
      · rename_i he
        have := List.length_pos_iff.2 h
        obtain ⟨h1, h2, h3, h4, h5, h6⟩ := openF_frame hb he
        have hfl := frameF_length (openF l).1 (openF l).2.1
        have hlen := ih (l.drop (max 1 (openF l).2.2.1.toNat)).length (by rw [List.length_drop]; omega) _ (hb.drop _) rfl
        rw [List.length_drop] at hlen
        simp only [List.map_cons, List.flatten_cons, List.length_append]
        omega
      · simp
section
variable {rl : List Found} {pr : List (Int × List Int)} {i : Nat} {ev : Found} {all b : List Int} {n : Int}
theorem found_at (hl : rl.map Found.val = pr) (he : rl[i]? = some ev) : pr[i]? = some (ev.kind, ev.body) := by rw [← hl, List.getElem?_map, he]; rfl
theorem all_next (hl : rl.map Found.val = pr) (he : rl[i]? = some ev) (h : 0 < i) (ha : all = (((pr.take i).drop 1).map (·.2)).flatten) : all ++ ev.body = (((pr.take (i + 1)).drop 1).map (·.2)).flatten := by
  have hi := (List.getElem?_eq_some_iff.1 (found_at hl he)).1
  rw [List.take_add_one, found_at hl he, List.drop_append_of_le_length (by rw [List.length_take]; omega), List.map_append, List.flatten_append, ← ha]
  simp
theorem all_skip (_hl : rl.map Found.val = pr) (_he : rl[i]? = some ev) (h : ¬ 0 < i) (ha : all = (((pr.take i).drop 1).map (·.2)).flatten) : all = (((pr.take (i + 1)).drop 1).map (·.2)).flatten := by
  have h0 : i = 0 := by omega
  subst h0
  rw [ha, List.drop_eq_nil_of_le (by rw [List.length_take]; omega), List.drop_eq_nil_of_le (by rw [List.length_take]; omega)]
theorem bodies_part (hb : Bytes b) (hR : allN b = (pr, n)) (j k : Nat) : ((((pr.take j).drop k).map (·.2)).flatten).length ≤ b.length := by
  have h := bodies_len b hb
  rw [hR] at h
  simp only at h
  refine Nat.le_trans ?_ h
  have e := congrArg (fun l => ((l.map (·.2)).flatten).length) (List.take_append_drop j pr)
  have e2 := congrArg (fun l => ((l.map (·.2)).flatten).length) (List.take_append_drop k (pr.take j))
  simp only [List.map_append, List.flatten_append, List.length_append] at e e2
  omega
theorem all_len (hb : Bytes b) (hl : rl.map Found.val = pr) (he : rl[i]? = some ev) (h : 0 < i) (ha : all = (((pr.take i).drop 1).map (·.2)).flatten) (hR : allN b = (pr, n)) : (all ++ ev.body).length ≤ b.length := by
  rw [all_next hl he h ha]
  exact bodies_part hb hR _ _
theorem all_one (hb : Bytes b) (hl : rl.map Found.val = pr) (he : rl[i]? = some ev) (hR : allN b = (pr, n)) : ev.body.length ≤ b.length := by
  have h := bodies_part hb hR (i + 1) i
  have hi := (List.getElem?_eq_some_iff.1 (found_at hl he)).1
  rw [List.take_add_one, found_at hl he, List.drop_append_of_le_length (by rw [List.length_take]; omega), List.drop_eq_nil_of_le (by rw [List.length_take]; omega)] at h
  simpa using h
theorem all_bytes (hl : rl.map Found.val = pr) (he : rl[i]? = some ev) (hy : ∀ f ∈ pr, Bytes f.2) : Bytes ev.body := hy _ (List.mem_of_getElem? (found_at hl he))
end
theorem equal_is {a b : List Int} (ha : Bytes a) (hb : Bytes b) : decide (a = b) = ((strOfNums a).toList == (strOfNums b).toList) := by
  rw [Bool.eq_iff_iff, decide_eq_true_eq, beq_iff_eq]
  constructor
  · rintro rfl; rfl
  · intro h
    have := congrArg bytesOf (toList_inj h)
    rwa [bytesOf_strOf ha, bytesOf_strOf hb] at this
theorem readT_is {l l1 l2 l3 l4 l5 l6 l7 l8 l9 l10 : List Int} {bad b1 b2 b3 b4 b5 b6 b7 b8 b9 b10 : Bool} {k f t tm ix lt cm y n : Int} {es : List Entry}
    (h1 : rdNm l bad = (k, l1, b1)) (h2 : rdNm l1 b1 = (f, l2, b2)) (h3 : rdNm l2 b2 = (t, l3, b3)) (h4 : rdNm l3 b3 = (tm, l4, b4)) (h5 : rdNm l4 b4 = (ix, l5, b5)) (h6 : rdNm l5 b5 = (lt, l6, b6)) (h7 : rdNm l6 b6 = (cm, l7, b7)) (h8 : rdNm l7 b7 = (y, l8, b8)) (h9 : rdNm l8 b8 = (n, l9, b9)) (hq : readEs 10 n l9 b9 [] = (l10, b10, es)) :
    readT l bad = if k = 5 ∧ b10 = false then
      (k, f, t, tm, ix, lt, cm, y == 1, es, (getSnapF l10).1, (getSnapF l10).2.1, (getSnapF l10).2.2.1, (getSnapF l10).2.2.2.1, (tookF l10 b10 (getSnapF l10).2.2.2.2.1 (getSnapF l10).2.2.2.2.2).1, (tookF l10 b10 (getSnapF l10).2.2.2.2.1 (getSnapF l10).2.2.2.2.2).2)
    else (k, f, t, tm, ix, lt, cm, y == 1, es, 0, 0, ⟨#[]⟩, ⟨#[]⟩, l10, b10) := by
  unfold readT
  rw [h1]; simp only
  rw [h2]; simp only
  rw [h3]; simp only
  rw [h4]; simp only
  rw [h5]; simp only
  rw [h6]; simp only
  rw [h7]; simp only
  rw [h8]; simp only
  rw [h9]; simp only
  rw [hq]
theorem open_ok {l : List Int} (hb : Bytes l) : (0 ≤ (openF l).2.2.2 ∧ (openF l).2.2.2 ≤ 3) ∧ (0 ≤ (openF l).2.2.1 ∧ (openF l).2.2.1 ≤ 4020) ∧ ((openF l).2.2.1 ≤ l.length) := by
  have h := open_all hb
  by_cases h0 : (openF l).2.2.2 = 0
  · have := h.1 h0; omega
  · have h2 := h.2.2.1 h0; have h3 := h.2.1; rw [h2.2.2]; omega
theorem partsR_n (l : List Int) (hb : Bytes l) (left : Int) : (0 ≤ (partsR l left).2.2 ∧ (partsR l left).2.2 ≤ 3) ∧ 0 ≤ (partsR l left).2.1 ∧ (partsR l left).2.1 ≤ l.length := by
  generalize hn : left.toNat = n
  induction n using Nat.strongRecOn generalizing l left with
  | _ n ih =>
    have h1 := open_ok hb
    by_cases h0 : left ≤ 0
    · rw [partsR_done h0]; simp
    · have ho : openF l = ((openF l).1, (openF l).2.1, (openF l).2.2.1, (openF l).2.2.2) := rfl
      by_cases he : (openF l).2.2.2 = 0
      · by_cases hc : (openF l).1 ≠ 4 ∨ ((openF l).2.1.length : Int) ≠ (if 3000 < left then 3000 else left)
        · rw [partsR_bad h0 ho he hc]; simp
        · simp only [not_or, ne_eq, Decidable.not_not] at hc
          rw [partsR_step h0 ho he hc.1 hc.2]
          have hp : 0 < (openF l).2.1.length ∧ ((openF l).2.1.length : Int) ≤ left := by have := hc.2; split at this <;> omega
          have := ih (left - ((openF l).2.1.length : Int)).toNat (by omega) (l.drop (openF l).2.2.1.toNat) (hb.drop _) (left - ((openF l).2.1.length : Int)) rfl
          rw [List.length_drop] at this
          simp only
          omega
      · rw [partsR_err h0 ho he]; simp only; omega
theorem getSnap_ok {b : List Int} (hb : Bytes b) : (0 ≤ (getSnapF b).2.2.2.2.2 ∧ (getSnapF b).2.2.2.2.2 ≤ 3) ∧ 0 ≤ (getSnapF b).2.2.2.2.1 ∧ (getSnapF b).2.2.2.2.1 ≤ b.length := by
  have h1 := open_ok hb
  unfold getSnapF
  split
  · simp only [snapBad]; omega
  · simp only
    split
    · simp only [snapBad]; omega
    · split
      · rename_i hq
        have := partsR_n (b.drop (openF b).2.2.1.toNat) (hb.drop _) (rdN (rdT (rdN (rdN (openF b).2.1 false).2.1 (rdN (openF b).2.1 false).2.2).2.1 (rdN (rdN (openF b).2.1 false).2.1 (rdN (openF b).2.1 false).2.2).2.2).2.1 (rdT (rdN (rdN (openF b).2.1 false).2.1 (rdN (openF b).2.1 false).2.2).2.1 (rdN (rdN (openF b).2.1 false).2.1 (rdN (openF b).2.1 false).2.2).2.2).2.2).1
        simp only [snapBad]
        omega
      · have := partsR_n (b.drop (openF b).2.2.1.toNat) (hb.drop _) (rdN (rdT (rdN (rdN (openF b).2.1 false).2.1 (rdN (openF b).2.1 false).2.2).2.1 (rdN (rdN (openF b).2.1 false).2.1 (rdN (openF b).2.1 false).2.2).2.2).2.1 (rdT (rdN (rdN (openF b).2.1 false).2.1 (rdN (openF b).2.1 false).2.2).2.1 (rdN (rdN (openF b).2.1 false).2.1 (rdN (openF b).2.1 false).2.2).2.2).2.2).1
        rw [List.length_drop] at this
        simp only
        omega
theorem allN_len (l : List Int) (hb : Bytes l) : (allN l).1.length ≤ l.length := by
  generalize hn : l.length = n
  induction n using Nat.strongRecOn generalizing l with
  | _ n ih =>
    rw [allN]
    split
    · simp
    · rename_i h
      split
      · rename_i he
        have := List.length_pos_iff.2 h
        have hlen := ih (l.drop (max 1 (openF l).2.2.1.toNat)).length (by rw [List.length_drop]; omega) _ (hb.drop _) rfl
        rw [List.length_drop] at hlen
        simp only [List.length_cons]
        omega
      · simp
section
variable {b all l' : List Int} {k f t tm ix lt cm si st : Int} {y bad : Bool} {es : List Entry} {sc sd : ByteArray} {A : Option Addr}
theorem dec_ok (hA : bodiesF b = all) (hR : readT all false = (k, f, t, tm, ix, lt, cm, y, es, si, st, sc, sd, l', bad)) (hi : A = none ↔ mayMsg k f t tm ix lt cm y es si st sc sd = false) (hb : bad = false) (hn : A.isNone = false) (he : encM ⟨k, f, t, tm, ix, lt, cm, y, es, ⟨si, st, sc, sd⟩⟩ = b) :
    decM b = (k, f, t, tm, ix, lt, cm, y, es, si, st, sc, sd, 0) := by
  have hm : mayMsg k f t tm ix lt cm y es si st sc sd = true := by
    cases h : mayMsg k f t tm ix lt cm y es si st sc sd with
    | true => rfl
    | false => rw [hi.2 h] at hn; cases hn
  unfold decM
  rw [hA, hR, if_neg]
  · rfl
  · simp only [not_or, ne_eq, Decidable.not_not, Bool.not_eq_true, Bool.not_eq_false]
    exact ⟨hb, hm, he⟩
theorem dec_no (hA : bodiesF b = all) (hR : readT all false = (k, f, t, tm, ix, lt, cm, y, es, si, st, sc, sd, l', bad)) (hi : A = none ↔ mayMsg k f t tm ix lt cm y es si st sc sd = false) (h : bad = true ∨ A.isNone = true ∨ ¬ encM ⟨k, f, t, tm, ix, lt, cm, y, es, ⟨si, st, sc, sd⟩⟩ = b) :
    decM b = (0, 0, 0, 0, 0, 0, 0, false, [], 0, 0, ⟨#[]⟩, ⟨#[]⟩, 1) := by
  unfold decM
  rw [hA, hR, if_pos]
  · rfl
  · refine h.imp id fun h => h.imp (fun h => ?_) id
    refine hi.1 ?_
    cases A with
    | none => rfl
    | some a => cases h
end
section
variable {b : List Int} {k f t tm ix lt cm si st e : Int} {y : Bool} {es : List Entry} {sc sd : ByteArray}
theorem mdec_err (hR : decM b = (k, f, t, tm, ix, lt, cm, y, es, si, st, sc, sd, e)) (he : e ≠ 0) : e = 1 ∧ k = 0 := by
  rcases dec_says (b := b) with ⟨m, h1, _⟩ | h1
  · rw [h1] at hR
    simp only [dparts, Prod.mk.injEq] at hR
    omega
  · rw [h1] at hR
    simp only [dparts, zeroM, Prod.mk.injEq] at hR
    omega
theorem mdec_good (hR : decM b = (k, f, t, tm, ix, lt, cm, y, es, si, st, sc, sd, e)) (he : e = 0) : mayMsg k f t tm ix lt cm y es si st sc sd = true ∧ encM ⟨k, f, t, tm, ix, lt, cm, y, es, ⟨si, st, sc, sd⟩⟩ = b := by
  rcases dec_says (b := b) with ⟨m, h1, h2, h3⟩ | h1
  · rw [h1] at hR
    simp only [dparts, Prod.mk.injEq] at hR
    obtain ⟨rfl, rfl, rfl, rfl, rfl, rfl, rfl, rfl, rfl, rfl, rfl, rfl, rfl, _⟩ := hR
    exact ⟨h2, h3⟩
  · rw [h1] at hR
    simp only [dparts, Prod.mk.injEq] at hR
    omega
end
theorem may_sizes {m : Msg} (h : mayM m = true) : m.snap.conf.size ≤ 1048576 ∧ m.snap.data.size ≤ 1048576 := by
  unfold mayM mayMsg at h
  simp only [Bool.and_eq_true] at h
  have h2 := h.2.2.2
  split at h2
  · rw [Bool.and_eq_true] at h2
    have := mayS_says h2.2
    omega
  · simp only [snap0, decide_eq_true_eq] at h2
    rw [h2.2.2.1, h2.2.2.2]
    exact ⟨by decide, by decide⟩
theorem dec_bd {b : List Int} : (0 ≤ (decM b).2.2.2.2.2.2.2.2.2.2.2.2.2 ∧ (decM b).2.2.2.2.2.2.2.2.2.2.2.2.2 ≤ 1) ∧ (decM b).2.2.2.2.2.2.2.2.1.length ≤ 8 ∧ (decM b).2.2.2.2.2.2.2.2.2.2.2.1.size ≤ 1048576 ∧ (decM b).2.2.2.2.2.2.2.2.2.2.2.2.1.size ≤ 1048576 := by
  rcases dec_says (b := b) with ⟨m, h1, h2, h3⟩ | h1
  · rw [h1]
    exact ⟨⟨Int.le_refl _, (by decide : (0 : Int) ≤ 1)⟩, (may_bnd h2).2, may_sizes h2⟩
  · rw [h1]
    exact ⟨⟨(by decide : (0 : Int) ≤ 1), Int.le_refl _⟩, Nat.zero_le _, (by decide : (0 : Nat) ≤ 1048576), (by decide : (0 : Nat) ≤ 1048576)⟩
section
variable {m : Msg} {k f t tm ix lt cm si st e : Int} {y : Bool} {es : List Entry} {sc sd : ByteArray}
end
end Go.AM.Spec
