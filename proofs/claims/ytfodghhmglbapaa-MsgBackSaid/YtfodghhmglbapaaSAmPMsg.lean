/- Part of a machine of its own for this claim: the program's code over memory without draws. -/
import Derived.Test.YtfodghhmglbapaaSAmPNet
import Derived.Test.YtfodghhmglbapaaSAmPWal
import Derived.Test.YtfodghhmglbapaaSAmE
set_option linter.unusedVariables false
set_option linter.unusedSimpArgs false
set_option linter.unnecessarySimpa false
/- Messages as bytes. -/
set_option linter.unusedSimpArgs false
namespace Go.AM.Spec
open Go
def framesK (k : Int) (d : List Int) : List (Int × List Int) := if _h : d = [] then [] else (k, d.take 3000) :: framesK k (d.drop 3000)
termination_by d.length
decreasing_by
  have := List.length_pos_iff.2 _h
  rw [List.length_drop]
  omega
theorem framesK_nil (k : Int) : framesK k [] = [] := by rw [framesK, dif_pos rfl]
theorem framesK_step {k : Int} {d : List Int} (h : d ≠ []) : framesK k d = (k, d.take 3000) :: framesK k (d.drop 3000) := by rw [framesK, dif_neg h]
theorem list_ind {P : List Int → Prop} (h0 : P []) (h1 : ∀ d, d ≠ [] → P (d.drop 3000) → P d) : ∀ d, P d := by
  intro d
  generalize hn : d.length = n
  induction n using Nat.strongRecOn generalizing d with
  | _ n ih =>
    by_cases h : d = []
    · subst h; exact h0
    · have := List.length_pos_iff.2 h
      exact h1 d h (ih (d.drop 3000).length (by rw [List.length_drop]; omega) _ rfl)
theorem framesK_valid {k : Int} (hk : 1 ≤ k ∧ k ≤ 255) : ∀ d, Bytes d → ∀ f ∈ framesK k d, Valid f := by
  refine list_ind ?_ ?_
  · intro _ f hf; rw [framesK_nil] at hf; cases hf
  · intro d h ih hb f hf
    rw [framesK_step h] at hf
    rcases List.mem_cons.1 hf with rfl | hf
    · exact ⟨hk.1, hk.2, by simp only [List.length_take]; omega, hb.take _⟩
    · exact ih (hb.drop _) f hf
theorem framesK_body (k : Int) : ∀ d, ((framesK k d).map (·.2)).flatten = d := by
  refine list_ind ?_ ?_
  · rw [framesK_nil]; rfl
  · intro d h ih
    rw [framesK_step h, List.map_cons, List.flatten_cons, ih, List.take_append_drop]
theorem framesK_len (k : Int) : ∀ d d' : List Int, d.length = d'.length → (flat (framesK k d)).length = (flat (framesK k d')).length := by
  refine list_ind ?_ ?_
  · intro d' h
    rw [List.eq_nil_of_length_eq_zero h.symm]
  · intro d h ih d' hl
    have h' : d' ≠ [] := fun e => by subst e; exact h (List.eq_nil_of_length_eq_zero hl)
    rw [framesK_step h, framesK_step h', flat_cons, flat_cons, List.length_append, List.length_append, ih (d'.drop 3000) (by rw [List.length_drop, List.length_drop, hl]), frameF_length, frameF_length]
    simp only [List.length_take, hl]
theorem framesK_max (k : Int) : ∀ d : List Int, (flat (framesK k d)).length ≤ 8 * d.length := by
  refine list_ind ?_ ?_
  · rw [framesK_nil]; simp [flat_nil]
  · intro d h ih
    have := List.length_pos_iff.2 h
    have h2 := enc_len_small (n := (d.take 3000).length) (by rw [List.length_take]; omega)
    rw [framesK_step h, flat_cons, List.length_append, frameF_length]
    rw [List.length_drop] at ih
    simp only [List.length_take] at h2 ⊢
    omega
def encE (e : Entry) : List Int := encodeF false 0 0 e.index e.term e.kind e.data
def headM (m : Msg) : List Int := [m.kind, m.from_, m.to_, m.term, m.index, m.logterm, m.commit, (if m.yes = true then 1 else 0), (m.es.length : Int)]
def snapM (m : Msg) : List Int := if m.kind = 5 then snapF m.snap.index m.snap.term m.snap.conf m.snap.data else []
def textF (m : Msg) : List Int := encs (headM m) ++ (m.es.map encE).flatten ++ snapM m
def lenE (m : Msg) : List Int := enc (zig ((textF m).length : Int))
def encM (m : Msg) : List Int := if mayM m = true then frameF 7 (lenE m) ++ flat (framesK 8 (textF m)) else []
theorem entries_len (es : List Entry) : ((es.map encE).flatten).length ≤ 2550 * es.length := by
  induction es with
  | nil => simp
  | cons e es ih =>
    rw [List.map_cons, List.flatten_cons, List.length_append, List.length_cons]
    have := encodeF_len false 0 0 e.index e.term e.kind e.data
    unfold encE
    unfold encE at ih
    omega
theorem entries_bytes (es : List Entry) : Bytes ((es.map encE).flatten) := by
  induction es with
  | nil => exact Bytes.nil
  | cons e es ih => exact Bytes.append (encodeF_bytes _ _ _ _ _ _ _) ih
theorem snapM_bytes (m : Msg) : Bytes (snapM m) := by
  unfold snapM
  split
  · exact snapF_bytes _ _ _ _
  · exact Bytes.nil
theorem textF_bytes (m : Msg) : Bytes (textF m) := ((encs_bytes _).append (entries_bytes _)).append (snapM_bytes m)
theorem may_bnd {m : Msg} (h : mayM m = true) : bndMsg m.kind m.from_ m.to_ m.term m.index m.logterm m.commit ∧ m.es.length ≤ 8 := by
  refine ⟨?_, may_es h⟩
  unfold mayM mayMsg at h
  rw [Bool.and_eq_true, decide_eq_true_eq] at h
  exact h.1
theorem headM_ints {m : Msg} (h : mayM m = true) : Ints (headM m) := by
  obtain ⟨⟨h1, h2, h3, h4, h5, h6, h7⟩, h8⟩ := may_bnd h
  intro x hx
  simp only [headM, List.mem_cons, List.not_mem_nil, or_false] at hx
  rcases hx with rfl | rfl | rfl | rfl | rfl | rfl | rfl | rfl | rfl
  case inr.inr.inr.inr.inr.inr.inr.inl => split <;> omega
  all_goals omega
theorem encs_len {l : List Int} (h : Ints l) : (encs l).length ≤ 10 * l.length := by
  induction l with
  | nil => simp [encs]
  | cons x l ih =>
    have h1 := zig_i64 (h x (List.mem_cons_self ..))
    have h2 := ih (fun y hy => h y (List.mem_cons_of_mem _ hy))
    have e : encs (x :: l) = enc (zig x) ++ encs l := rfl
    rw [e, List.length_append, List.length_cons]
    omega
theorem textF_len {m : Msg} (h : mayM m = true) : (textF m).length ≤ 1800000 := by
  have h1 := encs_len (headM_ints h)
  have h2 := entries_len m.es
  have h3 := (may_bnd h).2
  have h4 : (snapM m).length ≤ 1700000 := by
    unfold snapM
    split
    · exact snapF_len _ _ _ _
    · exact Nat.zero_le _
  have e : (headM m).length = 9 := rfl
  unfold textF
  rw [List.length_append, List.length_append]
  omega
theorem lenE_len (m : Msg) (h : mayM m = true) : 1 ≤ (lenE m).length ∧ (lenE m).length ≤ 10 := by
  have := textF_len h
  exact ⟨enc_pos _, zig_i64 ⟨by omega, by omega⟩⟩
theorem lenE_bytes (m : Msg) : Bytes (lenE m) := enc_bytes _
theorem encM_bytes (m : Msg) : Bytes (encM m) := by
  unfold encM
  split
  · exact (frameF_bytes (by decide) (lenE_bytes m)).append (flat_bytes (framesK_valid (by decide) _ (textF_bytes m)))
  · exact Bytes.nil
theorem encM_len (m : Msg) : (encM m).length ≤ 15000000 := by
  unfold encM
  split
  · rename_i h
    have h1 := framesK_max 8 (textF m)
    have h2 := textF_len h
    have h3 := lenE_len m h
    have h4 := enc_len_small (n := (lenE m).length) (by omega)
    rw [List.length_append, frameF_length]
    omega
  · exact Nat.zero_le _
theorem encM_pos {m : Msg} (h : mayM m = true) : 0 < (encM m).length := by
  unfold encM
  rw [if_pos h, List.length_append]
  have := frameF_pos 7 (lenE m)
  omega
def allN (l : List Int) : List (Int × List Int) × Int :=
  if h : l = [] then ([], 0)
  else if (openF l).2.2.2 = 0 then
    have : (l.drop (max 1 (openF l).2.2.1.toNat)).length < l.length := by
      rw [List.length_drop]; have := List.length_pos_iff.2 h; omega
    (((openF l).1, (openF l).2.1) :: (allN (l.drop (max 1 (openF l).2.2.1.toNat))).1, (openF l).2.2.1 + (allN (l.drop (max 1 (openF l).2.2.1.toNat))).2)
  else ([], 0)
termination_by l.length
theorem allN_nil : allN [] = ([], 0) := by rw [allN, dif_pos rfl]
theorem allN_bad {l b : List Int} {k n e : Int} (ho : openF l = (k, b, n, e)) (he : e ≠ 0) : allN l = ([], 0) := by
  rw [allN]
  split
  · rfl
  · simp only [ho, if_neg he]
theorem allN_step {l b : List Int} {k n e : Int} (h : l ≠ []) (ho : openF l = (k, b, n, e)) (he : e = 0) (hn : 1 ≤ n) : allN l = ((k, b) :: (allN (l.drop n.toNat)).1, n + (allN (l.drop n.toNat)).2) := by
  rw [allN, dif_neg h]
  simp only [ho, if_pos he]
  rw [show max 1 n.toNat = n.toNat by omega]
theorem allN_flat : ∀ {fs : List (Int × List Int)}, (∀ f ∈ fs, Valid f) → (allN (flat fs)).1 = fs
  | [], _ => by rw [flat_nil, allN_nil]
  | (k, b) :: fs, h => by
    obtain ⟨h1, h2, h3, h4⟩ : 1 ≤ k ∧ k ≤ 255 ∧ b.length ≤ 4000 ∧ Bytes b := h (k, b) (List.mem_cons_self ..)
    have hp := frameF_pos k b
    rw [flat_cons]
    simp only
    rw [allN_step (fun e => by rw [List.append_eq_nil_iff] at e; rw [e.1] at hp; simp at hp) (open_frame ⟨h1, h2⟩ h3 (flat fs)) rfl (by omega), Int.toNat_natCast, List.drop_left, allN_flat (fun f hf => h f (List.mem_cons_of_mem _ hf))]
theorem allN_bytes (l : List Int) (hb : Bytes l) : ∀ f ∈ (allN l).1, Bytes f.2 := by
  generalize hn : l.length = n
  induction n using Nat.strongRecOn generalizing l with
  | _ n ih =>
    intro f hf
    rw [allN] at hf
    split at hf
    · cases hf
    · rename_i h
      split at hf
      · rcases List.mem_cons.1 hf with rfl | hf
        · exact (open_all hb).2.2.2
        · have := List.length_pos_iff.2 h
          exact ih (l.drop (max 1 (openF l).2.2.1.toNat)).length (by rw [List.length_drop]; omega) _ (hb.drop _) rfl f hf
      · cases hf
def tookF (l : List Int) (bad : Bool) (n err : Int) : List Int × Bool := if bad = true ∨ err ≠ 0 then (l, true) else (l.drop n.toNat, false)
def rdNm (l : List Int) (bad : Bool) : Int × List Int × Bool := ((numGet 0 0 l).1, (tookF l bad (numGet 0 0 l).2.1 (numGet 0 0 l).2.2).1, (tookF l bad (numGet 0 0 l).2.1 (numGet 0 0 l).2.2).2)
def readEs : Nat → Int → List Int → Bool → List Entry → List Int × Bool × List Entry
  | 0, _, l, bad, es => (l, bad, es)
  | f + 1, n, l, bad, es =>
    if n > 0 ∧ bad = false ∧ es.length ≤ 8 then
      readEs f (n - 1) (tookF l bad (decF l).2.2.2.2.2.2.2.1 (decF l).2.2.2.2.2.2.2.2).1 (tookF l bad (decF l).2.2.2.2.2.2.2.1 (decF l).2.2.2.2.2.2.2.2).2 (es ++ [⟨(decF l).2.2.2.1, (decF l).2.2.2.2.1, (decF l).2.2.2.2.2.1, (decF l).2.2.2.2.2.2.1⟩])
    else (l, bad, es)
abbrev MParts : Type := Int × Int × Int × Int × Int × Int × Int × Bool × List Entry × Int × Int × ByteArray × ByteArray × List Int × Bool
def readT (l : List Int) (bad : Bool) : MParts :=
  let a1 := rdNm l bad
  let a2 := rdNm a1.2.1 a1.2.2
  let a3 := rdNm a2.2.1 a2.2.2
  let a4 := rdNm a3.2.1 a3.2.2
  let a5 := rdNm a4.2.1 a4.2.2
  let a6 := rdNm a5.2.1 a5.2.2
  let a7 := rdNm a6.2.1 a6.2.2
  let a8 := rdNm a7.2.1 a7.2.2
  let a9 := rdNm a8.2.1 a8.2.2
  let q := readEs 10 a9.1 a9.2.1 a9.2.2 []
  if a1.1 = 5 ∧ q.2.1 = false then
    let s := getSnapF q.1
    let t := tookF q.1 q.2.1 s.2.2.2.2.1 s.2.2.2.2.2
    (a1.1, a2.1, a3.1, a4.1, a5.1, a6.1, a7.1, a8.1 == 1, q.2.2, s.1, s.2.1, s.2.2.1, s.2.2.2.1, t.1, t.2)
  else (a1.1, a2.1, a3.1, a4.1, a5.1, a6.1, a7.1, a8.1 == 1, q.2.2, 0, 0, ⟨#[]⟩, ⟨#[]⟩, q.1, q.2.1)
def msgOf (r : MParts) : Msg := ⟨r.1, r.2.1, r.2.2.1, r.2.2.2.1, r.2.2.2.2.1, r.2.2.2.2.2.1, r.2.2.2.2.2.2.1, r.2.2.2.2.2.2.2.1, r.2.2.2.2.2.2.2.2.1, ⟨r.2.2.2.2.2.2.2.2.2.1, r.2.2.2.2.2.2.2.2.2.2.1, r.2.2.2.2.2.2.2.2.2.2.2.1, r.2.2.2.2.2.2.2.2.2.2.2.2.1⟩⟩
abbrev DParts : Type := Int × Int × Int × Int × Int × Int × Int × Bool × List Entry × Int × Int × ByteArray × ByteArray × Int
def dparts (m : Msg) (e : Int) : DParts := (m.kind, m.from_, m.to_, m.term, m.index, m.logterm, m.commit, m.yes, m.es, m.snap.index, m.snap.term, m.snap.conf, m.snap.data, e)
def bodiesF (b : List Int) : List Int := (((allN b).1.drop 1).map (·.2)).flatten
def decM (b : List Int) : DParts :=
  if (readT (bodiesF b) false).2.2.2.2.2.2.2.2.2.2.2.2.2.2 = true ∨ mayM (msgOf (readT (bodiesF b) false)) = false ∨ encM (msgOf (readT (bodiesF b) false)) ≠ b then dparts zeroM 1 else dparts (msgOf (readT (bodiesF b) false)) 0
theorem dec_says {b : List Int} : (∃ m, decM b = dparts m 0 ∧ mayM m = true ∧ encM m = b) ∨ decM b = dparts zeroM 1 := by
  unfold decM
  split
  · exact .inr rfl
  · rename_i h
    simp only [not_or, Bool.not_eq_false, ne_eq, Decidable.not_not] at h
    exact .inl ⟨_, rfl, h.2.1, h.2.2⟩
theorem rdNm_enc {n : Int} (h : -9223372036854775808 ≤ n ∧ n ≤ 9223372036854775807) (rest : List Int) : rdNm (enc (zig n) ++ rest) false = (n, rest, false) := by
  unfold rdNm tookF
  rw [get_enc0 n h.1 h.2]
  simp
theorem entR_all {mt : Int} : ∀ {es : List Entry} {ix tm : Int}, entR mt ix tm es = true → ∀ e ∈ es, mayF false 0 0 e.index e.term e.kind e.data = true
  | [], _, _, _, e, he => by cases he
  | x :: es, ix, tm, h, e, he => by
    simp only [entR] at h
    split at h
    · cases h
    · rename_i hn
      simp only [not_or, Bool.not_eq_false] at hn
      rcases List.mem_cons.1 he with rfl | he
      · exact hn.2.2.2
      · exact entR_all h e he
theorem readEs_all : ∀ {es acc : List Entry} {rest : List Int} {f : Nat}, (∀ e ∈ es, mayF false 0 0 e.index e.term e.kind e.data = true) → acc.length + es.length ≤ 9 → es.length < f → readEs f es.length ((es.map encE).flatten ++ rest) false acc = (rest, false, acc ++ es)
  | [], acc, rest, f, _, _, hf => by
    cases f with
    | zero => exact absurd hf (by simp)
    | succ f => simp [readEs]
  | e :: es, acc, rest, f, h, hl, hf => by
    cases f with
    | zero => exact absurd hf (by simp)
    | succ f =>
      rw [List.length_cons] at hl hf
      have hd := dec_encode (h e (List.mem_cons_self ..)) ((es.map encE).flatten ++ rest)
      have e1 : ((e :: es).map encE).flatten ++ rest = encodeF false 0 0 e.index e.term e.kind e.data ++ ((es.map encE).flatten ++ rest) := by
        rw [List.map_cons, List.flatten_cons, List.append_assoc]; rfl
      rw [e1, readEs, if_pos ⟨by rw [List.length_cons]; omega, rfl, by omega⟩, hd]
      have e2 : tookF (encodeF false 0 0 e.index e.term e.kind e.data ++ ((es.map encE).flatten ++ rest)) false ((encodeF false 0 0 e.index e.term e.kind e.data).length : Int) 0 = ((es.map encE).flatten ++ rest, false) := by
        unfold tookF
        rw [if_neg (by simp), Int.toNat_natCast, List.drop_left]
      simp only
      rw [e2, show (((e :: es).length : Nat) : Int) - 1 = (es.length : Int) by rw [List.length_cons]; omega]
      simp only
      rw [readEs_all (fun x hx => h x (List.mem_cons_of_mem _ hx)) (by rw [List.length_append, List.length_singleton]; omega) (by omega), List.append_assoc]
      rfl
theorem parts_put (rest : List Int) : ∀ d : List Int, partsR (partsF d ++ rest) (d.length : Int) = (d, ((partsF d).length : Int), 0) := by
  refine list_ind ?_ ?_
  · rw [partsF_nil]; exact partsR_done (by simp)
  · intro d h ih
    have hp := List.length_pos_iff.2 h
    have ho := open_frame (kind := 4) (b := d.take 3000) (by decide) (by rw [List.length_take]; omega) (partsF (d.drop 3000) ++ rest)
    have hl : ((d.take 3000).length : Int) = if 3000 < (d.length : Int) then 3000 else (d.length : Int) := by rw [List.length_take]; split <;> omega
    rw [partsF_step h, List.append_assoc, partsR_step (by omega) ho rfl rfl hl, Int.toNat_natCast, List.drop_left, show (d.length : Int) - ((d.take 3000).length : Int) = ((d.drop 3000).length : Int) by rw [List.length_take, List.length_drop]; omega, ih]
    simp only [List.take_append_drop, List.length_append, Prod.mk.injEq, true_and]
    exact ⟨by omega, trivial⟩
theorem getSnap_put {x y : Int} {c d : ByteArray} (h : mayS x y c d = true) (rest : List Int) : getSnapF (snapF x y c d ++ rest) = (x, y, c, d, ((snapF x y c d).length : Int), 0) := by
  obtain ⟨h1, h2, h3, h4⟩ := mayS_says h
  have hhl := snapHead_len (x := x) (y := y) (c := c) (d := d) (by omega) (by omega) h3 h4
  have ho := open_frame (kind := 3) (b := snapHead x y c d) (by decide) (by omega) (partsF (bytesOf d) ++ rest)
  have e1 : rdN (snapHead x y c d) false = (x, enc (zig y) ++ (enc (zig (c.size : Int)) ++ bytesOf c ++ (enc (zig (d.size : Int)) ++ [])), false) := rdN_enc (by omega) _
  have e2 : rdN (enc (zig y) ++ (enc (zig (c.size : Int)) ++ bytesOf c ++ (enc (zig (d.size : Int)) ++ []))) false = (y, enc (zig (c.size : Int)) ++ bytesOf c ++ (enc (zig (d.size : Int)) ++ []), false) := rdN_enc (by omega) _
  have e3 : rdT (enc (zig (c.size : Int)) ++ bytesOf c ++ (enc (zig (d.size : Int)) ++ [])) false = (c, enc (zig (d.size : Int)) ++ [], false) := rdT_put (by omega) _
  have e4 : rdN (enc (zig (d.size : Int)) ++ []) false = ((d.size : Int), [], false) := rdN_enc (by omega) _
  have hm : mayS x y c ⟨#[]⟩ = true := by
    rw [mayS_eq]
    exact decide_eq_true ⟨h1, h2, h3, by decide⟩
  have hin : inF 0 200000 [(d.size : Int)] = true := inF_cons.2 ⟨by omega, rfl⟩
  have hpp := parts_put rest (bytesOf d)
  rw [bytesOf_length] at hpp
  unfold snapF
  rw [if_pos h, List.append_assoc]
  unfold getSnapF
  rw [ho]
  simp only [e1, e2, e3, e4, hm, hin, Int.toNat_natCast, List.drop_left, hpp, ne_eq, not_true_eq_false, if_false, List.isEmpty_nil, Bool.not_false, Bool.and_true, Bool.true_eq_false, or_false, strOf_bytesOf, List.length_append]
  congr 5
theorem encs_cons (x : Int) (l rest : List Int) : encs (x :: l) ++ rest = enc (zig x) ++ (encs l ++ rest) := by
  have e : encs (x :: l) = enc (zig x) ++ encs l := rfl
  rw [e, List.append_assoc]
theorem read_text {m : Msg} (h : mayM m = true) : msgOf (readT (textF m) false) = m ∧ (readT (textF m) false).2.2.2.2.2.2.2.2.2.2.2.2.2.2 = false := by
  obtain ⟨⟨h1, h2, h3, h4, h5, h6, h7⟩, h8⟩ := may_bnd h
  have hall : ∀ e ∈ m.es, mayF false 0 0 e.index e.term e.kind e.data = true := by
    unfold mayM mayMsg at h
    simp only [Bool.and_eq_true] at h
    exact entR_all h.2.1.1
  have hsn : (m.kind = 5 → mayS m.snap.index m.snap.term m.snap.conf m.snap.data = true) ∧ (m.kind ≠ 5 → snap0 m.snap.index m.snap.term m.snap.conf m.snap.data = true) := by
    unfold mayM mayMsg at h
    simp only [Bool.and_eq_true] at h
    refine ⟨fun e => ?_, fun e => ?_⟩
    · have := h.2.2.2; rw [if_pos e, Bool.and_eq_true] at this; exact this.2
    · have := h.2.2.2; rw [if_neg e] at this; exact this
  have hyb : -9223372036854775808 ≤ (if m.yes = true then (1 : Int) else 0) ∧ (if m.yes = true then (1 : Int) else 0) ≤ 9223372036854775807 := by split <;> omega
  have hyes : ((if m.yes = true then (1 : Int) else 0) == 1) = m.yes := by cases m.yes <;> rfl
  have hq := readEs_all (es := m.es) (acc := []) (rest := snapM m) (f := 10) hall (by simp; omega) (by omega)
  have e9 : encs [] ++ ((m.es.map encE).flatten ++ snapM m) = (m.es.map encE).flatten ++ snapM m := rfl
  unfold readT textF headM
  rw [List.append_assoc]
  simp only [encs_cons, e9]
  rw [rdNm_enc (by omega)]; simp only
  rw [rdNm_enc (by omega)]; simp only
  rw [rdNm_enc (by omega)]; simp only
  rw [rdNm_enc (by omega)]; simp only
  rw [rdNm_enc (by omega)]; simp only
  rw [rdNm_enc (by omega)]; simp only
  rw [rdNm_enc (by omega)]; simp only
  rw [rdNm_enc hyb]; simp only
  rw [rdNm_enc (by omega)]; simp only
  rw [hq]
  simp only [List.nil_append, and_true, hyes]
  by_cases hk : m.kind = 5
  · have hs := getSnap_put (hsn.1 hk) []
    rw [List.append_nil] at hs
    have e : snapM m = snapF m.snap.index m.snap.term m.snap.conf m.snap.data := if_pos hk
    rw [if_pos hk, e, hs]
    simp [msgOf, tookF]
  · have e : snapM m = [] := if_neg hk
    have h0 := hsn.2 hk
    simp only [snap0, decide_eq_true_eq] at h0
    rw [if_neg hk, e]
    refine ⟨?_, rfl⟩
    obtain ⟨i1, i2, i3, i4⟩ := h0
    cases m with
    | mk a b c d e f g h es s =>
      cases s
      simp only at i1 i2 i3 i4
      subst i1 i2 i3 i4
      rfl
theorem bodies_enc {m : Msg} (h : mayM m = true) : bodiesF (encM m) = textF m := by
  have hv : ∀ f ∈ ((7, lenE m) :: framesK 8 (textF m) : List (Int × List Int)), Valid f := by
    intro f hf
    rcases List.mem_cons.1 hf with rfl | hf
    · exact ⟨show (1 : Int) ≤ 7 by decide, show (7 : Int) ≤ 255 by decide, by have := lenE_len m h; simp only; omega, lenE_bytes m⟩
    · exact framesK_valid (by decide) _ (textF_bytes m) f hf
  unfold bodiesF encM
  rw [if_pos h, ← flat_cons (7, lenE m) (framesK 8 (textF m)), allN_flat hv, List.drop_succ_cons, List.drop_zero, framesK_body]
theorem dec_enc {m : Msg} (h : mayM m = true) : decM (encM m) = dparts m 0 := by
  obtain ⟨h1, h2⟩ := read_text h
  unfold decM
  rw [bodies_enc h, if_neg, h1]
  rw [h1, h2]
  simp [h]
theorem enc_prefix {m m' : Msg} {n : Nat} (h : mayM m = true) (h' : mayM m' = true) (hn : n < (encM m).length) (he : encM m' = (encM m).take n) : False := by
  have l1 := lenE_len m h
  have l2 := lenE_len m' h'
  have ho' := open_frame (kind := 7) (b := lenE m') (by decide) (by omega) (flat (framesK 8 (textF m')))
  have e' : encM m' = frameF 7 (lenE m') ++ flat (framesK 8 (textF m')) := if_pos h'
  have e1 : encM m = frameF 7 (lenE m) ++ flat (framesK 8 (textF m)) := if_pos h
  rw [← e', he, e1] at ho'
  by_cases hc : n < (frameF 7 (lenE m)).length
  · rw [List.take_append_of_le_length (by omega), open_cut (by decide) (by omega) n hc] at ho'
    cases ho'
  · rw [List.take_append, List.take_of_length_le (by omega), open_frame (by decide) (by omega)] at ho'
    simp only [Prod.mk.injEq, true_and, and_true] at ho'
    have hT : (textF m).length = (textF m').length := by
      have g1 := get_enc0 ((textF m).length : Int) (by omega) (by have := textF_len h; omega) []
      have g2 := get_enc0 ((textF m').length : Int) (by omega) (by have := textF_len h'; omega) []
      have e : enc (zig ((textF m).length : Int)) = enc (zig ((textF m').length : Int)) := ho'.1
      rw [e, g2] at g1
      simp only [Prod.mk.injEq] at g1
      omega
    have hl : (encM m').length = (encM m).length := by rw [e', e1, List.length_append, List.length_append, framesK_len 8 _ _ hT, ho'.1]
    rw [he, List.length_take] at hl
    omega
theorem one_byte {k : Int} {b b' : List Int} {i : Nat} {y : Int} (hk : 1 ≤ k ∧ k ≤ 255) (hb : b.length ≤ 4000) (hl : b'.length = b.length) (hbb : Bytes b) (he : frameF k b' = (frameF k b).set i y) (hi : i < (frameF k b).length) (hy : y ≠ (frameF k b)[i]) (hyb : 0 ≤ y ∧ y < 256) : False := by
  have hget : (frameF k b')[i]? = some y := by rw [he, List.getElem?_set_self hi]
  by_cases h12 : i = 1 ∨ i = 2
  · have hp := enc_pos (zig (b.length : Int))
    have hh : headF k b'.length = headF k b.length := by rw [hl]
    have hhl : (headF k b.length).length = 1 + (enc (zig (b.length : Int))).length := headF_length
    by_cases hin : i < (headF k b.length).length
    · have e1 : (frameF k b')[i]? = (frameF k b)[i]? := by
        unfold frameF
        rw [hh, List.getElem?_append_left hin, List.getElem?_append_left hin]
      rw [hget, List.getElem?_eq_getElem hi] at e1
      exact hy (Option.some.inj e1)
    · have e2 : (headF k b.length).length = 2 := by omega
      have hd : ∀ x : List Int, x.length = b.length → (frameF k x).drop 6 = x := by
        intro x hx
        unfold frameF
        rw [hx, ← List.append_assoc]
        have : (headF k b.length ++ four (crcMore 0 (headF k b.length ++ x))).length = 6 := by rw [List.length_append, e2]; rfl
        rw [← this, List.drop_left]
      have e3 : b' = b := by
        have := congrArg (List.drop 6) he
        rw [hd b' hl, List.drop_set, if_pos (by omega), hd b rfl] at this
        exact this
      subst e3
      rw [List.getElem?_eq_getElem hi] at hget
      exact hy (Option.some.inj hget).symm
  · have := spoilt_open hk hb hbb i y hi (fun e => h12 (.inl e)) (fun e => h12 (.inr e)) hy hyb
    rw [← he] at this
    have h2 := open_frame hk (by omega : b'.length ≤ 4000) []
    rw [List.append_nil, this] at h2
    cases h2
theorem frames_byte {k : Int} (hk : 1 ≤ k ∧ k ≤ 255) : ∀ (d d' : List Int) (i : Nat) (y : Int), Bytes d → d'.length = d.length → flat (framesK k d') = (flat (framesK k d)).set i y → ∀ (hi : i < (flat (framesK k d)).length), y ≠ (flat (framesK k d))[i] → 0 ≤ y ∧ y < 256 → False := by
  refine list_ind ?_ ?_
  · intro d' i y _ _ _ hi
    rw [framesK_nil, flat_nil] at hi
    exact absurd hi (by simp)
  · intro d h ih d' i y hb hl he hi hy hyb
    have h' : d' ≠ [] := fun e => by subst e; exact h (List.eq_nil_of_length_eq_zero hl.symm)
    have e1 : flat (framesK k d) = frameF k (d.take 3000) ++ flat (framesK k (d.drop 3000)) := by rw [framesK_step h, flat_cons]
    have e2 : flat (framesK k d') = frameF k (d'.take 3000) ++ flat (framesK k (d'.drop 3000)) := by rw [framesK_step h', flat_cons]
    have ht : (d'.take 3000).length = (d.take 3000).length := by rw [List.length_take, List.length_take, hl]
    have hn : (frameF k (d'.take 3000)).length = (frameF k (d.take 3000)).length := by rw [frameF_length, frameF_length, ht]
    rw [e2, e1] at he
    simp only [e1] at hi hy
    by_cases hc : i < (frameF k (d.take 3000)).length
    · rw [List.set_append_left _ _ hc] at he
      have he1 := (List.append_inj he (by rw [List.length_set, hn])).1
      exact one_byte hk (by rw [List.length_take]; omega) ht (hb.take _) he1 hc (by rwa [List.getElem_append_left hc] at hy) hyb
    · rw [List.set_append_right _ _ (by omega)] at he
      have he2 := (List.append_inj he hn).2
      rw [List.length_append] at hi
      refine ih (d'.drop 3000) (i - (frameF k (d.take 3000)).length) y (hb.drop _) (by rw [List.length_drop, List.length_drop, hl]) he2 (by omega) ?_ hyb
      rwa [List.getElem_append_right (by omega)] at hy
theorem enc_byte {m m' : Msg} {i : Nat} {y : Int} (h : mayM m = true) (h' : mayM m' = true) (hi : i < (encM m).length) (hy : y ≠ (encM m)[i]) (hyb : 0 ≤ y ∧ y < 256) (he : encM m' = (encM m).set i y) : False := by
  have l1 := lenE_len m h
  have l2 := lenE_len m' h'
  have e' : encM m' = frameF 7 (lenE m') ++ flat (framesK 8 (textF m')) := if_pos h'
  have e1 : encM m = frameF 7 (lenE m) ++ flat (framesK 8 (textF m)) := if_pos h
  have small : ∀ b : List Int, 1 ≤ b.length → b.length ≤ 10 → headF 7 b.length = [7, 2 * (b.length : Int)] := by
    intro b h1 h2
    unfold headF
    rw [zig_len, enc_small (by omega)]
    simp
  have d6 : ∀ b rest : List Int, 1 ≤ b.length → b.length ≤ 10 → (frameF 7 b ++ rest).drop 6 = b ++ rest := by
    intro b rest h1 h2
    unfold frameF
    rw [small b h1 h2]
    rfl
  have hT : lenE m = lenE m' → (textF m).length = (textF m').length := by
    intro e
    have g1 := get_enc0 ((textF m).length : Int) (by omega) (by have := textF_len h; omega) []
    have g2 := get_enc0 ((textF m').length : Int) (by omega) (by have := textF_len h'; omega) []
    have e : enc (zig ((textF m).length : Int)) = enc (zig ((textF m').length : Int)) := e
    rw [e, g2] at g1
    simp only [Prod.mk.injEq] at g1
    omega
  rw [e', e1] at he
  simp only [e1] at hi hy
  have hfl : (frameF 7 (lenE m)).length = 6 + (lenE m).length := by rw [frameF_length, zig_len, enc_small (by omega)]; simp
  have hfl' : (frameF 7 (lenE m')).length = 6 + (lenE m').length := by rw [frameF_length, zig_len, enc_small (by omega)]; simp
  by_cases c1 : i < 6
  · have hd := congrArg (List.drop 6) he
    rw [d6 _ _ l2.1 l2.2, List.drop_set, if_pos c1, d6 _ _ l1.1 l1.2] at hd
    have g1 := get_enc0 ((textF m).length : Int) (by omega) (by have := textF_len h; omega) (flat (framesK 8 (textF m)))
    have g2 := get_enc0 ((textF m').length : Int) (by omega) (by have := textF_len h'; omega) (flat (framesK 8 (textF m')))
    have hd' : enc (zig ((textF m').length : Int)) ++ flat (framesK 8 (textF m')) = enc (zig ((textF m).length : Int)) ++ flat (framesK 8 (textF m)) := hd
    rw [hd', g1] at g2
    simp only [Prod.mk.injEq] at g2
    have hE : lenE m' = lenE m := by unfold lenE; rw [g2.1]
    rw [hE] at he
    rw [List.set_append_left _ _ (by omega)] at he
    have he1 := (List.append_inj he (by rw [List.length_set])).1
    have hlt : i < (frameF 7 (lenE m)).length := by omega
    have hg := congrArg (fun l => l[i]?) he1
    simp only [List.getElem?_set_self hlt, List.getElem?_eq_getElem hlt] at hg
    rw [List.getElem_append_left hlt] at hy
    exact hy (Option.some.inj hg).symm
  · by_cases c2 : i < (frameF 7 (lenE m)).length
    · have g1 : ∀ b rest : List Int, 1 ≤ b.length → b.length ≤ 10 → (frameF 7 b ++ rest)[1]? = some (2 * (b.length : Int)) := by
        intro b rest h1 h2
        unfold frameF
        rw [small b h1 h2]
        rfl
      have hl : (lenE m').length = (lenE m).length := by
        have := congrArg (fun l => l[1]?) he
        simp only [List.getElem?_set_ne (show i ≠ 1 by omega), g1 _ _ l1.1 l1.2, g1 _ _ l2.1 l2.2, Option.some.injEq] at this
        omega
      rw [List.set_append_left _ _ c2] at he
      have he1 := (List.append_inj he (by rw [List.length_set, hfl, hfl', hl])).1
      exact one_byte (by decide) (by omega) hl (lenE_bytes m) he1 c2 (by rwa [List.getElem_append_left c2] at hy) hyb
    · rw [List.set_append_right _ _ (by omega)] at he
      have ho := open_frame (kind := 7) (b := lenE m') (by decide) (by omega) (flat (framesK 8 (textF m')))
      rw [he, open_frame (by decide) (by omega)] at ho
      simp only [Prod.mk.injEq, true_and, and_true] at ho
      have hE : lenE m' = lenE m := ho.1.symm
      rw [hE] at he
      have he2 := (List.append_inj he rfl).2
      rw [List.length_append] at hi
      refine frames_byte (by decide) (textF m) (textF m') (i - (frameF 7 (lenE m)).length) y (textF_bytes m) (hT ho.1).symm he2 (by omega) ?_ hyb
      rwa [List.getElem_append_right (by omega)] at hy
theorem dec_cut {m : Msg} {n : Nat} (h : mayM m = true) (hn : n < (encM m).length) : decM ((encM m).take n) = dparts zeroM 1 := by
  rcases dec_says (b := (encM m).take n) with ⟨m', _, h2, h3⟩ | h1
  · exact (enc_prefix h h2 hn h3).elim
  · exact h1
theorem dec_byte {m : Msg} {i : Nat} {y : Int} (h : mayM m = true) (hi : i < (encM m).length) (hy : y ≠ (encM m)[i]) (hyb : 0 ≤ y ∧ y < 256) : decM ((encM m).set i y) = dparts zeroM 1 := by
  rcases dec_says (b := (encM m).set i y) with ⟨m', _, h2, h3⟩ | h1
  · exact (enc_byte h h2 hi hy hyb h3).elim
  · exact h1
theorem took_bytes {l : List Int} {bad : Bool} {n err : Int} (h : Bytes l) : Bytes (tookF l bad n err).1 := by
  unfold tookF
  split
  · exact h
  · exact h.drop _
theorem took_len {l : List Int} {bad : Bool} {n err : Int} : (tookF l bad n err).1.length ≤ l.length := by
  unfold tookF
  split
  · exact Nat.le_refl _
  · rw [List.length_drop]; omega
theorem rdNm_rng {l : List Int} {bad : Bool} (h : Bytes l) : -9223372036854775808 ≤ (rdNm l bad).1 ∧ (rdNm l bad).1 ≤ 9223372036854775807 := by
  have := numGet_all l h
  unfold rdNm
  by_cases h0 : (numGet 0 0 l).2.2 = 0
  · exact ⟨(this.1 h0).1, (this.1 h0).2.1⟩
  · have := this.2.2 h0
    simp only
    omega
theorem readEs_next {f : Nat} {n : Int} {l l' : List Int} {bad bad' h : Bool} {es : List Entry} {t v i u q k e : Int} {d : ByteArray} (hn : n > 0) (hf : 0 < f) (hb : bad = false) (hl : es.length ≤ 8) (hd : decF l = (h, t, v, i, u, q, d, k, e)) (ht : tookF l bad k e = (l', bad')) :
    readEs f n l bad es = readEs (f - 1) (n - 1) l' bad' (es ++ [⟨i, u, q, d⟩]) := by
  obtain ⟨f, rfl⟩ : ∃ g, f = g + 1 := ⟨f - 1, by omega⟩
  rw [readEs, if_pos ⟨hn, hb, hl⟩, hd]
  simp only [ht, Nat.add_sub_cancel]
theorem readEs_end {f : Nat} {n : Int} {l : List Int} {bad : Bool} {es : List Entry} (hf : 0 < f) (h : ¬ (n > 0 ∧ bad = false ∧ es.length ≤ 8)) : readEs f n l bad es = (l, bad, es) := by
  obtain ⟨f, rfl⟩ : ∃ g, f = g + 1 := ⟨f - 1, by omega⟩
  rw [readEs, if_neg h]
theorem readEs_len : ∀ (f : Nat) {n : Int} {l : List Int} {bad : Bool} {es : List Entry}, (readEs f n l bad es).2.2.length ≤ es.length + f
  | 0, _, _, _, _ => Nat.le_refl _
  | f + 1, n, l, bad, es => by
    rw [readEs]
    split
    · refine Nat.le_trans (readEs_len f) ?_
      rw [List.length_append, List.length_singleton]
      omega
    · simp
theorem readEs_bytes : ∀ (f : Nat) {n : Int} {l : List Int} {bad : Bool} {es : List Entry}, Bytes l → Bytes (readEs f n l bad es).1
  | 0, _, _, _, _, h => h
  | f + 1, n, l, bad, es, h => by
    rw [readEs]
    split
    · exact readEs_bytes f (took_bytes h)
    · exact h
theorem readT_es {l : List Int} {bad : Bool} : (readT l bad).2.2.2.2.2.2.2.2.1.length ≤ 10 := by
  unfold readT
  simp only
  split
  · exact Nat.le_trans (readEs_len 10) (by simp)
  · exact Nat.le_trans (readEs_len 10) (by simp)
theorem partsR_max (l : List Int) (left : Int) (h : 0 ≤ left) : ((partsR l left).1.length : Int) ≤ left := by
  generalize hn : left.toNat = n
  induction n using Nat.strongRecOn generalizing l left with
  | _ n ih =>
    by_cases h0 : left ≤ 0
    · rw [partsR_done h0]; exact h
    · have ho : openF l = ((openF l).1, (openF l).2.1, (openF l).2.2.1, (openF l).2.2.2) := rfl
      by_cases he : (openF l).2.2.2 = 0
      · by_cases hb : (openF l).1 ≠ 4 ∨ ((openF l).2.1.length : Int) ≠ (if 3000 < left then 3000 else left)
        · rw [partsR_bad h0 ho he hb]; exact h
        · simp only [not_or, ne_eq, Decidable.not_not] at hb
          rw [partsR_step h0 ho he hb.1 hb.2]
          have hp : 0 < (openF l).2.1.length ∧ ((openF l).2.1.length : Int) ≤ left := by have := hb.2; split at this <;> omega
          have := ih (left - ((openF l).2.1.length : Int)).toNat (by omega) (l.drop (openF l).2.2.1.toNat) (left - ((openF l).2.1.length : Int)) (by omega) rfl
          simp only [List.length_append]
          omega
      · rw [partsR_err h0 ho he]; exact h
theorem getSnap_size {b : List Int} (hb : Bytes b) : (getSnapF b).2.2.1.size ≤ 1048576 ∧ (getSnapF b).2.2.2.1.size ≤ 1048576 := by
  have h0 : (0 : Nat) ≤ 1048576 := by decide
  unfold getSnapF
  split
  · exact ⟨h0, h0⟩
  · simp only
    split
    · exact ⟨h0, h0⟩
    · rename_i hc
      simp only [not_or, Bool.not_eq_false] at hc
      split
      · exact ⟨h0, h0⟩
      · have h1 : Bytes (openF b).2.1 := (open_all hb).2.2.2
        refine ⟨rdT_size (rdN_bytes (rdN_bytes h1 _) _) _, ?_⟩
        have h4 := inF_one hc.2.2.2
        have := partsR_max (b.drop (openF b).2.2.1.toNat) _ h4.1
        simp only [strOfNums_size]
        omega
theorem readT_snap {l : List Int} {bad : Bool} (h : Bytes l) : (readT l bad).2.2.2.2.2.2.2.2.2.2.2.1.size ≤ 1048576 ∧ (readT l bad).2.2.2.2.2.2.2.2.2.2.2.2.1.size ≤ 1048576 := by
  have h0 : (0 : Nat) ≤ 1048576 := by decide
  unfold readT
  simp only
  split
  · exact getSnap_size (readEs_bytes 10 (took_bytes (took_bytes (took_bytes (took_bytes (took_bytes (took_bytes (took_bytes (took_bytes (took_bytes h))))))))))
  · exact ⟨h0, h0⟩
theorem enc_next {out b L1 L2 : List Int} {z : Int} (h : 0 < b.length) (hz : (if 3000 < (b.length : Int) then 3000 else (b.length : Int)) = z) (h1 : L1 = (b.drop 0).take (z.toNat - 0)) (h2 : L2 = (b.drop z.toNat).take (b.length - z.toNat)) :
    out ++ flat (framesK 8 b) = (out ++ sealF 8 L1) ++ flat (framesK 8 L2) := by
  have hne : b ≠ [] := fun e => by subst e; simp at h
  have e1 : L1 = b.take 3000 := by
    rw [h1, List.drop_zero, Nat.sub_zero, List.take_eq_take_iff, ← hz]
    split <;> omega
  have e2 : L2 = b.drop 3000 := by
    rw [h2, drop_all, ← hz]
    split
    · rfl
    · rw [List.drop_eq_nil_of_le (by omega), List.drop_eq_nil_of_le (by omega)]
  rw [framesK_step hne, flat_cons, e1, e2, List.append_assoc]
  unfold sealF
  rw [if_neg (by rw [List.length_take]; omega)]
theorem sealF_max {k : Int} {b : List Int} : (sealF k b).length ≤ 7 + b.length := by
  unfold sealF
  split
  · exact Nat.zero_le _
  · rename_i h
    have := enc_len_small (n := b.length) (by omega)
    rw [frameF_length]
    omega
theorem bodies_len (l : List Int) (hb : Bytes l) : ((((allN l).1).map (·.2)).flatten).length ≤ l.length := by
  generalize hn : l.length = n
  induction n using Nat.strongRecOn generalizing l with
  | _ n ih =>
    rw [allN]
    split
    · simp
    · rename_i h
      split
      · rename_i he
        have := List.length_pos_iff.2 h
        obtain ⟨h1, h2, h3, h4, h5, h6⟩ := openF_frame hb he
        have hfl := frameF_length (openF l).1 (openF l).2.1
        have hlen := ih (l.drop (max 1 (openF l).2.2.1.toNat)).length (by rw [List.length_drop]; omega) _ (hb.drop _) rfl
        rw [List.length_drop] at hlen
        simp only [List.map_cons, List.flatten_cons, List.length_append]
        omega
      · simp
section
variable {rl : List Found} {pr : List (Int × List Int)} {i : Nat} {ev : Found} {all b : List Int} {n : Int}
theorem found_at (hl : rl.map Found.val = pr) (he : rl[i]? = some ev) : pr[i]? = some (ev.kind, ev.body) := by rw [← hl, List.getElem?_map, he]; rfl
theorem all_next (hl : rl.map Found.val = pr) (he : rl[i]? = some ev) (h : 0 < i) (ha : all = (((pr.take i).drop 1).map (·.2)).flatten) : all ++ ev.body = (((pr.take (i + 1)).drop 1).map (·.2)).flatten := by
  have hi := (List.getElem?_eq_some_iff.1 (found_at hl he)).1
  rw [List.take_add_one, found_at hl he, List.drop_append_of_le_length (by rw [List.length_take]; omega), List.map_append, List.flatten_append, ← ha]
  simp
theorem all_skip (_hl : rl.map Found.val = pr) (_he : rl[i]? = some ev) (h : ¬ 0 < i) (ha : all = (((pr.take i).drop 1).map (·.2)).flatten) : all = (((pr.take (i + 1)).drop 1).map (·.2)).flatten := by
  have h0 : i = 0 := by omega
  subst h0
  rw [ha, List.drop_eq_nil_of_le (by rw [List.length_take]; omega), List.drop_eq_nil_of_le (by rw [List.length_take]; omega)]
theorem bodies_part (hb : Bytes b) (hR : allN b = (pr, n)) (j k : Nat) : ((((pr.take j).drop k).map (·.2)).flatten).length ≤ b.length := by
  have h := bodies_len b hb
  rw [hR] at h
  simp only at h
  refine Nat.le_trans ?_ h
  have e := congrArg (fun l => ((l.map (·.2)).flatten).length) (List.take_append_drop j pr)
  have e2 := congrArg (fun l => ((l.map (·.2)).flatten).length) (List.take_append_drop k (pr.take j))
  simp only [List.map_append, List.flatten_append, List.length_append] at e e2
  omega
theorem all_len (hb : Bytes b) (hl : rl.map Found.val = pr) (he : rl[i]? = some ev) (h : 0 < i) (ha : all = (((pr.take i).drop 1).map (·.2)).flatten) (hR : allN b = (pr, n)) : (all ++ ev.body).length ≤ b.length := by
  rw [all_next hl he h ha]
  exact bodies_part hb hR _ _
theorem all_one (hb : Bytes b) (hl : rl.map Found.val = pr) (he : rl[i]? = some ev) (hR : allN b = (pr, n)) : ev.body.length ≤ b.length := by
  have h := bodies_part hb hR (i + 1) i
  have hi := (List.getElem?_eq_some_iff.1 (found_at hl he)).1
  rw [List.take_add_one, found_at hl he, List.drop_append_of_le_length (by rw [List.length_take]; omega), List.drop_eq_nil_of_le (by rw [List.length_take]; omega)] at h
  simpa using h
theorem all_bytes (hl : rl.map Found.val = pr) (he : rl[i]? = some ev) (hy : ∀ f ∈ pr, Bytes f.2) : Bytes ev.body := hy _ (List.mem_of_getElem? (found_at hl he))
end
theorem equal_is {a b : List Int} (ha : Bytes a) (hb : Bytes b) : decide (a = b) = ((strOfNums a).toList == (strOfNums b).toList) := by
  rw [Bool.eq_iff_iff, decide_eq_true_eq, beq_iff_eq]
  constructor
  · rintro rfl; rfl
  · intro h
    have := congrArg bytesOf (toList_inj h)
    rwa [bytesOf_strOf ha, bytesOf_strOf hb] at this
theorem readT_is {l l1 l2 l3 l4 l5 l6 l7 l8 l9 l10 : List Int} {bad b1 b2 b3 b4 b5 b6 b7 b8 b9 b10 : Bool} {k f t tm ix lt cm y n : Int} {es : List Entry}
    (h1 : rdNm l bad = (k, l1, b1)) (h2 : rdNm l1 b1 = (f, l2, b2)) (h3 : rdNm l2 b2 = (t, l3, b3)) (h4 : rdNm l3 b3 = (tm, l4, b4)) (h5 : rdNm l4 b4 = (ix, l5, b5)) (h6 : rdNm l5 b5 = (lt, l6, b6)) (h7 : rdNm l6 b6 = (cm, l7, b7)) (h8 : rdNm l7 b7 = (y, l8, b8)) (h9 : rdNm l8 b8 = (n, l9, b9)) (hq : readEs 10 n l9 b9 [] = (l10, b10, es)) :
    readT l bad = if k = 5 ∧ b10 = false then
      (k, f, t, tm, ix, lt, cm, y == 1, es, (getSnapF l10).1, (getSnapF l10).2.1, (getSnapF l10).2.2.1, (getSnapF l10).2.2.2.1, (tookF l10 b10 (getSnapF l10).2.2.2.2.1 (getSnapF l10).2.2.2.2.2).1, (tookF l10 b10 (getSnapF l10).2.2.2.2.1 (getSnapF l10).2.2.2.2.2).2)
    else (k, f, t, tm, ix, lt, cm, y == 1, es, 0, 0, ⟨#[]⟩, ⟨#[]⟩, l10, b10) := by
  unfold readT
  rw [h1]; simp only
  rw [h2]; simp only
  rw [h3]; simp only
  rw [h4]; simp only
  rw [h5]; simp only
  rw [h6]; simp only
  rw [h7]; simp only
  rw [h8]; simp only
  rw [h9]; simp only
  rw [hq]
theorem open_ok {l : List Int} (hb : Bytes l) : (0 ≤ (openF l).2.2.2 ∧ (openF l).2.2.2 ≤ 3) ∧ (0 ≤ (openF l).2.2.1 ∧ (openF l).2.2.1 ≤ 4020) ∧ ((openF l).2.2.1 ≤ l.length) := by
  have h := open_all hb
  by_cases h0 : (openF l).2.2.2 = 0
  · have := h.1 h0; omega
  · have h2 := h.2.2.1 h0; have h3 := h.2.1; rw [h2.2.2]; omega
theorem partsR_n (l : List Int) (hb : Bytes l) (left : Int) : (0 ≤ (partsR l left).2.2 ∧ (partsR l left).2.2 ≤ 3) ∧ 0 ≤ (partsR l left).2.1 ∧ (partsR l left).2.1 ≤ l.length := by
  generalize hn : left.toNat = n
  induction n using Nat.strongRecOn generalizing l left with
  | _ n ih =>
    have h1 := open_ok hb
    by_cases h0 : left ≤ 0
    · rw [partsR_done h0]; simp
    · have ho : openF l = ((openF l).1, (openF l).2.1, (openF l).2.2.1, (openF l).2.2.2) := rfl
      by_cases he : (openF l).2.2.2 = 0
      · by_cases hc : (openF l).1 ≠ 4 ∨ ((openF l).2.1.length : Int) ≠ (if 3000 < left then 3000 else left)
        · rw [partsR_bad h0 ho he hc]; simp
        · simp only [not_or, ne_eq, Decidable.not_not] at hc
          rw [partsR_step h0 ho he hc.1 hc.2]
          have hp : 0 < (openF l).2.1.length ∧ ((openF l).2.1.length : Int) ≤ left := by have := hc.2; split at this <;> omega
          have := ih (left - ((openF l).2.1.length : Int)).toNat (by omega) (l.drop (openF l).2.2.1.toNat) (hb.drop _) (left - ((openF l).2.1.length : Int)) rfl
          rw [List.length_drop] at this
          simp only
          omega
      · rw [partsR_err h0 ho he]; simp only; omega
theorem getSnap_ok {b : List Int} (hb : Bytes b) : (0 ≤ (getSnapF b).2.2.2.2.2 ∧ (getSnapF b).2.2.2.2.2 ≤ 3) ∧ 0 ≤ (getSnapF b).2.2.2.2.1 ∧ (getSnapF b).2.2.2.2.1 ≤ b.length := by
  have h1 := open_ok hb
  unfold getSnapF
  split
  · simp only [snapBad]; omega
  · simp only
    split
    · simp only [snapBad]; omega
    · split
      · rename_i hq
        have := partsR_n (b.drop (openF b).2.2.1.toNat) (hb.drop _) (rdN (rdT (rdN (rdN (openF b).2.1 false).2.1 (rdN (openF b).2.1 false).2.2).2.1 (rdN (rdN (openF b).2.1 false).2.1 (rdN (openF b).2.1 false).2.2).2.2).2.1 (rdT (rdN (rdN (openF b).2.1 false).2.1 (rdN (openF b).2.1 false).2.2).2.1 (rdN (rdN (openF b).2.1 false).2.1 (rdN (openF b).2.1 false).2.2).2.2).2.2).1
        simp only [snapBad]
        omega
      · have := partsR_n (b.drop (openF b).2.2.1.toNat) (hb.drop _) (rdN (rdT (rdN (rdN (openF b).2.1 false).2.1 (rdN (openF b).2.1 false).2.2).2.1 (rdN (rdN (openF b).2.1 false).2.1 (rdN (openF b).2.1 false).2.2).2.2).2.1 (rdT (rdN (rdN (openF b).2.1 false).2.1 (rdN (openF b).2.1 false).2.2).2.1 (rdN (rdN (openF b).2.1 false).2.1 (rdN (openF b).2.1 false).2.2).2.2).2.2).1
        rw [List.length_drop] at this
        simp only
        omega
theorem allN_len (l : List Int) (hb : Bytes l) : (allN l).1.length ≤ l.length := by
  generalize hn : l.length = n
  induction n using Nat.strongRecOn generalizing l with
  | _ n ih =>
    rw [allN]
    split
    · simp
    · rename_i h
      split
      · rename_i he
        have := List.length_pos_iff.2 h
        have hlen := ih (l.drop (max 1 (openF l).2.2.1.toNat)).length (by rw [List.length_drop]; omega) _ (hb.drop _) rfl
        rw [List.length_drop] at hlen
        simp only [List.length_cons]
        omega
      · simp
section
variable {b all l' : List Int} {k f t tm ix lt cm si st : Int} {y bad : Bool} {es : List Entry} {sc sd : ByteArray} {A : Option Addr}
theorem dec_ok (hA : bodiesF b = all) (hR : readT all false = (k, f, t, tm, ix, lt, cm, y, es, si, st, sc, sd, l', bad)) (hi : A = none ↔ mayMsg k f t tm ix lt cm y es si st sc sd = false) (hb : bad = false) (hn : A.isNone = false) (he : encM ⟨k, f, t, tm, ix, lt, cm, y, es, ⟨si, st, sc, sd⟩⟩ = b) :
    decM b = (k, f, t, tm, ix, lt, cm, y, es, si, st, sc, sd, 0) := by
  have hm : mayMsg k f t tm ix lt cm y es si st sc sd = true := by
    cases h : mayMsg k f t tm ix lt cm y es si st sc sd with
    | true => rfl
    | false => rw [hi.2 h] at hn; cases hn
  unfold decM
  rw [hA, hR, if_neg]
  · rfl
  · simp only [not_or, ne_eq, Decidable.not_not, Bool.not_eq_true, Bool.not_eq_false]
    exact ⟨hb, hm, he⟩
theorem dec_no (hA : bodiesF b = all) (hR : readT all false = (k, f, t, tm, ix, lt, cm, y, es, si, st, sc, sd, l', bad)) (hi : A = none ↔ mayMsg k f t tm ix lt cm y es si st sc sd = false) (h : bad = true ∨ A.isNone = true ∨ ¬ encM ⟨k, f, t, tm, ix, lt, cm, y, es, ⟨si, st, sc, sd⟩⟩ = b) :
    decM b = (0, 0, 0, 0, 0, 0, 0, false, [], 0, 0, ⟨#[]⟩, ⟨#[]⟩, 1) := by
  unfold decM
  rw [hA, hR, if_pos]
  · rfl
  · refine h.imp id fun h => h.imp (fun h => ?_) id
    refine hi.1 ?_
    cases A with
    | none => rfl
    | some a => cases h
end
section
variable {b : List Int} {k f t tm ix lt cm si st e : Int} {y : Bool} {es : List Entry} {sc sd : ByteArray}
end
theorem may_sizes {m : Msg} (h : mayM m = true) : m.snap.conf.size ≤ 1048576 ∧ m.snap.data.size ≤ 1048576 := by
  unfold mayM mayMsg at h
  simp only [Bool.and_eq_true] at h
  have h2 := h.2.2.2
  split at h2
  · rw [Bool.and_eq_true] at h2
    have := mayS_says h2.2
    omega
  · simp only [snap0, decide_eq_true_eq] at h2
    rw [h2.2.2.1, h2.2.2.2]
    exact ⟨by decide, by decide⟩
theorem dec_bd {b : List Int} : (0 ≤ (decM b).2.2.2.2.2.2.2.2.2.2.2.2.2 ∧ (decM b).2.2.2.2.2.2.2.2.2.2.2.2.2 ≤ 1) ∧ (decM b).2.2.2.2.2.2.2.2.1.length ≤ 8 ∧ (decM b).2.2.2.2.2.2.2.2.2.2.2.1.size ≤ 1048576 ∧ (decM b).2.2.2.2.2.2.2.2.2.2.2.2.1.size ≤ 1048576 := by
  rcases dec_says (b := b) with ⟨m, h1, h2, h3⟩ | h1
  · rw [h1]
    exact ⟨⟨Int.le_refl _, (by decide : (0 : Int) ≤ 1)⟩, (may_bnd h2).2, may_sizes h2⟩
  · rw [h1]
    exact ⟨⟨(by decide : (0 : Int) ≤ 1), Int.le_refl _⟩, Nat.zero_le _, (by decide : (0 : Nat) ≤ 1048576), (by decide : (0 : Nat) ≤ 1048576)⟩
theorem xor_ne {a x : Int} (ha : 0 ≤ a ∧ a < 256) (hx : 0 ≤ x ∧ x ≤ 255) (h0 : x ≠ 0) : Go.bits .xor .u8 a x ≠ a := by
  rw [xor_u8 ha.1 ha.2 hx.1 (by omega)]
  intro e
  have e2 : a.toNat ^^^ x.toNat = a.toNat ^^^ 0 := by rw [Nat.xor_zero]; omega
  have := nat_xor_left e2
  omega
section
variable {m : Msg} {k f t tm ix lt cm si st e : Int} {y : Bool} {es : List Entry} {sc sd : ByteArray}
theorem back_same (h : mayM m = true) (hR : decM (encM m) = (k, f, t, tm, ix, lt, cm, y, es, si, st, sc, sd, e)) : e = 0 ∧ m.kind = k ∧ m.from_ = f ∧ m.to_ = t ∧ m.term = tm ∧ m.index = ix ∧ m.logterm = lt ∧ m.commit = cm ∧ m.yes = y ∧ m.es = es ∧ m.snap.index = si ∧ m.snap.term = st ∧ m.snap.conf = sc ∧ m.snap.data = sd := by
  rw [dec_enc h] at hR
  simp only [dparts, Prod.mk.injEq] at hR
  obtain ⟨h1, h2, h3, h4, h5, h6, h7, h8, h9, h10, h11, h12, h13, h14⟩ := hR
  exact ⟨h14.symm, h1, h2, h3, h4, h5, h6, h7, h8, h9, h10, h11, h12, h13⟩
theorem back_cut {L : List Int} {n : Nat} (h : mayM m = true) (hL : L = ((encM m).drop 0).take (n - 0)) (hn : n < (encM m).length) (hR : decM L = (k, f, t, tm, ix, lt, cm, y, es, si, st, sc, sd, e)) : e = 1 := by
  rw [List.drop_zero, Nat.sub_zero] at hL
  rw [hL, dec_cut h hn] at hR
  simp only [dparts, Prod.mk.injEq] at hR
  omega
theorem back_byte {i : Nat} {z x : Int} (h : mayM m = true) (hz : (encM m)[i]? = some z) (hx : 0 ≤ x ∧ x ≤ 255) (h0 : x ≠ 0) (hR : decM ((encM m).set i (Go.bits .xor .u8 z x)) = (k, f, t, tm, ix, lt, cm, y, es, si, st, sc, sd, e)) : e = 1 ∧ k = 0 := by
  obtain ⟨hi, e1⟩ := List.getElem?_eq_some_iff.1 hz
  have hb := encM_bytes m z (List.mem_of_getElem? hz)
  have hw := bitsU8 .xor z x
  rw [dec_byte h hi (by rw [e1]; exact xor_ne hb hx h0) (by omega)] at hR
  simp only [dparts, zeroM, Prod.mk.injEq] at hR
  omega
end
theorem may_ack : mayM ⟨4, 1, 2, 3, 4, 0, 0, true, [], ⟨0, 0, ⟨#[]⟩, ⟨#[]⟩⟩⟩ = true := by simp [mayM, mayMsg, entR, snap0]
theorem may_none : mayM ⟨0, 0, 0, 0, 0, 0, 0, false, [], ⟨0, 0, ⟨#[]⟩, ⟨#[]⟩⟩⟩ = false := by simp [mayM, mayMsg]
theorem dec_none {k f t tm ix lt cm si st e : Int} {y : Bool} {es : List Entry} {sc sd : ByteArray} (hR : decM [] = (k, f, t, tm, ix, lt, cm, y, es, si, st, sc, sd, e)) : e = 1 := by
  rcases dec_says (b := []) with ⟨m, h1, h2, h3⟩ | h1
  · have := encM_pos h2; rw [h3] at this; exact absurd this (by decide)
  · rw [h1] at hR; simp only [dparts, Prod.mk.injEq] at hR; omega
end Go.AM.Spec
