/- Part of a machine of its own for this claim: the program's code over memory without draws. -/
import Derived.Test.YtfodghhmglbapaaSAmPNet
import Derived.Test.YtfodghhmglbapaaSAmPWal
import Derived.Test.YtfodghhmglbapaaSAmE
set_option linter.unusedVariables false
set_option linter.unusedSimpArgs false
set_option linter.unnecessarySimpa false
/- Messages as bytes. -/
set_option linter.unusedSimpArgs false
namespace Go.AM.Spec
open Go
/-- A text in pieces. -/
def framesK (k : Int) (d : List Int) : List (Int × List Int) := if _h : d = [] then [] else (k, d.take 3000) :: framesK k (d.drop 3000)
termination_by d.length
decreasing_by
  have := List.length_pos_iff.2 _h
  rw [List.length_drop]
  omega
theorem framesK_nil (k : Int) : framesK k [] = [] := by rw [framesK, dif_pos rfl]
theorem framesK_step {k : Int} {d : List Int} (h : d ≠ []) : framesK k d = (k, d.take 3000) :: framesK k (d.drop 3000) := by rw [framesK, dif_neg h]
theorem list_ind {P : List Int → Prop} (h0 : P []) (h1 : ∀ d, d ≠ [] → P (d.drop 3000) → P d) : ∀ d, P d := by
  intro d
  generalize hn : d.length = n
  induction n using Nat.strongRecOn generalizing d with
  | _ n ih =>
    by_cases h : d = []
    · subst h; exact h0
    · have := List.length_pos_iff.2 h
      exact h1 d h (ih (d.drop 3000).length (by rw [List.length_drop]; omega) _ rfl)
theorem framesK_valid {k : Int} (hk : 1 ≤ k ∧ k ≤ 255) : ∀ d, Bytes d → ∀ f ∈ framesK k d, Valid f := by
  refine list_ind ?_ ?_
  · intro _ f hf; rw [framesK_nil] at hf; cases hf
  · intro d h ih hb f hf
    rw [framesK_step h] at hf
    rcases List.mem_cons.1 hf with rfl | hf
    · exact ⟨hk.1, hk.2, by simp only [List.length_take]; omega, hb.take _⟩
    · exact ih (hb.drop _) f hf
theorem framesK_body (k : Int) : ∀ d, ((framesK k d).map (·.2)).flatten = d := by
  refine list_ind ?_ ?_
  · rw [framesK_nil]; rfl
  · intro d h ih
    rw [framesK_step h, List.map_cons, List.flatten_cons, ih, List.take_append_drop]
theorem framesK_max (k : Int) : ∀ d : List Int, (flat (framesK k d)).length ≤ 8 * d.length := by
  refine list_ind ?_ ?_
  · rw [framesK_nil]; simp [flat_nil]
  · intro d h ih
    have := List.length_pos_iff.2 h
    have h2 := enc_len_small (n := (d.take 3000).length) (by rw [List.length_take]; omega)
    rw [framesK_step h, flat_cons, List.length_append, frameF_length]
    rw [List.length_drop] at ih
    simp only [List.length_take] at h2 ⊢
    omega
def encE (e : Entry) : List Int := encodeF false 0 0 e.index e.term e.kind e.data
def headM (m : Msg) : List Int := [m.kind, m.from_, m.to_, m.term, m.index, m.logterm, m.commit, (if m.yes = true then 1 else 0), (m.es.length : Int)]
def snapM (m : Msg) : List Int := if m.kind = 5 then snapF m.snap.index m.snap.term m.snap.conf m.snap.data else []
def textF (m : Msg) : List Int := encs (headM m) ++ (m.es.map encE).flatten ++ snapM m
def lenE (m : Msg) : List Int := enc (zig ((textF m).length : Int))
def encM (m : Msg) : List Int := if mayM m = true then frameF 7 (lenE m) ++ flat (framesK 8 (textF m)) else []
theorem entries_len (es : List Entry) : ((es.map encE).flatten).length ≤ 2550 * es.length := by
  induction es with
  | nil => simp
  | cons e es ih =>
    rw [List.map_cons, List.flatten_cons, List.length_append, List.length_cons]
    have := encodeF_len false 0 0 e.index e.term e.kind e.data
    unfold encE
    unfold encE at ih
    omega
theorem entries_bytes (es : List Entry) : Bytes ((es.map encE).flatten) := by
  induction es with
  | nil => exact Bytes.nil
  | cons e es ih => exact Bytes.append (encodeF_bytes _ _ _ _ _ _ _) ih
theorem snapM_bytes (m : Msg) : Bytes (snapM m) := by
  unfold snapM
  split
  · exact snapF_bytes _ _ _ _
  · exact Bytes.nil
theorem textF_bytes (m : Msg) : Bytes (textF m) := ((encs_bytes _).append (entries_bytes _)).append (snapM_bytes m)
theorem may_bnd {m : Msg} (h : mayM m = true) : bndMsg m.kind m.from_ m.to_ m.term m.index m.logterm m.commit ∧ m.es.length ≤ 8 := by
  refine ⟨?_, may_es h⟩
  unfold mayM mayMsg at h
  rw [Bool.and_eq_true, decide_eq_true_eq] at h
  exact h.1
theorem headM_ints {m : Msg} (h : mayM m = true) : Ints (headM m) := by
  obtain ⟨⟨h1, h2, h3, h4, h5, h6, h7⟩, h8⟩ := may_bnd h
  intro x hx
  simp only [headM, List.mem_cons, List.not_mem_nil, or_false] at hx
  rcases hx with rfl | rfl | rfl | rfl | rfl | rfl | rfl | rfl | rfl
  case inr.inr.inr.inr.inr.inr.inr.inl => split <;> omega
  all_goals omega
theorem encs_len {l : List Int} (h : Ints l) : (encs l).length ≤ 10 * l.length := by
  induction l with
  | nil => simp [encs]
  | cons x l ih =>
    have h1 := zig_i64 (h x (List.mem_cons_self ..))
    have h2 := ih (fun y hy => h y (List.mem_cons_of_mem _ hy))
    have e : encs (x :: l) = enc (zig x) ++ encs l := rfl
    rw [e, List.length_append, List.length_cons]
    omega
theorem textF_len {m : Msg} (h : mayM m = true) : (textF m).length ≤ 1800000 := by
  have h1 := encs_len (headM_ints h)
  have h2 := entries_len m.es
  have h3 := (may_bnd h).2
  have h4 : (snapM m).length ≤ 1700000 := by
    unfold snapM
    split
    · exact snapF_len _ _ _ _
    · exact Nat.zero_le _
  have e : (headM m).length = 9 := rfl
  unfold textF
  rw [List.length_append, List.length_append]
  omega
theorem lenE_len (m : Msg) (h : mayM m = true) : 1 ≤ (lenE m).length ∧ (lenE m).length ≤ 10 := by
  have := textF_len h
  exact ⟨enc_pos _, zig_i64 ⟨by omega, by omega⟩⟩
theorem lenE_bytes (m : Msg) : Bytes (lenE m) := enc_bytes _
theorem encM_bytes (m : Msg) : Bytes (encM m) := by
  unfold encM
  split
  · exact (frameF_bytes (by decide) (lenE_bytes m)).append (flat_bytes (framesK_valid (by decide) _ (textF_bytes m)))
  · exact Bytes.nil
theorem encM_len (m : Msg) : (encM m).length ≤ 15000000 := by
  unfold encM
  split
  · rename_i h
    have h1 := framesK_max 8 (textF m)
    have h2 := textF_len h
    have h3 := lenE_len m h
    have h4 := enc_len_small (n := (lenE m).length) (by omega)
    rw [List.length_append, frameF_length]
    omega
  · exact Nat.zero_le _
theorem encM_pos {m : Msg} (h : mayM m = true) : 0 < (encM m).length := by
  unfold encM
  rw [if_pos h, List.length_append]
  have := frameF_pos 7 (lenE m)
  omega
/-- All frames that a row begins with. -/
def allN (l : List Int) : List (Int × List Int) × Int :=
  if h : l = [] then ([], 0)
  else if (openF l).2.2.2 = 0 then
    have : (l.drop (max 1 (openF l).2.2.1.toNat)).length < l.length := by
      rw [List.length_drop]; have := List.length_pos_iff.2 h; omega
    (((openF l).1, (openF l).2.1) :: (allN (l.drop (max 1 (openF l).2.2.1.toNat))).1, (openF l).2.2.1 + (allN (l.drop (max 1 (openF l).2.2.1.toNat))).2)
  else ([], 0)
termination_by l.length
theorem allN_nil : allN [] = ([], 0) := by rw [allN, dif_pos rfl]
theorem allN_step {l b : List Int} {k n e : Int} (h : l ≠ []) (ho : openF l = (k, b, n, e)) (he : e = 0) (hn : 1 ≤ n) : allN l = ((k, b) :: (allN (l.drop n.toNat)).1, n + (allN (l.drop n.toNat)).2) := by
  rw [allN, dif_neg h]
  simp only [ho, if_pos he]
  rw [show max 1 n.toNat = n.toNat by omega]
theorem allN_flat : ∀ {fs : List (Int × List Int)}, (∀ f ∈ fs, Valid f) → (allN (flat fs)).1 = fs
  | [], _ => by rw [flat_nil, allN_nil]
  | (k, b) :: fs, h => by
    obtain ⟨h1, h2, h3, h4⟩ : 1 ≤ k ∧ k ≤ 255 ∧ b.length ≤ 4000 ∧ Bytes b := h (k, b) (List.mem_cons_self ..)
    have hp := frameF_pos k b
    rw [flat_cons]
    simp only
    rw [allN_step (fun e => by rw [List.append_eq_nil_iff] at e; rw [e.1] at hp; simp at hp) (open_frame ⟨h1, h2⟩ h3 (flat fs)) rfl (by omega), Int.toNat_natCast, List.drop_left, allN_flat (fun f hf => h f (List.mem_cons_of_mem _ hf))]
/-- What is left when something was read. -/
def tookF (l : List Int) (bad : Bool) (n err : Int) : List Int × Bool := if bad = true ∨ err ≠ 0 then (l, true) else (l.drop n.toNat, false)
def rdNm (l : List Int) (bad : Bool) : Int × List Int × Bool := ((numGet 0 0 l).1, (tookF l bad (numGet 0 0 l).2.1 (numGet 0 0 l).2.2).1, (tookF l bad (numGet 0 0 l).2.1 (numGet 0 0 l).2.2).2)
def readEs : Nat → Int → List Int → Bool → List Entry → List Int × Bool × List Entry
  | 0, _, l, bad, es => (l, bad, es)
  | f + 1, n, l, bad, es =>
    if n > 0 ∧ bad = false ∧ es.length ≤ 8 then
      readEs f (n - 1) (tookF l bad (decF l).2.2.2.2.2.2.2.1 (decF l).2.2.2.2.2.2.2.2).1 (tookF l bad (decF l).2.2.2.2.2.2.2.1 (decF l).2.2.2.2.2.2.2.2).2 (es ++ [⟨(decF l).2.2.2.1, (decF l).2.2.2.2.1, (decF l).2.2.2.2.2.1, (decF l).2.2.2.2.2.2.1⟩])
    else (l, bad, es)
abbrev MParts : Type := Int × Int × Int × Int × Int × Int × Int × Bool × List Entry × Int × Int × ByteArray × ByteArray × List Int × Bool
def readT (l : List Int) (bad : Bool) : MParts :=
  let a1 := rdNm l bad
  let a2 := rdNm a1.2.1 a1.2.2
  let a3 := rdNm a2.2.1 a2.2.2
  let a4 := rdNm a3.2.1 a3.2.2
  let a5 := rdNm a4.2.1 a4.2.2
  let a6 := rdNm a5.2.1 a5.2.2
  let a7 := rdNm a6.2.1 a6.2.2
  let a8 := rdNm a7.2.1 a7.2.2
  let a9 := rdNm a8.2.1 a8.2.2
  let q := readEs 10 a9.1 a9.2.1 a9.2.2 []
  if a1.1 = 5 ∧ q.2.1 = false then
    let s := getSnapF q.1
    let t := tookF q.1 q.2.1 s.2.2.2.2.1 s.2.2.2.2.2
    (a1.1, a2.1, a3.1, a4.1, a5.1, a6.1, a7.1, a8.1 == 1, q.2.2, s.1, s.2.1, s.2.2.1, s.2.2.2.1, t.1, t.2)
  else (a1.1, a2.1, a3.1, a4.1, a5.1, a6.1, a7.1, a8.1 == 1, q.2.2, 0, 0, ⟨#[]⟩, ⟨#[]⟩, q.1, q.2.1)
def msgOf (r : MParts) : Msg := ⟨r.1, r.2.1, r.2.2.1, r.2.2.2.1, r.2.2.2.2.1, r.2.2.2.2.2.1, r.2.2.2.2.2.2.1, r.2.2.2.2.2.2.2.1, r.2.2.2.2.2.2.2.2.1, ⟨r.2.2.2.2.2.2.2.2.2.1, r.2.2.2.2.2.2.2.2.2.2.1, r.2.2.2.2.2.2.2.2.2.2.2.1, r.2.2.2.2.2.2.2.2.2.2.2.2.1⟩⟩
abbrev DParts : Type := Int × Int × Int × Int × Int × Int × Int × Bool × List Entry × Int × Int × ByteArray × ByteArray × Int
def dparts (m : Msg) (e : Int) : DParts := (m.kind, m.from_, m.to_, m.term, m.index, m.logterm, m.commit, m.yes, m.es, m.snap.index, m.snap.term, m.snap.conf, m.snap.data, e)
def bodiesF (b : List Int) : List Int := (((allN b).1.drop 1).map (·.2)).flatten
def decM (b : List Int) : DParts :=
  if (readT (bodiesF b) false).2.2.2.2.2.2.2.2.2.2.2.2.2.2 = true ∨ mayM (msgOf (readT (bodiesF b) false)) = false ∨ encM (msgOf (readT (bodiesF b) false)) ≠ b then dparts zeroM 1 else dparts (msgOf (readT (bodiesF b) false)) 0
/-- A message comes back. -/
theorem rdNm_enc {n : Int} (h : -9223372036854775808 ≤ n ∧ n ≤ 9223372036854775807) (rest : List Int) : rdNm (enc (zig n) ++ rest) false = (n, rest, false) := by
  unfold rdNm tookF
  rw [get_enc0 n h.1 h.2]
  simp
theorem entR_all {mt : Int} : ∀ {es : List Entry} {ix tm : Int}, entR mt ix tm es = true → ∀ e ∈ es, mayF false 0 0 e.index e.term e.kind e.data = true
  | [], _, _, _, e, he => by cases he
  | x :: es, ix, tm, h, e, he => by
    simp only [entR] at h
    split at h
    · cases h
    · rename_i hn
      simp only [not_or, Bool.not_eq_false] at hn
      rcases List.mem_cons.1 he with rfl | he
      · exact hn.2.2.2
      · exact entR_all h e he
theorem readEs_all : ∀ {es acc : List Entry} {rest : List Int} {f : Nat}, (∀ e ∈ es, mayF false 0 0 e.index e.term e.kind e.data = true) → acc.length + es.length ≤ 9 → es.length < f → readEs f es.length ((es.map encE).flatten ++ rest) false acc = (rest, false, acc ++ es)
  | [], acc, rest, f, _, _, hf => by
    cases f with
    | zero => exact absurd hf (by simp)
    | succ f => simp [readEs]
  | e :: es, acc, rest, f, h, hl, hf => by
    cases f with
    | zero => exact absurd hf (by simp)
    | succ f =>
      rw [List.length_cons] at hl hf
      have hd := dec_encode (h e (List.mem_cons_self ..)) ((es.map encE).flatten ++ rest)
      have e1 : ((e :: es).map encE).flatten ++ rest = encodeF false 0 0 e.index e.term e.kind e.data ++ ((es.map encE).flatten ++ rest) := by
        rw [List.map_cons, List.flatten_cons, List.append_assoc]; rfl
      rw [e1, readEs, if_pos ⟨by rw [List.length_cons]; omega, rfl, by omega⟩, hd]
      have e2 : tookF (encodeF false 0 0 e.index e.term e.kind e.data ++ ((es.map encE).flatten ++ rest)) false ((encodeF false 0 0 e.index e.term e.kind e.data).length : Int) 0 = ((es.map encE).flatten ++ rest, false) := by
        unfold tookF
        rw [if_neg (by simp), Int.toNat_natCast, List.drop_left]
      simp only
      rw [e2, show (((e :: es).length : Nat) : Int) - 1 = (es.length : Int) by rw [List.length_cons]; omega]
      simp only
      rw [readEs_all (fun x hx => h x (List.mem_cons_of_mem _ hx)) (by rw [List.length_append, List.length_singleton]; omega) (by omega), List.append_assoc]
      rfl
theorem parts_put (rest : List Int) : ∀ d : List Int, partsR (partsF d ++ rest) (d.length : Int) = (d, ((partsF d).length : Int), 0) := by
  refine list_ind ?_ ?_
  · rw [partsF_nil]; exact partsR_done (by simp)
  · intro d h ih
    have hp := List.length_pos_iff.2 h
    have ho := open_frame (kind := 4) (b := d.take 3000) (by decide) (by rw [List.length_take]; omega) (partsF (d.drop 3000) ++ rest)
    have hl : ((d.take 3000).length : Int) = if 3000 < (d.length : Int) then 3000 else (d.length : Int) := by rw [List.length_take]; split <;> omega
    rw [partsF_step h, List.append_assoc, partsR_step (by omega) ho rfl rfl hl, Int.toNat_natCast, List.drop_left, show (d.length : Int) - ((d.take 3000).length : Int) = ((d.drop 3000).length : Int) by rw [List.length_take, List.length_drop]; omega, ih]
    simp only [List.take_append_drop, List.length_append, Prod.mk.injEq, true_and]
    exact ⟨by omega, trivial⟩
theorem getSnap_put {x y : Int} {c d : ByteArray} (h : mayS x y c d = true) (rest : List Int) : getSnapF (snapF x y c d ++ rest) = (x, y, c, d, ((snapF x y c d).length : Int), 0) := by
  obtain ⟨h1, h2, h3, h4⟩ := mayS_says h
  have hhl := snapHead_len (x := x) (y := y) (c := c) (d := d) (by omega) (by omega) h3 h4
  have ho := open_frame (kind := 3) (b := snapHead x y c d) (by decide) (by omega) (partsF (bytesOf d) ++ rest)
  have e1 : rdN (snapHead x y c d) false = (x, enc (zig y) ++ (enc (zig (c.size : Int)) ++ bytesOf c ++ (enc (zig (d.size : Int)) ++ [])), false) := rdN_enc (by omega) _
  have e2 : rdN (enc (zig y) ++ (enc (zig (c.size : Int)) ++ bytesOf c ++ (enc (zig (d.size : Int)) ++ []))) false = (y, enc (zig (c.size : Int)) ++ bytesOf c ++ (enc (zig (d.size : Int)) ++ []), false) := rdN_enc (by omega) _
  have e3 : rdT (enc (zig (c.size : Int)) ++ bytesOf c ++ (enc (zig (d.size : Int)) ++ [])) false = (c, enc (zig (d.size : Int)) ++ [], false) := rdT_put (by omega) _
  have e4 : rdN (enc (zig (d.size : Int)) ++ []) false = ((d.size : Int), [], false) := rdN_enc (by omega) _
  have hm : mayS x y c ⟨#[]⟩ = true := by
    rw [mayS_eq]
    exact decide_eq_true ⟨h1, h2, h3, by decide⟩
  have hin : inF 0 200000 [(d.size : Int)] = true := inF_cons.2 ⟨by omega, rfl⟩
  have hpp := parts_put rest (bytesOf d)
  rw [bytesOf_length] at hpp
  unfold snapF
  rw [if_pos h, List.append_assoc]
  unfold getSnapF
  rw [ho]
  simp only [e1, e2, e3, e4, hm, hin, Int.toNat_natCast, List.drop_left, hpp, ne_eq, not_true_eq_false, if_false, List.isEmpty_nil, Bool.not_false, Bool.and_true, Bool.true_eq_false, or_false, strOf_bytesOf, List.length_append]
  congr 5
theorem encs_cons (x : Int) (l rest : List Int) : encs (x :: l) ++ rest = enc (zig x) ++ (encs l ++ rest) := by
  have e : encs (x :: l) = enc (zig x) ++ encs l := rfl
  rw [e, List.append_assoc]
theorem read_text {m : Msg} (h : mayM m = true) : msgOf (readT (textF m) false) = m ∧ (readT (textF m) false).2.2.2.2.2.2.2.2.2.2.2.2.2.2 = false := by
  obtain ⟨⟨h1, h2, h3, h4, h5, h6, h7⟩, h8⟩ := may_bnd h
  have hall : ∀ e ∈ m.es, mayF false 0 0 e.index e.term e.kind e.data = true := by
    unfold mayM mayMsg at h
    simp only [Bool.and_eq_true] at h
    exact entR_all h.2.1.1
  have hsn : (m.kind = 5 → mayS m.snap.index m.snap.term m.snap.conf m.snap.data = true) ∧ (m.kind ≠ 5 → snap0 m.snap.index m.snap.term m.snap.conf m.snap.data = true) := by
    unfold mayM mayMsg at h
    simp only [Bool.and_eq_true] at h
    refine ⟨fun e => ?_, fun e => ?_⟩
    · have := h.2.2.2; rw [if_pos e, Bool.and_eq_true] at this; exact this.2
    · have := h.2.2.2; rw [if_neg e] at this; exact this
  have hyb : -9223372036854775808 ≤ (if m.yes = true then (1 : Int) else 0) ∧ (if m.yes = true then (1 : Int) else 0) ≤ 9223372036854775807 := by split <;> omega
  have hyes : ((if m.yes = true then (1 : Int) else 0) == 1) = m.yes := by cases m.yes <;> rfl
  have hq := readEs_all (es := m.es) (acc := []) (rest := snapM m) (f := 10) hall (by simp; omega) (by omega)
  have e9 : encs [] ++ ((m.es.map encE).flatten ++ snapM m) = (m.es.map encE).flatten ++ snapM m := rfl
  unfold readT textF headM
  rw [List.append_assoc]
  simp only [encs_cons, e9]
  rw [rdNm_enc (by omega)]; simp only
  rw [rdNm_enc (by omega)]; simp only
  rw [rdNm_enc (by omega)]; simp only
  rw [rdNm_enc (by omega)]; simp only
  rw [rdNm_enc (by omega)]; simp only
  rw [rdNm_enc (by omega)]; simp only
  rw [rdNm_enc (by omega)]; simp only
  rw [rdNm_enc hyb]; simp only
  rw [rdNm_enc (by omega)]; simp only
  rw [hq]
  simp only [List.nil_append, and_true, hyes]
  by_cases hk : m.kind = 5
  · have hs := getSnap_put (hsn.1 hk) []
    rw [List.append_nil] at hs
    have e : snapM m = snapF m.snap.index m.snap.term m.snap.conf m.snap.data := if_pos hk
    rw [if_pos hk, e, hs]
    simp [msgOf, tookF]
  · have e : snapM m = [] := if_neg hk
    have h0 := hsn.2 hk
    simp only [snap0, decide_eq_true_eq] at h0
    rw [if_neg hk, e]
    refine ⟨?_, rfl⟩
    obtain ⟨i1, i2, i3, i4⟩ := h0
    cases m with
    | mk a b c d e f g h es s =>
      cases s
      simp only at i1 i2 i3 i4
      subst i1 i2 i3 i4
      rfl
theorem bodies_enc {m : Msg} (h : mayM m = true) : bodiesF (encM m) = textF m := by
  have hv : ∀ f ∈ ((7, lenE m) :: framesK 8 (textF m) : List (Int × List Int)), Valid f := by
    intro f hf
    rcases List.mem_cons.1 hf with rfl | hf
    · exact ⟨show (1 : Int) ≤ 7 by decide, show (7 : Int) ≤ 255 by decide, by have := lenE_len m h; simp only; omega, lenE_bytes m⟩
    · exact framesK_valid (by decide) _ (textF_bytes m) f hf
  unfold bodiesF encM
  rw [if_pos h, ← flat_cons (7, lenE m) (framesK 8 (textF m)), allN_flat hv, List.drop_succ_cons, List.drop_zero, framesK_body]
theorem dec_enc {m : Msg} (h : mayM m = true) : decM (encM m) = dparts m 0 := by
  obtain ⟨h1, h2⟩ := read_text h
  unfold decM
  rw [bodies_enc h, if_neg, h1]
  rw [h1, h2]
  simp [h]
theorem enc_inj {a b : Msg} (ha : mayM a = true) (hb : mayM b = true) (h : encM a = encM b) : a = b := by
  have h1 := dec_enc ha
  rw [h, dec_enc hb] at h1
  simp only [dparts, Prod.mk.injEq] at h1
  cases a with
  | mk _ _ _ _ _ _ _ _ _ s => cases b with
    | mk _ _ _ _ _ _ _ _ _ t => cases s; cases t; simp_all
theorem enc_next {out b L1 L2 : List Int} {z : Int} (h : 0 < b.length) (hz : (if 3000 < (b.length : Int) then 3000 else (b.length : Int)) = z) (h1 : L1 = (b.drop 0).take (z.toNat - 0)) (h2 : L2 = (b.drop z.toNat).take (b.length - z.toNat)) :
    out ++ flat (framesK 8 b) = (out ++ sealF 8 L1) ++ flat (framesK 8 L2) := by
  have hne : b ≠ [] := fun e => by subst e; simp at h
  have e1 : L1 = b.take 3000 := by
    rw [h1, List.drop_zero, Nat.sub_zero, List.take_eq_take_iff, ← hz]
    split <;> omega
  have e2 : L2 = b.drop 3000 := by
    rw [h2, drop_all, ← hz]
    split
    · rfl
    · rw [List.drop_eq_nil_of_le (by omega), List.drop_eq_nil_of_le (by omega)]
  rw [framesK_step hne, flat_cons, e1, e2, List.append_assoc]
  unfold sealF
  rw [if_neg (by rw [List.length_take]; omega)]
theorem sealF_max {k : Int} {b : List Int} : (sealF k b).length ≤ 7 + b.length := by
  unfold sealF
  split
  · exact Nat.zero_le _
  · rename_i h
    have := enc_len_small (n := b.length) (by omega)
    rw [frameF_length]
    omega
section
variable {rl : List Found} {pr : List (Int × List Int)} {i : Nat} {ev : Found} {all b : List Int} {n : Int}
end
theorem equal_is {a b : List Int} (ha : Bytes a) (hb : Bytes b) : decide (a = b) = ((strOfNums a).toList == (strOfNums b).toList) := by
  rw [Bool.eq_iff_iff, decide_eq_true_eq, beq_iff_eq]
  constructor
  · rintro rfl; rfl
  · intro h
    have := congrArg bytesOf (toList_inj h)
    rwa [bytesOf_strOf ha, bytesOf_strOf hb] at this
section
variable {b all l' : List Int} {k f t tm ix lt cm si st : Int} {y bad : Bool} {es : List Entry} {sc sd : ByteArray} {A : Option Addr}
end
section
variable {b : List Int} {k f t tm ix lt cm si st e : Int} {y : Bool} {es : List Entry} {sc sd : ByteArray}
end
theorem mstr_inj {a b : List Int} (ha : Bytes a) (hb : Bytes b) : ((strOfNums a).toList == (strOfNums b).toList) = decide (a = b) := (equal_is ha hb).symm
theorem msg_twins {k f t tm ix lt cm si st k' f' t' tm' ix' lt' cm' si' st' : Int} {y y' : Bool} {es es' : List Entry} {sc sd sc' sd' : ByteArray} (ha : mayMsg k f t tm ix lt cm y es si st sc sd = true) (hb : mayMsg k' f' t' tm' ix' lt' cm' y' es' si' st' sc' sd' = true) :
    (((strOfNums (encM ⟨k, f, t, tm, ix, lt, cm, y, es, ⟨si, st, sc, sd⟩⟩)).toList == (strOfNums (encM ⟨k', f', t', tm', ix', lt', cm', y', es', ⟨si', st', sc', sd'⟩⟩)).toList) == decide (k = k' ∧ f = f' ∧ t = t' ∧ tm = tm' ∧ ix = ix' ∧ lt = lt' ∧ cm = cm' ∧ y = y' ∧ eqEs es es' = true ∧ eqSn si st sc sd si' st' sc' sd' = true)) = true := by
  rw [beq_iff_eq, mstr_inj (encM_bytes _) (encM_bytes _)]
  refine decide_eq_decide.2 ⟨fun h => ?_, ?_⟩
  · have := enc_inj (a := ⟨k, f, t, tm, ix, lt, cm, y, es, ⟨si, st, sc, sd⟩⟩) (b := ⟨k', f', t', tm', ix', lt', cm', y', es', ⟨si', st', sc', sd'⟩⟩) ha hb h
    simp only [Msg.mk.injEq, Snap.mk.injEq] at this
    obtain ⟨rfl, rfl, rfl, rfl, rfl, rfl, rfl, rfl, rfl, rfl, rfl, rfl, rfl⟩ := this
    exact ⟨rfl, rfl, rfl, rfl, rfl, rfl, rfl, rfl, eqEs_self _, eqSn_iff.2 ⟨rfl, rfl, rfl, rfl⟩⟩
  · rintro ⟨rfl, rfl, rfl, rfl, rfl, rfl, rfl, rfl, h9, h10⟩
    obtain rfl := eqEs_iff.1 h9
    obtain ⟨rfl, rfl, rfl, rfl⟩ := eqSn_iff.1 h10
    rfl
section
variable {m : Msg} {k f t tm ix lt cm si st e : Int} {y : Bool} {es : List Entry} {sc sd : ByteArray}
end
end Go.AM.Spec
