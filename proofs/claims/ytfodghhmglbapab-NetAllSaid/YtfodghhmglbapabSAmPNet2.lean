/- Part of a machine of its own for this claim: the program's code over memory without draws. -/
import Derived.Test.YtfodghhmglbapabSAmPNet
import Derived.Test.YtfodghhmglbapabSAmPDel
set_option linter.unusedVariables false
set_option linter.unusedSimpArgs false
set_option linter.unnecessarySimpa false
/- Messages on their way. -/

namespace Go.AM.Spec
open Go
/-- What the sentence NetAll keeps: the net holds what the list holds, all of which may be. -/
structure NetRel (n l : List MsgC) : Prop where
  rel : n.map MsgC.val = l.map MsgC.val
  may : ∀ m ∈ l, mayM m.val = true
theorem NetRel.shortL {n l : List MsgC} (h : NetRel n l) : Short l := fun m hm => may_es (h.may m hm)
theorem may_cd {kind from_ to_ term index logterm commit : Int} {yes : Bool} {es : List Entry} {si st : Int} {sc sd : ByteArray} (h : mayMsg kind from_ to_ term index logterm commit yes es si st sc sd = true) : sc.size ≤ 200000 ∧ sd.size ≤ 200000 := by
  unfold mayMsg at h
  simp only [Bool.and_eq_true] at h
  have := h.2.2.2
  split at this
  · rw [Bool.and_eq_true, mayS_eq, decide_eq_true_eq] at this
    omega
  · simp only [snap0, decide_eq_true_eq] at this
    obtain ⟨_, _, rfl, rfl⟩ := this
    exact ⟨by decide, by decide⟩
theorem NetRel.len {n l : List MsgC} (h : NetRel n l) : n.length = l.length := by simpa using congrArg List.length h.rel
theorem NetRel.nil : NetRel [] [] := ⟨rfl, fun _ h => by cases h⟩
theorem NetRel.short {n l : List MsgC} (h : NetRel n l) : Short n := fun m hm => by
  have : m.val ∈ l.map MsgC.val := h.rel ▸ List.mem_map_of_mem hm
  obtain ⟨m', h1, h2⟩ := List.mem_map.1 this
  have := may_es (h.may m' h1)
  have e : m.es = m'.es := congrArg Msg.es h2.symm
  rw [e]
  exact this
theorem NetRel.send {n l n2 : List MsgC} {m : Msg} {b : Bool} {L : List Msg} (h : NetRel n l) (hl : l.length < 400) (hR : sendF (n.map MsgC.val) m = (b, L)) (hn : n2.map MsgC.val = L) :
    b = mayM m ∧ (mayM m = false → NetRel n2 l) ∧ ∀ mc : MsgC, mc.val = m → mayM m = true → NetRel n2 (l ++ [mc]) := by
  unfold sendF at hR
  by_cases hm : mayM m = true
  · rw [if_pos ⟨hm, by rw [List.length_map, h.len]; exact hl⟩] at hR
    cases hR
    refine ⟨hm.symm, (fun e => by rw [e] at hm; cases hm), fun mc hv _ => ⟨by rw [hn, h.rel, List.map_append, List.map_singleton, hv], fun x hx => ?_⟩⟩
    rcases List.mem_append.1 hx with hx | hx
    · exact h.may x hx
    · rw [List.mem_singleton.1 hx, hv]; exact hm
  · rw [if_neg (fun q => hm q.1)] at hR
    cases hR
    refine ⟨by simpa using hm, fun _ => ⟨hn.trans h.rel, h.may⟩, fun mc _ e => absurd e hm⟩
theorem NetRel.drop {n l n2 : List MsgC} {i : Int} {b : Bool} {L : List Msg} (h : NetRel n l) (hR : dropF (n.map MsgC.val) i = (b, L)) (hn : n2.map MsgC.val = L) :
    b = decide (0 ≤ i ∧ i < l.length) ∧ (¬ (0 ≤ i ∧ i < l.length) → NetRel n2 l) ∧ (0 ≤ i ∧ i < l.length → NetRel n2 (l.take i.toNat ++ l.drop (i + 1).toNat)) := by
  rw [h.rel] at hR
  by_cases hi : 0 ≤ i ∧ i < l.length
  · rw [drop_in hi.1 hi.2] at hR
    cases hR
    exact ⟨(decide_eq_true hi).symm, fun q => absurd hi q, fun _ => ⟨hn, fun x hx => h.may x (mem_del hx)⟩⟩
  · rw [drop_out (by omega)] at hR
    cases hR
    exact ⟨(decide_eq_false hi).symm, fun _ => ⟨hn, h.may⟩, fun q => absurd q hi⟩
/-- Those to one server go. -/
def clearF (l : List Msg) (k : Int) : Int × List Msg := ((l.length : Int) - ((l.filter fun m => !(m.to_ == k)).length : Int), l.filter fun m => !(m.to_ == k))
theorem clear_val {l : List MsgC} {k : Int} : (l.map MsgC.val).filter (fun m => !(m.to_ == k)) = (l.filter (notp fun y => y.to_ == k)).map MsgC.val := by
  rw [List.filter_map]
  rfl
theorem clear_le {l : List Msg} {k : Int} : (clearF l k).2.length ≤ l.length := List.length_filter_le _ _
theorem clear_keep {l kl : List MsgC} {j : Nat} {x : MsgC} {k : Int} (hx : l[j]? = some x) (h : ¬ x.to_ = k) (hk : kl = (l.take j).filter (notp fun y => y.to_ == k)) : kl ++ [x] = (l.take (j + 1)).filter (notp fun y => y.to_ == k) := by
  rw [List.take_add_one, hx, List.filter_append, ← hk, Option.toList_some, List.filter_cons_of_pos (by simpa [notp] using h), List.filter_nil]
theorem clear_skip {l kl : List MsgC} {j : Nat} {x : MsgC} {k : Int} (hx : l[j]? = some x) (h : x.to_ = k) (hk : kl = (l.take j).filter (notp fun y => y.to_ == k)) : kl = (l.take (j + 1)).filter (notp fun y => y.to_ == k) := by
  rw [List.take_add_one, hx, List.filter_append, ← hk, Option.toList_some, List.filter_cons_of_neg (by simpa [notp] using h), List.filter_nil, List.append_nil]
theorem NetRel.clear {n l n2 k : List MsgC} {i b : Int} {L : List Msg} {j : Nat} (h : NetRel n l) (hR : clearF (n.map MsgC.val) i = (b, L)) (hn : n2.map MsgC.val = L) (hk : k = (l.take j).filter (notp fun y => y.to_ == i)) (hj : l.length ≤ j) :
    b = (l.length : Int) - (k.length : Int) ∧ NetRel n2 k := by
  rw [List.take_of_length_le hj] at hk
  rw [h.rel] at hR
  unfold clearF at hR
  rw [clear_val, ← hk, List.length_map, List.length_map] at hR
  cases hR
  exact ⟨rfl, hn, fun x hx => h.may x (by rw [hk] at hx; exact (List.mem_filter.1 hx).1)⟩
theorem NetRel.lookK {n l : List MsgC} {i k f t te ix lt cm si st : Int} {y ok : Bool} {es : List Entry} {sc sd : ByteArray} (h : NetRel n l) (hR : lookF (n.map MsgC.val) i = (k, f, t, te, ix, lt, cm, y, es, si, st, sc, sd, ok)) :
    ok = decide (0 ≤ i ∧ i < (l.length : Int)) ∧ (¬ (0 ≤ i ∧ i < (l.length : Int)) → k = 0) ∧ ∀ x : MsgC, 0 ≤ i → l[i.toNat]? = some x →
      (k = x.kind ∧ f = x.from_ ∧ t = x.to_ ∧ te = x.term ∧ ix = x.index ∧ lt = x.logterm ∧ cm = x.commit ∧ y = x.yes ∧ eqEs es x.es = true ∧ eqSn si st sc sd x.snap.index x.snap.term x.snap.conf x.snap.data = true) ∧ x.val = ⟨k, f, t, te, ix, lt, cm, y, es, ⟨si, st, sc, sd⟩⟩ := by
  rw [h.rel] at hR
  by_cases hi : 0 ≤ i ∧ i < (l.length : Int)
  · have hx : l[i.toNat]? = some (l[i.toNat]'(by omega)) := List.getElem?_eq_getElem (by omega)
    rw [look_at hi.1 hx] at hR
    refine ⟨?_, fun q => absurd hi q, fun x _ hx2 => ?_⟩
    · rw [decide_eq_true hi]; simp only [parts, Prod.mk.injEq] at hR; exact hR.2.2.2.2.2.2.2.2.2.2.2.2.2.symm
    · rw [hx2] at hx
      cases Option.some.inj hx
      simp only [parts, Prod.mk.injEq] at hR
      obtain ⟨h1, h2, h3, h4, h5, h6, h7, h8, h9, h10, h11, h12, h13, -⟩ := hR
      subst h1 h2 h3 h4 h5 h6 h7 h8 h9 h10 h11 h12 h13
      exact ⟨⟨rfl, rfl, rfl, rfl, rfl, rfl, rfl, rfl, eqEs_iff.2 rfl, eqSn_iff.2 ⟨rfl, rfl, rfl, rfl⟩⟩, rfl⟩
  · rw [look_out (by omega)] at hR
    simp only [parts, Prod.mk.injEq] at hR
    refine ⟨by rw [decide_eq_false hi]; exact hR.2.2.2.2.2.2.2.2.2.2.2.2.2.symm, fun _ => hR.1.symm, fun x h0 hx => absurd ⟨h0, ?_⟩ hi⟩
    have := (List.getElem?_eq_some_iff.1 hx).1
    omega
theorem NetRel.lookE {n l : List MsgC} {i k f t te ix lt cm si st : Int} {y ok : Bool} {es : List Entry} {sc sd : ByteArray} (h : NetRel n l) (hR : lookF (n.map MsgC.val) i = (k, f, t, te, ix, lt, cm, y, es, si, st, sc, sd, ok)) : es.length ≤ 8 ∧ sc.size ≤ 200000 ∧ sd.size ≤ 200000 := by
  by_cases hi : 0 ≤ i ∧ i < (l.length : Int)
  · have hx : l[i.toNat]? = some (l[i.toNat]'(by omega)) := List.getElem?_eq_getElem (by omega)
    have e := ((h.lookK hR).2.2 _ hi.1 hx).2
    have hm := h.may _ (List.getElem_mem (show i.toNat < l.length by omega))
    rw [e] at hm
    exact ⟨may_es hm, may_cd hm⟩
  · rw [h.rel, look_out (by omega)] at hR
    simp only [parts, zeroM, Prod.mk.injEq] at hR
    obtain ⟨-, -, -, -, -, -, -, -, rfl, -, -, rfl, rfl, -⟩ := hR
    exact ⟨by decide, by decide, by decide⟩
theorem NetRel.takeE {n l : List MsgC} {i k f t te ix lt cm si st : Int} {y ok : Bool} {es : List Entry} {sc sd : ByteArray} {L : List Msg} (h : NetRel n l) (hR : takeT (n.map MsgC.val) i = (k, f, t, te, ix, lt, cm, y, es, si, st, sc, sd, ok, L)) : es.length ≤ 8 ∧ sc.size ≤ 200000 ∧ sd.size ≤ 200000 := by
  refine h.lookE (i := i) (k := k) (f := f) (t := t) (te := te) (ix := ix) (lt := lt) (cm := cm) (si := si) (st := st) (y := y) (ok := ok) ?_
  simp only [takeT, Prod.mk.injEq] at hR
  obtain ⟨h1, h2, h3, h4, h5, h6, h7, h8, h9, h10, h11, h12, h13, h14, h15⟩ := hR
  subst h1 h2 h3 h4 h5 h6 h7 h8 h9 h10 h11 h12 h13 h14
  rfl
theorem NetRel.take {n l n2 : List MsgC} {i k f t te ix lt cm si st : Int} {y ok : Bool} {es : List Entry} {sc sd : ByteArray} {L : List Msg} (h : NetRel n l) (hR : takeT (n.map MsgC.val) i = (k, f, t, te, ix, lt, cm, y, es, si, st, sc, sd, ok, L)) (hn : n2.map MsgC.val = L) :
    ok = decide (0 ≤ i ∧ i < (l.length : Int)) ∧ (¬ (0 ≤ i ∧ i < (l.length : Int)) → k = 0 ∧ NetRel n2 l) ∧ (0 ≤ i ∧ i < (l.length : Int) → NetRel n2 (l.take i.toNat ++ l.drop (i + 1).toNat) ∧ mayM ⟨k, f, t, te, ix, lt, cm, y, es, ⟨si, st, sc, sd⟩⟩ = true) ∧ ∀ x : MsgC, 0 ≤ i → l[i.toNat]? = some x →
      (k = x.kind ∧ f = x.from_ ∧ t = x.to_ ∧ te = x.term ∧ ix = x.index ∧ lt = x.logterm ∧ cm = x.commit ∧ y = x.yes ∧ eqEs es x.es = true ∧ eqSn si st sc sd x.snap.index x.snap.term x.snap.conf x.snap.data = true) := by
  have hl : lookF (n.map MsgC.val) i = (k, f, t, te, ix, lt, cm, y, es, si, st, sc, sd, ok) ∧ (dropF (n.map MsgC.val) i).2 = L := by
    simp only [takeT, Prod.mk.injEq] at hR
    obtain ⟨h1, h2, h3, h4, h5, h6, h7, h8, h9, h10, h11, h12, h13, h14, h15⟩ := hR
    subst h1 h2 h3 h4 h5 h6 h7 h8 h9 h10 h11 h12 h13 h14
    exact ⟨rfl, h15⟩
  have hk := h.lookK hl.1
  have hd := h.drop (b := (dropF (n.map MsgC.val) i).1) (L := L) (by rw [← hl.2]) hn
  refine ⟨hk.1, fun q => ⟨hk.2.1 q, hd.2.1 q⟩, fun q => ⟨hd.2.2 q, ?_⟩, fun x h0 hx => (hk.2.2 x h0 hx).1⟩
  have hx : l[i.toNat]? = some (l[i.toNat]'(by omega)) := List.getElem?_eq_getElem (by omega)
  rw [← (hk.2.2 _ q.1 hx).2]
  exact h.may _ (List.getElem_mem _)
end Go.AM.Spec
namespace Go.AM
open Go
structure OpN where
  kind : Int
  i : Int
  m : MsgC
def OpN.cells (o : OpN) : List Value := [.int .i64 o.kind, .int .i64 o.i, .int .i64 o.m.kind, .int .i64 o.m.from_, .int .i64 o.m.to_, .int .i64 o.m.term, .int .i64 o.m.index, .int .i64 o.m.logterm, .int .i64 o.m.commit, .bool o.m.yes, .slice o.m.esA o.m.es.length o.m.esc, .int .i64 o.m.snap.index, .int .i64 o.m.snap.term, .string o.m.snap.conf, .string o.m.snap.data]
theorem OpN.cells_len (m : OpN) : m.cells.length = 15 := rfl
theorem OpN.cells_one (m : OpN) : m.cells.all Value.oneCell' = true := rfl
def OpN.sub : Sub OpN := ⟨4, fun o => o.m.esA, fun o => o.m.esc, fun o => o.m.es.map Entry.cells⟩
end Go.AM
