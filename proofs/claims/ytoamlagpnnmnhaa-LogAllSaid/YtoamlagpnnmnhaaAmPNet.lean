/- Part of a machine of its own for this claim: the program's code over memory without draws. -/
import Derived.Test.YtoamlagpnnmnhaaAmRep17
import Derived.Test.YtoamlagpnnmnhaaAmPConf
set_option linter.unusedVariables false
set_option linter.unusedSimpArgs false
set_option linter.unnecessarySimpa false
/- Messages on their way. -/
set_option linter.unusedSimpArgs false
namespace Go.AM.Spec
open Go
def mayM (m : Msg) : Bool := mayMsg m.kind m.from_ m.to_ m.term m.index m.logterm m.commit m.yes m.es m.snap.index m.snap.term m.snap.conf m.snap.data
def sendF (l : List Msg) (m : Msg) : Bool × List Msg := if mayM m = true ∧ l.length < 400 then (true, l ++ [m]) else (false, l)
theorem send_ack {l l2 : List Msg} {b : Bool} {i : Int} (h : sendF l ⟨4, 1, 2, 1, i, 0, 0, false, [], ⟨0, 0, ⟨#[]⟩, ⟨#[]⟩⟩⟩ = (b, l2)) (h0 : 0 ≤ i) (h1 : i ≤ 450) : b = decide (l.length < 400) ∧ l2.length = if l.length < 400 then l.length + 1 else l.length := by
  have hm : mayM ⟨4, 1, 2, 1, i, 0, 0, false, [], ⟨0, 0, ⟨#[]⟩, ⟨#[]⟩⟩⟩ = true := by
    simp [mayM, mayMsg, entR, snap0]
    omega
  unfold sendF at h
  rw [hm] at h
  by_cases hl : l.length < 400
  · rw [if_pos ⟨rfl, hl⟩] at h
    cases h
    simp [hl]
  · rw [if_neg (fun q => hl q.2)] at h
    cases h
    simp [hl]
def Short (l : List MsgC) : Prop := ∀ m ∈ l, m.es.length ≤ 8
theorem short_nil : Short [] := fun _ h => by cases h
theorem short_sub {l k : List MsgC} (h : Short l) (hs : ∀ m ∈ k, m ∈ l) : Short k := fun m hm => h m (hs m hm)
theorem may_es {kind from_ to_ term index logterm commit : Int} {yes : Bool} {es : List Entry} {si st : Int} {sc sd : ByteArray} (h : mayMsg kind from_ to_ term index logterm commit yes es si st sc sd = true) : es.length ≤ 8 := by
  unfold mayMsg at h
  simp only [Bool.and_eq_true, decide_eq_true_eq] at h
  exact h.2.1.2.1
theorem short_snoc {l : List MsgC} {m : MsgC} (h : Short l) (hm : m.es.length ≤ 8) : Short (l ++ [m]) := fun x hx => by
  rcases List.mem_append.1 hx with hx | hx
  · exact h x hx
  · rw [List.mem_singleton.1 hx]; exact hm
/-- The same entries? -/
def eqEs : List Entry → List Entry → Bool
  | [], [] => true
  | x :: a, y :: b => decide (x.index = y.index ∧ x.term = y.term ∧ x.kind = y.kind ∧ x.data = y.data) && eqEs a b
  | _, _ => false
theorem eqEs_iff : ∀ {a b : List Entry}, eqEs a b = true ↔ a = b
  | [], [] => by simp [eqEs]
  | [], y :: b => by simp [eqEs]
  | x :: a, [] => by simp [eqEs]
  | x :: a, y :: b => by
    simp only [eqEs, Bool.and_eq_true, decide_eq_true_eq, eqEs_iff (a := a) (b := b), List.cons.injEq]
    refine and_congr ?_ Iff.rfl
    cases x; cases y
    simp
theorem eqEs_step {a b : List Entry} {i : Nat} {x y : Entry} (hx : a[i]? = some x) (hy : b[i]? = some y) (h : decide (x.index = y.index ∧ x.term = y.term ∧ x.kind = y.kind ∧ x.data = y.data) = true) : eqEs (a.drop i) (b.drop i) = eqEs (a.drop (i + 1)) (b.drop (i + 1)) := by
  rw [Go.AM.drop_at hx, Go.AM.drop_at hy, eqEs, h, Bool.true_and]
theorem eqEs_fail {a b : List Entry} {i : Nat} {x y : Entry} (hx : a[i]? = some x) (hy : b[i]? = some y) (h : decide (x.index = y.index ∧ x.term = y.term ∧ x.kind = y.kind ∧ x.data = y.data) = false) : eqEs (a.drop i) (b.drop i) = false := by
  rw [Go.AM.drop_at hx, Go.AM.drop_at hy, eqEs, h, Bool.false_and]
theorem eqEs_len {a b : List Entry} (h : a.length ≠ b.length) : eqEs a b = false := by
  cases e : eqEs a b with
  | false => rfl
  | true => exact absurd (congrArg List.length (eqEs_iff.1 e)) h
theorem eqEs_self (a : List Entry) : eqEs a a = true := eqEs_iff.2 rfl
theorem eqSn_iff {i t : Int} {c d : ByteArray} {j u : Int} {e f : ByteArray} : eqSn i t c d j u e f = true ↔ i = j ∧ t = u ∧ c = e ∧ d = f := by
  simp only [eqSn, Bool.and_eq_true, beq_iff_eq]
  constructor
  · rintro ⟨h1, h2, h3, h4⟩
    exact ⟨h1, h2, toList_inj h3, toList_inj h4⟩
  · rintro ⟨rfl, rfl, rfl, rfl⟩
    exact ⟨rfl, rfl, rfl, rfl⟩
def zeroM : Msg := ⟨0, 0, 0, 0, 0, 0, 0, false, [], ⟨0, 0, ⟨#[]⟩, ⟨#[]⟩⟩⟩
abbrev Parts : Type := Int × Int × Int × Int × Int × Int × Int × Bool × List Entry × Int × Int × ByteArray × ByteArray × Bool
def parts (m : Msg) (b : Bool) : Parts := (m.kind, m.from_, m.to_, m.term, m.index, m.logterm, m.commit, m.yes, m.es, m.snap.index, m.snap.term, m.snap.conf, m.snap.data, b)
def lookF (l : List Msg) (i : Int) : Parts := if 0 ≤ i ∧ i < l.length then parts (l.getD i.toNat zeroM) true else parts zeroM false
def dropF (l : List Msg) (i : Int) : Bool × List Msg := if 0 ≤ i ∧ i < l.length then (true, l.take i.toNat ++ l.drop (i.toNat + 1)) else (false, l)
def takeT (l : List Msg) (i : Int) : Int × Int × Int × Int × Int × Int × Int × Bool × List Entry × Int × Int × ByteArray × ByteArray × Bool × List Msg :=
  ((lookF l i).1, (lookF l i).2.1, (lookF l i).2.2.1, (lookF l i).2.2.2.1, (lookF l i).2.2.2.2.1, (lookF l i).2.2.2.2.2.1, (lookF l i).2.2.2.2.2.2.1, (lookF l i).2.2.2.2.2.2.2.1, (lookF l i).2.2.2.2.2.2.2.2.1, (lookF l i).2.2.2.2.2.2.2.2.2.1, (lookF l i).2.2.2.2.2.2.2.2.2.2.1, (lookF l i).2.2.2.2.2.2.2.2.2.2.2.1, (lookF l i).2.2.2.2.2.2.2.2.2.2.2.2.1, (lookF l i).2.2.2.2.2.2.2.2.2.2.2.2.2, (dropF l i).2)
theorem look_at {l : List MsgC} {i : Int} {x : MsgC} (h0 : 0 ≤ i) (hx : l[i.toNat]? = some x) : lookF (l.map MsgC.val) i = parts x.val true := by
  have hi := (List.getElem?_eq_some_iff.1 hx).1
  rw [lookF, if_pos ⟨h0, by rw [List.length_map]; omega⟩, List.getD_eq_getElem?_getD, List.getElem?_map, hx]
  rfl
theorem look_out {l : List MsgC} {i : Int} (h : i < 0 ∨ (l.length : Int) ≤ i) : lookF (l.map MsgC.val) i = parts zeroM false := by rw [lookF, if_neg (by rw [List.length_map]; omega)]
theorem drop_in {l : List MsgC} {i : Int} (h0 : 0 ≤ i) (h : i < l.length) : dropF (l.map MsgC.val) i = (true, (l.take i.toNat ++ l.drop (i + 1).toNat).map MsgC.val) := by
  rw [dropF, if_pos ⟨h0, by rw [List.length_map]; exact h⟩, List.map_append, List.map_take, List.map_drop, show (i + 1).toNat = i.toNat + 1 by omega]
theorem drop_out {l : List MsgC} {i : Int} (h : i < 0 ∨ (l.length : Int) ≤ i) : dropF (l.map MsgC.val) i = (false, l.map MsgC.val) := by rw [dropF, if_neg (by rw [List.length_map]; omega)]
theorem send_le {l : List Msg} {m : Msg} (h : l.length ≤ 400) : (sendF l m).2.length ≤ 400 := by
  unfold sendF
  split
  · rename_i q; rw [List.length_append, List.length_singleton]; omega
  · exact h
theorem drop_le {l : List Msg} {i : Int} : (dropF l i).2.length ≤ l.length := by
  unfold dropF
  split
  · rw [List.length_append, List.length_take, List.length_drop]; omega
  · exact Nat.le_refl _
theorem own_send {m : Msg} {b : Bool} {L : List Msg} (h : sendF (([] : List MsgC).map MsgC.val) m = (b, L)) (hm : mayM m = true) : L = [m] := by
  unfold sendF at h
  rw [if_pos ⟨hm, by decide⟩] at h
  cases h
  rfl
theorem own_look {m : Msg} {l : List MsgC} {L : List Msg} (h : l.map MsgC.val = L) (hL : L = [m]) : lookF (l.map MsgC.val) 0 = parts m true := by rw [h, hL]; rfl
theorem own_take {m : Msg} {l : List MsgC} {L : List Msg} (h : l.map MsgC.val = L) (hL : L = [m]) : takeT (l.map MsgC.val) 0 = (m.kind, m.from_, m.to_, m.term, m.index, m.logterm, m.commit, m.yes, m.es, m.snap.index, m.snap.term, m.snap.conf, m.snap.data, true, []) := by rw [h, hL]; rfl
end Go.AM.Spec
