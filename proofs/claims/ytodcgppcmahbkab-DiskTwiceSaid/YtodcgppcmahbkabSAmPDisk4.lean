/- Part of a machine of its own for this claim: the program's code over memory without draws. -/
import Derived.Test.YtodcgppcmahbkabSAmPDisk3
import Derived.Test.YtodcgppcmahbkabSAmOpenK2
set_option linter.unusedVariables false
set_option linter.unusedSimpArgs false
set_option linter.unnecessarySimpa false
/- Files that crash: rows that are written in place; a file that grows; a crash of a crash. -/
set_option linter.unusedSimpArgs false
namespace Go.AM
open Go
/-- An operation on a disk: its kind, a number, a name, bytes. -/
structure OpD where
  kind : Int
  n : Int
  name : ByteArray
  b : List Int
  bA : Option Addr
  bc : Nat
def OpD.cells (x : OpD) : List Value := [.int .i64 x.kind, .int .i64 x.n, .string x.name, .slice x.bA x.b.length x.bc]
theorem OpD.cells_one (m : OpD) : m.cells.all Value.oneCell' = true := rfl
def OpD.sub : Sub OpD := ⟨1, OpD.bA, OpD.bc, fun o => o.b.map u8c⟩
/-- Names of lengths that may be, and bytes. -/
def Spec.OpsOk (l : List OpD) : Prop := ∀ x ∈ l, x.name.size ≤ 140737488355328 ∧ Spec.Bytes x.b
namespace Spec
variable {F : ByteArray} {i n k : Nat}
/-- What an operation does. -/
def stepD (l : Files) (kind : Int) (nm : ByteArray) (b : List Int) : Files :=
  if kind = 0 then (appF l nm b).2 else if kind = 1 then (syncF l nm).2 else if kind = 2 then (swapF l nm b).2 else l
def stepT (l : Files) (x : OpD) : Files := stepD l x.kind x.name (x.b.take 60)
def runT (ops : List OpD) : Files := ops.foldl stepT []
theorem runT_step {ops : List OpD} {x : OpD} (h : ops[i]? = some x) : runT (ops.take (i + 1)) = stepT (runT (ops.take i)) x := by
  unfold runT
  rw [List.take_add_one, h, List.foldl_append]
  rfl
theorem stepT_is {l : Files} {x : OpD} {L : List Int} (h : L = x.b.take 60) : stepT l x = stepD l x.kind x.name L := by rw [h]; rfl
theorem stepD_0 {l : Files} {kd : Int} {nm : ByteArray} {b : List Int} (h : kd = 0) : stepD l kd nm b = (appF l nm b).2 := if_pos h
theorem stepD_1 {l : Files} {kd : Int} {nm : ByteArray} {b : List Int} (h : kd = 1) : stepD l kd nm b = (syncF l nm).2 := by subst h; rfl
theorem stepD_2 {l : Files} {kd : Int} {nm : ByteArray} {b : List Int} (h : kd = 2) : stepD l kd nm b = (swapF l nm b).2 := by subst h; rfl
theorem stepD_no {l : Files} {kd : Int} {nm : ByteArray} {b : List Int} (h0 : kd ≠ 0) (h1 : kd ≠ 1) (h2 : kd ≠ 2) : stepD l kd nm b = l := by
  unfold stepD
  rw [if_neg h0, if_neg h1, if_neg h2]
theorem fput_len {s : ByteArray} {f : FileS} : ∀ l : Files, (fput s f l).length ≤ l.length + 1
  | [] => Nat.le_refl _
  | (k, g) :: l => by
    unfold fput
    split
    · simp
    · have := fput_len (s := s) (f := f) l
      simp only [List.length_cons]
      omega
theorem app_len (l : Files) (nm : ByteArray) (b : List Int) : (appF l nm b).2.length ≤ l.length + 1 := by
  unfold appF
  split
  · split
    · split
      · exact fput_len _
      · exact Nat.le_succ _
    · split
      · exact fput_len _
      · exact Nat.le_succ _
  · exact Nat.le_succ _
theorem sync_len (l : Files) (nm : ByteArray) : (syncF l nm).2.length ≤ l.length + 1 := by
  unfold syncF
  split
  · exact fput_len _
  · exact Nat.le_succ _
theorem swap_len (l : Files) (nm : ByteArray) (b : List Int) : (swapF l nm b).2.length ≤ l.length + 1 := by
  unfold swapF
  split
  · split
    · exact fput_len _
    · exact Nat.le_succ _
  · exact Nat.le_succ _
theorem step_len (l : Files) (x : OpD) : (stepT l x).length ≤ l.length + 1 := by
  unfold stepT stepD
  split
  · exact app_len _ _ _
  · split
    · exact sync_len _ _
    · split
      · exact swap_len _ _ _
      · exact Nat.le_succ _
theorem fold_len : ∀ (ops : List OpD) (l : Files), (ops.foldl stepT l).length ≤ l.length + ops.length
  | [], l => by simp
  | x :: ops, l => by
    have h1 := fold_len ops (stepT l x)
    have h2 := step_len l x
    simp only [List.foldl_cons, List.length_cons]
    omega
theorem runT_len (ops : List OpD) (i : Nat) : (runT (ops.take i)).length ≤ i := by
  have h := fold_len (ops.take i) []
  have h2 : (ops.take i).length ≤ i := List.length_take_le _ _
  simp only [List.length_nil, Nat.zero_add] at h
  exact Nat.le_trans h h2
/-- Names in order. -/
def Ord (l : Files) : Prop := (l.map fun e => e.1.data.toList).Pairwise fun x y => leB x y = true
theorem ord_names {l : Files} (h : Ord l) : namesF l = l.map (·.1) := by
  unfold namesF
  rw [show sortB (l.map fun e => e.1.data.toList) = _ from List.mergeSort_of_pairwise h, List.map_map]
  apply List.map_congr_left
  intro e _
  simp
theorem sortB_ord (l : List (List UInt8)) : (sortB l).Pairwise fun x y => leB x y = true := by
  refine List.pairwise_mergeSort (fun a b c h1 h2 => ?_) (fun a b => ?_) l
  · simp only [leB, decide_eq_true_eq] at *; exact List.le_trans h1 h2
  · simp only [leB, Bool.or_eq_true, decide_eq_true_eq]; exact List.le_total a b
theorem names_ord (l : Files) : ((namesF l).map fun s => s.data.toList).Pairwise fun x y => leB x y = true := by
  unfold namesF
  rw [List.map_map, show ((fun s : ByteArray => s.data.toList) ∘ fun b : List UInt8 => (⟨b.toArray⟩ : ByteArray)) = id from funext fun b => by simp, List.map_id]
  exact sortB_ord _
theorem crash_sub {l : Files} {n : Int} : ∀ ns : List ByteArray, (((ns.filterMap (crash1 l n)).map (·.1)).Sublist ns)
  | [] => .slnil
  | a :: ns => by
    rw [List.filterMap_cons]
    cases hc : crash1 l n a with
    | none => exact (crash_sub ns).cons a
    | some e =>
      have := crash1_name hc
      subst this
      exact (crash_sub ns).cons_cons e.1
theorem crash_ord (l : Files) (n : Int) : Ord (crashF l n) := by
  unfold Ord crashF
  have h := ((crash_sub (l := l) (n := n) (namesF l)).map fun s => s.data.toList)
  rw [List.map_map] at h
  exact (names_ord l).sublist h
theorem fget_at {s : ByteArray} {f : FileS} : ∀ {l : Files}, (l.map (·.1)).Nodup → (s, f) ∈ l → fget s l = some f
  | [], _, h => by cases h
  | (k, g) :: l, hn, h => by
    unfold fget
    rw [List.map_cons, List.nodup_cons] at hn
    rcases List.mem_cons.1 h with h2 | h2
    · cases h2; rw [if_pos (ba_self s)]
    · by_cases c : (s == k) = true
      · have := (MapKept.bytes_beq s k).1 c
        subst this
        exact absurd (show s ∈ l.map (·.1) from List.mem_map.2 ⟨(s, f), h2, rfl⟩) hn.1
      · rw [if_neg c]; exact fget_at hn.2 h2
/-- A file that lasts whole. -/
def whole (f : FileS) : Prop := f.lasts = f.b.length ∧ f.there = true
theorem crash1_whole {l : Files} {n : Int} {nm : ByteArray} {e : ByteArray × FileS} (hb : ∀ f, fget nm l = some f → 0 ≤ f.lasts ∧ f.lasts ≤ f.b.length) (h : crash1 l n nm = some e) : whole e.2 := by
  unfold crash1 at h
  split at h
  · cases h
  · rename_i f hf
    split at h
    · cases h
      have hk := keep_bounds (n := n) (hb f hf).1 (hb f hf).2
      exact ⟨by show keepN f n = ((f.b.take (keepN f n).toNat).length : Int); rw [List.length_take]; omega, rfl⟩
    · cases h
theorem keep_of_whole {f : FileS} {n : Int} (h : whole f) : keepN f n = f.b.length := by
  obtain ⟨b, s, t⟩ := f
  obtain ⟨h1, h2⟩ := h
  dsimp only at h1 h2
  subst h1
  exact keep_whole
/-- What lasts whole stays. -/
theorem crash_same {l : Files} {n : Int} (ho : Ord l) (hn : (l.map (·.1)).Nodup) (hw : ∀ e ∈ l, whole e.2) : crashF l n = l := by
  unfold crashF
  rw [ord_names ho, List.filterMap_map]
  have : ∀ e ∈ l, (crash1 l n ∘ fun e => e.1) e = some e := by
    intro e he
    obtain ⟨nm, f⟩ := e
    have hf := fget_at hn he
    have h2 := hw _ he
    show crash1 l n nm = _
    rw [crash1_yes hf (.inr h2.2), keep_of_whole h2]
    obtain ⟨b, s, t⟩ := f
    obtain ⟨h3, h4⟩ := h2
    dsimp only at h3 h4
    subst h3 h4
    simp
  have key : ∀ m : Files, (∀ e ∈ m, (crash1 l n ∘ fun e => e.1) e = some e) → m.filterMap (crash1 l n ∘ fun e => e.1) = m := by
    intro m
    induction m with
    | nil => intro _; rfl
    | cons a m ih =>
      intro h
      rw [List.filterMap_cons, h a List.mem_cons_self, ih fun e he => h e (List.mem_cons_of_mem _ he)]
  exact key l this
/-- All files are told within bounds. -/
def InB (l : Files) : Prop := ∀ e ∈ l, 0 ≤ e.2.lasts ∧ e.2.lasts ≤ e.2.b.length
theorem fget_in {l : Files} {s : ByteArray} {f : FileS} (h : fget s l = some f) : (s, f) ∈ l := by
  induction l with
  | nil => cases h
  | cons e l ih =>
    obtain ⟨k, g⟩ := e
    unfold fget at h
    split at h
    · rename_i c
      cases h
      rw [(MapKept.bytes_beq s k).1 c]
      exact List.mem_cons_self
    · exact List.mem_cons_of_mem _ (ih h)
theorem crash_whole {l : Files} {n : Int} (hb : InB l) : ∀ e ∈ crashF l n, whole e.2 := by
  intro e he
  obtain ⟨nm, _, hc⟩ := List.mem_filterMap.1 he
  exact crash1_whole (fun f hf => hb _ (fget_in hf)) hc
theorem crash_nodup {l : Files} {n : Int} (hn : (l.map (·.1)).Nodup) : ((crashF l n).map (·.1)).Nodup := (names_nodup hn).sublist (crash_sub _)
/-- A crash of a crash keeps all. -/
theorem crash_crash {l : Files} {n m : Int} (hb : InB l) (hn : (l.map (·.1)).Nodup) : crashF (crashF l n) m = crashF l n :=
  crash_same (crash_ord l n) (crash_nodup hn) (crash_whole hb)
theorem crash_len (l : Files) (n : Int) : (crashF l n).length ≤ l.length := by
  unfold crashF
  refine Nat.le_trans (List.length_filterMap_le _ _) ?_
  rw [names_length]
  exact Nat.le_refl _
theorem whole_loose {l : Files} {nm : ByteArray} (h : ∀ e ∈ l, whole e.2) : looseF l nm = 0 := by
  unfold looseF
  split
  · rename_i f hf
    have := (h _ (fget_in hf)).1
    dsimp only at this
    omega
  · rfl
end Spec
/-- What a disk in memory holds is within bounds. -/
theorem DiskR.inB {D : Nat → Prop} {H : Heap} {p mb : Nat} {l : Files} {ps : List Place} {k : Int} (h : DiskR D H p mb l ps k) : Spec.InB l := by
  intro e he
  obtain ⟨i, hi⟩ := List.mem_iff_getElem?.1 he
  have hlt : i < ps.length := by rw [← h.len]; exact (List.getElem?_eq_some_iff.1 hi).1
  have z := h.at_ i e _ hi (List.getElem?_eq_getElem hlt)
  exact ⟨z.lo, z.hi⟩
end Go.AM
namespace Go.AM.Spec
open Go
end Go.AM.Spec
