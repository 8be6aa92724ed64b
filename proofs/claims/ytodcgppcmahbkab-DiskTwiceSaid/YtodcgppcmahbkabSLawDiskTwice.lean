/- DiskTwice: the law's call, walked over a machine of its own (YtodcgppcmahbkabAm..), returns true whatever it is handed. -/
import Derived.Test.YtodcgppcmahbkabRows
import Derived.Test.YtodcgppcmahbkabSAmXDiskTwice1
import Derived.Test.YtodcgppcmahbkabSAmE
import Derived.WalkKit
import Derived.ProofKit
import Derived.OpenShut
import Derived.ShutString
import Derived.ChangeOld
import Derived.Below
import Derived.SizedLaws
namespace Go.Proofs.Ytodcgppcmahbkab.diskTwice
open Go.ChangeShapes Go.WideShapes Go.ChangeAt Go.RowKit Go.AM
set_option linter.unusedVariables false
theorem own : ownKnob Try.prog.godebug = none := by kernel_rfl
theorem laidOut : laidOutB Try.prog = true := by kernel_rfl
theorem cells28 : Try.prog.cellsOf 28 = 4 := by kernel_rfl
theorem cells5 : Try.prog.cellsOf 5 = 1 := by kernel_rfl
theorem op26_7 : OpensK Try.prog 7 26 (KRow 1 u8c) (fun xs => xs.length ≤ 140737488351232 ∧ ∀ x ∈ xs, (Lit.int .u8 x).wf = true) :=
  (opensK_slice (B := 1) Try.underlying26 (by rw [cells5]; decide) (by kernel_rfl) (fun _ x vs h => by rw [h, cells5]; rfl) (opensK_int Try.underlying5 : OpensK Try.prog 6 5 (fun _ x vs => vs = u8c x) _)).conv id (fun Hp x vs h => by have := KSlice.flat h; rwa [cells5] at this) (fun x h => ⟨by have := h.2.1; show x.length ≤ _; omega, h.2.2⟩)
theorem elop22_9 : OpensK Try.prog 8 28 (fun (Hp : Heap) (x : Int × (Int × (ByteArray × ((List Int) × Unit)))) vs => ∃ v1 v2, vs = v1 ++ v2 ∧ (fun (_ : Heap) (x : Int) vs => vs = [Value.int .i64 x]) Hp x.1 v1 ∧ (fun (Hp : Heap) (x : Int × (ByteArray × ((List Int) × Unit))) vs => ∃ v1 v2, vs = v1 ++ v2 ∧ (fun (_ : Heap) (x : Int) vs => vs = [Value.int .i64 x]) Hp x.1 v1 ∧ (fun (Hp : Heap) (x : ByteArray × ((List Int) × Unit)) vs => ∃ v1 v2, vs = v1 ++ v2 ∧ (fun (_ : Heap) (x : ByteArray) vs => vs = [Value.string x]) Hp x.1 v1 ∧ (fun (Hp : Heap) (x : (List Int) × Unit) vs => ∃ v1 v2, vs = v1 ++ v2 ∧ (KRow 1 u8c) Hp x.1 v1 ∧ (fun (_ : Heap) (_ : Unit) vs => vs = ([] : List Value)) Hp x.2 v2) Hp x.2 v2) Hp x.2 v2) Hp x.2 v2) (fun x : Int × (Int × (ByteArray × ((List Int) × Unit))) => (fun n : Int => (Lit.int .i64 n).wf = true) x.1 ∧ (fun x : Int × (ByteArray × ((List Int) × Unit)) => (fun n : Int => (Lit.int .i64 n).wf = true) x.1 ∧ (fun x : ByteArray × ((List Int) × Unit) => (fun s : ByteArray => s.size ≤ 140737488351232) x.1 ∧ (fun x : (List Int) × Unit => (fun xs : List Int => xs.length ≤ 140737488351232 ∧ ∀ x ∈ xs, (Lit.int .u8 x).wf = true) x.1 ∧ (fun _ : Unit => True) x.2) x.2) x.2) x.2) :=
  (opensK_struct (m := 7) Try.underlying28 (by kernel_rfl) rfl (opensL_cons (opensK_int (P := Try.prog) (m := 6) Try.underlying3) (opensL_cons (opensK_int (P := Try.prog) (m := 6) Try.underlying3) (opensL_cons (opensK_string (P := Try.prog) (m := 6) Try.underlying9) (opensL_cons op26_7 opensL_nil)))))
theorem op22_9 : OpensK Try.prog 9 22 (KSlice 4 (fun (Hp : Heap) (x : Int × (Int × (ByteArray × ((List Int) × Unit)))) vs => ∃ v1 v2, vs = v1 ++ v2 ∧ (fun (_ : Heap) (x : Int) vs => vs = [Value.int .i64 x]) Hp x.1 v1 ∧ (fun (Hp : Heap) (x : Int × (ByteArray × ((List Int) × Unit))) vs => ∃ v1 v2, vs = v1 ++ v2 ∧ (fun (_ : Heap) (x : Int) vs => vs = [Value.int .i64 x]) Hp x.1 v1 ∧ (fun (Hp : Heap) (x : ByteArray × ((List Int) × Unit)) vs => ∃ v1 v2, vs = v1 ++ v2 ∧ (fun (_ : Heap) (x : ByteArray) vs => vs = [Value.string x]) Hp x.1 v1 ∧ (fun (Hp : Heap) (x : (List Int) × Unit) vs => ∃ v1 v2, vs = v1 ++ v2 ∧ (KRow 1 u8c) Hp x.1 v1 ∧ (fun (_ : Heap) (_ : Unit) vs => vs = ([] : List Value)) Hp x.2 v2) Hp x.2 v2) Hp x.2 v2) Hp x.2 v2)) (fun xs : List (Int × (Int × (ByteArray × ((List Int) × Unit)))) => xs.length ≤ 140737488351232 ∧ ∀ x ∈ xs, (fun x : Int × (Int × (ByteArray × ((List Int) × Unit))) => (fun n : Int => (Lit.int .i64 n).wf = true) x.1 ∧ (fun x : Int × (ByteArray × ((List Int) × Unit)) => (fun n : Int => (Lit.int .i64 n).wf = true) x.1 ∧ (fun x : ByteArray × ((List Int) × Unit) => (fun s : ByteArray => s.size ≤ 140737488351232) x.1 ∧ (fun x : (List Int) × Unit => (fun xs : List Int => xs.length ≤ 140737488351232 ∧ ∀ x ∈ xs, (Lit.int .u8 x).wf = true) x.1 ∧ (fun _ : Unit => True) x.2) x.2) x.2) x.2) x) :=
  (opensK_slice (B := 56) Try.underlying22 (by rw [cells28]; decide) (by kernel_rfl) (by rintro Hp x vs ⟨_, _, rfl, rfl, _, _, rfl, rfl, _, _, rfl, rfl, _, _, rfl, ⟨sA0, sc0, rfl, sh0, _, sn0, sr0⟩, rfl⟩; rw [cells28]; rfl) elop22_9).conv id (fun Hp x vs h => by rwa [cells28] at h) (fun x h => ⟨by have := h.2.1; show x.length ≤ _; omega, h.2.2⟩)
abbrev T0 : Type := (List (Int × (Int × (ByteArray × ((List Int) × Unit)))))
abbrev K0 : Heap → T0 → List Value → Prop := (KSlice 4 (fun (Hp : Heap) (x : Int × (Int × (ByteArray × ((List Int) × Unit)))) vs => ∃ v1 v2, vs = v1 ++ v2 ∧ (fun (_ : Heap) (x : Int) vs => vs = [Value.int .i64 x]) Hp x.1 v1 ∧ (fun (Hp : Heap) (x : Int × (ByteArray × ((List Int) × Unit))) vs => ∃ v1 v2, vs = v1 ++ v2 ∧ (fun (_ : Heap) (x : Int) vs => vs = [Value.int .i64 x]) Hp x.1 v1 ∧ (fun (Hp : Heap) (x : ByteArray × ((List Int) × Unit)) vs => ∃ v1 v2, vs = v1 ++ v2 ∧ (fun (_ : Heap) (x : ByteArray) vs => vs = [Value.string x]) Hp x.1 v1 ∧ (fun (Hp : Heap) (x : (List Int) × Unit) vs => ∃ v1 v2, vs = v1 ++ v2 ∧ (KRow 1 u8c) Hp x.1 v1 ∧ (fun (_ : Heap) (_ : Unit) vs => vs = ([] : List Value)) Hp x.2 v2) Hp x.2 v2) Hp x.2 v2) Hp x.2 v2))
abbrev W0 : T0 → Prop := (fun xs : List (Int × (Int × (ByteArray × ((List Int) × Unit)))) => xs.length ≤ 140737488351232 ∧ ∀ x ∈ xs, (fun x : Int × (Int × (ByteArray × ((List Int) × Unit))) => (fun n : Int => (Lit.int .i64 n).wf = true) x.1 ∧ (fun x : Int × (ByteArray × ((List Int) × Unit)) => (fun n : Int => (Lit.int .i64 n).wf = true) x.1 ∧ (fun x : ByteArray × ((List Int) × Unit) => (fun s : ByteArray => s.size ≤ 140737488351232) x.1 ∧ (fun x : (List Int) × Unit => (fun xs : List Int => xs.length ≤ 140737488351232 ∧ ∀ x ∈ xs, (Lit.int .u8 x).wf = true) x.1 ∧ (fun _ : Unit => True) x.2) x.2) x.2) x.2) x)
theorem arg0 : OpensK Try.prog 9 22 K0 W0 := op22_9
theorem one0 (Hp : Heap) (x : T0) (vs : List Value) (h : K0 Hp x vs) : ∃ v, vs = [v] := by obtain ⟨A, c, rows, rfl, _⟩ := h; exact ⟨_, rfl⟩
abbrev T1 : Type := Int
abbrev K1 : Heap → T1 → List Value → Prop := (fun (_ : Heap) (x : Int) vs => vs = [Value.int .i64 x])
abbrev W1 : T1 → Prop := (fun n : Int => (Lit.int .i64 n).wf = true)
theorem arg1 : OpensK Try.prog 9 3 K1 W1 := (opensK_int (P := Try.prog) (m := 8) Try.underlying3)
theorem one1 (Hp : Heap) (x : T1) (vs : List Value) (h : K1 Hp x vs) : ∃ v, vs = [v] := ⟨_, h⟩
abbrev T2 : Type := Int
abbrev K2 : Heap → T2 → List Value → Prop := (fun (_ : Heap) (x : Int) vs => vs = [Value.int .i64 x])
abbrev W2 : T2 → Prop := (fun n : Int => (Lit.int .i64 n).wf = true)
theorem arg2 : OpensK Try.prog 9 3 K2 W2 := (opensK_int (P := Try.prog) (m := 8) Try.underlying3)
theorem one2 (Hp : Heap) (x : T2) (vs : List Value) (h : K2 Hp x vs) : ∃ v, vs = [v] := ⟨_, h⟩
set_option maxRecDepth 100000 in
theorem lifted (os : Os) (started : os.Started) (H : Type) (enc : TypeId × Value → H) :
    ReturnsInHanded {} Try.checked os 3 .any (Rows.diskTwiceSpec.pre6 enc Try.prog Try.f3 Rows.diskTwiceRow.domain false) (Rows.diskTwiceSpec.post enc Try.prog Try.f3 false true false false) := by
  refine returnsInHanded_of_change_sized (C := Try.checked) own started (by kernel_rfl) Try.func3
    (ChangeSpec.witness6 (enc := enc) (C := Try.checked) false ⟨#[], #[.slice none 0 0, .int .i64 0, .int .i64 0], []⟩ 8 (by kernel_rfl) (by kernel_rfl) (by kernel_rfl) (by kernel_rfl)) ?_
  intro W base args ds gs before hval0 hW hcnd hsz0 _
  have hsz : (DataW.weightsEach Try.prog (Try.f3.params.toList ++ Rows.diskTwiceSpec.plain.varTypes Try.prog) (ds ++ gs)).all (· ≤ reachBytes) = true := hsz0
  have hval : ∀ (j : Nat) t v, Try.f3.params[j]? = some t → args[j]? = some v → Value.okWide Try.prog W .any base t v := hval0
  have hW' := hW
  obtain ⟨p, q, hA0, hV, rfl, hfz, hnd⟩ := hW
  have hA : DataW.TrodAll enc Try.prog W 0 (fun _ => true) true Try.f3.params.toList args.toList ds p := hA0
  rw [Try.params3] at hA hval hsz
  obtain ⟨v0, vs0, d0, ds0, p0, q0, hargs, rfl, rfl, h0, r0⟩ := trodAll_cons hA
  obtain ⟨v1, vs1, d1, ds1, p1, q1, rfl, rfl, rfl, h1, r1⟩ := trodAll_cons r0
  obtain ⟨v2, vs2, d2, ds2, p2, q2, rfl, rfl, rfl, h2, r2⟩ := trodAll_cons r1
  obtain ⟨rfl, rfl, rfl⟩ := trodAll_nil r2
  obtain rfl : args = #[v0, v1, v2] := by cases args; simp_all
  obtain ⟨rfl, rfl⟩ := trodVars_none hV
  have k0 := h0
  have lt0 : ∀ x ∈ p0, x.block < W.heap.size := by obtain ⟨m, hm⟩ := k0; exact DataW.trod_lt m _ _ _ hm
  obtain ⟨x0, wf0, L0⟩ := (arg0).arg hsz (j := 0) rfl rfl h0
  have k1 := h1
  have lt1 : ∀ x ∈ p1, x.block < W.heap.size := by obtain ⟨m, hm⟩ := k1; exact DataW.trod_lt m _ _ _ hm
  obtain ⟨x1, wf1, L1⟩ := (arg1).arg hsz (j := 1) rfl rfl h1
  have k2 := h2
  have lt2 : ∀ x ∈ p2, x.block < W.heap.size := by obtain ⟨m, hm⟩ := k2; exact DataW.trod_lt m _ _ _ hm
  obtain ⟨x2, wf2, L2⟩ := (arg2).arg hsz (j := 2) rfl rfl h2
  refine (law_open (r := .any) (base := base) (v := .bool true) (ts := [22, 3, 3]) hA (fun j t v a b => hval j t v (by rw [← Array.getElem?_toList]; exact a) b) (laidArgs_cons L0 (KA := fun Hp v => ∃ vs, K0 Hp x0 vs ∧ v = vs.headD (.bool false)) (fun Hp vs hk => by obtain ⟨v, e⟩ := one0 Hp x0 vs hk; subst e; exact ⟨_, argV_plain (by kernel_rfl) rfl, _, hk, rfl⟩)
    fun n => laidArgs_cons L1 (KA := fun Hp v => ∃ vs, K1 Hp x1 vs ∧ v = vs.headD (.bool false)) (fun Hp vs hk => by obtain ⟨v, e⟩ := one1 Hp x1 vs hk; subst e; exact ⟨_, argV_plain (by kernel_rfl) rfl, _, hk, rfl⟩)
    fun n => laidArgs_cons L2 (KA := fun Hp v => ∃ vs, K2 Hp x2 vs ∧ v = vs.headD (.bool false)) (fun Hp vs hk => by obtain ⟨v, e⟩ := one2 Hp x2 vs hk; subst e; exact ⟨_, argV_plain (by kernel_rfl) rfl, _, hk, rfl⟩)
    fun n => laidArgs_nil n) ?_ rfl).mono fun e W' ⟨he, bel⟩ => ?_
  · rintro Hp vs ⟨_, _, rfl, ⟨ws0, hk0, rfl⟩, _, _, rfl, ⟨ws1, hk1, rfl⟩, _, _, rfl, ⟨ws2, hk2, rfl⟩, rfl⟩
    obtain ⟨sA0, sc0, ys0, rfl, sl0, sh0, _, sn0, sr0, sq0⟩ := KSlice.nest (cells := OpD.cells) (Q := fun Hp y => Row Hp (OpD.sub.A y) (OpD.sub.c y) OpD.sub.sz (OpD.sub.rows y) ∧ (OpD.sub.rows y).length ≤ OpD.sub.c y ∧ (OpD.sub.rows y).length ≤ 140737488355328 ∧ y.name.size ≤ 140737488355328 ∧ Spec.Bytes y.b) hk0 wf0.2 (by rintro x vs hw ⟨_, _, rfl, rfl, _, _, rfl, rfl, _, _, rfl, rfl, _, _, rfl, ⟨sA0, sc0, rfl, sh0, _, sn0, sr0⟩, rfl⟩; exact ⟨(⟨x.1, x.2.1, x.2.2.1, x.2.2.2.1, sA0, sc0⟩ : OpD), rfl, sr0, by show (List.map _ _).length ≤ _; rw [List.length_map]; exact sh0, by have h9 : _ ≤ (140737488351232 : Nat) := hw.2.2.2.1.1; show (List.map _ _).length ≤ _; rw [List.length_map]; exact Nat.le_trans h9 (by decide), Nat.le_trans (show _ ≤ (140737488351232 : Nat) from hw.2.2.1) (by decide), Spec.bytes_wf hw.2.2.2.1.2⟩)
    obtain rfl := hk1
    obtain rfl := hk2
    obtain ⟨v, H', hs, rfl, _⟩ := law_DiskTwice_spec Hp sA0 ys0 sc0 sr0 sh0 (by have := wf0.1; rw [sl0]; omega) (fun y hy => (sq0 y hy).2.2.2) (fun y hy => ⟨(sq0 y hy).1, (sq0 y hy).2.1, (sq0 y hy).2.2.1⟩) x1 x2
    exact ⟨H', hs⟩
  subst he
  exact ⟨_, rfl, _, _, _, [], _, [], hW', trodAll_mk1 (shut_bool Try.underlying4 _), (trodAll_cons_mk (Below.trod laidOut (by kernel_rfl) (of_decide_eq_true (by kernel_rfl)) k0 bel lt0) (trodAll_cons_mk (Below.trod laidOut (by kernel_rfl) (of_decide_eq_true (by kernel_rfl)) k1 bel lt1) (trodAll_cons_mk (Below.trod laidOut (by kernel_rfl) (of_decide_eq_true (by kernel_rfl)) k2 bel lt2) trodAll_mk0))), rfl, bel.frame _, fun h => by cases h⟩
theorem over : Rows.diskTwiceRow.holds Try.pinned (OpenSpec.ofChange Rows.diskTwiceSpec) :=
  OpenClaim.holds_of_wide 3 Try.f3 rfl rfl rfl rfl rfl rfl rfl ⟨rfl, rfl, rfl, rfl, rfl⟩ rfl rfl rfl rfl rfl (by kernel_rfl) Try.func3 (by kernel_rfl)
    (of_decide_eq_true (by kernel_rfl)) (by unfold Func.isWrapper; first | (rw [if_pos (by decide +kernel)]; kernel_rfl) | (rw [if_neg (by decide +kernel)]; exact ⟨rfl, rfl⟩))
    (fun os started H enc _ => lifted os started H enc)
#print axioms over
end Go.Proofs.Ytodcgppcmahbkab.diskTwice
namespace Go.Proofs.Ytodcgppcmahbkab
/-- The row, under a short name, for the claim. -/
theorem diskTwice_holds : Rows.DiskTwiceSaid := diskTwice.over
end Go.Proofs.Ytodcgppcmahbkab
