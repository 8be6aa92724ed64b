/- MsgBack: the law's call, walked over a machine of its own (YtfodghhmglbapaaAm..), returns true whatever it is handed. -/
import Derived.Test.YtfodghhmglbapaaRows
import Derived.Test.YtfodghhmglbapaaSAmXMsgBack1
import Derived.Test.YtfodghhmglbapaaSAmE
import Derived.WalkKit
import Derived.ProofKit
import Derived.OpenShut
import Derived.ShutString
import Derived.ChangeOld
import Derived.Below
import Derived.SizedLaws
namespace Go.Proofs.Ytfodghhmglbapaa.msgBack
open Go.ChangeShapes Go.WideShapes Go.ChangeAt Go.RowKit Go.AM
set_option linter.unusedVariables false
theorem own : ownKnob Try.prog.godebug = none := by kernel_rfl
theorem laidOut : laidOutB Try.prog = true := by kernel_rfl
theorem cells45 : Try.prog.cellsOf 45 = 4 := by kernel_rfl
theorem elop22_8 : OpensK Try.prog 7 45 (fun _ (x : Entry) vs => vs = x.cells) (fun _ => True) :=
  (opensK_struct (m := 6) Try.underlying45 (by kernel_rfl) rfl (opensL_cons (opensK_int (P := Try.prog) (m := 5) Try.underlying2) (opensL_cons (opensK_int (P := Try.prog) (m := 5) Try.underlying2) (opensL_cons (opensK_int (P := Try.prog) (m := 5) Try.underlying3) (opensL_cons (opensK_string (P := Try.prog) (m := 5) Try.underlying9) opensL_nil))))).conv (fun x => (⟨x.1, x.2.1, x.2.2.1, x.2.2.2.1⟩ : Entry)) (by rintro Hp x vs ⟨_, _, rfl, rfl, _, _, rfl, rfl, _, _, rfl, rfl, _, _, rfl, rfl, rfl⟩; rfl) (fun _ _ => trivial)
theorem op22_8 : OpensK Try.prog 8 22 (KRow 4 Entry.cells) (fun xs => xs.length ≤ 140737488351232) :=
  (opensK_slice (B := 40) Try.underlying22 (by rw [cells45]; decide) (by kernel_rfl) (fun _ x vs h => by rw [h, cells45]; rfl) elop22_8).conv id (fun Hp x vs h => by have := KSlice.flat h; rwa [cells45] at this) (fun x h => by have := h.2.1; show x.length ≤ _; omega)
abbrev T0 : Type := (Int × (Int × (Int × (Int × (Int × (Int × (Int × (Bool × ((List Entry) × ((Int × (Int × (ByteArray × (ByteArray × Unit)))) × Unit))))))))))
abbrev K0 : Heap → T0 → List Value → Prop := (fun (Hp : Heap) (x : Int × (Int × (Int × (Int × (Int × (Int × (Int × (Bool × ((List Entry) × ((Int × (Int × (ByteArray × (ByteArray × Unit)))) × Unit)))))))))) vs => ∃ v1 v2, vs = v1 ++ v2 ∧ (fun (_ : Heap) (x : Int) vs => vs = [Value.int .i64 x]) Hp x.1 v1 ∧ (fun (Hp : Heap) (x : Int × (Int × (Int × (Int × (Int × (Int × (Bool × ((List Entry) × ((Int × (Int × (ByteArray × (ByteArray × Unit)))) × Unit))))))))) vs => ∃ v1 v2, vs = v1 ++ v2 ∧ (fun (_ : Heap) (x : Int) vs => vs = [Value.int .i64 x]) Hp x.1 v1 ∧ (fun (Hp : Heap) (x : Int × (Int × (Int × (Int × (Int × (Bool × ((List Entry) × ((Int × (Int × (ByteArray × (ByteArray × Unit)))) × Unit)))))))) vs => ∃ v1 v2, vs = v1 ++ v2 ∧ (fun (_ : Heap) (x : Int) vs => vs = [Value.int .i64 x]) Hp x.1 v1 ∧ (fun (Hp : Heap) (x : Int × (Int × (Int × (Int × (Bool × ((List Entry) × ((Int × (Int × (ByteArray × (ByteArray × Unit)))) × Unit))))))) vs => ∃ v1 v2, vs = v1 ++ v2 ∧ (fun (_ : Heap) (x : Int) vs => vs = [Value.int .i64 x]) Hp x.1 v1 ∧ (fun (Hp : Heap) (x : Int × (Int × (Int × (Bool × ((List Entry) × ((Int × (Int × (ByteArray × (ByteArray × Unit)))) × Unit)))))) vs => ∃ v1 v2, vs = v1 ++ v2 ∧ (fun (_ : Heap) (x : Int) vs => vs = [Value.int .i64 x]) Hp x.1 v1 ∧ (fun (Hp : Heap) (x : Int × (Int × (Bool × ((List Entry) × ((Int × (Int × (ByteArray × (ByteArray × Unit)))) × Unit))))) vs => ∃ v1 v2, vs = v1 ++ v2 ∧ (fun (_ : Heap) (x : Int) vs => vs = [Value.int .i64 x]) Hp x.1 v1 ∧ (fun (Hp : Heap) (x : Int × (Bool × ((List Entry) × ((Int × (Int × (ByteArray × (ByteArray × Unit)))) × Unit)))) vs => ∃ v1 v2, vs = v1 ++ v2 ∧ (fun (_ : Heap) (x : Int) vs => vs = [Value.int .i64 x]) Hp x.1 v1 ∧ (fun (Hp : Heap) (x : Bool × ((List Entry) × ((Int × (Int × (ByteArray × (ByteArray × Unit)))) × Unit))) vs => ∃ v1 v2, vs = v1 ++ v2 ∧ (fun (_ : Heap) (x : Bool) vs => vs = [Value.bool x]) Hp x.1 v1 ∧ (fun (Hp : Heap) (x : (List Entry) × ((Int × (Int × (ByteArray × (ByteArray × Unit)))) × Unit)) vs => ∃ v1 v2, vs = v1 ++ v2 ∧ (KRow 4 Entry.cells) Hp x.1 v1 ∧ (fun (Hp : Heap) (x : (Int × (Int × (ByteArray × (ByteArray × Unit)))) × Unit) vs => ∃ v1 v2, vs = v1 ++ v2 ∧ (fun (Hp : Heap) (x : Int × (Int × (ByteArray × (ByteArray × Unit)))) vs => ∃ v1 v2, vs = v1 ++ v2 ∧ (fun (_ : Heap) (x : Int) vs => vs = [Value.int .i64 x]) Hp x.1 v1 ∧ (fun (Hp : Heap) (x : Int × (ByteArray × (ByteArray × Unit))) vs => ∃ v1 v2, vs = v1 ++ v2 ∧ (fun (_ : Heap) (x : Int) vs => vs = [Value.int .i64 x]) Hp x.1 v1 ∧ (fun (Hp : Heap) (x : ByteArray × (ByteArray × Unit)) vs => ∃ v1 v2, vs = v1 ++ v2 ∧ (fun (_ : Heap) (x : ByteArray) vs => vs = [Value.string x]) Hp x.1 v1 ∧ (fun (Hp : Heap) (x : ByteArray × Unit) vs => ∃ v1 v2, vs = v1 ++ v2 ∧ (fun (_ : Heap) (x : ByteArray) vs => vs = [Value.string x]) Hp x.1 v1 ∧ (fun (_ : Heap) (_ : Unit) vs => vs = ([] : List Value)) Hp x.2 v2) Hp x.2 v2) Hp x.2 v2) Hp x.2 v2) Hp x.1 v1 ∧ (fun (_ : Heap) (_ : Unit) vs => vs = ([] : List Value)) Hp x.2 v2) Hp x.2 v2) Hp x.2 v2) Hp x.2 v2) Hp x.2 v2) Hp x.2 v2) Hp x.2 v2) Hp x.2 v2) Hp x.2 v2) Hp x.2 v2)
abbrev W0 : T0 → Prop := (fun x : Int × (Int × (Int × (Int × (Int × (Int × (Int × (Bool × ((List Entry) × ((Int × (Int × (ByteArray × (ByteArray × Unit)))) × Unit))))))))) => (fun n : Int => (Lit.int .i64 n).wf = true) x.1 ∧ (fun x : Int × (Int × (Int × (Int × (Int × (Int × (Bool × ((List Entry) × ((Int × (Int × (ByteArray × (ByteArray × Unit)))) × Unit)))))))) => (fun n : Int => (Lit.int .i64 n).wf = true) x.1 ∧ (fun x : Int × (Int × (Int × (Int × (Int × (Bool × ((List Entry) × ((Int × (Int × (ByteArray × (ByteArray × Unit)))) × Unit))))))) => (fun n : Int => (Lit.int .i64 n).wf = true) x.1 ∧ (fun x : Int × (Int × (Int × (Int × (Bool × ((List Entry) × ((Int × (Int × (ByteArray × (ByteArray × Unit)))) × Unit)))))) => (fun n : Int => (Lit.int .i64 n).wf = true) x.1 ∧ (fun x : Int × (Int × (Int × (Bool × ((List Entry) × ((Int × (Int × (ByteArray × (ByteArray × Unit)))) × Unit))))) => (fun n : Int => (Lit.int .i64 n).wf = true) x.1 ∧ (fun x : Int × (Int × (Bool × ((List Entry) × ((Int × (Int × (ByteArray × (ByteArray × Unit)))) × Unit)))) => (fun n : Int => (Lit.int .i64 n).wf = true) x.1 ∧ (fun x : Int × (Bool × ((List Entry) × ((Int × (Int × (ByteArray × (ByteArray × Unit)))) × Unit))) => (fun n : Int => (Lit.int .i64 n).wf = true) x.1 ∧ (fun x : Bool × ((List Entry) × ((Int × (Int × (ByteArray × (ByteArray × Unit)))) × Unit)) => (fun _ : Bool => True) x.1 ∧ (fun x : (List Entry) × ((Int × (Int × (ByteArray × (ByteArray × Unit)))) × Unit) => (fun xs : List Entry => xs.length ≤ 140737488351232) x.1 ∧ (fun x : (Int × (Int × (ByteArray × (ByteArray × Unit)))) × Unit => (fun x : Int × (Int × (ByteArray × (ByteArray × Unit))) => (fun n : Int => (Lit.int .i64 n).wf = true) x.1 ∧ (fun x : Int × (ByteArray × (ByteArray × Unit)) => (fun n : Int => (Lit.int .i64 n).wf = true) x.1 ∧ (fun x : ByteArray × (ByteArray × Unit) => (fun s : ByteArray => s.size ≤ 140737488351232) x.1 ∧ (fun x : ByteArray × Unit => (fun s : ByteArray => s.size ≤ 140737488351232) x.1 ∧ (fun _ : Unit => True) x.2) x.2) x.2) x.2) x.1 ∧ (fun _ : Unit => True) x.2) x.2) x.2) x.2) x.2) x.2) x.2) x.2) x.2) x.2)
theorem arg0 : OpensK Try.prog 9 26 K0 W0 := (opensK_struct (m := 8) Try.underlying26 (by kernel_rfl) rfl (opensL_cons (opensK_int (P := Try.prog) (m := 7) Try.underlying3) (opensL_cons (opensK_int (P := Try.prog) (m := 7) Try.underlying3) (opensL_cons (opensK_int (P := Try.prog) (m := 7) Try.underlying3) (opensL_cons (opensK_int (P := Try.prog) (m := 7) Try.underlying2) (opensL_cons (opensK_int (P := Try.prog) (m := 7) Try.underlying2) (opensL_cons (opensK_int (P := Try.prog) (m := 7) Try.underlying2) (opensL_cons (opensK_int (P := Try.prog) (m := 7) Try.underlying2) (opensL_cons (opensK_bool (P := Try.prog) (m := 7) Try.underlying4) (opensL_cons op22_8 (opensL_cons (opensK_struct (m := 7) Try.underlying24 (by kernel_rfl) rfl (opensL_cons (opensK_int (P := Try.prog) (m := 6) Try.underlying2) (opensL_cons (opensK_int (P := Try.prog) (m := 6) Try.underlying2) (opensL_cons (opensK_string (P := Try.prog) (m := 6) Try.underlying9) (opensL_cons (opensK_string (P := Try.prog) (m := 6) Try.underlying9) opensL_nil))))) opensL_nil)))))))))))
abbrev T1 : Type := Int
abbrev K1 : Heap → T1 → List Value → Prop := (fun (_ : Heap) (x : Int) vs => vs = [Value.int .i64 x])
abbrev W1 : T1 → Prop := (fun n : Int => (Lit.int .i64 n).wf = true)
theorem arg1 : OpensK Try.prog 9 3 K1 W1 := (opensK_int (P := Try.prog) (m := 8) Try.underlying3)
theorem one1 (Hp : Heap) (x : T1) (vs : List Value) (h : K1 Hp x vs) : ∃ v, vs = [v] := ⟨_, h⟩
abbrev T2 : Type := Int
abbrev K2 : Heap → T2 → List Value → Prop := (fun (_ : Heap) (x : Int) vs => vs = [Value.int .i64 x])
abbrev W2 : T2 → Prop := (fun n : Int => (Lit.int .i64 n).wf = true)
theorem arg2 : OpensK Try.prog 9 3 K2 W2 := (opensK_int (P := Try.prog) (m := 8) Try.underlying3)
theorem one2 (Hp : Heap) (x : T2) (vs : List Value) (h : K2 Hp x vs) : ∃ v, vs = [v] := ⟨_, h⟩
abbrev T3 : Type := Int
abbrev K3 : Heap → T3 → List Value → Prop := (fun (_ : Heap) (x : Int) vs => vs = [Value.int .i64 x])
abbrev W3 : T3 → Prop := (fun n : Int => (Lit.int .i64 n).wf = true)
theorem arg3 : OpensK Try.prog 9 3 K3 W3 := (opensK_int (P := Try.prog) (m := 8) Try.underlying3)
theorem one3 (Hp : Heap) (x : T3) (vs : List Value) (h : K3 Hp x vs) : ∃ v, vs = [v] := ⟨_, h⟩
abbrev T4 : Type := Int
abbrev K4 : Heap → T4 → List Value → Prop := (fun (_ : Heap) (x : Int) vs => vs = [Value.int .u8 x])
abbrev W4 : T4 → Prop := (fun n : Int => (Lit.int .u8 n).wf = true)
theorem arg4 : OpensK Try.prog 9 5 K4 W4 := (opensK_int (P := Try.prog) (m := 8) Try.underlying5)
theorem one4 (Hp : Heap) (x : T4) (vs : List Value) (h : K4 Hp x vs) : ∃ v, vs = [v] := ⟨_, h⟩
set_option maxRecDepth 100000 in
theorem lifted (os : Os) (started : os.Started) (H : Type) (enc : TypeId × Value → H) :
    ReturnsInHanded {} Try.checked os 3 .any (Rows.msgBackSpec.pre6 enc Try.prog Try.f3 Rows.msgBackRow.domain false) (Rows.msgBackSpec.post enc Try.prog Try.f3 false true false false) := by
  refine returnsInHanded_of_change_sized (C := Try.checked) own started (by kernel_rfl) Try.func3
    (ChangeSpec.witness6 (enc := enc) (C := Try.checked) false ⟨#[], #[.agg #[.int .i64 0, .int .i64 0, .int .i64 0, .int .i64 0, .int .i64 0, .int .i64 0, .int .i64 0, .bool false, .slice none 0 0, .int .i64 0, .int .i64 0, .string ⟨#[]⟩, .string ⟨#[]⟩], .int .i64 0, .int .i64 0, .int .i64 0, .int .u8 0], []⟩ 8 (by kernel_rfl) (by kernel_rfl) (by kernel_rfl) (by kernel_rfl)) ?_
  intro W base args ds gs before hval0 hW hcnd hsz0 _
  have hsz : (DataW.weightsEach Try.prog (Try.f3.params.toList ++ Rows.msgBackSpec.plain.varTypes Try.prog) (ds ++ gs)).all (· ≤ reachBytes) = true := hsz0
  have hval : ∀ (j : Nat) t v, Try.f3.params[j]? = some t → args[j]? = some v → Value.okWide Try.prog W .any base t v := hval0
  have hW' := hW
  obtain ⟨p, q, hA0, hV, rfl, hfz, hnd⟩ := hW
  have hA : DataW.TrodAll enc Try.prog W 0 (fun _ => true) true Try.f3.params.toList args.toList ds p := hA0
  rw [Try.params3] at hA hval hsz
  obtain ⟨v0, vs0, d0, ds0, p0, q0, hargs, rfl, rfl, h0, r0⟩ := trodAll_cons hA
  obtain ⟨v1, vs1, d1, ds1, p1, q1, rfl, rfl, rfl, h1, r1⟩ := trodAll_cons r0
  obtain ⟨v2, vs2, d2, ds2, p2, q2, rfl, rfl, rfl, h2, r2⟩ := trodAll_cons r1
  obtain ⟨v3, vs3, d3, ds3, p3, q3, rfl, rfl, rfl, h3, r3⟩ := trodAll_cons r2
  obtain ⟨v4, vs4, d4, ds4, p4, q4, rfl, rfl, rfl, h4, r4⟩ := trodAll_cons r3
  obtain ⟨rfl, rfl, rfl⟩ := trodAll_nil r4
  obtain rfl : args = #[v0, v1, v2, v3, v4] := by cases args; simp_all
  obtain ⟨rfl, rfl⟩ := trodVars_none hV
  have k0 := h0
  have lt0 : ∀ x ∈ p0, x.block < W.heap.size := by obtain ⟨m, hm⟩ := k0; exact DataW.trod_lt m _ _ _ hm
  obtain ⟨x0, wf0, L0⟩ := (arg0).arg hsz (j := 0) rfl rfl h0
  have k1 := h1
  have lt1 : ∀ x ∈ p1, x.block < W.heap.size := by obtain ⟨m, hm⟩ := k1; exact DataW.trod_lt m _ _ _ hm
  obtain ⟨x1, wf1, L1⟩ := (arg1).arg hsz (j := 1) rfl rfl h1
  have k2 := h2
  have lt2 : ∀ x ∈ p2, x.block < W.heap.size := by obtain ⟨m, hm⟩ := k2; exact DataW.trod_lt m _ _ _ hm
  obtain ⟨x2, wf2, L2⟩ := (arg2).arg hsz (j := 2) rfl rfl h2
  have k3 := h3
  have lt3 : ∀ x ∈ p3, x.block < W.heap.size := by obtain ⟨m, hm⟩ := k3; exact DataW.trod_lt m _ _ _ hm
  obtain ⟨x3, wf3, L3⟩ := (arg3).arg hsz (j := 3) rfl rfl h3
  have k4 := h4
  have lt4 : ∀ x ∈ p4, x.block < W.heap.size := by obtain ⟨m, hm⟩ := k4; exact DataW.trod_lt m _ _ _ hm
  obtain ⟨x4, wf4, L4⟩ := (arg4).arg hsz (j := 4) rfl rfl h4
  refine (law_open (r := .any) (base := base) (v := .bool true) (ts := [26, 3, 3, 3, 5]) hA (fun j t v a b => hval j t v (by rw [← Array.getElem?_toList]; exact a) b) (laidArgs_cons L0 (KA := fun Hp v => ∃ vs, K0 Hp x0 vs ∧ v = .agg vs.toArray) (fun Hp vs hk => ⟨_, argV_agg (by kernel_rfl), vs, hk, rfl⟩)
    fun n => laidArgs_cons L1 (KA := fun Hp v => ∃ vs, K1 Hp x1 vs ∧ v = vs.headD (.bool false)) (fun Hp vs hk => by obtain ⟨v, e⟩ := one1 Hp x1 vs hk; subst e; exact ⟨_, argV_plain (by kernel_rfl) rfl, _, hk, rfl⟩)
    fun n => laidArgs_cons L2 (KA := fun Hp v => ∃ vs, K2 Hp x2 vs ∧ v = vs.headD (.bool false)) (fun Hp vs hk => by obtain ⟨v, e⟩ := one2 Hp x2 vs hk; subst e; exact ⟨_, argV_plain (by kernel_rfl) rfl, _, hk, rfl⟩)
    fun n => laidArgs_cons L3 (KA := fun Hp v => ∃ vs, K3 Hp x3 vs ∧ v = vs.headD (.bool false)) (fun Hp vs hk => by obtain ⟨v, e⟩ := one3 Hp x3 vs hk; subst e; exact ⟨_, argV_plain (by kernel_rfl) rfl, _, hk, rfl⟩)
    fun n => laidArgs_cons L4 (KA := fun Hp v => ∃ vs, K4 Hp x4 vs ∧ v = vs.headD (.bool false)) (fun Hp vs hk => by obtain ⟨v, e⟩ := one4 Hp x4 vs hk; subst e; exact ⟨_, argV_plain (by kernel_rfl) rfl, _, hk, rfl⟩)
    fun n => laidArgs_nil n) ?_ rfl).mono fun e W' ⟨he, bel⟩ => ?_
  · rintro Hp vs ⟨_, _, rfl, ⟨ws0, hk0, rfl⟩, _, _, rfl, ⟨ws1, hk1, rfl⟩, _, _, rfl, ⟨ws2, hk2, rfl⟩, _, _, rfl, ⟨ws3, hk3, rfl⟩, _, _, rfl, ⟨ws4, hk4, rfl⟩, rfl⟩
    obtain ⟨_, _, rfl, rfl, _, _, rfl, rfl, _, _, rfl, rfl, _, _, rfl, rfl, _, _, rfl, rfl, _, _, rfl, rfl, _, _, rfl, rfl, _, _, rfl, rfl, _, _, rfl, ⟨sA0, sc0, rfl, sh0, _, sn0, sr0⟩, _, _, rfl, ⟨_, _, rfl, rfl, _, _, rfl, rfl, _, _, rfl, rfl, _, _, rfl, rfl, rfl⟩, rfl⟩ := hk0
    obtain rfl := hk1
    obtain rfl := hk2
    obtain rfl := hk3
    obtain rfl := hk4
    obtain ⟨v, H', hs, rfl, _⟩ := law_MsgBack_spec Hp x0.1 x0.2.1 x0.2.2.1 x0.2.2.2.1 x0.2.2.2.2.1 x0.2.2.2.2.2.1 x0.2.2.2.2.2.2.1 x0.2.2.2.2.2.2.2.1 sA0 x0.2.2.2.2.2.2.2.2.1 sc0 sr0 sh0 (by have := wf0.2.2.2.2.2.2.2.2.1; omega) x0.2.2.2.2.2.2.2.2.2.1.1 x0.2.2.2.2.2.2.2.2.2.1.2.1 x0.2.2.2.2.2.2.2.2.2.1.2.2.1 x0.2.2.2.2.2.2.2.2.2.1.2.2.2.1 x1 (by have := Spec.i64_bd wf1; constructor <;> omega) x2 (by have := Spec.i64_bd wf2; constructor <;> omega) x3 (by have := Spec.i64_bd wf3; constructor <;> omega) x4 (by have := Spec.u8_bd wf4; constructor <;> omega)
    exact ⟨H', hs⟩
  subst he
  exact ⟨_, rfl, _, _, _, [], _, [], hW', trodAll_mk1 (shut_bool Try.underlying4 _), (trodAll_cons_mk (Below.trod laidOut (by kernel_rfl) (of_decide_eq_true (by kernel_rfl)) k0 bel lt0) (trodAll_cons_mk (Below.trod laidOut (by kernel_rfl) (of_decide_eq_true (by kernel_rfl)) k1 bel lt1) (trodAll_cons_mk (Below.trod laidOut (by kernel_rfl) (of_decide_eq_true (by kernel_rfl)) k2 bel lt2) (trodAll_cons_mk (Below.trod laidOut (by kernel_rfl) (of_decide_eq_true (by kernel_rfl)) k3 bel lt3) (trodAll_cons_mk (Below.trod laidOut (by kernel_rfl) (of_decide_eq_true (by kernel_rfl)) k4 bel lt4) trodAll_mk0))))), rfl, bel.frame _, fun h => by cases h⟩
theorem over : Rows.msgBackRow.holds Try.pinned (OpenSpec.ofChange Rows.msgBackSpec) :=
  OpenClaim.holds_of_wide 3 Try.f3 rfl rfl rfl rfl rfl rfl rfl ⟨rfl, rfl, rfl, rfl, rfl⟩ rfl rfl rfl rfl rfl (by kernel_rfl) Try.func3 (by kernel_rfl)
    (of_decide_eq_true (by kernel_rfl)) (by unfold Func.isWrapper; first | (rw [if_pos (by decide +kernel)]; kernel_rfl) | (rw [if_neg (by decide +kernel)]; exact ⟨rfl, rfl⟩))
    (fun os started H enc _ => lifted os started H enc)
#print axioms over
end Go.Proofs.Ytfodghhmglbapaa.msgBack
namespace Go.Proofs.Ytfodghhmglbapaa
/-- The row, under a short name, for the claim. -/
theorem msgBack_holds : Rows.MsgBackSaid := msgBack.over
end Go.Proofs.Ytfodghhmglbapaa
