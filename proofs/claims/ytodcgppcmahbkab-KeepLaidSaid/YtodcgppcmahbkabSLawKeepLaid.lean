/- KeepLaid: the law's call, walked over a machine of its own (YtodcgppcmahbkabAm..), returns true whatever it is handed. -/
import Derived.Test.YtodcgppcmahbkabRows
import Derived.Test.YtodcgppcmahbkabSAmXKeepLaid1
import Derived.Test.YtodcgppcmahbkabSAmE
import Derived.WalkKit
import Derived.ProofKit
import Derived.OpenShut
import Derived.ShutString
import Derived.ChangeOld
import Derived.Below
import Derived.SizedLaws
namespace Go.Proofs.Ytodcgppcmahbkab.keepLaid
open Go.ChangeShapes Go.WideShapes Go.ChangeAt Go.RowKit Go.AM
set_option linter.unusedVariables false
theorem own : ownKnob Try.prog.godebug = none := by kernel_rfl
theorem laidOut : laidOutB Try.prog = true := by kernel_rfl

abbrev T0 : Type := Int
abbrev K0 : Heap → T0 → List Value → Prop := (fun (_ : Heap) (x : Int) vs => vs = [Value.int .i64 x])
abbrev W0 : T0 → Prop := (fun n : Int => (Lit.int .i64 n).wf = true)
theorem arg0 : OpensK Try.prog 9 3 K0 W0 := (opensK_int (P := Try.prog) (m := 8) Try.underlying3)
theorem one0 (Hp : Heap) (x : T0) (vs : List Value) (h : K0 Hp x vs) : ∃ v, vs = [v] := ⟨_, h⟩
abbrev T1 : Type := Int
abbrev K1 : Heap → T1 → List Value → Prop := (fun (_ : Heap) (x : Int) vs => vs = [Value.int .i64 x])
abbrev W1 : T1 → Prop := (fun n : Int => (Lit.int .i64 n).wf = true)
theorem arg1 : OpensK Try.prog 9 3 K1 W1 := (opensK_int (P := Try.prog) (m := 8) Try.underlying3)
theorem one1 (Hp : Heap) (x : T1) (vs : List Value) (h : K1 Hp x vs) : ∃ v, vs = [v] := ⟨_, h⟩
set_option maxRecDepth 100000 in
theorem lifted (os : Os) (started : os.Started) (H : Type) (enc : TypeId × Value → H) :
    ReturnsInHanded {} Try.checked os 5 .any (Rows.keepLaidSpec.pre6 enc Try.prog Try.f5 Rows.keepLaidRow.domain false) (Rows.keepLaidSpec.post enc Try.prog Try.f5 false true false false) := by
  refine returnsInHanded_of_change_sized (C := Try.checked) own started (by kernel_rfl) Try.func5
    (ChangeSpec.witness6 (enc := enc) (C := Try.checked) false ⟨#[], #[.int .i64 0, .int .i64 0], []⟩ 8 (by kernel_rfl) (by kernel_rfl) (by kernel_rfl) (by kernel_rfl)) ?_
  intro W base args ds gs before hval0 hW hcnd hsz0 _
  have hsz : (DataW.weightsEach Try.prog (Try.f5.params.toList ++ Rows.keepLaidSpec.plain.varTypes Try.prog) (ds ++ gs)).all (· ≤ reachBytes) = true := hsz0
  have hval : ∀ (j : Nat) t v, Try.f5.params[j]? = some t → args[j]? = some v → Value.okWide Try.prog W .any base t v := hval0
  have hW' := hW
  obtain ⟨p, q, hA0, hV, rfl, hfz, hnd⟩ := hW
  have hA : DataW.TrodAll enc Try.prog W 0 (fun _ => true) true Try.f5.params.toList args.toList ds p := hA0
  rw [Try.params5] at hA hval hsz
  obtain ⟨v0, vs0, d0, ds0, p0, q0, hargs, rfl, rfl, h0, r0⟩ := trodAll_cons hA
  obtain ⟨v1, vs1, d1, ds1, p1, q1, rfl, rfl, rfl, h1, r1⟩ := trodAll_cons r0
  obtain ⟨rfl, rfl, rfl⟩ := trodAll_nil r1
  obtain rfl : args = #[v0, v1] := by cases args; simp_all
  obtain ⟨rfl, rfl⟩ := trodVars_none hV
  have k0 := h0
  have lt0 : ∀ x ∈ p0, x.block < W.heap.size := by obtain ⟨m, hm⟩ := k0; exact DataW.trod_lt m _ _ _ hm
  obtain ⟨x0, wf0, L0⟩ := (arg0).arg hsz (j := 0) rfl rfl h0
  have k1 := h1
  have lt1 : ∀ x ∈ p1, x.block < W.heap.size := by obtain ⟨m, hm⟩ := k1; exact DataW.trod_lt m _ _ _ hm
  obtain ⟨x1, wf1, L1⟩ := (arg1).arg hsz (j := 1) rfl rfl h1
  refine (law_open (r := .any) (base := base) (v := .bool true) (ts := [3, 3]) hA (fun j t v a b => hval j t v (by rw [← Array.getElem?_toList]; exact a) b) (laidArgs_cons L0 (KA := fun Hp v => ∃ vs, K0 Hp x0 vs ∧ v = vs.headD (.bool false)) (fun Hp vs hk => by obtain ⟨v, e⟩ := one0 Hp x0 vs hk; subst e; exact ⟨_, argV_plain (by kernel_rfl) rfl, _, hk, rfl⟩)
    fun n => laidArgs_cons L1 (KA := fun Hp v => ∃ vs, K1 Hp x1 vs ∧ v = vs.headD (.bool false)) (fun Hp vs hk => by obtain ⟨v, e⟩ := one1 Hp x1 vs hk; subst e; exact ⟨_, argV_plain (by kernel_rfl) rfl, _, hk, rfl⟩)
    fun n => laidArgs_nil n) ?_ rfl).mono fun e W' ⟨he, bel⟩ => ?_
  · rintro Hp vs ⟨_, _, rfl, ⟨ws0, hk0, rfl⟩, _, _, rfl, ⟨ws1, hk1, rfl⟩, rfl⟩
    obtain rfl := hk0
    obtain rfl := hk1
    obtain ⟨v, H', hs, rfl, _⟩ := law_KeepLaid_spec Hp x0 (by have := Spec.i64_bd wf0; constructor <;> omega) x1 (by have := Spec.i64_bd wf1; constructor <;> omega)
    exact ⟨H', hs⟩
  subst he
  exact ⟨_, rfl, _, _, _, [], _, [], hW', trodAll_mk1 (shut_bool Try.underlying4 _), (trodAll_cons_mk (Below.trod laidOut (by kernel_rfl) (of_decide_eq_true (by kernel_rfl)) k0 bel lt0) (trodAll_cons_mk (Below.trod laidOut (by kernel_rfl) (of_decide_eq_true (by kernel_rfl)) k1 bel lt1) trodAll_mk0)), rfl, bel.frame _, fun h => by cases h⟩
theorem over : Rows.keepLaidRow.holds Try.pinned (OpenSpec.ofChange Rows.keepLaidSpec) :=
  OpenClaim.holds_of_wide 5 Try.f5 rfl rfl rfl rfl rfl rfl rfl ⟨rfl, rfl, rfl, rfl, rfl⟩ rfl rfl rfl rfl rfl (by kernel_rfl) Try.func5 (by kernel_rfl)
    (of_decide_eq_true (by kernel_rfl)) (by unfold Func.isWrapper; first | (rw [if_pos (by decide +kernel)]; kernel_rfl) | (rw [if_neg (by decide +kernel)]; exact ⟨rfl, rfl⟩))
    (fun os started H enc _ => lifted os started H enc)
#print axioms over
end Go.Proofs.Ytodcgppcmahbkab.keepLaid
namespace Go.Proofs.Ytodcgppcmahbkab
/-- The row, under a short name, for the claim. -/
theorem keepLaid_holds : Rows.KeepLaidSaid := keepLaid.over
end Go.Proofs.Ytodcgppcmahbkab
