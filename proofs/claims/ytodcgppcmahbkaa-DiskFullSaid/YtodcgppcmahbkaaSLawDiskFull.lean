/- DiskFull: the law's call, walked over a machine of its own (YtodcgppcmahbkaaAm..), returns true whatever it is handed. -/
import Derived.Test.YtodcgppcmahbkaaRows
import Derived.Test.YtodcgppcmahbkaaSAmXDiskFull1
import Derived.Test.YtodcgppcmahbkaaSAmE
import Derived.WalkKit
import Derived.ProofKit
import Derived.OpenShut
import Derived.ShutString
import Derived.ChangeOld
import Derived.Below
import Derived.SizedLaws
namespace Go.Proofs.Ytodcgppcmahbkaa.diskFull
open Go.ChangeShapes Go.WideShapes Go.ChangeAt Go.RowKit Go.AM
set_option linter.unusedVariables false
theorem own : ownKnob Try.prog.godebug = none := by kernel_rfl
theorem laidOut : laidOutB Try.prog = true := by kernel_rfl
theorem cells3 : Try.prog.cellsOf 3 = 1 := by kernel_rfl
theorem op47_9 : OpensK Try.prog 9 47 (KRow 1 i64c) (fun xs => xs.length ≤ 140737488351232 ∧ ∀ x ∈ xs, (Lit.int .i64 x).wf = true) :=
  (opensK_slice (B := 8) Try.underlying47 (by rw [cells3]; decide) (by kernel_rfl) (fun _ x vs h => by rw [h, cells3]; rfl) (opensK_int Try.underlying3 : OpensK Try.prog 8 3 (fun _ x vs => vs = i64c x) _)).conv id (fun Hp x vs h => by have := KSlice.flat h; rwa [cells3] at this) (fun x h => ⟨by have := h.2.1; show x.length ≤ _; omega, h.2.2⟩)
abbrev T0 : Type := (List Int)
abbrev K0 : Heap → T0 → List Value → Prop := (KRow 1 i64c)
abbrev W0 : T0 → Prop := (fun xs : List Int => xs.length ≤ 140737488351232 ∧ ∀ x ∈ xs, (Lit.int .i64 x).wf = true)
theorem arg0 : OpensK Try.prog 9 47 K0 W0 := op47_9
theorem one0 (Hp : Heap) (x : T0) (vs : List Value) (h : K0 Hp x vs) : ∃ v, vs = [v] := by obtain ⟨A, c, rfl, _⟩ := h; exact ⟨_, rfl⟩
set_option maxRecDepth 100000 in
theorem lifted (os : Os) (started : os.Started) (H : Type) (enc : TypeId × Value → H) :
    ReturnsInHanded {} Try.checked os 5 .any (Rows.diskFullSpec.pre6 enc Try.prog Try.f5 Rows.diskFullRow.domain false) (Rows.diskFullSpec.post enc Try.prog Try.f5 false true false false) := by
  refine returnsInHanded_of_change_sized (C := Try.checked) own started (by kernel_rfl) Try.func5
    (ChangeSpec.witness6 (enc := enc) (C := Try.checked) false ⟨#[], #[.slice none 0 0], []⟩ 8 (by kernel_rfl) (by kernel_rfl) (by kernel_rfl) (by kernel_rfl)) ?_
  intro W base args ds gs before hval0 hW hcnd hsz0 _
  have hsz : (DataW.weightsEach Try.prog (Try.f5.params.toList ++ Rows.diskFullSpec.plain.varTypes Try.prog) (ds ++ gs)).all (· ≤ reachBytes) = true := hsz0
  have hval : ∀ (j : Nat) t v, Try.f5.params[j]? = some t → args[j]? = some v → Value.okWide Try.prog W .any base t v := hval0
  have hW' := hW
  obtain ⟨p, q, hA0, hV, rfl, hfz, hnd⟩ := hW
  have hA : DataW.TrodAll enc Try.prog W 0 (fun _ => true) true Try.f5.params.toList args.toList ds p := hA0
  rw [Try.params5] at hA hval hsz
  obtain ⟨v0, vs0, d0, ds0, p0, q0, hargs, rfl, rfl, h0, r0⟩ := trodAll_cons hA
  obtain ⟨rfl, rfl, rfl⟩ := trodAll_nil r0
  obtain rfl : args = #[v0] := by cases args; simp_all
  obtain ⟨rfl, rfl⟩ := trodVars_none hV
  have k0 := h0
  have lt0 : ∀ x ∈ p0, x.block < W.heap.size := by obtain ⟨m, hm⟩ := k0; exact DataW.trod_lt m _ _ _ hm
  obtain ⟨x0, wf0, L0⟩ := (arg0).arg hsz (j := 0) rfl rfl h0
  refine (law_open (r := .any) (base := base) (v := .bool true) (ts := [47]) hA (fun j t v a b => hval j t v (by rw [← Array.getElem?_toList]; exact a) b) (laidArgs_cons L0 (KA := fun Hp v => ∃ vs, K0 Hp x0 vs ∧ v = vs.headD (.bool false)) (fun Hp vs hk => by obtain ⟨v, e⟩ := one0 Hp x0 vs hk; subst e; exact ⟨_, argV_plain (by kernel_rfl) rfl, _, hk, rfl⟩)
    fun n => laidArgs_nil n) ?_ rfl).mono fun e W' ⟨he, bel⟩ => ?_
  · rintro Hp vs ⟨_, _, rfl, ⟨ws0, hk0, rfl⟩, rfl⟩
    obtain ⟨sA0, sc0, rfl, sh0, _, sn0, sr0⟩ := hk0
    obtain ⟨v, H', hs, rfl, _⟩ := law_DiskFull_spec Hp sA0 x0 sc0 sr0 sh0 (by have := wf0.1; omega) (Spec.ints_wf wf0.2)
    exact ⟨H', hs⟩
  subst he
  exact ⟨_, rfl, _, _, _, [], _, [], hW', trodAll_mk1 (shut_bool Try.underlying4 _), (trodAll_cons_mk (Below.trod laidOut (by kernel_rfl) (of_decide_eq_true (by kernel_rfl)) k0 bel lt0) trodAll_mk0), rfl, bel.frame _, fun h => by cases h⟩
theorem over : Rows.diskFullRow.holds Try.pinned (OpenSpec.ofChange Rows.diskFullSpec) :=
  OpenClaim.holds_of_wide 5 Try.f5 rfl rfl rfl rfl rfl rfl rfl ⟨rfl, rfl, rfl, rfl, rfl⟩ rfl rfl rfl rfl rfl (by kernel_rfl) Try.func5 (by kernel_rfl)
    (of_decide_eq_true (by kernel_rfl)) (by unfold Func.isWrapper; first | (rw [if_pos (by decide +kernel)]; kernel_rfl) | (rw [if_neg (by decide +kernel)]; exact ⟨rfl, rfl⟩))
    (fun os started H enc _ => lifted os started H enc)
#print axioms over
end Go.Proofs.Ytodcgppcmahbkaa.diskFull
namespace Go.Proofs.Ytodcgppcmahbkaa
/-- The row, under a short name, for the claim. -/
theorem diskFull_holds : Rows.DiskFullSaid := diskFull.over
end Go.Proofs.Ytodcgppcmahbkaa
