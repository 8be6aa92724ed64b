/- KeepOwn: the law's call, walked over a machine of its own (YtodcgppcmahbkabAm..), returns true whatever it is handed. -/
import Derived.Test.YtodcgppcmahbkabRows
import Derived.Test.YtodcgppcmahbkabSAmXKeepOwn1
import Derived.Test.YtodcgppcmahbkabSAmE
import Derived.WalkKit
import Derived.ProofKit
import Derived.OpenShut
import Derived.ShutString
import Derived.ChangeOld
import Derived.Below
import Derived.SizedLaws
namespace Go.Proofs.Ytodcgppcmahbkab.keepOwn
open Go.ChangeShapes Go.WideShapes Go.ChangeAt Go.RowKit Go.AM
set_option linter.unusedVariables false
theorem own : ownKnob Try.prog.godebug = none := by kernel_rfl
theorem laidOut : laidOutB Try.prog = true := by kernel_rfl
theorem cells54 : Try.prog.cellsOf 54 = 4 := by kernel_rfl
theorem elop39_9 : OpensK Try.prog 8 54 (fun _ (x : Entry) vs => vs = x.cells) (fun x : Entry => -9223372036854775808 ≤ x.index ∧ x.index ≤ 9223372036854775807) :=
  (opensK_struct (m := 7) Try.underlying54 (by kernel_rfl) rfl (opensL_cons (opensK_int (P := Try.prog) (m := 6) Try.underlying2) (opensL_cons (opensK_int (P := Try.prog) (m := 6) Try.underlying2) (opensL_cons (opensK_int (P := Try.prog) (m := 6) Try.underlying3) (opensL_cons (opensK_string (P := Try.prog) (m := 6) Try.underlying9) opensL_nil))))).conv (fun x => (⟨x.1, x.2.1, x.2.2.1, x.2.2.2.1⟩ : Entry)) (by rintro Hp x vs ⟨_, _, rfl, rfl, _, _, rfl, rfl, _, _, rfl, rfl, _, _, rfl, rfl, rfl⟩; rfl) (fun x hw => show _ ≤ _ ∧ _ ≤ _ from Spec.i64_bd hw.1)
theorem op39_9 : OpensK Try.prog 9 39 (KRow 4 Entry.cells) (fun xs => xs.length ≤ 140737488351232 ∧ Spec.EntsI xs) :=
  (opensK_slice (B := 40) Try.underlying39 (by rw [cells54]; decide) (by kernel_rfl) (fun _ x vs h => by rw [h, cells54]; rfl) elop39_9).conv id (fun Hp x vs h => by have := KSlice.flat h; rwa [cells54] at this) (fun x h => ⟨by have := h.2.1; show x.length ≤ _; omega, h.2.2⟩)
abbrev T0 : Type := (List Entry)
abbrev K0 : Heap → T0 → List Value → Prop := (KRow 4 Entry.cells)
abbrev W0 : T0 → Prop := (fun xs : List Entry => xs.length ≤ 140737488351232 ∧ Spec.EntsI xs)
theorem arg0 : OpensK Try.prog 9 39 K0 W0 := op39_9
theorem one0 (Hp : Heap) (x : T0) (vs : List Value) (h : K0 Hp x vs) : ∃ v, vs = [v] := by obtain ⟨A, c, rfl, _⟩ := h; exact ⟨_, rfl⟩
set_option maxRecDepth 100000 in
theorem lifted (os : Os) (started : os.Started) (H : Type) (enc : TypeId × Value → H) :
    ReturnsInHanded {} Try.checked os 7 .any (Rows.keepOwnSpec.pre6 enc Try.prog Try.f7 Rows.keepOwnRow.domain false) (Rows.keepOwnSpec.post enc Try.prog Try.f7 false true false false) := by
  refine returnsInHanded_of_change_sized (C := Try.checked) own started (by kernel_rfl) Try.func7
    (ChangeSpec.witness6 (enc := enc) (C := Try.checked) false ⟨#[], #[.slice none 0 0], []⟩ 8 (by kernel_rfl) (by kernel_rfl) (by kernel_rfl) (by kernel_rfl)) ?_
  intro W base args ds gs before hval0 hW hcnd hsz0 _
  have hsz : (DataW.weightsEach Try.prog (Try.f7.params.toList ++ Rows.keepOwnSpec.plain.varTypes Try.prog) (ds ++ gs)).all (· ≤ reachBytes) = true := hsz0
  have hval : ∀ (j : Nat) t v, Try.f7.params[j]? = some t → args[j]? = some v → Value.okWide Try.prog W .any base t v := hval0
  have hW' := hW
  obtain ⟨p, q, hA0, hV, rfl, hfz, hnd⟩ := hW
  have hA : DataW.TrodAll enc Try.prog W 0 (fun _ => true) true Try.f7.params.toList args.toList ds p := hA0
  rw [Try.params7] at hA hval hsz
  obtain ⟨v0, vs0, d0, ds0, p0, q0, hargs, rfl, rfl, h0, r0⟩ := trodAll_cons hA
  obtain ⟨rfl, rfl, rfl⟩ := trodAll_nil r0
  obtain rfl : args = #[v0] := by cases args; simp_all
  obtain ⟨rfl, rfl⟩ := trodVars_none hV
  have k0 := h0
  have lt0 : ∀ x ∈ p0, x.block < W.heap.size := by obtain ⟨m, hm⟩ := k0; exact DataW.trod_lt m _ _ _ hm
  obtain ⟨x0, wf0, L0⟩ := (arg0).arg hsz (j := 0) rfl rfl h0
  refine (law_open (r := .any) (base := base) (v := .bool true) (ts := [39]) hA (fun j t v a b => hval j t v (by rw [← Array.getElem?_toList]; exact a) b) (laidArgs_cons L0 (KA := fun Hp v => ∃ vs, K0 Hp x0 vs ∧ v = vs.headD (.bool false)) (fun Hp vs hk => by obtain ⟨v, e⟩ := one0 Hp x0 vs hk; subst e; exact ⟨_, argV_plain (by kernel_rfl) rfl, _, hk, rfl⟩)
    fun n => laidArgs_nil n) ?_ rfl).mono fun e W' ⟨he, bel⟩ => ?_
  · rintro Hp vs ⟨_, _, rfl, ⟨ws0, hk0, rfl⟩, rfl⟩
    obtain ⟨sA0, sc0, rfl, sh0, _, sn0, sr0⟩ := hk0
    obtain ⟨v, H', hs, rfl, _⟩ := law_KeepOwn_spec Hp sA0 x0 sc0 sr0 sh0 (by have := wf0.1; omega) wf0.2
    exact ⟨H', hs⟩
  subst he
  exact ⟨_, rfl, _, _, _, [], _, [], hW', trodAll_mk1 (shut_bool Try.underlying4 _), (trodAll_cons_mk (Below.trod laidOut (by kernel_rfl) (of_decide_eq_true (by kernel_rfl)) k0 bel lt0) trodAll_mk0), rfl, bel.frame _, fun h => by cases h⟩
theorem over : Rows.keepOwnRow.holds Try.pinned (OpenSpec.ofChange Rows.keepOwnSpec) :=
  OpenClaim.holds_of_wide 7 Try.f7 rfl rfl rfl rfl rfl rfl rfl ⟨rfl, rfl, rfl, rfl, rfl⟩ rfl rfl rfl rfl rfl (by kernel_rfl) Try.func7 (by kernel_rfl)
    (of_decide_eq_true (by kernel_rfl)) (by unfold Func.isWrapper; first | (rw [if_pos (by decide +kernel)]; kernel_rfl) | (rw [if_neg (by decide +kernel)]; exact ⟨rfl, rfl⟩))
    (fun os started H enc _ => lifted os started H enc)
#print axioms over
end Go.Proofs.Ytodcgppcmahbkab.keepOwn
namespace Go.Proofs.Ytodcgppcmahbkab
/-- The row, under a short name, for the claim. -/
theorem keepOwn_holds : Rows.KeepOwnSaid := keepOwn.over
end Go.Proofs.Ytodcgppcmahbkab
