/- LogConf: the law's call, walked over a machine of its own (YtoamlagpnnmnhaaAm..), returns true whatever it is handed. -/
import Derived.Test.YtoamlagpnnmnhaaRows
import Derived.Test.YtoamlagpnnmnhaaAmTLogC
import Derived.Test.YtoamlagpnnmnhaaAmE
import Derived.WalkKit
import Derived.ProofKit
import Derived.OpenShut
import Derived.ShutString
import Derived.ChangeOld
import Derived.Below
import Derived.SizedLaws
namespace Go.Proofs.Ytoamlagpnnmnhaa.logConf
open Go.ChangeShapes Go.WideShapes Go.ChangeAt Go.RowKit Go.AM
set_option linter.unusedVariables false
theorem own : ownKnob Try.prog.godebug = none := by kernel_rfl
theorem laidOut : laidOutB Try.prog = true := by kernel_rfl
theorem cells3 : Try.prog.cellsOf 3 = 1 := by kernel_rfl
theorem ints_opens : OpensK Try.prog 9 42 (KRow 1 I64c) (fun xs => xs.length ≤ 140737488351232) :=
  (opensK_slice (B := 8) Try.underlying42 (by rw [cells3]; decide) (by kernel_rfl) (fun _ x vs h => by rw [h, cells3]; rfl) (opensK_int Try.underlying3 : OpensK Try.prog 8 3 (fun _ x vs => vs = I64c x) _)).conv id (fun Hp x vs h => by have := KSlice.flat h; rwa [cells3] at this) (fun x h => by have := h.2.1; show x.length ≤ _; omega)
set_option maxRecDepth 100000 in
theorem lifted (os : Os) (started : os.Started) (H : Type) (enc : TypeId × Value → H) :
    ReturnsInHanded {} Try.checked os 6 .any (Rows.logConfSpec.pre6 enc Try.prog Try.f6 Rows.logConfRow.domain false) (Rows.logConfSpec.post enc Try.prog Try.f6 false true false false) := by
  refine returnsInHanded_of_change_sized (C := Try.checked) own started (by kernel_rfl) Try.func6
    (ChangeSpec.witness6 (enc := enc) (C := Try.checked) false ⟨#[], #[.int .i64 0, .slice none 0 0], []⟩ 8 (by kernel_rfl) (by kernel_rfl) (by kernel_rfl) (by kernel_rfl)) ?_
  intro W base args ds gs before hval0 hW hcnd hsz0 _
  have hsz : (DataW.weightsEach Try.prog (Try.f6.params.toList ++ Rows.logConfSpec.plain.varTypes Try.prog) (ds ++ gs)).all (· ≤ reachBytes) = true := hsz0
  have hval : ∀ (j : Nat) t v, Try.f6.params[j]? = some t → args[j]? = some v → Value.okWide Try.prog W .any base t v := hval0
  have hW' := hW
  obtain ⟨p, q, hA0, hV, rfl, hfz, hnd⟩ := hW
  have hA : DataW.TrodAll enc Try.prog W 0 (fun _ => true) true Try.f6.params.toList args.toList ds p := hA0
  rw [Try.params6] at hA hval hsz
  obtain ⟨v0, vs0, d0, ds0, p0, q0, hargs, rfl, rfl, h0, r0⟩ := trodAll_cons hA
  obtain ⟨v1, vs1, d1, ds1, p1, q1, rfl, rfl, rfl, h1, r1⟩ := trodAll_cons r0
  obtain ⟨rfl, rfl, rfl⟩ := trodAll_nil r1
  obtain rfl : args = #[v0, v1] := by cases args; simp_all
  obtain ⟨rfl, rfl⟩ := trodVars_none hV
  have k0 := h0
  have lt0 : ∀ x ∈ p0, x.block < W.heap.size := by obtain ⟨m, hm⟩ := k0; exact DataW.trod_lt m _ _ _ hm
  obtain ⟨x0, wf0, L0⟩ := ((opensK_int Try.underlying3 : OpensK Try.prog 9 3 _ _)).arg hsz (j := 0) rfl rfl h0
  have k1 := h1
  have lt1 : ∀ x ∈ p1, x.block < W.heap.size := by obtain ⟨m, hm⟩ := k1; exact DataW.trod_lt m _ _ _ hm
  obtain ⟨x1, wf1, L1⟩ := (ints_opens).arg hsz (j := 1) rfl rfl h1
  refine (law_open (r := .any) (base := base) (v := .bool true) (ts := [3, 42]) hA (fun j t v a b => hval j t v (by rw [← Array.getElem?_toList]; exact a) b) (laidArgs_cons L0 (KA := fun _ v => v = .int .i64 x0) (fun Hp vs hk => ⟨_, argV_plain (by kernel_rfl) hk, rfl⟩)
    fun n => laidArgs_cons L1 (KA := fun Hp v => KRow 1 I64c Hp x1 [v]) (fun Hp vs hk => by obtain ⟨A, c, rfl, h⟩ := hk; exact ⟨_, argV_plain (by kernel_rfl) rfl, A, c, rfl, h⟩)
    fun n => laidArgs_nil n) ?_ rfl).mono fun e W' ⟨he, bel⟩ => ?_
  · rintro Hp vs ⟨_, _, rfl, hk0, _, _, rfl, hk1, rfl⟩
    subst hk0
    obtain ⟨A, c, e, hc, _, _, hrow⟩ := hk1
    cases e
    obtain ⟨v, H', hs, rfl⟩ := logconf_spec Hp x0 A x1 c hrow hc wf1
    exact ⟨H', hs⟩
  subst he
  exact ⟨_, rfl, _, _, _, [], _, [], hW', trodAll_mk1 (shut_bool Try.underlying4 _), (trodAll_cons_mk (Below.trod laidOut (by kernel_rfl) (of_decide_eq_true (by kernel_rfl)) k0 bel lt0) (trodAll_cons_mk (Below.trod laidOut (by kernel_rfl) (of_decide_eq_true (by kernel_rfl)) k1 bel lt1) trodAll_mk0)), rfl, bel.frame _, fun h => by cases h⟩
theorem over : Rows.logConfRow.holds Try.pinned (OpenSpec.ofChange Rows.logConfSpec) :=
  OpenClaim.holds_of_wide 6 Try.f6 rfl rfl rfl rfl rfl rfl rfl ⟨rfl, rfl, rfl, rfl, rfl⟩ rfl rfl rfl rfl rfl (by kernel_rfl) Try.func6 (by kernel_rfl)
    (of_decide_eq_true (by kernel_rfl)) (by unfold Func.isWrapper; first | (rw [if_pos (by decide +kernel)]; kernel_rfl) | (rw [if_neg (by decide +kernel)]; exact ⟨rfl, rfl⟩))
    (fun os started H enc _ => lifted os started H enc)
#print axioms over
end Go.Proofs.Ytoamlagpnnmnhaa.logConf
namespace Go.Proofs.Ytoamlagpnnmnhaa
/-- The row, under a short name, for the claim. -/
theorem logConf_holds : Rows.LogConfSaid := logConf.over
end Go.Proofs.Ytoamlagpnnmnhaa
