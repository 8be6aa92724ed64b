-- Written for this claim by a program of this seat (a turned copy of the printer)
import Derived.Test.YtoamlagpnnmnhabRows
import Derived.Test.YtoamlagpnnmnhabSPWalTornx11
import Derived.Test.YtoamlagpnnmnhabSPureWalTorn
import Derived.WalkKit
import Derived.ProofKit
import Derived.OpenShut
import Derived.ShutString
import Derived.ChangeOld
import Derived.Below
import Derived.SizedLaws
import Derived.Test.YtoamlagpnnmnhabSWSized
import Derived.Test.YtoamlagpnnmnhabSOpens
namespace Go.Proofs.Ytoamlagpnnmnhab.walTorn
open Go.ChangeShapes Go.WideShapes Go.ChangeAt Go.RowKit
open Go.ChangeMaps (open_string shut_string)
set_option linter.unusedVariables false
theorem own : ownKnob Try.prog.godebug = none := by kernel_rfl
open Go.Proofs.Ytoamlagpnnmnhab.PWalTorn Go.Proofs.YtoamlagpnnmnhabW.Opening Go.Proofs.YtoamlagpnnmnhabW.PrintWords
theorem o23 : Opens Try.prog 23 k23 (fun x_ => ((Lit.int .i64 x_.f0).wf = true ∧ (Lit.int .i64 x_.f1).wf = true)) :=
  opens_iso (fun x : S23 => (x.f0, x.f1)) (fun p => ⟨p.1, p.2⟩) (fun _ => rfl) (opens_struct Try.underlying23 (by kernel_rfl) (opens_cons rfl (opens_int (by kernel_rfl) (by kernel_rfl)) rfl (opens_one rfl (opens_int (by kernel_rfl) (by kernel_rfl)))))
theorem o25 : Opens Try.prog 25 k25 (fun x_ => ((Lit.int .i64 x_.f0).wf = true ∧ ((Lit.int .i64 x_.f1).wf = true ∧ ((Lit.int .i64 x_.f2).wf = true ∧ x_.f3.size ≤ 140737488351232)))) :=
  opens_iso (fun x : S25 => (x.f0, x.f1, x.f2, x.f3)) (fun p => ⟨p.1, p.2.1, p.2.2.1, p.2.2.2⟩) (fun _ => rfl) (opens_struct Try.underlying25 (by kernel_rfl) (opens_cons rfl (opens_int (by kernel_rfl) (by kernel_rfl)) rfl (opens_cons rfl (opens_int (by kernel_rfl) (by kernel_rfl)) rfl (opens_cons rfl (opens_int (by kernel_rfl) (by kernel_rfl)) rfl (opens_one rfl (opens_string (by kernel_rfl) (by kernel_rfl)))))))
theorem o27 : Opens Try.prog 27 k27 (fun x_ => (True ∧ (((Lit.int .i64 x_.f1.f0).wf = true ∧ (Lit.int .i64 x_.f1.f1).wf = true) ∧ ((Lit.int .i64 x_.f2.f0).wf = true ∧ ((Lit.int .i64 x_.f2.f1).wf = true ∧ ((Lit.int .i64 x_.f2.f2).wf = true ∧ x_.f2.f3.size ≤ 140737488351232)))))) :=
  opens_iso (fun x : S27 => (x.f0, x.f1, x.f2)) (fun p => ⟨p.1, p.2.1, p.2.2⟩) (fun _ => rfl) (opens_struct Try.underlying27 (by kernel_rfl) (opens_cons rfl (opens_bool (by kernel_rfl) (by kernel_rfl)) rfl (opens_cons rfl o23 rfl (opens_one rfl o25))))
theorem laidOut : laidOutB Try.prog = true := by kernel_rfl
set_option maxRecDepth 100000 in
theorem lifted (os : Os) (started : os.Started) (H : Type) (enc : TypeId × Value → H) :
    ReturnsInHanded {} Try.checked os 6 .any (Rows.walTornSpec.pre6 enc Try.prog Try.f6 Rows.walTornRow.domain false) (Rows.walTornSpec.post enc Try.prog Try.f6 false true false false) := by
  refine returnsInHanded_of_change_sized (C := Try.checked) own started (by kernel_rfl) Try.func6
    (ChangeSpec.witness6 (enc := enc) (C := Try.checked) false ⟨#[], #[.slice none 0 0, .int .i64 0], []⟩ 8 (by kernel_rfl) (by kernel_rfl) (by kernel_rfl) (by kernel_rfl)) ?_
  intro W base args ds gs before hval0 hW hcnd hsz0 _
  have hsz : (DataW.weightsEach Try.prog (Try.f6.params.toList ++ Rows.walTornSpec.plain.varTypes Try.prog) (ds ++ gs)).all (· ≤ reachBytes) = true := hsz0
  have hval : ∀ (j : Nat) t v, Try.f6.params[j]? = some t → args[j]? = some v → Value.okWide Try.prog W .any base t v := hval0
  have hW' := hW
  obtain ⟨p, q, hA0, hV, rfl, hfz, hnd⟩ := hW
  have hA : DataW.TrodAll enc Try.prog W 0 (fun _ => true) true Try.f6.params.toList args.toList ds p := hA0
  rw [Try.params6] at hA hval hsz
  obtain ⟨v0, vs0, d0, ds0, p0, q0, hargs, rfl, rfl, h0, r0⟩ := trodAll_cons hA
  obtain ⟨v1, vs1, d1, ds1, p1, q1, rfl, rfl, rfl, h1, r1⟩ := trodAll_cons r0
  obtain ⟨rfl, rfl, rfl⟩ := trodAll_nil r1
  obtain rfl : args = #[v0, v1] := by cases args; simp_all
  obtain ⟨rfl, rfl⟩ := trodVars_none hV
  obtain ⟨a0, len0, cap0, rfl⟩ := okWide_slice Try.underlying43 (hval 0 43 v0 rfl rfl)
  have k0 := h0
  have lt0 : ∀ x ∈ p0, x.block < W.heap.size := by obtain ⟨m, hm⟩ := k0; exact DataW.trod_lt m _ _ _ hm
  obtain ⟨x0, hk0, hw0⟩ := (show Opens Try.prog 43 (Kd.slice 27 k27) (fun x_ => (x_.length ≤ maxLen ∧ x_.length * 64 ≤ 140737488351232 ∧ ∀ y0_ ∈ x_, (True ∧ (((Lit.int .i64 y0_.f1.f0).wf = true ∧ (Lit.int .i64 y0_.f1.f1).wf = true) ∧ ((Lit.int .i64 y0_.f2.f0).wf = true ∧ ((Lit.int .i64 y0_.f2.f1).wf = true ∧ ((Lit.int .i64 y0_.f2.f2).wf = true ∧ y0_.f2.f3.size ≤ 140737488351232))))))) from (opens_slice (by kernel_rfl) (by kernel_rfl) (by kernel_rfl) o27)).arg hsz (j := 0) rfl rfl h0
  obtain ⟨A0, c0, e0, hc0, hr0⟩ := hk0
  simp [Value.cells] at e0
  obtain ⟨rfl, rfl, rfl⟩ := e0
  obtain ⟨a1, rfl, rfl, rfl, w1⟩ := open_int Try.underlying3 (hval 1 3 v1 rfl rfl) h1
  clear hA0 hval0 hsz0 hsz
  refine (PWalTorn.donatuslaw18_WalTorn.walk Pure.WalTorn _ _ x0 a1 W hr0 hc0 hw0 w1).mono fun e W' ⟨he, bel⟩ => ?_
  subst he
  exact ⟨_, rfl, _, _, _, [], _, [], hW', trodAll_mk1 (shut_bool Try.underlying4 _), (trodAll_cons_mk (Below.trod laidOut (by kernel_rfl) (of_decide_eq_true (by kernel_rfl)) k0 bel lt0) (trodAll_cons_mk (shut_int Try.underlying3 w1) trodAll_mk0)), rfl, bel.frame _, fun h => by cases h⟩
theorem over : Rows.walTornRow.holds Try.pinned (OpenSpec.ofChange Rows.walTornSpec) :=
  OpenClaim.holds_of_wide 6 Try.f6 rfl rfl rfl rfl rfl rfl rfl ⟨rfl, rfl, rfl, rfl, rfl⟩ rfl rfl rfl rfl rfl (by kernel_rfl) Try.func6 (by kernel_rfl)
    (of_decide_eq_true (by kernel_rfl)) (by unfold Func.isWrapper; first | (rw [if_pos (by decide +kernel)]; kernel_rfl) | (rw [if_neg (by decide +kernel)]; exact ⟨rfl, rfl⟩))
    (fun os started H enc _ => lifted os started H enc)
theorem proved : Rows.WalTornSaid := over
#print axioms proved
end Go.Proofs.Ytoamlagpnnmnhab.walTorn
namespace Go.Proofs.Ytoamlagpnnmnhab
/-- The row, under a short name, for the claim. -/
theorem walTorn_holds : Rows.WalTornSaid := walTorn.proved
end Go.Proofs.Ytoamlagpnnmnhab
