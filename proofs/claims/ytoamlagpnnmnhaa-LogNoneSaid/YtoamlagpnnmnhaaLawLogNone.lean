/- LogNone: the closed sentence holds: its call, run by an evaluator that is proved right, returns true. -/
import Derived.Test.YtoamlagpnnmnhaaRows
import Derived.Test.YtoamlagpnnmnhaaAmD
import Derived.WalkKit
import Derived.ProofKit
import Derived.OpenShut
import Derived.ShutString
import Derived.ChangeOld
import Derived.Below
import Derived.SizedLaws
namespace Go.Proofs.Ytoamlagpnnmnhaa.logNone
open Go.ChangeShapes Go.WideShapes Go.ChangeAt Go.RowKit Go.AM
set_option linter.unusedVariables false
theorem own : ownKnob Try.prog.godebug = none := by kernel_rfl
theorem mixed : Try.prog.follows .mixedOrders = true := by kernel_rfl
noncomputable def X0 (f : FuncId) : List Tmp := (bif_ (Nat.ble 26 f) (bif_ (Nat.ble 39 f) (bif_ (Nat.ble 45 f) (bif_ (Nat.ble 48 f) (bif_ (Nat.ble 50 f) (bif_ (Nat.ble 51 f) [0, 2, 3, 7, 37] [0, 2, 3, 4, 5, 9, 22]) (bif_ (Nat.ble 49 f) [0, 2, 3, 4, 5, 6, 7, 8, 30] [0, 1, 4, 5, 7, 8, 9, 16])) (bif_ (Nat.ble 46 f) (bif_ (Nat.ble 47 f) [0, 1, 2, 4, 5, 6, 7, 8, 9, 10, 16, 35, 46, 61] [0, 2, 3, 4, 5, 7, 8, 9, 22]) [0, 2])) (bif_ (Nat.ble 42 f) (bif_ (Nat.ble 43 f) (bif_ (Nat.ble 44 f) [0, 1, 4] [0, 1, 2, 3]) [0, 1, 2, 3, 4]) (bif_ (Nat.ble 40 f) (bif_ (Nat.ble 41 f) [0, 1, 2, 3] [0, 1, 2]) [0, 1, 2]))) (bif_ (Nat.ble 32 f) (bif_ (Nat.ble 35 f) (bif_ (Nat.ble 37 f) (bif_ (Nat.ble 38 f) [0, 1, 4, 5, 6, 7, 8, 9, 10, 11, 13, 21, 45, 57] [0, 1, 2, 3, 4]) (bif_ (Nat.ble 36 f) [0, 2, 4] [0, 1, 2, 6, 8, 9, 10, 11, 12, 25])) (bif_ (Nat.ble 33 f) (bif_ (Nat.ble 34 f) [0, 2] [0, 1, 4, 8]) [0, 2, 4])) (bif_ (Nat.ble 29 f) (bif_ (Nat.ble 30 f) (bif_ (Nat.ble 31 f) [0, 1, 3, 4, 5, 6, 7, 8, 9, 33, 53, 57, 68] [0, 1, 2, 3, 6, 7, 21]) [0, 1, 2, 3, 6]) (bif_ (Nat.ble 27 f) (bif_ (Nat.ble 28 f) [0, 1, 2, 3, 6, 7, 8] [0, 1, 2, 6, 7, 8]) [0, 1, 2, 4, 5, 10, 24])))) (bif_ (Nat.ble 13 f) (bif_ (Nat.ble 19 f) (bif_ (Nat.ble 22 f) (bif_ (Nat.ble 24 f) (bif_ (Nat.ble 25 f) [0, 1, 3, 5] [0, 1, 3, 4, 22]) (bif_ (Nat.ble 23 f) [0, 1, 2, 3, 4, 5, 26] [0, 1, 2, 4, 5, 6, 7, 8, 9, 10, 12, 13, 16, 25, 30, 59, 64, 84, 110])) (bif_ (Nat.ble 20 f) (bif_ (Nat.ble 21 f) [0, 1, 2, 4, 5, 6, 7, 30, 37, 59] [0, 2, 3]) [0, 1, 2, 6, 7, 10])) (bif_ (Nat.ble 16 f) (bif_ (Nat.ble 17 f) (bif_ (Nat.ble 18 f) [0, 1, 4, 5, 6, 24] [0, 1, 4, 5, 10, 14, 26]) [0, 2, 4]) (bif_ (Nat.ble 14 f) (bif_ (Nat.ble 15 f) [0, 1, 4, 5, 6, 7, 8, 11, 14, 36, 63, 68, 96] [0, 2, 4]) [0, 1, 2, 6, 7, 25]))) (bif_ (Nat.ble 6 f) (bif_ (Nat.ble 9 f) (bif_ (Nat.ble 11 f) (bif_ (Nat.ble 12 f) [0, 1, 2, 4, 25] [0, 1, 4, 5, 6, 7, 16]) (bif_ (Nat.ble 10 f) [0, 1, 2] [0, 1, 2, 3, 4, 5, 12])) (bif_ (Nat.ble 7 f) (bif_ (Nat.ble 8 f) [0, 1, 2, 3, 5, 6, 7] [0, 1, 2, 3, 6, 7, 8, 9, 10, 11, 12, 13, 14, 15, 16, 17, 18, 19, 20, 21, 22, 23, 24, 27, 44, 46, 54, 70, 138, 164, 180, 191, 206]) [0, 1, 4, 5, 6, 7, 8, 9, 10, 11, 12, 13, 14, 15, 18, 24, 27, 40, 48, 63, 76, 91, 95, 107])) (bif_ (Nat.ble 3 f) (bif_ (Nat.ble 4 f) (bif_ (Nat.ble 5 f) [0, 1, 2, 4, 5, 6, 7, 8, 9, 10, 13, 24, 28, 42] [0, 1, 4, 5, 6, 7, 8, 9, 10, 11, 15, 30, 33, 45]) [0, 1, 2, 3, 4, 8, 9, 10, 11, 12, 13, 16, 44]) []))))
theorem ran : okF (runF Try.prog X0 1000 40 8 [] Hp.nil) = true := by kernel_rfl
theorem walk (W : World) : Calls Try.prog 8 #[] W fun e W' => e = .returned (.bool true) ∧ Below W.heap.size W W' :=
  let ⟨_, h⟩ := okF_spec mixed ran
  law_flat h rfl rfl W
set_option maxRecDepth 100000 in
theorem lifted (os : Os) (started : os.Started) (H : Type) (enc : TypeId × Value → H) :
    ReturnsInHanded {} Try.checked os 8 .any (Rows.logNoneSpec.pre6 enc Try.prog Try.f8 Rows.logNoneRow.domain false) (Rows.logNoneSpec.post enc Try.prog Try.f8 false true false false) := by
  refine returnsInHanded_of_change_sized (C := Try.checked) own started (by kernel_rfl) Try.func8
    (ChangeSpec.witness6 (enc := enc) (C := Try.checked) false ⟨#[], #[], []⟩ 8 (by kernel_rfl) (by kernel_rfl) (by kernel_rfl) (by kernel_rfl)) ?_
  intro W base args ds gs before hval0 hW hcnd hsz0 _
  have hW' := hW
  obtain ⟨p, q, hA0, hV, rfl, hfz, hnd⟩ := hW
  have hA : DataW.TrodAll enc Try.prog W 0 (fun _ => true) true Try.f8.params.toList args.toList ds p := hA0
  rw [Try.params8] at hA
  obtain ⟨hargs, rfl, rfl⟩ := trodAll_nil hA
  obtain rfl : args = #[] := by cases args; simp_all
  obtain ⟨rfl, rfl⟩ := trodVars_none hV
  clear hA0 hval0 hsz0
  refine (walk W).mono fun e W' ⟨he, bel⟩ => ?_
  subst he
  exact ⟨_, rfl, _, _, _, [], _, [], hW', trodAll_mk1 (shut_bool Try.underlying4 _), trodAll_mk0, rfl, bel.frame _, fun h => by cases h⟩
theorem over : Rows.logNoneRow.holds Try.pinned (OpenSpec.ofChange Rows.logNoneSpec) :=
  OpenClaim.holds_of_wide 8 Try.f8 rfl rfl rfl rfl rfl rfl rfl ⟨rfl, rfl, rfl, rfl, rfl⟩ rfl rfl rfl rfl rfl (by kernel_rfl) Try.func8 (by kernel_rfl)
    (of_decide_eq_true (by kernel_rfl)) (by unfold Func.isWrapper; first | (rw [if_pos (by decide +kernel)]; kernel_rfl) | (rw [if_neg (by decide +kernel)]; exact ⟨rfl, rfl⟩))
    (fun os started H enc _ => lifted os started H enc)
#print axioms over
end Go.Proofs.Ytoamlagpnnmnhaa.logNone
namespace Go.Proofs.Ytoamlagpnnmnhaa
/-- The row, under a short name, for the claim. -/
theorem logNone_holds : Rows.LogNoneSaid := logNone.over
end Go.Proofs.Ytoamlagpnnmnhaa
