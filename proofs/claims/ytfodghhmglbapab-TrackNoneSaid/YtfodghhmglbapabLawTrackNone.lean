/- TrackNone: the closed sentence holds: its call, run by an evaluator that is proved right, returns true. -/
import Derived.Test.YtfodghhmglbapabRows
import Derived.Test.YtfodghhmglbapabAmD
import Derived.WalkKit
import Derived.ProofKit
import Derived.OpenShut
import Derived.ShutString
import Derived.ChangeOld
import Derived.Below
import Derived.SizedLaws
namespace Go.Proofs.Ytfodghhmglbapab.trackNone
open Go.ChangeShapes Go.WideShapes Go.ChangeAt Go.RowKit Go.AM
set_option linter.unusedVariables false
theorem own : ownKnob Try.prog.godebug = none := by kernel_rfl
theorem mixed : Try.prog.follows .mixedOrders = true := by kernel_rfl
noncomputable def X0 (f : FuncId) : List Tmp := (bif_ (Nat.ble 67 f) (bif_ (Nat.ble 100 f) (bif_ (Nat.ble 117 f) (bif_ (Nat.ble 125 f) (bif_ (Nat.ble 129 f) (bif_ (Nat.ble 131 f) (bif_ (Nat.ble 132 f) (bif_ (Nat.ble 133 f) [0, 1, 2, 3, 8, 9, 18] [0, 2, 3, 4, 5, 6, 7, 14, 18, 25]) [0, 1, 2, 3, 8, 9, 18]) (bif_ (Nat.ble 130 f) [0, 2] [0, 1, 2, 3, 4, 10])) (bif_ (Nat.ble 127 f) (bif_ (Nat.ble 128 f) [0, 1, 2, 6] [0, 1, 2, 3, 8, 9, 16, 36, 52]) (bif_ (Nat.ble 126 f) [0, 1, 2, 6, 8, 9, 10, 11, 12, 22] [0, 2]))) (bif_ (Nat.ble 121 f) (bif_ (Nat.ble 123 f) (bif_ (Nat.ble 124 f) [0, 2, 3, 4, 5, 30] [0, 2, 3, 4, 5, 30]) (bif_ (Nat.ble 122 f) [0, 2, 3, 4, 5, 6, 7, 8, 9, 10, 11, 12, 21, 31, 37, 43] [0, 2])) (bif_ (Nat.ble 119 f) (bif_ (Nat.ble 120 f) [0, 1, 2, 3, 4, 10] [0, 1, 2, 6]) (bif_ (Nat.ble 118 f) [0, 2] [0, 2])))) (bif_ (Nat.ble 108 f) (bif_ (Nat.ble 112 f) (bif_ (Nat.ble 114 f) (bif_ (Nat.ble 115 f) (bif_ (Nat.ble 116 f) [0, 1, 2, 3, 8, 9, 16, 36, 52] [0, 1, 2, 3, 8, 9, 10, 11, 43, 60, 65, 112, 129, 134]) [0, 1, 2, 3, 8, 9, 10, 43, 59, 64]) (bif_ (Nat.ble 113 f) [0, 1, 4] [0, 1, 2, 6, 7, 8, 9, 10, 14, 32, 37, 41, 61, 65, 78, 98, 103, 116])) (bif_ (Nat.ble 110 f) (bif_ (Nat.ble 111 f) [0, 1, 2, 6, 7, 13] [0, 1, 2, 6, 7, 8, 9, 10, 11, 12, 32, 34, 49, 51, 54]) (bif_ (Nat.ble 109 f) [0, 1, 2, 6, 7, 8, 9, 10, 15, 33, 43] [0, 1, 2, 6, 7, 8, 9, 10, 19, 30]))) (bif_ (Nat.ble 104 f) (bif_ (Nat.ble 106 f) (bif_ (Nat.ble 107 f) [0, 1, 2, 6, 7, 12, 30] [0, 1, 4]) (bif_ (Nat.ble 105 f) [0, 1, 2] [0, 1, 2, 4])) (bif_ (Nat.ble 102 f) (bif_ (Nat.ble 103 f) [0, 2, 3, 4, 5, 6, 7, 8, 9, 10, 11, 12, 13, 14, 15, 16, 25, 59, 62, 73, 84] [0, 1, 2, 21]) (bif_ (Nat.ble 101 f) [0, 2, 3, 4, 5, 6, 7, 8, 9, 10, 19, 28, 29, 39, 72] [0, 2, 3, 4, 5]))))) (bif_ (Nat.ble 83 f) (bif_ (Nat.ble 91 f) (bif_ (Nat.ble 95 f) (bif_ (Nat.ble 97 f) (bif_ (Nat.ble 98 f) (bif_ (Nat.ble 99 f) [0, 2, 3, 4, 5, 6, 7, 8, 9, 10, 11, 12, 16, 28, 36, 56, 76] [0, 2]) [0, 2]) (bif_ (Nat.ble 96 f) [0, 1, 4, 5, 7, 10, 11, 12, 13, 20, 21] [0, 1, 2, 3, 4, 8])) (bif_ (Nat.ble 93 f) (bif_ (Nat.ble 94 f) [0, 2, 4, 8, 14] [0, 2, 4, 8]) (bif_ (Nat.ble 92 f) [0, 1, 2, 3, 8, 9, 10, 11, 43, 60, 65, 112, 129, 134] [0, 1, 2, 3, 8, 9, 10, 43, 59, 64]))) (bif_ (Nat.ble 87 f) (bif_ (Nat.ble 89 f) (bif_ (Nat.ble 90 f) [0, 1, 4] [0, 1, 2, 6, 7, 8, 9, 10, 14, 32, 37, 41, 61, 65, 78, 98, 103, 116]) (bif_ (Nat.ble 88 f) [0, 1, 2, 6, 7, 13] [0, 1, 2, 6, 7, 8, 9, 10, 11, 12, 32, 34, 49, 51, 54])) (bif_ (Nat.ble 85 f) (bif_ (Nat.ble 86 f) [0, 1, 2, 6, 7, 8, 9, 10, 15, 33, 43] [0, 1, 2, 6, 7, 8, 9, 10, 19, 30]) (bif_ (Nat.ble 84 f) [0, 1, 2, 6, 7, 12, 30] [0, 1, 4, 5, 7, 8, 9, 16])))) (bif_ (Nat.ble 75 f) (bif_ (Nat.ble 79 f) (bif_ (Nat.ble 81 f) (bif_ (Nat.ble 82 f) [0, 1, 4, 5, 7, 8, 9, 16] [0, 1, 2, 3, 8, 9, 10, 11, 12, 13, 14, 15, 16, 17, 18, 23, 29, 35, 50, 68, 72, 87, 113]) (bif_ (Nat.ble 80 f) [0, 1, 2, 3, 4] [0, 2, 3, 7, 37])) (bif_ (Nat.ble 77 f) (bif_ (Nat.ble 78 f) [0, 1, 4, 8] [0, 1, 4, 5, 7, 8, 9, 16]) (bif_ (Nat.ble 76 f) [0, 1, 2, 3, 4, 5, 6, 9, 28] [0, 1, 2, 3, 4, 6, 12, 13, 14, 15, 41]))) (bif_ (Nat.ble 71 f) (bif_ (Nat.ble 73 f) (bif_ (Nat.ble 74 f) [0, 1, 4, 6, 7, 8, 9, 10, 19] [0, 2]) (bif_ (Nat.ble 72 f) [0, 1, 4] [0, 2, 3, 4, 5, 6, 7, 8, 9, 10, 50, 82])) (bif_ (Nat.ble 69 f) (bif_ (Nat.ble 70 f) [0, 2, 3, 4, 5, 6, 7, 8, 9, 13, 24] [0, 1, 4, 5, 10, 14]) (bif_ (Nat.ble 68 f) [0, 1, 4, 5, 6, 17] [0, 1, 2, 3, 4, 6, 8, 10, 29, 30, 31, 32, 40, 41, 42, 43, 54])))))) (bif_ (Nat.ble 33 f) (bif_ (Nat.ble 50 f) (bif_ (Nat.ble 58 f) (bif_ (Nat.ble 62 f) (bif_ (Nat.ble 64 f) (bif_ (Nat.ble 65 f) (bif_ (Nat.ble 66 f) [0, 2, 4] [0, 2]) [0, 1, 2, 3, 8, 9, 10, 11, 12, 13, 14, 15, 16, 17, 18, 23, 29, 35, 50, 68, 72, 87, 113]) (bif_ (Nat.ble 63 f) [0, 1, 4] [0, 1, 3])) (bif_ (Nat.ble 60 f) (bif_ (Nat.ble 61 f) [0, 1, 4, 5, 6, 7, 12, 19, 29] [0, 2]) (bif_ (Nat.ble 59 f) [0, 2, 4] [0, 1, 4, 5, 10, 14, 26]))) (bif_ (Nat.ble 54 f) (bif_ (Nat.ble 56 f) (bif_ (Nat.ble 57 f) [0, 1, 2] [0, 2, 3, 4, 5, 9, 22]) (bif_ (Nat.ble 55 f) [0, 1, 2, 3, 4] [0, 1, 2])) (bif_ (Nat.ble 52 f) (bif_ (Nat.ble 53 f) [0, 2] [0, 2]) (bif_ (Nat.ble 51 f) [0, 1, 2] [0, 1, 4, 5, 6, 7, 16])))) (bif_ (Nat.ble 41 f) (bif_ (Nat.ble 45 f) (bif_ (Nat.ble 47 f) (bif_ (Nat.ble 48 f) (bif_ (Nat.ble 49 f) [0, 1, 2, 3] [0, 1, 4, 5, 6, 7, 12, 19, 29]) [0, 1, 2, 6, 7, 16]) (bif_ (Nat.ble 46 f) [0, 1, 2, 4, 47, 59, 62] [0, 2, 3, 4, 6, 7, 8, 9, 10, 11, 17, 18, 19, 20, 25, 51])) (bif_ (Nat.ble 43 f) (bif_ (Nat.ble 44 f) [0, 1, 2, 3, 4, 5, 8, 17] [0, 1, 2]) (bif_ (Nat.ble 42 f) [0, 2] [0, 1, 4, 5, 6, 8, 17]))) (bif_ (Nat.ble 37 f) (bif_ (Nat.ble 39 f) (bif_ (Nat.ble 40 f) [0, 2, 3, 5, 8, 9, 10, 11, 12] [0, 1, 4, 5, 10, 14, 25]) (bif_ (Nat.ble 38 f) [0, 2, 3, 4, 5, 7, 8, 9, 22] [0, 2])) (bif_ (Nat.ble 35 f) (bif_ (Nat.ble 36 f) [0, 1, 4] [0, 1, 4]) (bif_ (Nat.ble 34 f) [0, 1, 3, 4, 5, 6, 24] [0, 1, 4, 5, 6, 21]))))) (bif_ (Nat.ble 16 f) (bif_ (Nat.ble 24 f) (bif_ (Nat.ble 28 f) (bif_ (Nat.ble 30 f) (bif_ (Nat.ble 31 f) (bif_ (Nat.ble 32 f) [0, 1, 2, 3, 4] [0, 1, 2, 3, 4, 5, 7, 61, 84, 91, 124, 129]) [0, 1, 2]) (bif_ (Nat.ble 29 f) [0] [0, 1, 3, 4, 5, 9])) (bif_ (Nat.ble 26 f) (bif_ (Nat.ble 27 f) [0, 1, 4, 12] [0, 2, 4]) (bif_ (Nat.ble 25 f) [0, 1, 3, 4, 19] [0, 1, 2, 3, 4, 6]))) (bif_ (Nat.ble 20 f) (bif_ (Nat.ble 22 f) (bif_ (Nat.ble 23 f) [0, 1, 4, 5, 13] [0, 1, 4, 5, 6, 7]) (bif_ (Nat.ble 21 f) [0, 1, 4, 5, 7, 8, 9, 10, 11, 16] [0, 1, 4, 5, 7, 8, 11, 12, 13, 14, 15, 21])) (bif_ (Nat.ble 18 f) (bif_ (Nat.ble 19 f) [0, 2, 3, 4, 5, 6, 7, 8, 30] [0, 2, 3, 4, 6, 14]) (bif_ (Nat.ble 17 f) [0, 1, 2, 3, 4] [0, 2, 3, 4, 7, 10, 11])))) (bif_ (Nat.ble 8 f) (bif_ (Nat.ble 12 f) (bif_ (Nat.ble 14 f) (bif_ (Nat.ble 15 f) [0, 1, 2, 3, 8, 9, 11, 18] [0, 1, 2, 6, 7, 16]) (bif_ (Nat.ble 13 f) [0, 1, 2, 6, 7, 16] [0, 1, 4, 8])) (bif_ (Nat.ble 10 f) (bif_ (Nat.ble 11 f) [0, 1, 4, 8] [0, 1, 2, 3, 6]) (bif_ (Nat.ble 9 f) [0, 1, 2, 12] [0, 1, 2, 3, 8, 9, 10, 11, 12, 13, 14, 15, 18, 32, 44, 59, 63, 87]))) (bif_ (Nat.ble 4 f) (bif_ (Nat.ble 6 f) (bif_ (Nat.ble 7 f) [0, 2, 3, 4, 5, 6, 7, 8, 9, 10, 11, 12, 13, 14, 15, 18, 27, 48, 52, 62, 79, 81, 88, 90, 95, 110, 138, 139, 157, 162, 169, 170, 222] [0, 1, 3, 5]) (bif_ (Nat.ble 5 f) [0, 1, 4, 5, 6, 7, 8, 9, 10, 11, 14, 24, 31, 40, 50, 60] [0, 1, 4, 5, 6, 7, 8, 9, 10, 13, 19, 29, 37, 44, 52, 61, 79])) (bif_ (Nat.ble 2 f) (bif_ (Nat.ble 3 f) [0, 1] []) []))))))
theorem ran : okF (runF Try.prog X0 1000 40 3 [] Hp.nil) = true := by kernel_rfl
theorem walk (W : World) : Calls Try.prog 3 #[] W fun e W' => e = .returned (.bool true) ∧ Below W.heap.size W W' :=
  let ⟨_, h⟩ := okF_spec mixed ran
  law_flat h rfl rfl W
set_option maxRecDepth 100000 in
theorem lifted (os : Os) (started : os.Started) (H : Type) (enc : TypeId × Value → H) :
    ReturnsInHanded {} Try.checked os 3 .any (Rows.trackNoneSpec.pre6 enc Try.prog Try.f3 Rows.trackNoneRow.domain false) (Rows.trackNoneSpec.post enc Try.prog Try.f3 false true false false) := by
  refine returnsInHanded_of_change_sized (C := Try.checked) own started (by kernel_rfl) Try.func3
    (ChangeSpec.witness6 (enc := enc) (C := Try.checked) false ⟨#[], #[], []⟩ 8 (by kernel_rfl) (by kernel_rfl) (by kernel_rfl) (by kernel_rfl)) ?_
  intro W base args ds gs before hval0 hW hcnd hsz0 _
  have hW' := hW
  obtain ⟨p, q, hA0, hV, rfl, hfz, hnd⟩ := hW
  have hA : DataW.TrodAll enc Try.prog W 0 (fun _ => true) true Try.f3.params.toList args.toList ds p := hA0
  rw [Try.params3] at hA
  obtain ⟨hargs, rfl, rfl⟩ := trodAll_nil hA
  obtain rfl : args = #[] := by cases args; simp_all
  obtain ⟨rfl, rfl⟩ := trodVars_none hV
  clear hA0 hval0 hsz0
  refine (walk W).mono fun e W' ⟨he, bel⟩ => ?_
  subst he
  exact ⟨_, rfl, _, _, _, [], _, [], hW', trodAll_mk1 (shut_bool Try.underlying4 _), trodAll_mk0, rfl, bel.frame _, fun h => by cases h⟩
theorem over : Rows.trackNoneRow.holds Try.pinned (OpenSpec.ofChange Rows.trackNoneSpec) :=
  OpenClaim.holds_of_wide 3 Try.f3 rfl rfl rfl rfl rfl rfl rfl ⟨rfl, rfl, rfl, rfl, rfl⟩ rfl rfl rfl rfl rfl (by kernel_rfl) Try.func3 (by kernel_rfl)
    (of_decide_eq_true (by kernel_rfl)) (by unfold Func.isWrapper; first | (rw [if_pos (by decide +kernel)]; kernel_rfl) | (rw [if_neg (by decide +kernel)]; exact ⟨rfl, rfl⟩))
    (fun os started H enc _ => lifted os started H enc)
#print axioms over
end Go.Proofs.Ytfodghhmglbapab.trackNone
namespace Go.Proofs.Ytfodghhmglbapab
/-- The row, under a short name, for the claim. -/
theorem trackNone_holds : Rows.TrackNoneSaid := trackNone.over
end Go.Proofs.Ytfodghhmglbapab
