/- RaftNone: the closed sentence holds: its call, run by an evaluator that is proved right, returns true. -/
import Derived.Test.YtoolcbdceijjlaaGreatRows
import Derived.Test.YtoolcbdceijjlaaGreatAmD
import Derived.WalkKit
import Derived.ProofKit
import Derived.OpenShut
import Derived.ShutString
import Derived.ChangeOld
import Derived.Below
import Derived.SizedLaws
namespace Go.Proofs.YtoolcbdceijjlaaGreat.raftNone
open Go.ChangeShapes Go.WideShapes Go.ChangeAt Go.RowKit Go.AM
set_option linter.unusedVariables false
theorem own : ownKnob Tryz.prog.godebug = none := by kernel_rfl
theorem mixed : Tryz.prog.follows .mixedOrders = true := by kernel_rfl
noncomputable def X0 (f : FuncId) : List Tmp := (bif_ (Nat.ble 64 f) (bif_ (Nat.ble 96 f) (bif_ (Nat.ble 112 f) (bif_ (Nat.ble 120 f) (bif_ (Nat.ble 124 f) (bif_ (Nat.ble 126 f) (bif_ (Nat.ble 127 f) (bif_ (Nat.ble 128 f) [0, 1, 2, 3, 8, 9, 18] [0, 2]) [0, 1, 2, 3, 4, 10]) (bif_ (Nat.ble 125 f) [0, 1, 2, 6] [0, 2])) (bif_ (Nat.ble 122 f) (bif_ (Nat.ble 123 f) [0, 2] [0, 1, 2, 3, 8, 9, 16, 36, 52]) (bif_ (Nat.ble 121 f) [0, 2, 4, 8, 14] [0, 2, 4, 8]))) (bif_ (Nat.ble 116 f) (bif_ (Nat.ble 118 f) (bif_ (Nat.ble 119 f) [0, 1, 2, 3, 8, 9, 10, 11, 43, 60, 65, 112, 129, 134] [0, 1, 2, 3, 8, 9, 10, 43, 59, 64]) (bif_ (Nat.ble 117 f) [0, 1, 4] [0, 1, 2, 6, 7, 8, 9, 10, 14, 32, 37, 41, 61, 65, 78, 98, 103, 116])) (bif_ (Nat.ble 114 f) (bif_ (Nat.ble 115 f) [0, 1, 2, 6, 7, 13] [0, 1, 2, 6, 7, 8, 9, 10, 11, 12, 32, 34, 49, 51, 54]) (bif_ (Nat.ble 113 f) [0, 1, 2, 6, 7, 8, 9, 10, 15, 33, 43] [0, 1, 2, 6, 7, 8, 9, 10, 19, 30])))) (bif_ (Nat.ble 104 f) (bif_ (Nat.ble 108 f) (bif_ (Nat.ble 110 f) (bif_ (Nat.ble 111 f) [0, 1, 2, 6, 7, 12, 30] [0, 2]) (bif_ (Nat.ble 109 f) [0, 1, 2, 3, 8, 9, 10, 11, 12, 13, 14, 15, 16, 17, 18, 23, 29, 35, 50, 68, 72, 87, 113] [0, 2])) (bif_ (Nat.ble 106 f) (bif_ (Nat.ble 107 f) [0, 1, 4, 5, 7, 8, 11, 12, 13, 14, 15, 21] [0, 1, 4, 5, 7, 8, 9, 16]) (bif_ (Nat.ble 105 f) [0, 1, 2, 12] [0, 2]))) (bif_ (Nat.ble 100 f) (bif_ (Nat.ble 102 f) (bif_ (Nat.ble 103 f) [0, 1, 4] [0, 1, 4, 5, 7, 8, 9, 16]) (bif_ (Nat.ble 101 f) [0, 2] [0, 2])) (bif_ (Nat.ble 98 f) (bif_ (Nat.ble 99 f) [0, 1, 4, 5, 7, 10, 11, 12, 13, 20, 21] [0, 1, 2, 3, 8, 9, 11, 18]) (bif_ (Nat.ble 97 f) [0, 2, 3, 4, 7, 10, 11] [0, 1, 4, 5, 7, 8, 9, 10, 11, 16]))))) (bif_ (Nat.ble 80 f) (bif_ (Nat.ble 88 f) (bif_ (Nat.ble 92 f) (bif_ (Nat.ble 94 f) (bif_ (Nat.ble 95 f) [0, 1, 4] [0, 2, 4]) (bif_ (Nat.ble 93 f) [0, 1, 4] [0, 1, 3, 5])) (bif_ (Nat.ble 90 f) (bif_ (Nat.ble 91 f) [0, 1, 4, 8] [0, 1, 2, 6, 7, 16]) (bif_ (Nat.ble 89 f) [0, 1, 4, 5, 7, 20] [0, 1, 2, 6, 7, 16]))) (bif_ (Nat.ble 84 f) (bif_ (Nat.ble 86 f) (bif_ (Nat.ble 87 f) [0, 1, 4, 5, 6, 7, 8, 11, 14, 36, 63, 68, 96] [0, 1, 2, 6, 25]) (bif_ (Nat.ble 85 f) [0, 1, 3, 4, 9] [0, 2])) (bif_ (Nat.ble 82 f) (bif_ (Nat.ble 83 f) [0, 1, 4, 8] [0, 1, 2, 6, 7, 10]) (bif_ (Nat.ble 81 f) [0, 2] [0, 1, 4])))) (bif_ (Nat.ble 72 f) (bif_ (Nat.ble 76 f) (bif_ (Nat.ble 78 f) (bif_ (Nat.ble 79 f) [0, 1, 2, 6, 8, 9, 10, 11, 12, 22] [0, 2, 3, 7, 37]) (bif_ (Nat.ble 77 f) [0, 1, 4, 5, 6, 17] [0, 1, 4, 5, 10, 14])) (bif_ (Nat.ble 74 f) (bif_ (Nat.ble 75 f) [0, 1, 4] [0, 1, 2]) (bif_ (Nat.ble 73 f) [0, 2, 3, 4, 5, 6, 7, 8, 30] [0, 1, 4, 8]))) (bif_ (Nat.ble 68 f) (bif_ (Nat.ble 70 f) (bif_ (Nat.ble 71 f) [0, 2, 3, 5, 8, 9, 10, 11, 12] [0, 1, 3, 4, 22]) (bif_ (Nat.ble 69 f) [0, 1, 4, 5, 6, 7, 8, 9, 10, 11, 13, 21, 45, 57] [0, 2, 3, 4, 47, 63])) (bif_ (Nat.ble 66 f) (bif_ (Nat.ble 67 f) [0, 1, 2, 6, 7] [0, 2, 4]) (bif_ (Nat.ble 65 f) [0, 1, 2, 6, 7, 25] [0, 1, 2, 6, 7, 8])))))) (bif_ (Nat.ble 32 f) (bif_ (Nat.ble 48 f) (bif_ (Nat.ble 56 f) (bif_ (Nat.ble 60 f) (bif_ (Nat.ble 62 f) (bif_ (Nat.ble 63 f) [0, 1, 4, 5, 6, 8, 17] [0, 2, 3, 5, 7, 16, 17, 18, 19, 27]) (bif_ (Nat.ble 61 f) [0, 1, 4, 5, 6, 24] [0, 32])) (bif_ (Nat.ble 58 f) (bif_ (Nat.ble 59 f) [0, 2] [0, 1, 4, 8]) (bif_ (Nat.ble 57 f) [0, 2, 5] [0, 1, 3]))) (bif_ (Nat.ble 52 f) (bif_ (Nat.ble 54 f) (bif_ (Nat.ble 55 f) [0, 1, 4] [0, 3, 8, 10, 11, 12, 13]) (bif_ (Nat.ble 53 f) [0, 2, 3] [0, 2, 3, 4, 7, 11])) (bif_ (Nat.ble 50 f) (bif_ (Nat.ble 51 f) [0, 1, 3, 7, 15, 32] [0, 1, 3, 18, 21, 30, 43, 65]) (bif_ (Nat.ble 49 f) [0, 1, 3, 4, 5, 9, 28, 65, 78] [0, 1, 3, 8, 10, 25, 33])))) (bif_ (Nat.ble 40 f) (bif_ (Nat.ble 44 f) (bif_ (Nat.ble 46 f) (bif_ (Nat.ble 47 f) [0, 1, 3, 4, 32] [0, 2, 3]) (bif_ (Nat.ble 45 f) [0, 1, 3] [0, 1])) (bif_ (Nat.ble 42 f) (bif_ (Nat.ble 43 f) [0, 2, 4] [0, 1, 2, 6, 8, 9, 10, 11, 12, 25]) (bif_ (Nat.ble 41 f) [0, 2] [0, 1, 2, 4]))) (bif_ (Nat.ble 36 f) (bif_ (Nat.ble 38 f) (bif_ (Nat.ble 39 f) [0, 1, 2] [0, 2, 3, 4, 5, 9, 22]) (bif_ (Nat.ble 37 f) [0, 1, 2, 3, 4] [0, 1, 2])) (bif_ (Nat.ble 34 f) (bif_ (Nat.ble 35 f) [0, 2] [0, 2]) (bif_ (Nat.ble 33 f) [0, 1, 2, 3, 4, 5, 6, 9, 28] [0, 2, 3, 4, 5, 7, 8, 9, 22]))))) (bif_ (Nat.ble 16 f) (bif_ (Nat.ble 24 f) (bif_ (Nat.ble 28 f) (bif_ (Nat.ble 30 f) (bif_ (Nat.ble 31 f) [0, 1, 2, 3, 4, 6, 12, 13, 14, 15, 41] [0, 1, 4, 6, 7, 8, 9, 10, 19]) (bif_ (Nat.ble 29 f) [0, 2] [0, 1, 2])) (bif_ (Nat.ble 26 f) (bif_ (Nat.ble 27 f) [0, 1, 4, 5, 6, 7, 16] [0, 2, 4]) (bif_ (Nat.ble 25 f) [0, 2, 4] [0, 1, 2, 6, 7, 8, 10, 12, 36]))) (bif_ (Nat.ble 20 f) (bif_ (Nat.ble 22 f) (bif_ (Nat.ble 23 f) [0, 2, 4] [0, 1, 2, 6, 7, 8, 9, 10, 11, 12, 13, 15, 30, 37, 64, 93]) (bif_ (Nat.ble 21 f) [0, 2, 4] [0, 2, 3, 5, 8, 10, 20, 28, 36, 88, 105, 106, 107, 108])) (bif_ (Nat.ble 18 f) (bif_ (Nat.ble 19 f) [0, 1, 4, 5, 6, 9] [0, 2, 4]) (bif_ (Nat.ble 17 f) [0, 2, 4] [0, 2, 4])))) (bif_ (Nat.ble 8 f) (bif_ (Nat.ble 12 f) (bif_ (Nat.ble 14 f) (bif_ (Nat.ble 15 f) [0, 1, 3, 4, 29, 31, 44, 54, 55, 62, 73, 74, 79, 84, 89, 94] [0, 1, 2, 4, 25]) (bif_ (Nat.ble 13 f) [0, 1, 2, 3, 5, 8, 37] [0, 1, 2, 3, 4, 5, 7, 61, 84, 91, 124, 129])) (bif_ (Nat.ble 10 f) (bif_ (Nat.ble 11 f) [0, 1, 2, 4, 47, 59, 62] [0, 1, 2]) (bif_ (Nat.ble 9 f) [0, 1, 2, 3, 4, 5, 6, 17] [0, 1, 4, 5, 6, 7, 8, 9, 10, 11, 12, 13, 16, 25, 33, 45, 49, 53, 57, 107]))) (bif_ (Nat.ble 4 f) (bif_ (Nat.ble 6 f) (bif_ (Nat.ble 7 f) [0, 1, 2, 3, 4, 6, 8] [0, 1, 4, 5, 6, 7, 8, 9, 10, 11, 12, 13, 14, 15, 16, 19, 28, 33, 42, 44, 57, 86, 100, 105, 112, 118, 123]) (bif_ (Nat.ble 5 f) [0, 1, 2, 3, 4, 5, 6, 7, 10, 20, 37, 43, 59, 95] [0, 1, 2, 3, 4, 10, 11, 12, 13, 14, 15, 16, 17, 18, 21, 51, 54, 64, 66, 73, 126, 127])) (bif_ (Nat.ble 2 f) (bif_ (Nat.ble 3 f) [0, 1, 2, 3, 6] []) []))))))
theorem ran : okF (runF Tryz.prog X0 1000 40 7 [] Hp.nil) = true := by kernel_rfl
theorem walk (W : World) : Calls Tryz.prog 7 #[] W fun e W' => e = .returned (.bool true) ∧ Below W.heap.size W W' :=
  let ⟨_, h⟩ := okF_spec mixed ran
  law_flat h rfl rfl W
set_option maxRecDepth 100000 in
theorem lifted (os : Os) (started : os.Started) (H : Type) (enc : TypeId × Value → H) :
    ReturnsInHanded {} Tryz.checked os 7 .any (Rows.raftNoneSpec.pre6 enc Tryz.prog Tryz.f7 Rows.raftNoneRow.domain false) (Rows.raftNoneSpec.post enc Tryz.prog Tryz.f7 false true false false) := by
  refine returnsInHanded_of_change_sized (C := Tryz.checked) own started (by kernel_rfl) Tryz.func7
    (ChangeSpec.witness6 (enc := enc) (C := Tryz.checked) false ⟨#[], #[], []⟩ 8 (by kernel_rfl) (by kernel_rfl) (by kernel_rfl) (by kernel_rfl)) ?_
  intro W base args ds gs before hval0 hW hcnd hsz0 _
  have hW' := hW
  obtain ⟨p, q, hA0, hV, rfl, hfz, hnd⟩ := hW
  have hA : DataW.TrodAll enc Tryz.prog W 0 (fun _ => true) true Tryz.f7.params.toList args.toList ds p := hA0
  rw [Tryz.params7] at hA
  obtain ⟨hargs, rfl, rfl⟩ := trodAll_nil hA
  obtain rfl : args = #[] := by cases args; simp_all
  obtain ⟨rfl, rfl⟩ := trodVars_none hV
  clear hA0 hval0 hsz0
  refine (walk W).mono fun e W' ⟨he, bel⟩ => ?_
  subst he
  exact ⟨_, rfl, _, _, _, [], _, [], hW', trodAll_mk1 (shut_bool Tryz.underlying4 _), trodAll_mk0, rfl, bel.frame _, fun h => by cases h⟩
theorem over : Rows.raftNoneRow.holds Tryz.pinned (OpenSpec.ofChange Rows.raftNoneSpec) :=
  OpenClaim.holds_of_wide 7 Tryz.f7 rfl rfl rfl rfl rfl rfl rfl ⟨rfl, rfl, rfl, rfl, rfl⟩ rfl rfl rfl rfl rfl (by kernel_rfl) Tryz.func7 (by kernel_rfl)
    (of_decide_eq_true (by kernel_rfl)) (by unfold Func.isWrapper; first | (rw [if_pos (by decide +kernel)]; kernel_rfl) | (rw [if_neg (by decide +kernel)]; exact ⟨rfl, rfl⟩))
    (fun os started H enc _ => lifted os started H enc)
#print axioms over
end Go.Proofs.YtoolcbdceijjlaaGreat.raftNone
namespace Go.Proofs.YtoolcbdceijjlaaGreat
/-- The row, under a short name, for the claim. -/
theorem raftNone_holds : Rows.RaftNoneSaid := raftNone.over
end Go.Proofs.YtoolcbdceijjlaaGreat
