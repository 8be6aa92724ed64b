/- RaftVote: the law's call, walked over a machine of its own (YtoolcbdceijjlaaGreatAm..), returns true whatever it is handed. -/
import Derived.Test.YtoolcbdceijjlaaGreatRows
import Derived.Test.YtoolcbdceijjlaaGreatSAmXRaftVote1
import Derived.Test.YtoolcbdceijjlaaGreatSAmE
import Derived.WalkKit
import Derived.ProofKit
import Derived.OpenShut
import Derived.ShutString
import Derived.ChangeOld
import Derived.Below
import Derived.SizedLaws
namespace Go.Proofs.YtoolcbdceijjlaaGreat.raftVote
open Go.ChangeShapes Go.WideShapes Go.ChangeAt Go.RowKit Go.AM
set_option linter.unusedVariables false
theorem own : ownKnob Tryz.prog.godebug = none := by kernel_rfl
theorem laidOut : laidOutB Tryz.prog = true := by kernel_rfl

abbrev T0 : Type := Int
abbrev K0 : Heap → T0 → List Value → Prop := (fun (_ : Heap) (x : Int) vs => vs = [Value.int .i64 x])
abbrev W0 : T0 → Prop := (fun n : Int => (Lit.int .i64 n).wf = true)
theorem arg0 : OpensK Tryz.prog 9 2 K0 W0 := (opensK_int (P := Tryz.prog) (m := 8) Tryz.underlying2)
theorem one0 (Hp : Heap) (x : T0) (vs : List Value) (h : K0 Hp x vs) : ∃ v, vs = [v] := ⟨_, h⟩
abbrev T1 : Type := Int
abbrev K1 : Heap → T1 → List Value → Prop := (fun (_ : Heap) (x : Int) vs => vs = [Value.int .i64 x])
abbrev W1 : T1 → Prop := (fun n : Int => (Lit.int .i64 n).wf = true)
theorem arg1 : OpensK Tryz.prog 9 2 K1 W1 := (opensK_int (P := Tryz.prog) (m := 8) Tryz.underlying2)
theorem one1 (Hp : Heap) (x : T1) (vs : List Value) (h : K1 Hp x vs) : ∃ v, vs = [v] := ⟨_, h⟩
abbrev T2 : Type := Int
abbrev K2 : Heap → T2 → List Value → Prop := (fun (_ : Heap) (x : Int) vs => vs = [Value.int .i64 x])
abbrev W2 : T2 → Prop := (fun n : Int => (Lit.int .i64 n).wf = true)
theorem arg2 : OpensK Tryz.prog 9 2 K2 W2 := (opensK_int (P := Tryz.prog) (m := 8) Tryz.underlying2)
theorem one2 (Hp : Heap) (x : T2) (vs : List Value) (h : K2 Hp x vs) : ∃ v, vs = [v] := ⟨_, h⟩
abbrev T3 : Type := Int
abbrev K3 : Heap → T3 → List Value → Prop := (fun (_ : Heap) (x : Int) vs => vs = [Value.int .i64 x])
abbrev W3 : T3 → Prop := (fun n : Int => (Lit.int .i64 n).wf = true)
theorem arg3 : OpensK Tryz.prog 9 2 K3 W3 := (opensK_int (P := Tryz.prog) (m := 8) Tryz.underlying2)
theorem one3 (Hp : Heap) (x : T3) (vs : List Value) (h : K3 Hp x vs) : ∃ v, vs = [v] := ⟨_, h⟩
abbrev T4 : Type := Bool
abbrev K4 : Heap → T4 → List Value → Prop := (fun (_ : Heap) (x : Bool) vs => vs = [Value.bool x])
abbrev W4 : T4 → Prop := (fun _ : Bool => True)
theorem arg4 : OpensK Tryz.prog 9 4 K4 W4 := (opensK_bool (P := Tryz.prog) (m := 8) Tryz.underlying4)
theorem one4 (Hp : Heap) (x : T4) (vs : List Value) (h : K4 Hp x vs) : ∃ v, vs = [v] := ⟨_, h⟩
set_option maxRecDepth 100000 in
theorem lifted (os : Os) (started : os.Started) (H : Type) (enc : TypeId × Value → H) :
    ReturnsInHanded {} Tryz.checked os 4 .any (Rows.raftVoteSpec.pre6 enc Tryz.prog Tryz.f4 Rows.raftVoteRow.domain false) (Rows.raftVoteSpec.post enc Tryz.prog Tryz.f4 false true false false) := by
  refine returnsInHanded_of_change_sized (C := Tryz.checked) own started (by kernel_rfl) Tryz.func4
    (ChangeSpec.witness6 (enc := enc) (C := Tryz.checked) false ⟨#[], #[.int .i64 0, .int .i64 0, .int .i64 0, .int .i64 0, .bool false], []⟩ 8 (by kernel_rfl) (by kernel_rfl) (by kernel_rfl) (by kernel_rfl)) ?_
  intro W base args ds gs before hval0 hW hcnd hsz0 _
  have hsz : (DataW.weightsEach Tryz.prog (Tryz.f4.params.toList ++ Rows.raftVoteSpec.plain.varTypes Tryz.prog) (ds ++ gs)).all (· ≤ reachBytes) = true := hsz0
  have hval : ∀ (j : Nat) t v, Tryz.f4.params[j]? = some t → args[j]? = some v → Value.okWide Tryz.prog W .any base t v := hval0
  have hW' := hW
  obtain ⟨p, q, hA0, hV, rfl, hfz, hnd⟩ := hW
  have hA : DataW.TrodAll enc Tryz.prog W 0 (fun _ => true) true Tryz.f4.params.toList args.toList ds p := hA0
  rw [Tryz.params4] at hA hval hsz
  obtain ⟨v0, vs0, d0, ds0, p0, q0, hargs, rfl, rfl, h0, r0⟩ := trodAll_cons hA
  obtain ⟨v1, vs1, d1, ds1, p1, q1, rfl, rfl, rfl, h1, r1⟩ := trodAll_cons r0
  obtain ⟨v2, vs2, d2, ds2, p2, q2, rfl, rfl, rfl, h2, r2⟩ := trodAll_cons r1
  obtain ⟨v3, vs3, d3, ds3, p3, q3, rfl, rfl, rfl, h3, r3⟩ := trodAll_cons r2
  obtain ⟨v4, vs4, d4, ds4, p4, q4, rfl, rfl, rfl, h4, r4⟩ := trodAll_cons r3
  obtain ⟨rfl, rfl, rfl⟩ := trodAll_nil r4
  obtain rfl : args = #[v0, v1, v2, v3, v4] := by cases args; simp_all
  obtain ⟨rfl, rfl⟩ := trodVars_none hV
  have k0 := h0
  have lt0 : ∀ x ∈ p0, x.block < W.heap.size := by obtain ⟨m, hm⟩ := k0; exact DataW.trod_lt m _ _ _ hm
  obtain ⟨x0, wf0, L0⟩ := (arg0).arg hsz (j := 0) rfl rfl h0
  have k1 := h1
  have lt1 : ∀ x ∈ p1, x.block < W.heap.size := by obtain ⟨m, hm⟩ := k1; exact DataW.trod_lt m _ _ _ hm
  obtain ⟨x1, wf1, L1⟩ := (arg1).arg hsz (j := 1) rfl rfl h1
  have k2 := h2
  have lt2 : ∀ x ∈ p2, x.block < W.heap.size := by obtain ⟨m, hm⟩ := k2; exact DataW.trod_lt m _ _ _ hm
  obtain ⟨x2, wf2, L2⟩ := (arg2).arg hsz (j := 2) rfl rfl h2
  have k3 := h3
  have lt3 : ∀ x ∈ p3, x.block < W.heap.size := by obtain ⟨m, hm⟩ := k3; exact DataW.trod_lt m _ _ _ hm
  obtain ⟨x3, wf3, L3⟩ := (arg3).arg hsz (j := 3) rfl rfl h3
  have k4 := h4
  have lt4 : ∀ x ∈ p4, x.block < W.heap.size := by obtain ⟨m, hm⟩ := k4; exact DataW.trod_lt m _ _ _ hm
  obtain ⟨x4, wf4, L4⟩ := (arg4).arg hsz (j := 4) rfl rfl h4
  refine (law_open (r := .any) (base := base) (v := .bool true) (ts := [2, 2, 2, 2, 4]) hA (fun j t v a b => hval j t v (by rw [← Array.getElem?_toList]; exact a) b) (laidArgs_cons L0 (KA := fun Hp v => ∃ vs, K0 Hp x0 vs ∧ v = vs.headD (.bool false)) (fun Hp vs hk => by obtain ⟨v, e⟩ := one0 Hp x0 vs hk; subst e; exact ⟨_, argV_plain (by kernel_rfl) rfl, _, hk, rfl⟩)
    fun n => laidArgs_cons L1 (KA := fun Hp v => ∃ vs, K1 Hp x1 vs ∧ v = vs.headD (.bool false)) (fun Hp vs hk => by obtain ⟨v, e⟩ := one1 Hp x1 vs hk; subst e; exact ⟨_, argV_plain (by kernel_rfl) rfl, _, hk, rfl⟩)
    fun n => laidArgs_cons L2 (KA := fun Hp v => ∃ vs, K2 Hp x2 vs ∧ v = vs.headD (.bool false)) (fun Hp vs hk => by obtain ⟨v, e⟩ := one2 Hp x2 vs hk; subst e; exact ⟨_, argV_plain (by kernel_rfl) rfl, _, hk, rfl⟩)
    fun n => laidArgs_cons L3 (KA := fun Hp v => ∃ vs, K3 Hp x3 vs ∧ v = vs.headD (.bool false)) (fun Hp vs hk => by obtain ⟨v, e⟩ := one3 Hp x3 vs hk; subst e; exact ⟨_, argV_plain (by kernel_rfl) rfl, _, hk, rfl⟩)
    fun n => laidArgs_cons L4 (KA := fun Hp v => ∃ vs, K4 Hp x4 vs ∧ v = vs.headD (.bool false)) (fun Hp vs hk => by obtain ⟨v, e⟩ := one4 Hp x4 vs hk; subst e; exact ⟨_, argV_plain (by kernel_rfl) rfl, _, hk, rfl⟩)
    fun n => laidArgs_nil n) ?_ rfl).mono fun e W' ⟨he, bel⟩ => ?_
  · rintro Hp vs ⟨_, _, rfl, ⟨ws0, hk0, rfl⟩, _, _, rfl, ⟨ws1, hk1, rfl⟩, _, _, rfl, ⟨ws2, hk2, rfl⟩, _, _, rfl, ⟨ws3, hk3, rfl⟩, _, _, rfl, ⟨ws4, hk4, rfl⟩, rfl⟩
    obtain rfl := hk0
    obtain rfl := hk1
    obtain rfl := hk2
    obtain rfl := hk3
    obtain rfl := hk4
    obtain ⟨v, H', hs, rfl, _⟩ := law_RaftVote_spec Hp x0 (by have := Spec.i64_bd wf0; constructor <;> omega) x1 (by have := Spec.i64_bd wf1; constructor <;> omega) x2 (by have := Spec.i64_bd wf2; constructor <;> omega) x3 (by have := Spec.i64_bd wf3; constructor <;> omega) x4
    exact ⟨H', hs⟩
  subst he
  exact ⟨_, rfl, _, _, _, [], _, [], hW', trodAll_mk1 (shut_bool Tryz.underlying4 _), (trodAll_cons_mk (Below.trod laidOut (by kernel_rfl) (of_decide_eq_true (by kernel_rfl)) k0 bel lt0) (trodAll_cons_mk (Below.trod laidOut (by kernel_rfl) (of_decide_eq_true (by kernel_rfl)) k1 bel lt1) (trodAll_cons_mk (Below.trod laidOut (by kernel_rfl) (of_decide_eq_true (by kernel_rfl)) k2 bel lt2) (trodAll_cons_mk (Below.trod laidOut (by kernel_rfl) (of_decide_eq_true (by kernel_rfl)) k3 bel lt3) (trodAll_cons_mk (Below.trod laidOut (by kernel_rfl) (of_decide_eq_true (by kernel_rfl)) k4 bel lt4) trodAll_mk0))))), rfl, bel.frame _, fun h => by cases h⟩
theorem over : Rows.raftVoteRow.holds Tryz.pinned (OpenSpec.ofChange Rows.raftVoteSpec) :=
  OpenClaim.holds_of_wide 4 Tryz.f4 rfl rfl rfl rfl rfl rfl rfl ⟨rfl, rfl, rfl, rfl, rfl⟩ rfl rfl rfl rfl rfl (by kernel_rfl) Tryz.func4 (by kernel_rfl)
    (of_decide_eq_true (by kernel_rfl)) (by unfold Func.isWrapper; first | (rw [if_pos (by decide +kernel)]; kernel_rfl) | (rw [if_neg (by decide +kernel)]; exact ⟨rfl, rfl⟩))
    (fun os started H enc _ => lifted os started H enc)
#print axioms over
end Go.Proofs.YtoolcbdceijjlaaGreat.raftVote
namespace Go.Proofs.YtoolcbdceijjlaaGreat
/-- The row, under a short name, for the claim. -/
theorem raftVote_holds : Rows.RaftVoteSaid := raftVote.over
end Go.Proofs.YtoolcbdceijjlaaGreat
