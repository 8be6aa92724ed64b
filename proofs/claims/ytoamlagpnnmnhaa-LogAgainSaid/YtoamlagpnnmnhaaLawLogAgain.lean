/- LogAgain: the law's call, walked over a machine of its own (YtoamlagpnnmnhaaAm..), returns true whatever it is handed. -/
import Derived.Test.YtoamlagpnnmnhaaRows
import Derived.Test.YtoamlagpnnmnhaaAmTLog4
import Derived.Test.YtoamlagpnnmnhaaAmE
import Derived.WalkKit
import Derived.ProofKit
import Derived.OpenShut
import Derived.ShutString
import Derived.ChangeOld
import Derived.Below
import Derived.SizedLaws
namespace Go.Proofs.Ytoamlagpnnmnhaa.logAgain
open Go.ChangeShapes Go.WideShapes Go.ChangeAt Go.RowKit Go.AM
set_option linter.unusedVariables false
theorem own : ownKnob Try.prog.godebug = none := by kernel_rfl
theorem laidOut : laidOutB Try.prog = true := by kernel_rfl
theorem snap_opens : OpensK Try.prog 9 23 (fun _ (x : Int × Int × ByteArray × ByteArray) vs => vs = [.int .i64 x.1, .int .i64 x.2.1, .string x.2.2.1, .string x.2.2.2]) (fun _ => True) :=
  (opensK_struct Try.underlying23 (by kernel_rfl) rfl (opensL_cons (opensK_int Try.underlying2) (opensL_cons (opensK_int Try.underlying2) (opensL_cons (opensK_string Try.underlying9) (opensL_cons (opensK_string Try.underlying9) opensL_nil))))).conv (fun x => (x.1, x.2.1, x.2.2.1, x.2.2.2.1))
    (by rintro Hp ⟨a, b, c, d, _⟩ vs ⟨_, _, rfl, rfl, _, _, rfl, rfl, _, _, rfl, rfl, _, _, rfl, rfl, rfl⟩; rfl) (fun _ _ => trivial)
theorem entry_opens : OpensK Try.prog 8 37 (fun _ (x : Entry) vs => vs = x.cells) (fun _ => True) :=
  (opensK_struct Try.underlying37 (by kernel_rfl) rfl (opensL_cons (opensK_int Try.underlying2) (opensL_cons (opensK_int Try.underlying2) (opensL_cons (opensK_int Try.underlying3) (opensL_cons (opensK_string Try.underlying9) opensL_nil))))).conv (fun x => Entry.mk x.1 x.2.1 x.2.2.1 x.2.2.2.1)
    (by rintro Hp ⟨a, b, c, d, _⟩ vs ⟨_, _, rfl, rfl, _, _, rfl, rfl, _, _, rfl, rfl, _, _, rfl, rfl, rfl⟩; rfl) (fun _ _ => trivial)
theorem cells37 : Try.prog.cellsOf 37 = 4 := by kernel_rfl
theorem entries_opens : OpensK Try.prog 9 24 (KRow 4 Entry.cells) (fun xs => xs.length ≤ 140737488351232) :=
  (opensK_slice (B := 40) Try.underlying24 (by rw [cells37]; decide) (by kernel_rfl) (fun _ x vs h => by rw [h, cells37]; rfl) entry_opens).conv id (fun Hp x vs h => by have := KSlice.flat h; rwa [cells37] at this) (fun x h => by have := h.2.1; show x.length ≤ _; omega)
set_option maxRecDepth 100000 in
theorem lifted (os : Os) (started : os.Started) (H : Type) (enc : TypeId × Value → H) :
    ReturnsInHanded {} Try.checked os 3 .any (Rows.logAgainSpec.pre6 enc Try.prog Try.f3 Rows.logAgainRow.domain false) (Rows.logAgainSpec.post enc Try.prog Try.f3 false true false false) := by
  refine returnsInHanded_of_change_sized (C := Try.checked) own started (by kernel_rfl) Try.func3
    (ChangeSpec.witness6 (enc := enc) (C := Try.checked) false ⟨#[], #[.agg #[.int .i64 0, .int .i64 0, .string ⟨#[]⟩, .string ⟨#[]⟩], .slice none 0 0, .int .i64 0, .int .i64 0], []⟩ 8 (by kernel_rfl) (by kernel_rfl) (by kernel_rfl) (by kernel_rfl)) ?_
  intro W base args ds gs before hval0 hW hcnd hsz0 _
  have hsz : (DataW.weightsEach Try.prog (Try.f3.params.toList ++ Rows.logAgainSpec.plain.varTypes Try.prog) (ds ++ gs)).all (· ≤ reachBytes) = true := hsz0
  have hval : ∀ (j : Nat) t v, Try.f3.params[j]? = some t → args[j]? = some v → Value.okWide Try.prog W .any base t v := hval0
  have hW' := hW
  obtain ⟨p, q, hA0, hV, rfl, hfz, hnd⟩ := hW
  have hA : DataW.TrodAll enc Try.prog W 0 (fun _ => true) true Try.f3.params.toList args.toList ds p := hA0
  rw [Try.params3] at hA hval hsz
  obtain ⟨v0, vs0, d0, ds0, p0, q0, hargs, rfl, rfl, h0, r0⟩ := trodAll_cons hA
  obtain ⟨v1, vs1, d1, ds1, p1, q1, rfl, rfl, rfl, h1, r1⟩ := trodAll_cons r0
  obtain ⟨v2, vs2, d2, ds2, p2, q2, rfl, rfl, rfl, h2, r2⟩ := trodAll_cons r1
  obtain ⟨v3, vs3, d3, ds3, p3, q3, rfl, rfl, rfl, h3, r3⟩ := trodAll_cons r2
  obtain ⟨rfl, rfl, rfl⟩ := trodAll_nil r3
  obtain rfl : args = #[v0, v1, v2, v3] := by cases args; simp_all
  obtain ⟨rfl, rfl⟩ := trodVars_none hV
  have k0 := h0
  have lt0 : ∀ x ∈ p0, x.block < W.heap.size := by obtain ⟨m, hm⟩ := k0; exact DataW.trod_lt m _ _ _ hm
  obtain ⟨x0, wf0, L0⟩ := (snap_opens).arg hsz (j := 0) rfl rfl h0
  have k1 := h1
  have lt1 : ∀ x ∈ p1, x.block < W.heap.size := by obtain ⟨m, hm⟩ := k1; exact DataW.trod_lt m _ _ _ hm
  obtain ⟨x1, wf1, L1⟩ := (entries_opens).arg hsz (j := 1) rfl rfl h1
  have k2 := h2
  have lt2 : ∀ x ∈ p2, x.block < W.heap.size := by obtain ⟨m, hm⟩ := k2; exact DataW.trod_lt m _ _ _ hm
  obtain ⟨x2, wf2, L2⟩ := ((opensK_int Try.underlying3 : OpensK Try.prog 9 3 _ _)).arg hsz (j := 2) rfl rfl h2
  have k3 := h3
  have lt3 : ∀ x ∈ p3, x.block < W.heap.size := by obtain ⟨m, hm⟩ := k3; exact DataW.trod_lt m _ _ _ hm
  obtain ⟨x3, wf3, L3⟩ := ((opensK_int Try.underlying3 : OpensK Try.prog 9 3 _ _)).arg hsz (j := 3) rfl rfl h3
  refine (law_open (r := .any) (base := base) (v := .bool true) (ts := [23, 24, 3, 3]) hA (fun j t v a b => hval j t v (by rw [← Array.getElem?_toList]; exact a) b) (laidArgs_cons L0 (KA := fun _ v => v = .agg #[.int .i64 x0.1, .int .i64 x0.2.1, .string x0.2.2.1, .string x0.2.2.2]) (fun Hp vs hk => ⟨_, argV_agg (by kernel_rfl), by rw [hk]⟩)
    fun n => laidArgs_cons L1 (KA := fun Hp v => KRow 4 Entry.cells Hp x1 [v]) (fun Hp vs hk => by obtain ⟨A, c, rfl, h⟩ := hk; exact ⟨_, argV_plain (by kernel_rfl) rfl, A, c, rfl, h⟩)
    fun n => laidArgs_cons L2 (KA := fun _ v => v = .int .i64 x2) (fun Hp vs hk => ⟨_, argV_plain (by kernel_rfl) hk, rfl⟩)
    fun n => laidArgs_cons L3 (KA := fun _ v => v = .int .i64 x3) (fun Hp vs hk => ⟨_, argV_plain (by kernel_rfl) hk, rfl⟩)
    fun n => laidArgs_nil n) ?_ rfl).mono fun e W' ⟨he, bel⟩ => ?_
  · rintro Hp vs ⟨_, _, rfl, hk0, _, _, rfl, hk1, _, _, rfl, hk2, _, _, rfl, hk3, rfl⟩
    subst hk0 hk2 hk3
    obtain ⟨A, c, e, hc, _, _, hrow⟩ := hk1
    cases e
    obtain ⟨v, H', hs, rfl⟩ := logagain_spec Hp x0.1 x0.2.1 x0.2.2.1 x0.2.2.2 A x1 c hrow hc wf1 x2 x3
    exact ⟨H', hs⟩
  subst he
  exact ⟨_, rfl, _, _, _, [], _, [], hW', trodAll_mk1 (shut_bool Try.underlying4 _), (trodAll_cons_mk (Below.trod laidOut (by kernel_rfl) (of_decide_eq_true (by kernel_rfl)) k0 bel lt0) (trodAll_cons_mk (Below.trod laidOut (by kernel_rfl) (of_decide_eq_true (by kernel_rfl)) k1 bel lt1) (trodAll_cons_mk (Below.trod laidOut (by kernel_rfl) (of_decide_eq_true (by kernel_rfl)) k2 bel lt2) (trodAll_cons_mk (Below.trod laidOut (by kernel_rfl) (of_decide_eq_true (by kernel_rfl)) k3 bel lt3) trodAll_mk0)))), rfl, bel.frame _, fun h => by cases h⟩
theorem over : Rows.logAgainRow.holds Try.pinned (OpenSpec.ofChange Rows.logAgainSpec) :=
  OpenClaim.holds_of_wide 3 Try.f3 rfl rfl rfl rfl rfl rfl rfl ⟨rfl, rfl, rfl, rfl, rfl⟩ rfl rfl rfl rfl rfl (by kernel_rfl) Try.func3 (by kernel_rfl)
    (of_decide_eq_true (by kernel_rfl)) (by unfold Func.isWrapper; first | (rw [if_pos (by decide +kernel)]; kernel_rfl) | (rw [if_neg (by decide +kernel)]; exact ⟨rfl, rfl⟩))
    (fun os started H enc _ => lifted os started H enc)
#print axioms over
end Go.Proofs.Ytoamlagpnnmnhaa.logAgain
namespace Go.Proofs.Ytoamlagpnnmnhaa
/-- The row, under a short name, for the claim. -/
theorem logAgain_holds : Rows.LogAgainSaid := logAgain.over
end Go.Proofs.Ytoamlagpnnmnhaa
