/- RaftOld: the law's call, walked over a machine of its own (YtoolcbdceijjlaaGreatAm..), returns true whatever it is handed. -/
import Derived.Test.YtoolcbdceijjlaaGreatRows
import Derived.Test.YtoolcbdceijjlaaGreatSAmXRaftOld1
import Derived.Test.YtoolcbdceijjlaaGreatSAmE
import Derived.WalkKit
import Derived.ProofKit
import Derived.OpenShut
import Derived.ShutString
import Derived.ChangeOld
import Derived.Below
import Derived.SizedLaws
namespace Go.Proofs.YtoolcbdceijjlaaGreat.raftOld
open Go.ChangeShapes Go.WideShapes Go.ChangeAt Go.RowKit Go.AM
set_option linter.unusedVariables false
theorem own : ownKnob Tryz.prog.godebug = none := by kernel_rfl
theorem laidOut : laidOutB Tryz.prog = true := by kernel_rfl
theorem cells31 : Tryz.prog.cellsOf 31 = 4 := by kernel_rfl
theorem elop22_8 : OpensK Tryz.prog 7 31 (fun _ (x : Entry) vs => vs = x.cells) (fun _ => True) :=
  (opensK_struct (m := 6) Tryz.underlying31 (by kernel_rfl) rfl (opensL_cons (opensK_int (P := Tryz.prog) (m := 5) Tryz.underlying2) (opensL_cons (opensK_int (P := Tryz.prog) (m := 5) Tryz.underlying2) (opensL_cons (opensK_int (P := Tryz.prog) (m := 5) Tryz.underlying3) (opensL_cons (opensK_string (P := Tryz.prog) (m := 5) Tryz.underlying9) opensL_nil))))).conv (fun x => (⟨x.1, x.2.1, x.2.2.1, x.2.2.2.1⟩ : Entry)) (by rintro Hp x vs ⟨_, _, rfl, rfl, _, _, rfl, rfl, _, _, rfl, rfl, _, _, rfl, rfl, rfl⟩; rfl) (fun _ _ => trivial)
theorem op22_8 : OpensK Tryz.prog 8 22 (KRow 4 Entry.cells) (fun xs => xs.length ≤ 140737488351232) :=
  (opensK_slice (B := 40) Tryz.underlying22 (by rw [cells31]; decide) (by kernel_rfl) (fun _ x vs h => by rw [h, cells31]; rfl) elop22_8).conv id (fun Hp x vs h => by have := KSlice.flat h; rwa [cells31] at this) (fun x h => by have := h.2.1; show x.length ≤ _; omega)
abbrev T0 : Type := (Int × (Int × (Int × (Int × (Int × (Int × (Int × (Bool × ((List Entry) × ((Int × (Int × (ByteArray × (ByteArray × Unit)))) × Unit))))))))))
abbrev K0 : Heap → T0 → List Value → Prop := (fun (Hp : Heap) (x : Int × (Int × (Int × (Int × (Int × (Int × (Int × (Bool × ((List Entry) × ((Int × (Int × (ByteArray × (ByteArray × Unit)))) × Unit)))))))))) vs => ∃ v1 v2, vs = v1 ++ v2 ∧ (fun (_ : Heap) (x : Int) vs => vs = [Value.int .i64 x]) Hp x.1 v1 ∧ (fun (Hp : Heap) (x : Int × (Int × (Int × (Int × (Int × (Int × (Bool × ((List Entry) × ((Int × (Int × (ByteArray × (ByteArray × Unit)))) × Unit))))))))) vs => ∃ v1 v2, vs = v1 ++ v2 ∧ (fun (_ : Heap) (x : Int) vs => vs = [Value.int .i64 x]) Hp x.1 v1 ∧ (fun (Hp : Heap) (x : Int × (Int × (Int × (Int × (Int × (Bool × ((List Entry) × ((Int × (Int × (ByteArray × (ByteArray × Unit)))) × Unit)))))))) vs => ∃ v1 v2, vs = v1 ++ v2 ∧ (fun (_ : Heap) (x : Int) vs => vs = [Value.int .i64 x]) Hp x.1 v1 ∧ (fun (Hp : Heap) (x : Int × (Int × (Int × (Int × (Bool × ((List Entry) × ((Int × (Int × (ByteArray × (ByteArray × Unit)))) × Unit))))))) vs => ∃ v1 v2, vs = v1 ++ v2 ∧ (fun (_ : Heap) (x : Int) vs => vs = [Value.int .i64 x]) Hp x.1 v1 ∧ (fun (Hp : Heap) (x : Int × (Int × (Int × (Bool × ((List Entry) × ((Int × (Int × (ByteArray × (ByteArray × Unit)))) × Unit)))))) vs => ∃ v1 v2, vs = v1 ++ v2 ∧ (fun (_ : Heap) (x : Int) vs => vs = [Value.int .i64 x]) Hp x.1 v1 ∧ (fun (Hp : Heap) (x : Int × (Int × (Bool × ((List Entry) × ((Int × (Int × (ByteArray × (ByteArray × Unit)))) × Unit))))) vs => ∃ v1 v2, vs = v1 ++ v2 ∧ (fun (_ : Heap) (x : Int) vs => vs = [Value.int .i64 x]) Hp x.1 v1 ∧ (fun (Hp : Heap) (x : Int × (Bool × ((List Entry) × ((Int × (Int × (ByteArray × (ByteArray × Unit)))) × Unit)))) vs => ∃ v1 v2, vs = v1 ++ v2 ∧ (fun (_ : Heap) (x : Int) vs => vs = [Value.int .i64 x]) Hp x.1 v1 ∧ (fun (Hp : Heap) (x : Bool × ((List Entry) × ((Int × (Int × (ByteArray × (ByteArray × Unit)))) × Unit))) vs => ∃ v1 v2, vs = v1 ++ v2 ∧ (fun (_ : Heap) (x : Bool) vs => vs = [Value.bool x]) Hp x.1 v1 ∧ (fun (Hp : Heap) (x : (List Entry) × ((Int × (Int × (ByteArray × (ByteArray × Unit)))) × Unit)) vs => ∃ v1 v2, vs = v1 ++ v2 ∧ (KRow 4 Entry.cells) Hp x.1 v1 ∧ (fun (Hp : Heap) (x : (Int × (Int × (ByteArray × (ByteArray × Unit)))) × Unit) vs => ∃ v1 v2, vs = v1 ++ v2 ∧ (fun (Hp : Heap) (x : Int × (Int × (ByteArray × (ByteArray × Unit)))) vs => ∃ v1 v2, vs = v1 ++ v2 ∧ (fun (_ : Heap) (x : Int) vs => vs = [Value.int .i64 x]) Hp x.1 v1 ∧ (fun (Hp : Heap) (x : Int × (ByteArray × (ByteArray × Unit))) vs => ∃ v1 v2, vs = v1 ++ v2 ∧ (fun (_ : Heap) (x : Int) vs => vs = [Value.int .i64 x]) Hp x.1 v1 ∧ (fun (Hp : Heap) (x : ByteArray × (ByteArray × Unit)) vs => ∃ v1 v2, vs = v1 ++ v2 ∧ (fun (_ : Heap) (x : ByteArray) vs => vs = [Value.string x]) Hp x.1 v1 ∧ (fun (Hp : Heap) (x : ByteArray × Unit) vs => ∃ v1 v2, vs = v1 ++ v2 ∧ (fun (_ : Heap) (x : ByteArray) vs => vs = [Value.string x]) Hp x.1 v1 ∧ (fun (_ : Heap) (_ : Unit) vs => vs = ([] : List Value)) Hp x.2 v2) Hp x.2 v2) Hp x.2 v2) Hp x.2 v2) Hp x.1 v1 ∧ (fun (_ : Heap) (_ : Unit) vs => vs = ([] : List Value)) Hp x.2 v2) Hp x.2 v2) Hp x.2 v2) Hp x.2 v2) Hp x.2 v2) Hp x.2 v2) Hp x.2 v2) Hp x.2 v2) Hp x.2 v2) Hp x.2 v2)
abbrev W0 : T0 → Prop := (fun x : Int × (Int × (Int × (Int × (Int × (Int × (Int × (Bool × ((List Entry) × ((Int × (Int × (ByteArray × (ByteArray × Unit)))) × Unit))))))))) => (fun n : Int => (Lit.int .i64 n).wf = true) x.1 ∧ (fun x : Int × (Int × (Int × (Int × (Int × (Int × (Bool × ((List Entry) × ((Int × (Int × (ByteArray × (ByteArray × Unit)))) × Unit)))))))) => (fun n : Int => (Lit.int .i64 n).wf = true) x.1 ∧ (fun x : Int × (Int × (Int × (Int × (Int × (Bool × ((List Entry) × ((Int × (Int × (ByteArray × (ByteArray × Unit)))) × Unit))))))) => (fun n : Int => (Lit.int .i64 n).wf = true) x.1 ∧ (fun x : Int × (Int × (Int × (Int × (Bool × ((List Entry) × ((Int × (Int × (ByteArray × (ByteArray × Unit)))) × Unit)))))) => (fun n : Int => (Lit.int .i64 n).wf = true) x.1 ∧ (fun x : Int × (Int × (Int × (Bool × ((List Entry) × ((Int × (Int × (ByteArray × (ByteArray × Unit)))) × Unit))))) => (fun n : Int => (Lit.int .i64 n).wf = true) x.1 ∧ (fun x : Int × (Int × (Bool × ((List Entry) × ((Int × (Int × (ByteArray × (ByteArray × Unit)))) × Unit)))) => (fun n : Int => (Lit.int .i64 n).wf = true) x.1 ∧ (fun x : Int × (Bool × ((List Entry) × ((Int × (Int × (ByteArray × (ByteArray × Unit)))) × Unit))) => (fun n : Int => (Lit.int .i64 n).wf = true) x.1 ∧ (fun x : Bool × ((List Entry) × ((Int × (Int × (ByteArray × (ByteArray × Unit)))) × Unit)) => (fun _ : Bool => True) x.1 ∧ (fun x : (List Entry) × ((Int × (Int × (ByteArray × (ByteArray × Unit)))) × Unit) => (fun xs : List Entry => xs.length ≤ 140737488351232) x.1 ∧ (fun x : (Int × (Int × (ByteArray × (ByteArray × Unit)))) × Unit => (fun x : Int × (Int × (ByteArray × (ByteArray × Unit))) => (fun n : Int => (Lit.int .i64 n).wf = true) x.1 ∧ (fun x : Int × (ByteArray × (ByteArray × Unit)) => (fun n : Int => (Lit.int .i64 n).wf = true) x.1 ∧ (fun x : ByteArray × (ByteArray × Unit) => (fun s : ByteArray => s.size ≤ 140737488351232) x.1 ∧ (fun x : ByteArray × Unit => (fun s : ByteArray => s.size ≤ 140737488351232) x.1 ∧ (fun _ : Unit => True) x.2) x.2) x.2) x.2) x.1 ∧ (fun _ : Unit => True) x.2) x.2) x.2) x.2) x.2) x.2) x.2) x.2) x.2) x.2)
theorem arg0 : OpensK Tryz.prog 9 26 K0 W0 := (opensK_struct (m := 8) Tryz.underlying26 (by kernel_rfl) rfl (opensL_cons (opensK_int (P := Tryz.prog) (m := 7) Tryz.underlying3) (opensL_cons (opensK_int (P := Tryz.prog) (m := 7) Tryz.underlying3) (opensL_cons (opensK_int (P := Tryz.prog) (m := 7) Tryz.underlying3) (opensL_cons (opensK_int (P := Tryz.prog) (m := 7) Tryz.underlying2) (opensL_cons (opensK_int (P := Tryz.prog) (m := 7) Tryz.underlying2) (opensL_cons (opensK_int (P := Tryz.prog) (m := 7) Tryz.underlying2) (opensL_cons (opensK_int (P := Tryz.prog) (m := 7) Tryz.underlying2) (opensL_cons (opensK_bool (P := Tryz.prog) (m := 7) Tryz.underlying4) (opensL_cons op22_8 (opensL_cons (opensK_struct (m := 7) Tryz.underlying24 (by kernel_rfl) rfl (opensL_cons (opensK_int (P := Tryz.prog) (m := 6) Tryz.underlying2) (opensL_cons (opensK_int (P := Tryz.prog) (m := 6) Tryz.underlying2) (opensL_cons (opensK_string (P := Tryz.prog) (m := 6) Tryz.underlying9) (opensL_cons (opensK_string (P := Tryz.prog) (m := 6) Tryz.underlying9) opensL_nil))))) opensL_nil)))))))))))
set_option maxRecDepth 100000 in
theorem lifted (os : Os) (started : os.Started) (H : Type) (enc : TypeId × Value → H) :
    ReturnsInHanded {} Tryz.checked os 5 .any (Rows.raftOldSpec.pre6 enc Tryz.prog Tryz.f5 Rows.raftOldRow.domain false) (Rows.raftOldSpec.post enc Tryz.prog Tryz.f5 false true false false) := by
  refine returnsInHanded_of_change_sized (C := Tryz.checked) own started (by kernel_rfl) Tryz.func5
    (ChangeSpec.witness6 (enc := enc) (C := Tryz.checked) false ⟨#[], #[.agg #[.int .i64 0, .int .i64 0, .int .i64 0, .int .i64 0, .int .i64 0, .int .i64 0, .int .i64 0, .bool false, .slice none 0 0, .int .i64 0, .int .i64 0, .string ⟨#[]⟩, .string ⟨#[]⟩]], []⟩ 8 (by kernel_rfl) (by kernel_rfl) (by kernel_rfl) (by kernel_rfl)) ?_
  intro W base args ds gs before hval0 hW hcnd hsz0 _
  have hsz : (DataW.weightsEach Tryz.prog (Tryz.f5.params.toList ++ Rows.raftOldSpec.plain.varTypes Tryz.prog) (ds ++ gs)).all (· ≤ reachBytes) = true := hsz0
  have hval : ∀ (j : Nat) t v, Tryz.f5.params[j]? = some t → args[j]? = some v → Value.okWide Tryz.prog W .any base t v := hval0
  have hW' := hW
  obtain ⟨p, q, hA0, hV, rfl, hfz, hnd⟩ := hW
  have hA : DataW.TrodAll enc Tryz.prog W 0 (fun _ => true) true Tryz.f5.params.toList args.toList ds p := hA0
  rw [Tryz.params5] at hA hval hsz
  obtain ⟨v0, vs0, d0, ds0, p0, q0, hargs, rfl, rfl, h0, r0⟩ := trodAll_cons hA
  obtain ⟨rfl, rfl, rfl⟩ := trodAll_nil r0
  obtain rfl : args = #[v0] := by cases args; simp_all
  obtain ⟨rfl, rfl⟩ := trodVars_none hV
  have k0 := h0
  have lt0 : ∀ x ∈ p0, x.block < W.heap.size := by obtain ⟨m, hm⟩ := k0; exact DataW.trod_lt m _ _ _ hm
  obtain ⟨x0, wf0, L0⟩ := (arg0).arg hsz (j := 0) rfl rfl h0
  refine (law_open (r := .any) (base := base) (v := .bool true) (ts := [26]) hA (fun j t v a b => hval j t v (by rw [← Array.getElem?_toList]; exact a) b) (laidArgs_cons L0 (KA := fun Hp v => ∃ vs, K0 Hp x0 vs ∧ v = .agg vs.toArray) (fun Hp vs hk => ⟨_, argV_agg (by kernel_rfl), vs, hk, rfl⟩)
    fun n => laidArgs_nil n) ?_ rfl).mono fun e W' ⟨he, bel⟩ => ?_
  · rintro Hp vs ⟨_, _, rfl, ⟨ws0, hk0, rfl⟩, rfl⟩
    obtain ⟨_, _, rfl, rfl, _, _, rfl, rfl, _, _, rfl, rfl, _, _, rfl, rfl, _, _, rfl, rfl, _, _, rfl, rfl, _, _, rfl, rfl, _, _, rfl, rfl, _, _, rfl, ⟨sA0, sc0, rfl, sh0, _, sn0, sr0⟩, _, _, rfl, ⟨_, _, rfl, rfl, _, _, rfl, rfl, _, _, rfl, rfl, _, _, rfl, rfl, rfl⟩, rfl⟩ := hk0
    obtain ⟨v, H', hs, rfl, _⟩ := law_RaftOld_spec Hp x0.1 x0.2.1 x0.2.2.1 x0.2.2.2.1 x0.2.2.2.2.1 x0.2.2.2.2.2.1 x0.2.2.2.2.2.2.1 x0.2.2.2.2.2.2.2.1 sA0 x0.2.2.2.2.2.2.2.2.1 sc0 sr0 sh0 (by have := wf0.2.2.2.2.2.2.2.2.1; omega) x0.2.2.2.2.2.2.2.2.2.1.1 x0.2.2.2.2.2.2.2.2.2.1.2.1 x0.2.2.2.2.2.2.2.2.2.1.2.2.1 x0.2.2.2.2.2.2.2.2.2.1.2.2.2.1
    exact ⟨H', hs⟩
  subst he
  exact ⟨_, rfl, _, _, _, [], _, [], hW', trodAll_mk1 (shut_bool Tryz.underlying4 _), (trodAll_cons_mk (Below.trod laidOut (by kernel_rfl) (of_decide_eq_true (by kernel_rfl)) k0 bel lt0) trodAll_mk0), rfl, bel.frame _, fun h => by cases h⟩
theorem over : Rows.raftOldRow.holds Tryz.pinned (OpenSpec.ofChange Rows.raftOldSpec) :=
  OpenClaim.holds_of_wide 5 Tryz.f5 rfl rfl rfl rfl rfl rfl rfl ⟨rfl, rfl, rfl, rfl, rfl⟩ rfl rfl rfl rfl rfl (by kernel_rfl) Tryz.func5 (by kernel_rfl)
    (of_decide_eq_true (by kernel_rfl)) (by unfold Func.isWrapper; first | (rw [if_pos (by decide +kernel)]; kernel_rfl) | (rw [if_neg (by decide +kernel)]; exact ⟨rfl, rfl⟩))
    (fun os started H enc _ => lifted os started H enc)
#print axioms over
end Go.Proofs.YtoolcbdceijjlaaGreat.raftOld
namespace Go.Proofs.YtoolcbdceijjlaaGreat
/-- The row, under a short name, for the claim. -/
theorem raftOld_holds : Rows.RaftOldSaid := raftOld.over
end Go.Proofs.YtoolcbdceijjlaaGreat
