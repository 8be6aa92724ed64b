/- Part of a machine of its own for this claim: the program's code over memory without draws. -/
import Derived.Test.YtfodghhmglbapaaSAmXMsgB3
set_option linter.unusedVariables false
set_option linter.unusedSimpArgs false
set_option linter.unnecessarySimpa false
set_option linter.unusedVariables false
set_option linter.unusedSimpArgs false
set_option linter.unnecessarySimpa false
namespace Go.AM
open Go Go.Proofs
theorem law1_Short_spec (H : Heap) (bA : Option Addr) (b : List Int) (bc : Nat) (hb : Row H bA bc 1 (b.map u8c)) (cb : b.length ≤ bc) (lb : b.length ≤ 140737488355328) (ab : bA = none → bc = 0) (bb : Spec.Bytes b) (n : Int) (hn : 0 ≤ n ∧ n ≤ 1099511627776) : ∃ v H', Spec Try.prog 15 [.slice bA b.length bc, .int .i64 n] H v H' ∧ (∃ rA0 rc0, (v = .slice rA0 ((b.take n.toNat).length) rc0) ∧ (Row H' rA0 rc0 1 ((b.take n.toNat).map u8c)) ∧ ((b.take n.toNat).length ≤ rc0) ∧ (Spec.Bytes (b.take n.toNat)) ∧ ((b.take n.toNat).length ≤ n.toNat) ∧ (rA0 = none → rc0 = 0) ∧ (Ext H H')) := by
 refine spec_go2 E0_ok 13 (f := 15) Try.func15 rfl rfl rfl ?_
 refine aw_seq ?_
 refine aw_reg ?_
 refine st_op (ev_assign rfl) rfl rfl rfl ?_
 try show aw _ _ _ _ _ _
 iterate 2 refine aw_seq ?_
 refine aw_reg ?_
 refine st_op (ev_move rfl) rfl rfl rfl ?_
 refine st_op (ev_lenSl rfl Try.underlying29) rfl rfl rfl ?_
 refine st_op (ev_move rfl) rfl rfl rfl ?_
 refine st_op (ev_int rfl rfl rfl) rfl rfl rfl ?_
 try show aw _ _ _ _ _ _
 by_cases hc1 : (decide ((b.length : Int) > n)) = true
 ·
  refine aw_condT hc1 rfl ?_
  try show aw _ _ _ _ _ _
  have hc1 := of_decide_eq_true hc1
  refine aw_seq ?_
  refine aw_reg ?_
  iterate 2 refine st_op (ev_move rfl) rfl rfl rfl ?_
  obtain ⟨A2, c3, L4, hL5, hl6, hs7, hr8, hc9⟩ := sliceA_typed u8c el29 (by decide) hb cb (lo := none) (hi := some (.int .i64 n)) (l := 0) (h := (n).toNat) (by rw [Option.isSome_some, if_pos rfl]; exact bound_int (by omega) (by omega) (by first | rfl | omega)) rfl (by omega) (by omega)
  refine st_op (ev_slice rfl rfl rfl rfl hs7) rfl rfl rfl ?_
  have hL5b : Spec.Bytes L4 := by rw [hL5]; exact Spec.Bytes.take (Spec.Bytes.drop (by assumption) _) _
  refine st_op (ev_assign rfl) rfl rfl rfl ?_
  try show aw _ _ _ _ _ _
  refine aw_ret ?_
  have hres : (b.take n.toNat) = L4 := by rw [hL5]; rfl
  exact ⟨.slice A2 L4.length c3, rfl, A2, c3, by first | (rw [hres]; first | done | rfl | simp; done) | rfl, (by rw [hres]; exact hr8), (by rw [hres]; exact hc9), (by exact bb.take _), (by exact List.length_take_le _ _), (by exact (fun h => sliceA_none el29 (h ▸ hs7))), (Ext.refl H)⟩
 ·
  rw [Bool.not_eq_true] at hc1; refine aw_condF hc1 rfl ?_
  try show aw _ _ _ _ _ _
  have hc1 := of_decide_eq_false hc1
  refine aw_skip ?_
  try show aw _ _ _ _ _ _
  refine aw_seq ?_
  refine aw_reg ?_
  refine st_op (ev_move rfl) rfl rfl rfl ?_
  refine st_op (ev_assign rfl) rfl rfl rfl ?_
  try show aw _ _ _ _ _ _
  refine aw_ret ?_
  have hres : (b.take n.toNat) = b := by exact List.take_of_length_le (by omega)
  exact ⟨.slice bA b.length bc, rfl, bA, bc, by first | (rw [hres]; first | done | rfl | simp; done) | rfl, (by rw [hres]; exact hb), (by rw [hres]; exact cb), (by exact bb.take _), (by exact List.length_take_le _ _), (by exact ab), (Ext.refl H)⟩

end Go.AM
