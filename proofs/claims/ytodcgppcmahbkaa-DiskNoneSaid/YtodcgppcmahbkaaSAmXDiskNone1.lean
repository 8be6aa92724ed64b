/- Part of a machine of its own for this claim: the program's code over memory without draws. -/
import Derived.Test.YtodcgppcmahbkaaSAmXDiskB1
set_option linter.unusedVariables false
set_option linter.unusedSimpArgs false
set_option linter.unnecessarySimpa false
set_option linter.unusedVariables false
set_option linter.unusedSimpArgs false
set_option linter.unnecessarySimpa false
namespace Go.AM
open Go Go.Proofs
theorem ent9 : enters Try.prog 9 = true := by kernel_rfl
theorem disknil_Read_spec (H : Heap)  (nm : ByteArray) : ∃ v H', Spec Try.prog 14 [.pointer none, .string nm] H v H' ∧ ((v = .tuple #[.slice none 0 0, .int .i64 14]) ∧ (H' = H)) := by
 refine spec_go2 E0_ok 27 (f := 14) Try.func14 rfl rfl rfl ?_
 refine aw_seq ?_
 refine aw_reg ?_
 iterate 2 refine st_op (ev_assign rfl) rfl rfl rfl ?_
 try show aw _ _ _ _ _ _
 iterate 2 refine aw_seq ?_
 refine aw_reg ?_
 refine st_op (ev_move rfl) rfl rfl rfl ?_
 refine st_op (ev_nilEq rfl rfl Try.underlying24) rfl rfl rfl ?_
 refine st_op (ev_move rfl) rfl rfl rfl ?_
 iterate 7 refine st_skip rfl rfl rfl ?_
 refine st_op (ev_pickT rfl rfl) rfl rfl rfl ?_
 try show aw _ _ _ _ _ _
 refine aw_cond (t := true) rfl ?_
 try show aw _ _ _ _ _ _
 refine aw_seq ?_
 refine aw_reg ?_
 iterate 2 refine st_op (ev_assign rfl) rfl rfl rfl ?_
 try show aw _ _ _ _ _ _
 refine aw_ret ?_
 exact ⟨.tuple #[.slice none 0 0, .int .i64 14], rfl, rfl, rfl⟩
theorem disknil_Append_spec (H : Heap)  (nm : ByteArray) (bA : Option Addr) (b bc : Nat) : ∃ v H', Spec Try.prog 11 [.pointer none, .string nm, .slice bA b bc] H v H' ∧ ((v = .int .i64 14) ∧ (H' = H)) := by
 refine spec_go3 E0_ok 54 (f := 11) Try.func11 rfl rfl rfl ?_
 refine aw_seq ?_
 refine aw_reg ?_
 refine st_op (ev_assign rfl) rfl rfl rfl ?_
 try show aw _ _ _ _ _ _
 iterate 2 refine aw_seq ?_
 refine aw_reg ?_
 refine st_op (ev_move rfl) rfl rfl rfl ?_
 refine st_op (ev_nilEq rfl rfl Try.underlying24) rfl rfl rfl ?_
 try show aw _ _ _ _ _ _
 refine aw_cond (t := true) rfl ?_
 try show aw _ _ _ _ _ _
 refine aw_seq ?_
 refine aw_reg ?_
 refine st_op (ev_assign rfl) rfl rfl rfl ?_
 try show aw _ _ _ _ _ _
 refine aw_ret ?_
 exact ⟨.int .i64 14, rfl, rfl, rfl⟩
theorem disknil_Sync_spec (H : Heap)  (nm : ByteArray) : ∃ v H', Spec Try.prog 12 [.pointer none, .string nm] H v H' ∧ ((v = .int .i64 14) ∧ (H' = H)) := by
 refine spec_go2 E0_ok 34 (f := 12) Try.func12 rfl rfl rfl ?_
 refine aw_seq ?_
 refine aw_reg ?_
 refine st_op (ev_assign rfl) rfl rfl rfl ?_
 try show aw _ _ _ _ _ _
 iterate 2 refine aw_seq ?_
 refine aw_reg ?_
 refine st_op (ev_move rfl) rfl rfl rfl ?_
 refine st_op (ev_nilEq rfl rfl Try.underlying24) rfl rfl rfl ?_
 try show aw _ _ _ _ _ _
 refine aw_cond (t := true) rfl ?_
 try show aw _ _ _ _ _ _
 refine aw_seq ?_
 refine aw_reg ?_
 refine st_op (ev_assign rfl) rfl rfl rfl ?_
 try show aw _ _ _ _ _ _
 refine aw_ret ?_
 exact ⟨.int .i64 14, rfl, rfl, rfl⟩

theorem disknil_Swap_spec (H : Heap)  (nm : ByteArray) (bA : Option Addr) (b bc : Nat) : ∃ v H', Spec Try.prog 19 [.pointer none, .string nm, .slice bA b bc] H v H' ∧ ((v = .int .i64 14) ∧ (H' = H)) := by
 refine spec_go3 E0_ok 35 (f := 19) Try.func19 rfl rfl rfl ?_
 refine aw_seq ?_
 refine aw_reg ?_
 refine st_op (ev_assign rfl) rfl rfl rfl ?_
 try show aw _ _ _ _ _ _
 iterate 2 refine aw_seq ?_
 refine aw_reg ?_
 refine st_op (ev_move rfl) rfl rfl rfl ?_
 refine st_op (ev_nilEq rfl rfl Try.underlying24) rfl rfl rfl ?_
 try show aw _ _ _ _ _ _
 refine aw_cond (t := true) rfl ?_
 try show aw _ _ _ _ _ _
 refine aw_seq ?_
 refine aw_reg ?_
 refine st_op (ev_assign rfl) rfl rfl rfl ?_
 try show aw _ _ _ _ _ _
 refine aw_ret ?_
 exact ⟨.int .i64 14, rfl, rfl, rfl⟩
theorem disknil_Names_spec (H : Heap)  : ∃ v H', Spec Try.prog 25 [.pointer none] H v H' ∧ ((v = .slice none 0 0) ∧ (H' = H)) := by
 refine spec_go1 E0_ok 11 (f := 25) Try.func25 rfl rfl rfl ?_
 refine aw_seq ?_
 refine aw_reg ?_
 refine st_op (ev_assign rfl) rfl rfl rfl ?_
 try show aw _ _ _ _ _ _
 iterate 2 refine aw_seq ?_
 refine aw_reg ?_
 refine st_op (ev_move rfl) rfl rfl rfl ?_
 refine st_op (ev_nilEq rfl rfl Try.underlying24) rfl rfl rfl ?_
 try show aw _ _ _ _ _ _
 refine aw_cond (t := true) rfl ?_
 try show aw _ _ _ _ _ _
 refine aw_seq ?_
 refine aw_reg ?_
 refine st_op (ev_assign rfl) rfl rfl rfl ?_
 try show aw _ _ _ _ _ _
 refine aw_ret ?_
 exact ⟨.slice none 0 0, rfl, rfl, rfl⟩
theorem disknil_Loose_spec (H : Heap)  (nm : ByteArray) : ∃ v H', Spec Try.prog 24 [.pointer none, .string nm] H v H' ∧ ((v = .int .i64 0) ∧ (H' = H)) := by
 refine spec_go2 E0_ok 36 (f := 24) Try.func24 rfl rfl rfl ?_
 refine aw_seq ?_
 refine aw_reg ?_
 refine st_op (ev_assign rfl) rfl rfl rfl ?_
 try show aw _ _ _ _ _ _
 iterate 2 refine aw_seq ?_
 refine aw_reg ?_
 refine st_op (ev_move rfl) rfl rfl rfl ?_
 refine st_op (ev_nilEq rfl rfl Try.underlying24) rfl rfl rfl ?_
 refine st_op (ev_move rfl) rfl rfl rfl ?_
 iterate 7 refine st_skip rfl rfl rfl ?_
 refine st_op (ev_pickT rfl rfl) rfl rfl rfl ?_
 try show aw _ _ _ _ _ _
 refine aw_cond (t := true) rfl ?_
 try show aw _ _ _ _ _ _
 refine aw_seq ?_
 refine aw_reg ?_
 refine st_op (ev_assign rfl) rfl rfl rfl ?_
 try show aw _ _ _ _ _ _
 refine aw_ret ?_
 exact ⟨.int .i64 0, rfl, rfl, rfl⟩
theorem disknil_Calls_spec (H : Heap)  : ∃ v H', Spec Try.prog 26 [.pointer none] H v H' ∧ ((v = .int .i64 0) ∧ (H' = H)) := by
 refine spec_go1 E0_ok 9 (f := 26) Try.func26 rfl rfl rfl ?_
 refine aw_seq ?_
 refine aw_reg ?_
 refine st_op (ev_assign rfl) rfl rfl rfl ?_
 try show aw _ _ _ _ _ _
 iterate 2 refine aw_seq ?_
 refine aw_reg ?_
 refine st_op (ev_move rfl) rfl rfl rfl ?_
 refine st_op (ev_nilEq rfl rfl Try.underlying24) rfl rfl rfl ?_
 try show aw _ _ _ _ _ _
 refine aw_cond (t := true) rfl ?_
 try show aw _ _ _ _ _ _
 refine aw_seq ?_
 refine aw_reg ?_
 refine st_op (ev_assign rfl) rfl rfl rfl ?_
 try show aw _ _ _ _ _ _
 refine aw_ret ?_
 exact ⟨.int .i64 0, rfl, rfl, rfl⟩
theorem disknil_Crash_spec (H : Heap)  (n : Int) : ∃ v H', Spec Try.prog 13 [.pointer none, .int .i64 n] H v H' ∧ ((v = .pointer none) ∧ (H' = H)) := by
 refine spec_go2 E0_ok 65 (f := 13) Try.func13 rfl rfl rfl ?_
 refine aw_seq ?_
 refine aw_reg ?_
 refine st_op (ev_assign rfl) rfl rfl rfl ?_
 try show aw _ _ _ _ _ _
 iterate 2 refine aw_seq ?_
 refine aw_reg ?_
 refine st_op (ev_move rfl) rfl rfl rfl ?_
 refine st_op (ev_nilEq rfl rfl Try.underlying24) rfl rfl rfl ?_
 try show aw _ _ _ _ _ _
 refine aw_cond (t := true) rfl ?_
 try show aw _ _ _ _ _ _
 refine aw_seq ?_
 refine aw_reg ?_
 refine st_op (ev_assign rfl) rfl rfl rfl ?_
 try show aw _ _ _ _ _ _
 refine aw_ret ?_
 exact ⟨.pointer none, rfl, rfl, rfl⟩
theorem law_DiskNone_spec (H : Heap)  : ∃ v H', Spec Try.prog 7 [] H v H' ∧ ((v = .bool true) ∧ (Ext H H')) := by
 refine spec_go0 E0_ok 55 (f := 7) Try.func7 rfl rfl ?_
 refine aw_seq ?_
 refine aw_reg ?_
 refine st_op (ev_assign rfl) rfl rfl rfl ?_
 try show aw _ _ _ _ _ _
 refine aw_seq ?_
 refine aw_reg ?_
 refine st_op (ev_assign rfl) rfl rfl rfl ?_
 try show aw _ _ _ _ _ _
 refine aw_seq ?_
 refine aw_reg ?_
 refine st_op (ev_move rfl) rfl rfl rfl ?_
 refine st_call rfl rfl rfl ent14 rfl rfl rfl ?_
 obtain ⟨_, H2, hs1, hs1v, hx3⟩ := disknil_Read_spec H  (⟨#[97]⟩ : ByteArray)
 rw [hs1v] at hs1; clear hs1v
 rw [hx3] at hs1; clear hx3
 refine ⟨_, H, hs1, ?_⟩
 refine st_op (ev_move rfl) rfl rfl rfl ?_
 iterate 2 refine st_op (ev_extract rfl rfl) rfl rfl rfl ?_
 iterate 2 refine st_op (ev_assign rfl) rfl rfl rfl ?_
 try show aw _ _ _ _ _ _
 refine aw_seq ?_
 refine aw_reg ?_
 refine st_call rfl rfl rfl ent9 rfl rfl rfl ?_
 obtain ⟨_, H5, hs4, hs4v, hx6⟩ := law17_begun_spec H 
 rw [hs4v] at hs4; clear hs4v
 refine ⟨_, H5, hs4, ?_⟩
 have H5n : H.next ≤ H5.next := hx6.1
 iterate 2 refine st_op (ev_move rfl) rfl rfl rfl ?_
 refine st_call rfl rfl rfl ent11 rfl rfl rfl ?_
 obtain ⟨_, H8, hs7, hs7v, hx9⟩ := disknil_Append_spec H5  (⟨#[97]⟩ : ByteArray) none 0 0
 rw [hs7v] at hs7; clear hs7v
 rw [hx9] at hs7; clear hx9
 refine ⟨_, H5, hs7, ?_⟩
 refine st_op (ev_int rfl rfl rfl) rfl rfl rfl ?_
 refine st_op (ev_pickT rfl rfl) rfl rfl rfl ?_
 iterate 2 refine st_op (ev_move rfl) rfl rfl rfl ?_
 refine st_call rfl rfl rfl ent12 rfl rfl rfl ?_
 obtain ⟨_, H11, hs10, hs10v, hx12⟩ := disknil_Sync_spec H5  (⟨#[97]⟩ : ByteArray)
 rw [hs10v] at hs10; clear hs10v
 rw [hx12] at hs10; clear hx12
 refine ⟨_, H5, hs10, ?_⟩
 refine st_op (ev_int rfl rfl rfl) rfl rfl rfl ?_
 refine st_op (ev_pickT rfl rfl) rfl rfl rfl ?_
 iterate 2 refine st_op (ev_move rfl) rfl rfl rfl ?_
 refine st_call rfl rfl rfl ent19 rfl rfl rfl ?_
 obtain ⟨_, H14, hs13, hs13v, hx15⟩ := disknil_Swap_spec H5  (⟨#[97]⟩ : ByteArray) none 0 0
 rw [hs13v] at hs13; clear hs13v
 rw [hx15] at hs13; clear hx15
 refine ⟨_, H5, hs13, ?_⟩
 refine st_op (ev_int rfl rfl rfl) rfl rfl rfl ?_
 refine st_op (ev_pickT rfl rfl) rfl rfl rfl ?_
 iterate 2 refine st_op (ev_move rfl) rfl rfl rfl ?_
 refine st_op (ev_int rfl rfl rfl) rfl rfl rfl ?_
 refine st_op (ev_pickT rfl rfl) rfl rfl rfl ?_
 iterate 2 refine st_op (ev_move rfl) rfl rfl rfl ?_
 refine st_call rfl rfl rfl ent25 rfl rfl rfl ?_
 obtain ⟨_, H17, hs16, hs16v, hx18⟩ := disknil_Names_spec H5 
 rw [hs16v] at hs16; clear hs16v
 rw [hx18] at hs16; clear hx18
 refine ⟨_, H5, hs16, ?_⟩
 refine st_op (ev_lenSl rfl Try.underlying51) rfl rfl rfl ?_
 refine st_op (ev_int rfl rfl rfl) rfl rfl rfl ?_
 refine st_op (ev_pickT rfl rfl) rfl rfl rfl ?_
 iterate 2 refine st_op (ev_move rfl) rfl rfl rfl ?_
 refine st_call rfl rfl rfl ent24 rfl rfl rfl ?_
 obtain ⟨_, H20, hs19, hs19v, hx21⟩ := disknil_Loose_spec H5  (⟨#[97]⟩ : ByteArray)
 rw [hs19v] at hs19; clear hs19v
 rw [hx21] at hs19; clear hx21
 refine ⟨_, H5, hs19, ?_⟩
 refine st_op (ev_int rfl rfl rfl) rfl rfl rfl ?_
 refine st_op (ev_pickT rfl rfl) rfl rfl rfl ?_
 iterate 2 refine st_op (ev_move rfl) rfl rfl rfl ?_
 refine st_call rfl rfl rfl ent26 rfl rfl rfl ?_
 obtain ⟨_, H23, hs22, hs22v, hx24⟩ := disknil_Calls_spec H5 
 rw [hs22v] at hs22; clear hs22v
 rw [hx24] at hs22; clear hx24
 refine ⟨_, H5, hs22, ?_⟩
 refine st_op (ev_int rfl rfl rfl) rfl rfl rfl ?_
 refine st_op (ev_pickT rfl rfl) rfl rfl rfl ?_
 iterate 2 refine st_op (ev_move rfl) rfl rfl rfl ?_
 refine st_call rfl rfl rfl ent13 rfl rfl rfl ?_
 obtain ⟨_, H26, hs25, hs25v, hx27⟩ := disknil_Crash_spec H5  (1 : Int)
 rw [hs25v] at hs25; clear hs25v
 rw [hx27] at hs25; clear hx27
 refine ⟨_, H5, hs25, ?_⟩
 refine st_op (ev_nilEq rfl rfl Try.underlying24) rfl rfl rfl ?_
 refine st_op (ev_pickT rfl rfl) rfl rfl rfl ?_
 refine st_op (ev_move rfl) rfl rfl rfl ?_
 refine st_call rfl rfl rfl ent10 rfl rfl rfl ?_
 obtain ⟨_, H28, hs29, d30, D31, rfl, ⟨mb35, ps36, hr37⟩, hD33, hx34⟩ := disk_New_spec H5
 refine ⟨_, H28, hs29, ?_⟩
 have H28n : H5.next ≤ H28.next := hx34.1
 have bd30 := hD33 _ hr37.dp; have bmb35 := hD33 _ hr37.dm
 refine st_call rfl rfl rfl ent11 rfl rfl rfl ?_
 have hS38 := disk_Append_spec H28 d30 D31 ([] : Files) 0 ⟨_, _, hr37⟩ (by omega) (⟨#[]⟩) (by first | omega | decide | assumption) none [] 0 .nil (Nat.le_refl 0) (by decide) Spec.Bytes.nil
 rw [Spec.app_form (l := ([] : Files)) (F := ⟨#[]⟩) (b := []) (by decide)] at hS38; try dsimp only at hS38
 obtain ⟨_, H39, hs40, rfl, D42, ⟨mb43, ps44, hr45⟩, hb46, hx41⟩ := hS38
 refine ⟨_, H39, hs40, ?_⟩
 have H39n : H28.next ≤ H39.next := hx41.1
 have hD47 := fun q e => (hb46 q e).imp (hD33 q) id
 refine st_op (ev_int rfl rfl rfl) rfl rfl rfl ?_
 refine st_op (ev_pickT rfl rfl) rfl rfl rfl ?_
 refine st_op (ev_assign rfl) rfl rfl rfl ?_
 try show aw _ _ _ _ _ _
 refine aw_ret ?_
 have hx48 : Ext H H39 := (Ext.then (Ext.trans hx6 hx34) hx41 (fun q hq e => by (first | omega | (replace e := hD33 _ e.1; omega))))
 exact ⟨.bool true, rfl, rfl, hx48⟩

end Go.AM
