/- Part of a machine of its own for this claim: the program's code over memory without draws. -/
import Derived.Test.YtodcgppcmahbkaaSAmXDiskC1
set_option linter.unusedVariables false
set_option linter.unusedSimpArgs false
set_option linter.unnecessarySimpa false
set_option linter.unusedVariables false
set_option linter.unusedSimpArgs false
set_option linter.unnecessarySimpa false
namespace Go.AM
open Go Go.Proofs
theorem ent16 : enters Try.prog 16 = true := by kernel_rfl
theorem ent9 : enters Try.prog 9 = true := by kernel_rfl
theorem one5 : oneB Try.prog 5 = true := by kernel_rfl
theorem size5 : sizeIs Try.prog 5 1 = true := by kernel_rfl
theorem law1_Short_spec (H : Heap) (bA : Option Addr) (b : List Int) (bc : Nat) (hb : Row H bA bc 1 (b.map u8c)) (cb : b.length ≤ bc) (lb : b.length ≤ 140737488355328) (ab : bA = none → bc = 0) (bb : Spec.Bytes b) (n : Int) (hn : 0 ≤ n ∧ n ≤ 1099511627776) : ∃ v H', Spec Try.prog 16 [.slice bA b.length bc, .int .i64 n] H v H' ∧ (∃ rA0 rc0, (v = .slice rA0 ((b.take n.toNat).length) rc0) ∧ (Row H' rA0 rc0 1 ((b.take n.toNat).map u8c)) ∧ ((b.take n.toNat).length ≤ rc0) ∧ (Spec.Bytes (b.take n.toNat)) ∧ ((b.take n.toNat).length ≤ n.toNat) ∧ (rA0 = none → rc0 = 0) ∧ (Ext H H')) := by
 refine spec_go2 E0_ok 13 (f := 16) Try.func16 rfl rfl rfl ?_
 refine aw_seq ?_
 refine aw_reg ?_
 refine st_op (ev_assign rfl) rfl rfl rfl ?_
 try show aw _ _ _ _ _ _
 iterate 2 refine aw_seq ?_
 refine aw_reg ?_
 refine st_op (ev_move rfl) rfl rfl rfl ?_
 refine st_op (ev_lenSl rfl Try.underlying22) rfl rfl rfl ?_
 refine st_op (ev_move rfl) rfl rfl rfl ?_
 refine st_op (ev_int rfl rfl rfl) rfl rfl rfl ?_
 try show aw _ _ _ _ _ _
 by_cases hc1 : (decide ((b.length : Int) > n)) = true
 ·
  refine aw_condT hc1 rfl ?_
  try show aw _ _ _ _ _ _
  have hc1 := of_decide_eq_true hc1
  refine aw_seq ?_
  refine aw_reg ?_
  iterate 2 refine st_op (ev_move rfl) rfl rfl rfl ?_
  obtain ⟨A2, c3, L4, hL5, hl6, hs7, hr8, hc9⟩ := sliceA_typed u8c el22 (by decide) hb cb (lo := none) (hi := some (.int .i64 n)) (l := 0) (h := (n).toNat) (by rw [Option.isSome_some, if_pos rfl]; exact bound_int (by omega) (by omega) (by first | rfl | omega)) rfl (by omega) (by omega)
  refine st_op (ev_slice rfl rfl rfl rfl hs7) rfl rfl rfl ?_
  have hL5b : Spec.Bytes L4 := by rw [hL5]; exact Spec.Bytes.take (Spec.Bytes.drop (by assumption) _) _
  refine st_op (ev_assign rfl) rfl rfl rfl ?_
  try show aw _ _ _ _ _ _
  refine aw_ret ?_
  have hres : (b.take n.toNat) = L4 := by rw [hL5]; rfl
  exact ⟨.slice A2 L4.length c3, rfl, A2, c3, by first | (rw [hres]; first | done | rfl | simp; done) | rfl, (by rw [hres]; exact hr8), (by rw [hres]; exact hc9), (by exact bb.take _), (by exact List.length_take_le _ _), (by exact (fun h => sliceA_none el22 (h ▸ hs7))), (Ext.refl H)⟩
 ·
  rw [Bool.not_eq_true] at hc1; refine aw_condF hc1 rfl ?_
  try show aw _ _ _ _ _ _
  have hc1 := of_decide_eq_false hc1
  refine aw_skip ?_
  try show aw _ _ _ _ _ _
  refine aw_seq ?_
  refine aw_reg ?_
  refine st_op (ev_move rfl) rfl rfl rfl ?_
  refine st_op (ev_assign rfl) rfl rfl rfl ?_
  try show aw _ _ _ _ _ _
  refine aw_ret ?_
  have hres : (b.take n.toNat) = b := by exact List.take_of_length_le (by omega)
  exact ⟨.slice bA b.length bc, rfl, bA, bc, by first | (rw [hres]; first | done | rfl | simp; done) | rfl, (by rw [hres]; exact hb), (by rw [hres]; exact cb), (by exact bb.take _), (by exact List.length_take_le _ _), (by exact ab), (Ext.refl H)⟩

theorem law_DiskOwn_spec (H : Heap) (bA : Option Addr) (b : List Int) (bc : Nat) (hb : Row H bA bc 1 (b.map u8c)) (cb : b.length ≤ bc) (lb : b.length ≤ 140737488355328) (ab : bA = none → bc = 0) (bb : Spec.Bytes b) : ∃ v H', Spec Try.prog 6 [.slice bA b.length bc] H v H' ∧ ((v = .bool true) ∧ (Ext H H')) := by
 refine spec_go1 E0_ok 78 (f := 6) Try.func6 rfl rfl rfl ?_
 refine aw_seq ?_
 refine aw_reg ?_
 refine st_op (ev_assign rfl) rfl rfl rfl ?_
 try show aw _ _ _ _ _ _
 refine aw_seq ?_
 refine aw_reg ?_
 refine st_call rfl rfl rfl ent9 rfl rfl rfl ?_
 obtain ⟨_, H2, hs1, hs1v, hx3⟩ := law17_begun_spec H 
 rw [hs1v] at hs1; clear hs1v
 refine ⟨_, H2, hs1, ?_⟩
 have H2n : H.next ≤ H2.next := hx3.1
 refine st_op (ev_assign rfl) rfl rfl rfl ?_
 try show aw _ _ _ _ _ _
 iterate 2 refine aw_seq ?_
 refine aw_reg ?_
 refine st_op (ev_move rfl) rfl rfl rfl ?_
 refine st_op (ev_not rfl) rfl rfl rfl ?_
 try show aw _ _ _ _ _ _
 refine aw_cond (t := false) rfl ?_
 try show aw _ _ _ _ _ _
 refine aw_skip ?_
 try show aw _ _ _ _ _ _
 refine aw_seq ?_
 refine aw_reg ?_
 refine st_op (ev_move rfl) rfl rfl rfl ?_
 refine st_call rfl rfl rfl ent16 rfl rfl rfl ?_
 have h4 := Row.ext hb hx3
 obtain ⟨_, H6, hs5, A8, c9, hs5v, hm10, hk14, hq11, hq12, hq13, hx7⟩ := law1_Short_spec H2 bA b bc h4 cb (by omega) ab (by assumption) 60 (by decide)
 rw [hs5v] at hs5; clear hs5v
 generalize hR16 : (b.take (60 : Int).toNat) = r15 at hs5 hm10 hk14 hq11 hq12 hq13
 refine ⟨_, H6, hs5, ?_⟩
 have H6n : H2.next ≤ H6.next := hx7.1
 have hm17 : My H6 H6 none 0 1 (([] : List Int).map u8c) := .nil
 obtain ⟨A18, c19, H20, W21, he22, hm23, hf24⟩ := mem_append (f := u8c) (old := ([] : List Int)) (new := r15) (m := 0) (mx := r15.length) (c := 0) (by first | rfl | simp) (by first | rfl | simp) eok22 (by decide) hm17 hm17 (by omega) ((hm10).srcF (by decide) (by first | rfl | simp)) rfl u8c_len u8c_one (by omega) (by omega)
 refine st_op (he22 _ _ _ _ _ _ _ _ _ _ rfl rfl isrow22) rfl rfl rfl ?_
 have H20n : H6.next ≤ H20.next := hf24.1
 rw [List.nil_append] at hm23
 refine st_op (ev_assign rfl) rfl rfl rfl ?_
 try show aw _ _ _ _ _ _
 refine aw_seq ?_
 refine aw_reg ?_
 refine st_op (ev_move rfl) rfl rfl rfl ?_
 refine st_op (ev_strOf (l := r15) (A := A18) (c := c19) slu8_22 isstr_9 rfl (My.anil hm23) (My.row hm23)) rfl rfl rfl ?_
 refine st_op (ev_assign rfl) rfl rfl rfl ?_
 try show aw _ _ _ _ _ _
 refine aw_seq ?_
 refine aw_reg ?_
 refine st_call rfl rfl rfl ent10 rfl rfl rfl ?_
 obtain ⟨_, H25, hs26, d27, D28, rfl, ⟨mb32, ps33, hr34⟩, hD30, hx31⟩ := disk_New_spec H20
 refine ⟨_, H25, hs26, ?_⟩
 have H25n : H20.next ≤ H25.next := hx31.1
 have bd27 := hD30 _ hr34.dp; have bmb32 := hD30 _ hr34.dm
 refine st_op (ev_assign rfl) rfl rfl rfl ?_
 try show aw _ _ _ _ _ _
 refine aw_seq ?_
 refine aw_reg ?_
 iterate 2 refine st_op (ev_move rfl) rfl rfl rfl ?_
 refine st_call rfl rfl rfl ent11 rfl rfl rfl ?_
 have h39 := My.ext hm23 hx31
 have hS35 := disk_Append_spec H25 d27 D28 ([] : Files) 0 ⟨_, _, hr34⟩ (by omega) (⟨#[97]⟩) (by first | omega | decide | assumption) A18 r15 c19 (My.row h39) (My.capF h39 (by omega)) (by omega) (by assumption)
 rw [Spec.one_app0 (F := ⟨#[97]⟩) (a := r15) (by decide) (by first | omega | (simp only [List.length_append, List.length_take, Spec.bytesOf_length]; omega) | (simp; omega) | decide)] at hS35; try dsimp only at hS35
 obtain ⟨_, H36, hs37, rfl, D40, ⟨mb41, ps42, hr43⟩, hb44, hx38⟩ := hS35
 refine ⟨_, H36, hs37, ?_⟩
 have H36n : H25.next ≤ H36.next := hx38.1
 have hD45 := fun q e => (hb44 q e).imp (hD30 q) id
 try show aw _ _ _ _ _ _
 refine aw_seq ?_
 refine aw_reg ?_
 iterate 2 refine st_op (ev_move rfl) rfl rfl rfl ?_
 refine st_call rfl rfl rfl ent19 rfl rfl rfl ?_
 have hx51 : Ext H20 H36 := (Ext.then hx31 hx38 (fun q hq e => by (first | omega | (replace e := hD30 _ e.1; omega))))
 have h50 := My.ext hm23 hx51
 have hS46 := disk_Swap_spec H36 d27 D40 ([(⟨#[97]⟩, ⟨r15, 0, false⟩)] : Files) (0 + 1) ⟨_, _, hr43⟩ (by omega) (⟨#[98]⟩) (by first | omega | decide | assumption) A18 r15 c19 (My.row h50) (My.capF h50 (by omega)) (by omega) (by assumption)
 rw [Spec.two_swap (F := ⟨#[97]⟩) (G := ⟨#[98]⟩) (a := r15) (s := 0) (t := false) (b := r15) (by decide) (by decide) (by first | omega | (simp only [List.length_append, List.length_take, Spec.bytesOf_length]; omega) | (simp; omega) | decide)] at hS46; try dsimp only at hS46
 obtain ⟨_, H47, hs48, rfl, D52, ⟨mb53, ps54, hr55⟩, hb56, hx49⟩ := hS46
 refine ⟨_, H47, hs48, ?_⟩
 have H47n : H36.next ≤ H47.next := hx49.1
 have hD57 := fun q e => (hb56 q e).imp (hD45 q) id
 try show aw _ _ _ _ _ _
 iterate 2 refine aw_seq ?_
 refine aw_reg ?_
 refine st_op (ev_assign rfl) rfl rfl rfl ?_
 try show aw _ _ _ _ _ _
 refine aw_block ?_
 have hx60 : Ext H20 H47 := (Ext.then hx51 hx49 (fun q hq e => by (first | omega | (replace e := hD45 _ e.1; omega))))
 have h59 := My.ext hm23 hx60
 refine aw_keep [0, 4, 5, 6] (l' := (.cons 0 (.slice A18 r15.length c19) (.cons 4 (.string (strOfNums r15)) (.cons 5 (.pointer (some ⟨d27, 0, none⟩)) (.cons 6 (.int .i64 0) .nil))))) (by repeat (first | exact Up.done | refine Up.then ?_ | refine Up.inBlock ?_)) rfl ?_
 refine aw_iter (α := Nat × List Int × Heap) (fun a => r15.length - a.1) (fun a => (.cons 0 (.slice A18 r15.length c19) (.cons 4 (.string (strOfNums r15)) (.cons 5 (.pointer (some ⟨d27, 0, none⟩)) (.cons 6 (.int .i64 (a.1 : Int)) .nil))))) (fun a => a.2.2) (fun a => (a.1 ≤ r15.length) ∧ (a.2.1.length = r15.length) ∧ (My H6 a.2.2 A18 c19 1 (a.2.1.map u8c)) ∧ (Fr (fun q => (H6.next ≤ q ∧ q < H20.next ∧ ZB H47 q 1)) H47 a.2.2)) (0, r15, H47) ⟨(show 0 ≤ r15.length from Nat.zero_le _), (show r15.length = r15.length from rfl), (show My H6 H47 A18 c19 1 (r15.map u8c) from h59), (show Fr (fun q => (H6.next ≤ q ∧ q < H20.next ∧ ZB H47 q 1)) H47 H47 from (Fr.refl _ H47))⟩ ?_
 rintro ⟨i1, b1, Hl58⟩ ⟨hi1, hl1, hm61, hxl62⟩ ih63
 replace hi1 : i1 ≤ r15.length := hi1
 replace hl1 : b1.length = r15.length := hl1
 replace hm61 : My H6 Hl58 A18 c19 1 (b1.map u8c) := hm61
 replace hxl62 : Fr (fun q => (H6.next ≤ q ∧ q < H20.next ∧ ZB H47 q 1)) H47 Hl58 := hxl62
 show aw _ _ _ (RL _ (.cons 0 (.slice A18 r15.length c19) (.cons 4 (.string (strOfNums r15)) (.cons 5 (.pointer (some ⟨d27, 0, none⟩)) (.cons 6 (.int .i64 (i1 : Int)) .nil))))) Hl58 _
 have Hl58n : H47.next ≤ Hl58.next := hxl62.1
 iterate 2 refine aw_seq ?_
 refine aw_reg ?_
 iterate 2 refine st_op (ev_move rfl) rfl rfl rfl ?_
 refine st_op (ev_lenSl rfl Try.underlying22) rfl rfl rfl ?_
 refine st_op (ev_int rfl rfl rfl) rfl rfl rfl ?_
 try show aw _ _ _ _ _ _
 by_cases hc64 : (decide ((i1 : Int) < (r15.length : Int))) = true
 ·
  refine aw_condT hc64 rfl ?_
  try show aw _ _ _ _ _ _
  have hc64 := of_decide_eq_true hc64
  refine aw_skip ?_
  try show aw _ _ _ _ _ _
  refine aw_seq ?_
  refine aw_block ?_
  refine aw_reg ?_
  iterate 2 refine st_op (ev_move rfl) rfl rfl rfl ?_
  have hi65 : 0 ≤ ((i1 : Int) : Int) := by omega
  have hi66 : ((i1 : Int) : Int) < ((r15.length : Nat) : Int) := by omega
  obtain ⟨x67, hx68⟩ : ∃ e, b1[i1]? = some e := ⟨_, List.getElem?_eq_getElem (by omega)⟩
  refine st_op (ev_at rfl rfl (My.row hm61) (getMap u8c hx68) (by first | rfl | omega | simp) hi65 hi66 el22) rfl rfl rfl ?_
  refine st_op (ev_atL rfl (My.row hm61) (getMap u8c hx68) one5 rfl) rfl rfl rfl ?_
  have hw69 : 0 ≤ (IntKind.u8.wrap (x67 + 1)) ∧ (IntKind.u8.wrap (x67 + 1)) ≤ 255 := wrapU8 _
  refine st_op (ev_int rfl rfl rfl) rfl rfl rfl ?_
  have hi70 : 0 ≤ ((i1 : Int) : Int) := by omega
  have hi71 : ((i1 : Int) : Int) < ((r15.length : Nat) : Int) := by omega
  refine st_op (ev_at rfl rfl (My.row hm61) (getMap u8c hx68) (by first | rfl | omega | simp) hi70 hi71 el22) rfl rfl rfl ?_
  have hk72 := My.keepOld hm23 hm61
  obtain ⟨H73, W74, he75, hm76, hf77, H73n_⟩ := mem_storeAt (v := .int .u8 (IntKind.u8.wrap (x67 + 1))) size5 rfl rfl hk72 hm61 (getMap u8c hx68) (show 0 < 1 by decide)
  rw [show (u8c x67).set 0 (.int .u8 (IntKind.u8.wrap (x67 + 1))) = u8c (IntKind.u8.wrap (x67 + 1)) from rfl, ← List.map_set] at hm76
  replace hf77 : Fr (fun q => H6.next ≤ q ∧ q < H20.next ∧ ZB Hl58 q 1) Hl58 H73 := hf77
  refine st_op0 (he75 _ _ _ _ _ _ _ _ _ rfl rfl) rfl rfl ?_
  have H73n : Hl58.next ≤ H73.next := hf77.1
  try show aw _ _ _ _ _ _
  refine aw_reg ?_
  refine st_op (ev_move rfl) rfl rfl rfl ?_
  refine st_op (ev_int64 (c := (i1 : Int) + 1) rfl rfl rfl (by omega) (by omega)) rfl rfl rfl ?_
  refine st_op (ev_assign rfl) rfl rfl rfl ?_
  try show aw _ _ _ _ _ _
  refine aw_keep [0, 4, 5, 6] (l' := (.cons 0 (.slice A18 r15.length c19) (.cons 4 (.string (strOfNums r15)) (.cons 5 (.pointer (some ⟨d27, 0, none⟩)) (.cons 6 (.int .i64 ((i1 : Int) + 1)) .nil))))) (by repeat (first | exact Up.done | refine Up.then ?_ | refine Up.inBlock ?_)) rfl ?_
  exact ih63 (i1 + 1, (b1.set i1 (IntKind.u8.wrap (x67 + 1))), H73) ⟨(show (i1 + 1) ≤ r15.length from (by omega)), (show (b1.set i1 (IntKind.u8.wrap (x67 + 1))).length = r15.length from (by rw [List.length_set]; exact hl1)), (show My H6 H73 A18 c19 1 ((b1.set i1 (IntKind.u8.wrap (x67 + 1))).map u8c) from hm76), (show Fr (fun q => (H6.next ≤ q ∧ q < H20.next ∧ ZB H47 q 1)) H47 H73 from (Fr.transG (Fr.transG (Fr.refl (fun q => (H6.next ≤ q ∧ q < H20.next ∧ ZB H47 q 1)) H47) hxl62 (fun q hq hE e => (⟨by omega, by omega, ZB.back hE e.2.2⟩))) hf77 (fun q hq hE e => (⟨by omega, by omega, ZB.back hE e.2.2⟩))))⟩ (by simp only; omega)
 ·
  rw [Bool.not_eq_true] at hc64; refine aw_condF hc64 rfl ?_
  try show aw _ _ _ _ _ _
  have hc64 := of_decide_eq_false hc64
  refine aw_exit ?_
  try show aw _ _ _ _ _ _
  refine aw_seq ?_
  refine aw_reg ?_
  refine st_op (ev_move rfl) rfl rfl rfl ?_
  refine st_call rfl rfl rfl ent14 rfl rfl rfl ?_
  have h78 := DiskR.fr hr55 hxl62 (fun q hd e => by replace hd := hD57 q hd; omega)
  have hS79 := disk_Read_spec Hl58 d27 D52 ([(⟨#[97]⟩, ⟨r15, 0, false⟩), (⟨#[98]⟩, ⟨r15, (r15.length : Int), true⟩)] : Files) ((0 + 1) + 1) ⟨_, _, h78⟩ (by omega) (⟨#[97]⟩) (by first | omega | decide | assumption)
  rw [Spec.one_read (F := ⟨#[97]⟩) (a := r15) (s := 0) (t := false)] at hS79; try dsimp only at hS79
  obtain ⟨_, H80, hs81, A83, c84, rfl, hm85, hb86, hl87, hx82⟩ := hS79
  refine ⟨_, H80, hs81, ?_⟩
  have H80n : Hl58.next ≤ H80.next := hx82.1
  refine st_op (ev_move rfl) rfl rfl rfl ?_
  iterate 2 refine st_op (ev_extract rfl rfl) rfl rfl rfl ?_
  iterate 2 refine st_op (ev_assign rfl) rfl rfl rfl ?_
  try show aw _ _ _ _ _ _
  iterate 2 refine aw_seq ?_
  refine aw_reg ?_
  refine st_op (ev_assign rfl) rfl rfl rfl ?_
  try show aw _ _ _ _ _ _
  refine aw_block ?_
  refine aw_keep [4, 5, 7, 9] (l' := (.cons 4 (.string (strOfNums r15)) (.cons 5 (.pointer (some ⟨d27, 0, none⟩)) (.cons 7 (.slice A83 r15.length c84) (.cons 9 (.int .i64 0) .nil))))) (by repeat (first | exact Up.done | refine Up.then ?_ | refine Up.inBlock ?_)) rfl ?_
  refine aw_iter (α := Nat × List Int × Heap) (fun a => r15.length - a.1) (fun a => (.cons 4 (.string (strOfNums r15)) (.cons 5 (.pointer (some ⟨d27, 0, none⟩)) (.cons 7 (.slice A83 r15.length c84) (.cons 9 (.int .i64 (a.1 : Int)) .nil))))) (fun a => a.2.2) (fun a => (a.1 ≤ r15.length) ∧ (a.2.1.length = r15.length) ∧ (My Hl58 a.2.2 A83 c84 1 (a.2.1.map u8c)) ∧ (Fr (fun q => (Hl58.next ≤ q ∧ q < H80.next ∧ ZB H80 q 1)) H80 a.2.2)) (0, r15, H80) ⟨(show 0 ≤ r15.length from Nat.zero_le _), (show r15.length = r15.length from rfl), (show My Hl58 H80 A83 c84 1 (r15.map u8c) from hm85), (show Fr (fun q => (Hl58.next ≤ q ∧ q < H80.next ∧ ZB H80 q 1)) H80 H80 from (Fr.refl _ H80))⟩ ?_
  rintro ⟨i2, b2, Hl88⟩ ⟨hi2, hl2, hm89, hxl90⟩ ih91
  replace hi2 : i2 ≤ r15.length := hi2
  replace hl2 : b2.length = r15.length := hl2
  replace hm89 : My Hl58 Hl88 A83 c84 1 (b2.map u8c) := hm89
  replace hxl90 : Fr (fun q => (Hl58.next ≤ q ∧ q < H80.next ∧ ZB H80 q 1)) H80 Hl88 := hxl90
  show aw _ _ _ (RL _ (.cons 4 (.string (strOfNums r15)) (.cons 5 (.pointer (some ⟨d27, 0, none⟩)) (.cons 7 (.slice A83 r15.length c84) (.cons 9 (.int .i64 (i2 : Int)) .nil))))) Hl88 _
  have Hl88n : H80.next ≤ Hl88.next := hxl90.1
  iterate 2 refine aw_seq ?_
  refine aw_reg ?_
  iterate 2 refine st_op (ev_move rfl) rfl rfl rfl ?_
  refine st_op (ev_lenSl rfl Try.underlying22) rfl rfl rfl ?_
  refine st_op (ev_int rfl rfl rfl) rfl rfl rfl ?_
  try show aw _ _ _ _ _ _
  by_cases hc92 : (decide ((i2 : Int) < (r15.length : Int))) = true
  ·
   refine aw_condT hc92 rfl ?_
   try show aw _ _ _ _ _ _
   have hc92 := of_decide_eq_true hc92
   refine aw_skip ?_
   try show aw _ _ _ _ _ _
   refine aw_seq ?_
   refine aw_block ?_
   refine aw_reg ?_
   iterate 2 refine st_op (ev_move rfl) rfl rfl rfl ?_
   have hi93 : 0 ≤ ((i2 : Int) : Int) := by omega
   have hi94 : ((i2 : Int) : Int) < ((r15.length : Nat) : Int) := by omega
   obtain ⟨x95, hx96⟩ : ∃ e, b2[i2]? = some e := ⟨_, List.getElem?_eq_getElem (by omega)⟩
   refine st_op (ev_at rfl rfl (My.row hm89) (getMap u8c hx96) (by first | rfl | omega | simp) hi93 hi94 el22) rfl rfl rfl ?_
   refine st_op (ev_atL rfl (My.row hm89) (getMap u8c hx96) one5 rfl) rfl rfl rfl ?_
   have hw97 : 0 ≤ (IntKind.u8.wrap (x95 + 1)) ∧ (IntKind.u8.wrap (x95 + 1)) ≤ 255 := wrapU8 _
   refine st_op (ev_int rfl rfl rfl) rfl rfl rfl ?_
   have hi98 : 0 ≤ ((i2 : Int) : Int) := by omega
   have hi99 : ((i2 : Int) : Int) < ((r15.length : Nat) : Int) := by omega
   refine st_op (ev_at rfl rfl (My.row hm89) (getMap u8c hx96) (by first | rfl | omega | simp) hi98 hi99 el22) rfl rfl rfl ?_
   have hk100 := My.keepOld hm85 hm89
   obtain ⟨H101, W102, he103, hm104, hf105, H101n_⟩ := mem_storeAt (v := .int .u8 (IntKind.u8.wrap (x95 + 1))) size5 rfl rfl hk100 hm89 (getMap u8c hx96) (show 0 < 1 by decide)
   rw [show (u8c x95).set 0 (.int .u8 (IntKind.u8.wrap (x95 + 1))) = u8c (IntKind.u8.wrap (x95 + 1)) from rfl, ← List.map_set] at hm104
   replace hf105 : Fr (fun q => Hl58.next ≤ q ∧ q < H80.next ∧ ZB Hl88 q 1) Hl88 H101 := hf105
   refine st_op0 (he103 _ _ _ _ _ _ _ _ _ rfl rfl) rfl rfl ?_
   have H101n : Hl88.next ≤ H101.next := hf105.1
   try show aw _ _ _ _ _ _
   refine aw_reg ?_
   refine st_op (ev_move rfl) rfl rfl rfl ?_
   refine st_op (ev_int64 (c := (i2 : Int) + 1) rfl rfl rfl (by omega) (by omega)) rfl rfl rfl ?_
   refine st_op (ev_assign rfl) rfl rfl rfl ?_
   try show aw _ _ _ _ _ _
   refine aw_keep [4, 5, 7, 9] (l' := (.cons 4 (.string (strOfNums r15)) (.cons 5 (.pointer (some ⟨d27, 0, none⟩)) (.cons 7 (.slice A83 r15.length c84) (.cons 9 (.int .i64 ((i2 : Int) + 1)) .nil))))) (by repeat (first | exact Up.done | refine Up.then ?_ | refine Up.inBlock ?_)) rfl ?_
   exact ih91 (i2 + 1, (b2.set i2 (IntKind.u8.wrap (x95 + 1))), H101) ⟨(show (i2 + 1) ≤ r15.length from (by omega)), (show (b2.set i2 (IntKind.u8.wrap (x95 + 1))).length = r15.length from (by rw [List.length_set]; exact hl2)), (show My Hl58 H101 A83 c84 1 ((b2.set i2 (IntKind.u8.wrap (x95 + 1))).map u8c) from hm104), (show Fr (fun q => (Hl58.next ≤ q ∧ q < H80.next ∧ ZB H80 q 1)) H80 H101 from (Fr.transG (Fr.transG (Fr.refl (fun q => (Hl58.next ≤ q ∧ q < H80.next ∧ ZB H80 q 1)) H80) hxl90 (fun q hq hE e => (⟨by omega, by omega, ZB.back hE e.2.2⟩))) hf105 (fun q hq hE e => (⟨by omega, by omega, ZB.back hE e.2.2⟩))))⟩ (by simp only; omega)
  ·
   rw [Bool.not_eq_true] at hc92; refine aw_condF hc92 rfl ?_
   try show aw _ _ _ _ _ _
   have hc92 := of_decide_eq_false hc92
   refine aw_exit ?_
   try show aw _ _ _ _ _ _
   refine aw_seq ?_
   refine aw_reg ?_
   refine st_op (ev_move rfl) rfl rfl rfl ?_
   refine st_call rfl rfl rfl ent14 rfl rfl rfl ?_
   have hx107 : Ext Hl58 Hl88 := (Ext.then hx82 hxl90 (fun q hq e => by omega))
   have h106 := DiskR.ext h78 hx107
   have hS108 := disk_Read_spec Hl88 d27 D52 ([(⟨#[97]⟩, ⟨r15, 0, false⟩), (⟨#[98]⟩, ⟨r15, (r15.length : Int), true⟩)] : Files) ((0 + 1) + 1) ⟨_, _, h106⟩ (by omega) (⟨#[97]⟩) (by first | omega | decide | assumption)
   rw [Spec.one_read (F := ⟨#[97]⟩) (a := r15) (s := 0) (t := false)] at hS108; try dsimp only at hS108
   obtain ⟨_, H109, hs110, A112, c113, rfl, hm114, hb115, hl116, hx111⟩ := hS108
   refine ⟨_, H109, hs110, ?_⟩
   have H109n : Hl88.next ≤ H109.next := hx111.1
   refine st_op (ev_move rfl) rfl rfl rfl ?_
   iterate 2 refine st_op (ev_extract rfl rfl) rfl rfl rfl ?_
   iterate 2 refine st_op (ev_assign rfl) rfl rfl rfl ?_
   try show aw _ _ _ _ _ _
   refine aw_seq ?_
   refine aw_reg ?_
   refine st_op (ev_move rfl) rfl rfl rfl ?_
   refine st_call rfl rfl rfl ent14 rfl rfl rfl ?_
   have h117 := DiskR.ext h106 hx111
   have hS118 := disk_Read_spec H109 d27 D52 ([(⟨#[97]⟩, ⟨r15, 0, false⟩), (⟨#[98]⟩, ⟨r15, (r15.length : Int), true⟩)] : Files) ((0 + 1) + 1) ⟨_, _, h117⟩ (by omega) (⟨#[98]⟩) (by first | omega | decide | assumption)
   rw [Spec.two_read (F := ⟨#[97]⟩) (G := ⟨#[98]⟩) (by decide)] at hS118; try dsimp only at hS118
   obtain ⟨_, H119, hs120, A122, c123, rfl, hm124, hb125, hl126, hx121⟩ := hS118
   refine ⟨_, H119, hs120, ?_⟩
   have H119n : H109.next ≤ H119.next := hx121.1
   refine st_op (ev_move rfl) rfl rfl rfl ?_
   iterate 2 refine st_op (ev_extract rfl rfl) rfl rfl rfl ?_
   iterate 2 refine st_op (ev_assign rfl) rfl rfl rfl ?_
   try show aw _ _ _ _ _ _
   refine aw_seq ?_
   refine aw_reg ?_
   refine st_op (ev_move rfl) rfl rfl rfl ?_
   have h127 := My.ext hm114 hx121
   refine st_op (ev_strOf (l := r15) (A := A112) (c := c113) slu8_22 isstr_9 rfl (My.anil h127) (My.row h127)) rfl rfl rfl ?_
   refine st_op (ev_move rfl) rfl rfl rfl ?_
   refine st_op (ev_str rfl rfl rfl) rfl rfl rfl ?_
   refine st_op (ev_move rfl) rfl rfl rfl ?_
   refine st_bool 72 rfl (fun hb128 => ?_) (fun hb128 => ?_)
   ·
    have hb128 := eq_of_beq hb128
    refine st_op (ev_move rfl) rfl rfl rfl ?_
    refine st_op (ev_strOf (l := r15) (A := A122) (c := c123) slu8_22 isstr_9 rfl (My.anil hm124) (My.row hm124)) rfl rfl rfl ?_
    refine st_op (ev_move rfl) rfl rfl rfl ?_
    refine st_op (ev_str rfl rfl rfl) rfl rfl rfl ?_
    refine st_op (ev_pickT rfl rfl) rfl rfl rfl ?_
    refine st_op (ev_assign rfl) rfl rfl rfl ?_
    try show aw _ _ _ _ _ _
    refine aw_ret ?_
    have hx129 : Ext H H119 := (Ext.trans (Ext.trans (Ext.then (Ext.trans (Ext.then (Ext.then (Ext.then (Ext.trans (Ext.then (Ext.trans hx3 hx7) hf24 (fun q hq e => by omega)) hx31) hx38 (fun q hq e => by (first | omega | (replace e := hD30 _ e.1; omega)))) hx49 (fun q hq e => by (first | omega | (replace e := hD45 _ e.1; omega)))) hxl62 (fun q hq e => by omega)) hx82) hxl90 (fun q hq e => by omega)) hx111) hx121)
    have hres : true = (((strOfNums r15)).toList == ((strOfNums r15)).toList) := by simp
    exact ⟨.bool (((strOfNums r15)).toList == ((strOfNums r15)).toList), rfl, by first | (rw [hres]; done) | rw [← hres], hx129⟩
   ·
    have hb128 := ne_of_beq_false hb128
    exact absurd rfl hb128

end Go.AM
