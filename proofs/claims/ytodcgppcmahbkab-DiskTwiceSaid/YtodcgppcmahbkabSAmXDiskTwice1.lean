/- Part of a machine of its own for this claim: the program's code over memory without draws. -/
import Derived.Test.YtodcgppcmahbkabSAmXDiskD1
set_option linter.unusedVariables false
set_option linter.unusedSimpArgs false
set_option linter.unnecessarySimpa false
set_option linter.unusedVariables false
set_option linter.unusedSimpArgs false
set_option linter.unnecessarySimpa false
namespace Go.AM
open Go Go.Proofs
theorem el22 : elemIs Try.prog 22 4 = true := by kernel_rfl
theorem ent9 : enters Try.prog 9 = true := by kernel_rfl
theorem fa28_0 : fieldIs Try.prog 28 0 0 = true := by kernel_rfl
theorem fa28_2 : fieldIs Try.prog 28 2 2 = true := by kernel_rfl
theorem fa28_3 : fieldIs Try.prog 28 3 3 = true := by kernel_rfl
theorem many28 : manyB Try.prog 28 4 = true := by kernel_rfl
theorem size28 : sizeIs Try.prog 28 4 = true := by kernel_rfl
theorem zero28 : ZeroIs Try.prog 28 [.int .i64 0, .int .i64 0, .string (⟨#[]⟩), .slice none 0 0] := ⟨.agg #[.int .i64 0, .int .i64 0, .string (⟨#[]⟩), .slice none 0 0], by kernel_rfl, rfl, rfl, rfl⟩

set_option maxHeartbeats 1600000 in
theorem law_DiskTwice_spec (H : Heap) (opsA : Option Addr) (ops : List OpD) (opsc : Nat) (hops : Row H opsA opsc 4 (ops.map OpD.cells)) (cops : ops.length ≤ opsc) (lops : ops.length ≤ 140737488355328) (bops : Spec.OpsOk ops) (eops : EachR OpD.sub H ops) (n : Int) (m : Int) : ∃ v H', Spec Try.prog 3 [.slice opsA ops.length opsc, .int .i64 n, .int .i64 m] H v H' ∧ ((v = .bool true) ∧ (Ext H H')) := by
 refine spec_go3 E0_ok 134 (f := 3) Try.func3 rfl rfl rfl ?_
 refine aw_seq ?_
 refine aw_reg ?_
 refine st_op (ev_assign rfl) rfl rfl rfl ?_
 try show aw _ _ _ _ _ _
 refine aw_seq ?_
 refine aw_reg ?_
 refine st_call rfl rfl rfl ent9 rfl rfl rfl ?_
 obtain ⟨_, H2, hs1, hs1v, hx3⟩ := law17_begun_spec H 
 rw [hs1v] at hs1; clear hs1v
 refine ⟨_, H2, hs1, ?_⟩
 have H2n : H.next ≤ H2.next := hx3.1
 refine st_op (ev_assign rfl) rfl rfl rfl ?_
 try show aw _ _ _ _ _ _
 iterate 2 refine aw_seq ?_
 refine aw_reg ?_
 refine st_op (ev_move rfl) rfl rfl rfl ?_
 refine st_op (ev_not rfl) rfl rfl rfl ?_
 try show aw _ _ _ _ _ _
 refine aw_cond (t := false) rfl ?_
 try show aw _ _ _ _ _ _
 refine aw_skip ?_
 try show aw _ _ _ _ _ _
 refine aw_seq ?_
 refine aw_reg ?_
 refine st_call rfl rfl rfl ent10 rfl rfl rfl ?_
 obtain ⟨_, H4, hs5, d6, D7, rfl, ⟨mb11, ps12, hr13⟩, hD9, hx10⟩ := disk_New_spec H2
 refine ⟨_, H4, hs5, ?_⟩
 have H4n : H2.next ≤ H4.next := hx10.1
 have bd6 := hD9 _ hr13.dp; have bmb11 := hD9 _ hr13.dm
 refine st_op (ev_assign rfl) rfl rfl rfl ?_
 try show aw _ _ _ _ _ _
 iterate 2 refine aw_seq ?_
 refine aw_reg ?_
 refine st_op (ev_assign rfl) rfl rfl rfl ?_
 try show aw _ _ _ _ _ _
 refine aw_block ?_
 refine aw_keep [0, 1, 2, 8, 9] (l' := (.cons 0 (.slice opsA ops.length opsc) (.cons 1 (.int .i64 n) (.cons 2 (.int .i64 m) (.cons 8 (.pointer (some ⟨d6, 0, none⟩)) (.cons 9 (.int .i64 0) .nil)))))) (by repeat (first | exact Up.done | refine Up.then ?_ | refine Up.inBlock ?_)) rfl ?_
 refine aw_iter (α := Nat × Int × List Place × (Nat → Prop) × Nat × Heap) (fun a => 30 - a.1) (fun a => (.cons 0 (.slice opsA ops.length opsc) (.cons 1 (.int .i64 n) (.cons 2 (.int .i64 m) (.cons 8 (.pointer (some ⟨d6, 0, none⟩)) (.cons 9 (.int .i64 (a.1 : Int)) .nil)))))) (fun a => a.2.2.2.2.2) (fun a => (a.1 ≤ ops.length ∧ a.1 ≤ 30) ∧ (0 ≤ a.2.1 ∧ a.2.1 ≤ a.1) ∧ (DiskR a.2.2.2.1 a.2.2.2.2.2 d6 a.2.2.2.2.1 (Spec.runT (ops.take a.1)) a.2.2.1 a.2.1) ∧ (∀ q, a.2.2.2.1 q → D7 q ∨ (H4.next ≤ q ∧ q < a.2.2.2.2.2.next)) ∧ (Fr (fun q => (D7 q ∧ Z01 H4 q)) H4 a.2.2.2.2.2)) (0, 0, ps12, D7, mb11, H4) ⟨(show 0 ≤ ops.length ∧ 0 ≤ 30 from ⟨by omega, by omega⟩), (show 0 ≤ 0 ∧ 0 ≤ 0 from ⟨by decide, by decide⟩), (show DiskR D7 H4 d6 mb11 (Spec.runT (ops.take 0)) ps12 0 from hr13), (show ∀ q, D7 q → D7 q ∨ (H4.next ≤ q ∧ q < H4.next) from (fun q e => .inl e)), (show Fr (fun q => (D7 q ∧ Z01 H4 q)) H4 H4 from (Fr.refl _ H4))⟩ ?_
 rintro ⟨i, kq, ps2, D2, mb2, Hl14⟩ ⟨hi, hk, hr15, hD16, hxl17⟩ ih18
 replace hi : i ≤ ops.length ∧ i ≤ 30 := hi
 replace hk : 0 ≤ kq ∧ kq ≤ i := hk
 replace hr15 : DiskR D2 Hl14 d6 mb2 (Spec.runT (ops.take i)) ps2 kq := hr15
 replace hD16 : ∀ q, D2 q → D7 q ∨ (H4.next ≤ q ∧ q < Hl14.next) := hD16
 replace hxl17 : Fr (fun q => (D7 q ∧ Z01 H4 q)) H4 Hl14 := hxl17
 show aw _ _ _ (RL _ (.cons 0 (.slice opsA ops.length opsc) (.cons 1 (.int .i64 n) (.cons 2 (.int .i64 m) (.cons 8 (.pointer (some ⟨d6, 0, none⟩)) (.cons 9 (.int .i64 (i : Int)) .nil)))))) Hl14 _
 have Hl14n : H4.next ≤ Hl14.next := hxl17.1
 have hD19 := fun q e => (hD16 q e).imp (hD9 q) id
 have hrl := Spec.runT_len ops i
 iterate 2 refine aw_seq ?_
 refine aw_reg ?_
 iterate 2 refine st_op (ev_move rfl) rfl rfl rfl ?_
 refine st_op (ev_lenSl rfl Try.underlying22) rfl rfl rfl ?_
 refine st_op (ev_int rfl rfl rfl) rfl rfl rfl ?_
 refine st_op (ev_move rfl) rfl rfl rfl ?_
 refine st_bool 28 rfl (fun hb20 => ?_) (fun hb20 => ?_)
 ·
  have hb20 := of_decide_eq_true hb20
  refine st_op (ev_move rfl) rfl rfl rfl ?_
  refine st_op (ev_int rfl rfl rfl) rfl rfl rfl ?_
  refine st_op (ev_pickT rfl rfl) rfl rfl rfl ?_
  try show aw _ _ _ _ _ _
  by_cases hc21 : (decide ((i : Int) < 30)) = true
  ·
   refine aw_condT hc21 rfl ?_
   try show aw _ _ _ _ _ _
   have hc21 := of_decide_eq_true hc21
   refine aw_skip ?_
   try show aw _ _ _ _ _ _
   refine aw_seq ?_
   refine aw_block ?_
   refine aw_seq ?_
   refine aw_reg ?_
   iterate 2 refine st_op (ev_move rfl) rfl rfl rfl ?_
   have hx23 : Ext H Hl14 := (Ext.then (Ext.trans hx3 hx10) hxl17 (fun q hq e => by (first | omega | (replace e := hD9 _ e.1; omega))))
   have h22 := Row.ext hops hx23
   have hi24 : 0 ≤ ((i : Int) : Int) := by omega
   have hi25 : ((i : Int) : Int) < ((ops.length : Nat) : Int) := by omega
   obtain ⟨x26, hx27⟩ : ∃ e, ops[i]? = some e := ⟨_, List.getElem?_eq_getElem (by omega)⟩
   have x26o := bops _ (List.mem_of_getElem? hx27); have x26n := x26o.1; have x26b := x26o.2
   have h29 := EachR.ext eops hx23
   have hr28 : Row Hl14 x26.bA x26.bc 1 (x26.b.map u8c) ∧ (x26.b.map u8c).length ≤ x26.bc ∧ (x26.b.map u8c).length ≤ 140737488355328 := EachR.get h29 hx27
   rw [List.length_map] at hr28
   have hr281 := hr28.1
   have hr282 := hr28.2.1
   have hr283 := hr28.2.2
   refine st_op (ev_at rfl rfl h22 (getMap OpD.cells hx27) (by first | rfl | omega | simp) hi24 hi25 el22) rfl rfl rfl ?_
   refine st_op (ev_atN (cs := [.int .i64 x26.kind, .int .i64 x26.n, .string x26.name, .slice x26.bA x26.b.length x26.bc]) rfl h22 (getMap OpD.cells hx27) many28 rfl rfl (by decide)) rfl rfl rfl ?_
   obtain ⟨b30, H31, he32, b30e, H31n_, hB34, f33⟩ := mem_alloc Hl14 zero28
   refine st_op (he32 _ _ _ _ _ _ _) rfl rfl rfl ?_
   have hx35 : Ext Hl14 H31 := Ext.new (by omega) H31n_ f33
   have H31n : Hl14.next ≤ H31.next := hx35.1
   obtain ⟨H36, he37, H36n_, hB38, f39⟩ := mem_store (v := .agg #[.int .i64 x26.kind, .int .i64 x26.n, .string x26.name, .slice x26.bA x26.b.length x26.bc]) (o := 0) (cs' := [.int .i64 x26.kind, .int .i64 x26.n, .string x26.name, .slice x26.bA x26.b.length x26.bc]) 4 rfl rfl size28 hB34 rfl rfl rfl
   refine st_op0 (he37 _ _ _ _ _ _ _ _ _ rfl rfl) rfl rfl ?_
   have hf40 : Fr (fun q => q = b30) H31 H36 := Fr.write H36n_ f39
   have H36n : H31.next ≤ H36.next := hf40.1
   try show aw _ _ _ _ _ _
   iterate 2 refine aw_seq ?_
   refine aw_reg ?_
   refine st_op (ev_fieldAddr rfl fa28_3 (o' := 3) rfl) rfl rfl rfl ?_
   refine st_op (ev_load rfl (lvar_one one26 hB38 rfl)) rfl rfl rfl ?_
   refine st_op (ev_lenSl rfl Try.underlying26) rfl rfl rfl ?_
   refine st_op (ev_int rfl rfl rfl) rfl rfl rfl ?_
   try show aw _ _ _ _ _ _
   by_cases hc41 : (decide ((x26.b.length : Int) > 60)) = true
   ·
    refine aw_condT hc41 rfl ?_
    try show aw _ _ _ _ _ _
    have hc41 := of_decide_eq_true hc41
    refine aw_reg ?_
    refine st_op (ev_fieldAddr rfl fa28_3 (o' := 3) rfl) rfl rfl rfl ?_
    refine st_op (ev_load rfl (lvar_one one26 hB38 rfl)) rfl rfl rfl ?_
    have hx51 : Ext Hl14 H36 := (Ext.then hx35 hf40 (fun q hq e => by omega))
    have h50 := Row.ext hr281 hx51
    obtain ⟨A42, c43, L44, hL45, hl46, hs47, hr48, hc49⟩ := sliceA_typed u8c el26 (by decide) h50 hr282 (lo := none) (hi := some (.int .i64 60)) (l := 0) (h := 60) (by rw [Option.isSome_some, if_pos rfl]; exact bound_int (by omega) (by omega) (by first | rfl | omega)) rfl (by omega) (by omega)
    refine st_op (ev_slice rfl rfl rfl rfl hs47) rfl rfl rfl ?_
    have hL45b : Spec.Bytes L44 := by rw [hL45]; exact Spec.Bytes.take (Spec.Bytes.drop (by first | assumption | exact Spec.Bytes.nil | exact Spec.bytes_of _ | (repeat' first | assumption | exact Spec.Bytes.nil | exact Spec.bytes_of _ | exact Spec.enc_bytes _ | exact Spec.four_bytes _ | exact Spec.sealF_bytes (by assumption) | apply Spec.Bytes.append | apply Spec.Bytes.cons (by omega) | apply Spec.Bytes.take | apply Spec.Bytes.drop)) _) _
    refine st_op (ev_fieldAddr rfl fa28_3 (o' := 3) rfl) rfl rfl rfl ?_
    obtain ⟨H52, he53, H52n_, hB54, f55⟩ := mem_store (v := .slice A42 L44.length c43) (o := 3) (cs' := [.int .i64 x26.kind, .int .i64 x26.n, .string x26.name, .slice A42 L44.length c43]) 1 rfl rfl size26 hB38 rfl rfl rfl
    refine st_op0 (he53 _ _ _ _ _ _ _ _ _ rfl rfl) rfl rfl ?_
    have hf56 : Fr (fun q => q = b30) H36 H52 := Fr.write H52n_ f55
    have H52n : H36.next ≤ H52.next := hf56.1
    try show aw _ _ _ _ _ _
    refine aw_seq ?_
    refine aw_reg ?_
    refine st_op (ev_fieldAddr rfl fa28_0 (o' := 0) rfl) rfl rfl rfl ?_
    refine st_op (ev_load rfl (lvar_one one3 hB54 rfl)) rfl rfl rfl ?_
    try show aw _ _ _ _ _ _
    refine aw_block ?_
    refine aw_seq ?_
    refine aw_reg ?_
    refine st_op (ev_int rfl rfl rfl) rfl rfl rfl ?_
    refine st_op (ev_assign rfl) rfl rfl rfl ?_
    try show aw _ _ _ _ _ _
    by_cases hc57 : (x26.kind == 0) = true
    ·
     refine aw_condT hc57 rfl ?_
     try show aw _ _ _ _ _ _
     have hc57 := eq_of_beq hc57
     refine aw_reg ?_
     refine st_op (ev_move rfl) rfl rfl rfl ?_
     refine st_op (ev_fieldAddr rfl fa28_2 (o' := 2) rfl) rfl rfl rfl ?_
     refine st_op (ev_load rfl (lvar_one one9 hB54 rfl)) rfl rfl rfl ?_
     refine st_op (ev_fieldAddr rfl fa28_3 (o' := 3) rfl) rfl rfl rfl ?_
     refine st_op (ev_load rfl (lvar_one one26 hB54 rfl)) rfl rfl rfl ?_
     refine st_call rfl rfl rfl ent11 rfl rfl rfl ?_
     have hx59 : Ext Hl14 H52 := (Ext.then hx51 hf56 (fun q hq e => by omega))
     have h58 := DiskR.ext hr15 hx59
     have h64 := Row.fr hr48 hf56 (fun q hq e => ⟨_, e ▸ hB38, show (0 : Nat) ≠ 1 by decide⟩)
     have hS60 := disk_Append_spec H52 d6 D2 (Spec.runT (ops.take i)) kq ⟨_, _, h58⟩ (by omega) x26.name (by first | omega | decide | assumption) A42 L44 c43 h64 hc49 (by omega) (by assumption)
     obtain ⟨_, H61, hs62, rfl, D65, ⟨mb66, ps67, hr68⟩, hb69, hx63⟩ := hS60
     refine ⟨_, H61, hs62, ?_⟩
     have H61n : H52.next ≤ H61.next := hx63.1
     have hD70 := fun q e => (hb69 q e).imp (hD19 q) id
     have hS71 : ∀ q, D65 q → D7 q ∨ (H4.next ≤ q ∧ q < H61.next) := fun q e => (hb69 q e).elim (fun e => (hD16 q e).imp id (fun e => by omega)) (fun e => .inr (by omega))
     try show aw _ _ _ _ _ _
     refine aw_reg ?_
     refine st_op (ev_move rfl) rfl rfl rfl ?_
     refine st_op (ev_int64 (c := (i : Int) + 1) rfl rfl rfl (by omega) (by omega)) rfl rfl rfl ?_
     refine st_op (ev_assign rfl) rfl rfl rfl ?_
     try show aw _ _ _ _ _ _
     refine aw_keep [0, 1, 2, 8, 9] (l' := (.cons 0 (.slice opsA ops.length opsc) (.cons 1 (.int .i64 n) (.cons 2 (.int .i64 m) (.cons 8 (.pointer (some ⟨d6, 0, none⟩)) (.cons 9 (.int .i64 ((i : Int) + 1)) .nil)))))) (by repeat (first | exact Up.done | refine Up.then ?_ | refine Up.inBlock ?_)) rfl ?_
     exact ih18 (i + 1, (kq + 1), ps67, D65, mb66, H61) ⟨(show (i + 1) ≤ ops.length ∧ (i + 1) ≤ 30 from ⟨by omega, by omega⟩), (show 0 ≤ (kq + 1) ∧ (kq + 1) ≤ (i + 1) from ⟨by omega, by omega⟩), (show DiskR D65 H61 d6 mb66 (Spec.runT (ops.take (i + 1))) ps67 (kq + 1) from (by rw [Spec.runT_step hx27, Spec.stepT_is (L := L44) (by rw [hL45]; simp), Spec.stepD_0 (by omega)]; exact hr68)), (show ∀ q, D65 q → D7 q ∨ (H4.next ≤ q ∧ q < H61.next) from (fun q e => (hS71 q e).imp id (fun e => by omega))), (show Fr (fun q => (D7 q ∧ Z01 H4 q)) H4 H61 from (Fr.transG (Fr.transG (Fr.transG (Fr.trans (Fr.transG (Fr.refl (fun q => (D7 q ∧ Z01 H4 q)) H4) hxl17 (fun q hq hE e => (⟨e.1, Z01.back hE e.2⟩))) (hx35.fr fun _ => False) (fun q hq (e : False) => e.elim)) hf40 (fun q hq hE e => absurd hq (by omega))) hf56 (fun q hq hE e => absurd hq (by omega))) hx63 (fun q hq hE e => (Or.elim (hD16 q e.1) (fun d => (⟨d, Z01.back hE e.2⟩)) (fun d => absurd hq (by omega))))))⟩ (by simp only; omega)
    ·
     rw [Bool.not_eq_true] at hc57; refine aw_condF hc57 rfl ?_
     try show aw _ _ _ _ _ _
     have hc57 := ne_of_beq_false hc57
     refine aw_seq ?_
     refine aw_reg ?_
     refine st_op (ev_int rfl rfl rfl) rfl rfl rfl ?_
     refine st_op (ev_assign rfl) rfl rfl rfl ?_
     try show aw _ _ _ _ _ _
     by_cases hc72 : (x26.kind == 1) = true
     ·
      refine aw_condT hc72 rfl ?_
      try show aw _ _ _ _ _ _
      have hc72 := eq_of_beq hc72
      refine aw_reg ?_
      refine st_op (ev_move rfl) rfl rfl rfl ?_
      refine st_op (ev_fieldAddr rfl fa28_2 (o' := 2) rfl) rfl rfl rfl ?_
      refine st_op (ev_load rfl (lvar_one one9 hB54 rfl)) rfl rfl rfl ?_
      refine st_call rfl rfl rfl ent12 rfl rfl rfl ?_
      have hx74 : Ext Hl14 H52 := (Ext.then hx51 hf56 (fun q hq e => by omega))
      have h73 := DiskR.ext hr15 hx74
      have hS75 := disk_Sync_spec H52 d6 D2 (Spec.runT (ops.take i)) kq ⟨_, _, h73⟩ (by omega) x26.name (by first | omega | decide | assumption)
      obtain ⟨_, H76, hs77, rfl, D79, ⟨mb80, ps81, hr82⟩, hb83, hx78⟩ := hS75
      refine ⟨_, H76, hs77, ?_⟩
      have H76n : H52.next ≤ H76.next := hx78.1
      have hD84 := fun q e => (hb83 q e).imp (hD19 q) id
      have hS85 : ∀ q, D79 q → D7 q ∨ (H4.next ≤ q ∧ q < H76.next) := fun q e => (hb83 q e).elim (fun e => (hD16 q e).imp id (fun e => by omega)) (fun e => .inr (by omega))
      try show aw _ _ _ _ _ _
      refine aw_reg ?_
      refine st_op (ev_move rfl) rfl rfl rfl ?_
      refine st_op (ev_int64 (c := (i : Int) + 1) rfl rfl rfl (by omega) (by omega)) rfl rfl rfl ?_
      refine st_op (ev_assign rfl) rfl rfl rfl ?_
      try show aw _ _ _ _ _ _
      refine aw_keep [0, 1, 2, 8, 9] (l' := (.cons 0 (.slice opsA ops.length opsc) (.cons 1 (.int .i64 n) (.cons 2 (.int .i64 m) (.cons 8 (.pointer (some ⟨d6, 0, none⟩)) (.cons 9 (.int .i64 ((i : Int) + 1)) .nil)))))) (by repeat (first | exact Up.done | refine Up.then ?_ | refine Up.inBlock ?_)) rfl ?_
      exact ih18 (i + 1, (kq + 1), ps81, D79, mb80, H76) ⟨(show (i + 1) ≤ ops.length ∧ (i + 1) ≤ 30 from ⟨by omega, by omega⟩), (show 0 ≤ (kq + 1) ∧ (kq + 1) ≤ (i + 1) from ⟨by omega, by omega⟩), (show DiskR D79 H76 d6 mb80 (Spec.runT (ops.take (i + 1))) ps81 (kq + 1) from (by rw [Spec.runT_step hx27, Spec.stepT_is (L := L44) (by rw [hL45]; simp), Spec.stepD_1 (by omega)]; exact hr82)), (show ∀ q, D79 q → D7 q ∨ (H4.next ≤ q ∧ q < H76.next) from (fun q e => (hS85 q e).imp id (fun e => by omega))), (show Fr (fun q => (D7 q ∧ Z01 H4 q)) H4 H76 from (Fr.transG (Fr.transG (Fr.transG (Fr.trans (Fr.transG (Fr.refl (fun q => (D7 q ∧ Z01 H4 q)) H4) hxl17 (fun q hq hE e => (⟨e.1, Z01.back hE e.2⟩))) (hx35.fr fun _ => False) (fun q hq (e : False) => e.elim)) hf40 (fun q hq hE e => absurd hq (by omega))) hf56 (fun q hq hE e => absurd hq (by omega))) hx78 (fun q hq hE e => (Or.elim (hD16 q e.1) (fun d => (⟨d, Z01.back hE e.2⟩)) (fun d => absurd hq (by omega))))))⟩ (by simp only; omega)
     ·
      rw [Bool.not_eq_true] at hc72; refine aw_condF hc72 rfl ?_
      try show aw _ _ _ _ _ _
      have hc72 := ne_of_beq_false hc72
      refine aw_seq ?_
      refine aw_reg ?_
      refine st_op (ev_int rfl rfl rfl) rfl rfl rfl ?_
      refine st_op (ev_assign rfl) rfl rfl rfl ?_
      try show aw _ _ _ _ _ _
      by_cases hc86 : (x26.kind == 2) = true
      ·
       refine aw_condT hc86 rfl ?_
       try show aw _ _ _ _ _ _
       have hc86 := eq_of_beq hc86
       refine aw_reg ?_
       refine st_op (ev_move rfl) rfl rfl rfl ?_
       refine st_op (ev_fieldAddr rfl fa28_2 (o' := 2) rfl) rfl rfl rfl ?_
       refine st_op (ev_load rfl (lvar_one one9 hB54 rfl)) rfl rfl rfl ?_
       refine st_op (ev_fieldAddr rfl fa28_3 (o' := 3) rfl) rfl rfl rfl ?_
       refine st_op (ev_load rfl (lvar_one one26 hB54 rfl)) rfl rfl rfl ?_
       refine st_call rfl rfl rfl ent13 rfl rfl rfl ?_
       have hx88 : Ext Hl14 H52 := (Ext.then hx51 hf56 (fun q hq e => by omega))
       have h87 := DiskR.ext hr15 hx88
       have h93 := Row.fr hr48 hf56 (fun q hq e => ⟨_, e ▸ hB38, show (0 : Nat) ≠ 1 by decide⟩)
       have hS89 := disk_Swap_spec H52 d6 D2 (Spec.runT (ops.take i)) kq ⟨_, _, h87⟩ (by omega) x26.name (by first | omega | decide | assumption) A42 L44 c43 h93 hc49 (by omega) (by assumption)
       obtain ⟨_, H90, hs91, rfl, D94, ⟨mb95, ps96, hr97⟩, hb98, hx92⟩ := hS89
       refine ⟨_, H90, hs91, ?_⟩
       have H90n : H52.next ≤ H90.next := hx92.1
       have hD99 := fun q e => (hb98 q e).imp (hD19 q) id
       have hS100 : ∀ q, D94 q → D7 q ∨ (H4.next ≤ q ∧ q < H90.next) := fun q e => (hb98 q e).elim (fun e => (hD16 q e).imp id (fun e => by omega)) (fun e => .inr (by omega))
       try show aw _ _ _ _ _ _
       refine aw_reg ?_
       refine st_op (ev_move rfl) rfl rfl rfl ?_
       refine st_op (ev_int64 (c := (i : Int) + 1) rfl rfl rfl (by omega) (by omega)) rfl rfl rfl ?_
       refine st_op (ev_assign rfl) rfl rfl rfl ?_
       try show aw _ _ _ _ _ _
       refine aw_keep [0, 1, 2, 8, 9] (l' := (.cons 0 (.slice opsA ops.length opsc) (.cons 1 (.int .i64 n) (.cons 2 (.int .i64 m) (.cons 8 (.pointer (some ⟨d6, 0, none⟩)) (.cons 9 (.int .i64 ((i : Int) + 1)) .nil)))))) (by repeat (first | exact Up.done | refine Up.then ?_ | refine Up.inBlock ?_)) rfl ?_
       exact ih18 (i + 1, (kq + 1), ps96, D94, mb95, H90) ⟨(show (i + 1) ≤ ops.length ∧ (i + 1) ≤ 30 from ⟨by omega, by omega⟩), (show 0 ≤ (kq + 1) ∧ (kq + 1) ≤ (i + 1) from ⟨by omega, by omega⟩), (show DiskR D94 H90 d6 mb95 (Spec.runT (ops.take (i + 1))) ps96 (kq + 1) from (by rw [Spec.runT_step hx27, Spec.stepT_is (L := L44) (by rw [hL45]; simp), Spec.stepD_2 (by omega)]; exact hr97)), (show ∀ q, D94 q → D7 q ∨ (H4.next ≤ q ∧ q < H90.next) from (fun q e => (hS100 q e).imp id (fun e => by omega))), (show Fr (fun q => (D7 q ∧ Z01 H4 q)) H4 H90 from (Fr.transG (Fr.transG (Fr.transG (Fr.trans (Fr.transG (Fr.refl (fun q => (D7 q ∧ Z01 H4 q)) H4) hxl17 (fun q hq hE e => (⟨e.1, Z01.back hE e.2⟩))) (hx35.fr fun _ => False) (fun q hq (e : False) => e.elim)) hf40 (fun q hq hE e => absurd hq (by omega))) hf56 (fun q hq hE e => absurd hq (by omega))) hx92 (fun q hq hE e => (Or.elim (hD16 q e.1) (fun d => (⟨d, Z01.back hE e.2⟩)) (fun d => absurd hq (by omega))))))⟩ (by simp only; omega)
      ·
       rw [Bool.not_eq_true] at hc86; refine aw_condF hc86 rfl ?_
       try show aw _ _ _ _ _ _
       have hc86 := ne_of_beq_false hc86
       refine aw_skip ?_
       try show aw _ _ _ _ _ _
       refine aw_reg ?_
       refine st_op (ev_move rfl) rfl rfl rfl ?_
       refine st_op (ev_int64 (c := (i : Int) + 1) rfl rfl rfl (by omega) (by omega)) rfl rfl rfl ?_
       refine st_op (ev_assign rfl) rfl rfl rfl ?_
       try show aw _ _ _ _ _ _
       have hx102 : Ext Hl14 H52 := (Ext.then hx51 hf56 (fun q hq e => by omega))
       have h101 := DiskR.ext hr15 hx102
       refine aw_keep [0, 1, 2, 8, 9] (l' := (.cons 0 (.slice opsA ops.length opsc) (.cons 1 (.int .i64 n) (.cons 2 (.int .i64 m) (.cons 8 (.pointer (some ⟨d6, 0, none⟩)) (.cons 9 (.int .i64 ((i : Int) + 1)) .nil)))))) (by repeat (first | exact Up.done | refine Up.then ?_ | refine Up.inBlock ?_)) rfl ?_
       exact ih18 (i + 1, kq, ps2, D2, mb2, H52) ⟨(show (i + 1) ≤ ops.length ∧ (i + 1) ≤ 30 from ⟨by omega, by omega⟩), (show 0 ≤ kq ∧ kq ≤ (i + 1) from ⟨by omega, by omega⟩), (show DiskR D2 H52 d6 mb2 (Spec.runT (ops.take (i + 1))) ps2 kq from (by rw [Spec.runT_step hx27, Spec.stepT_is (L := L44) (by rw [hL45]; simp), Spec.stepD_no (by omega) (by omega) (by omega)]; exact h101)), (show ∀ q, D2 q → D7 q ∨ (H4.next ≤ q ∧ q < H52.next) from (fun q e => (hD16 q e).imp id (fun e => by omega))), (show Fr (fun q => (D7 q ∧ Z01 H4 q)) H4 H52 from (Fr.transG (Fr.transG (Fr.trans (Fr.transG (Fr.refl (fun q => (D7 q ∧ Z01 H4 q)) H4) hxl17 (fun q hq hE e => (⟨e.1, Z01.back hE e.2⟩))) (hx35.fr fun _ => False) (fun q hq (e : False) => e.elim)) hf40 (fun q hq hE e => absurd hq (by omega))) hf56 (fun q hq hE e => absurd hq (by omega))))⟩ (by simp only; omega)
   ·
    rw [Bool.not_eq_true] at hc41; refine aw_condF hc41 rfl ?_
    try show aw _ _ _ _ _ _
    have hc41 := of_decide_eq_false hc41
    refine aw_skip ?_
    try show aw _ _ _ _ _ _
    refine aw_seq ?_
    refine aw_reg ?_
    refine st_op (ev_fieldAddr rfl fa28_0 (o' := 0) rfl) rfl rfl rfl ?_
    refine st_op (ev_load rfl (lvar_one one3 hB38 rfl)) rfl rfl rfl ?_
    try show aw _ _ _ _ _ _
    refine aw_block ?_
    refine aw_seq ?_
    refine aw_reg ?_
    refine st_op (ev_int rfl rfl rfl) rfl rfl rfl ?_
    refine st_op (ev_assign rfl) rfl rfl rfl ?_
    try show aw _ _ _ _ _ _
    by_cases hc103 : (x26.kind == 0) = true
    ·
     refine aw_condT hc103 rfl ?_
     try show aw _ _ _ _ _ _
     have hc103 := eq_of_beq hc103
     refine aw_reg ?_
     refine st_op (ev_move rfl) rfl rfl rfl ?_
     refine st_op (ev_fieldAddr rfl fa28_2 (o' := 2) rfl) rfl rfl rfl ?_
     refine st_op (ev_load rfl (lvar_one one9 hB38 rfl)) rfl rfl rfl ?_
     refine st_op (ev_fieldAddr rfl fa28_3 (o' := 3) rfl) rfl rfl rfl ?_
     refine st_op (ev_load rfl (lvar_one one26 hB38 rfl)) rfl rfl rfl ?_
     refine st_call rfl rfl rfl ent11 rfl rfl rfl ?_
     have hx105 : Ext Hl14 H36 := (Ext.then hx35 hf40 (fun q hq e => by omega))
     have h104 := DiskR.ext hr15 hx105
     have h110 := Row.ext hr281 hx105
     have hS106 := disk_Append_spec H36 d6 D2 (Spec.runT (ops.take i)) kq ⟨_, _, h104⟩ (by omega) x26.name (by first | omega | decide | assumption) x26.bA x26.b x26.bc h110 hr282 (by omega) (by first | assumption | exact Spec.Bytes.nil | exact Spec.bytes_of _ | (repeat' first | assumption | exact Spec.Bytes.nil | exact Spec.bytes_of _ | exact Spec.enc_bytes _ | exact Spec.four_bytes _ | exact Spec.sealF_bytes (by assumption) | apply Spec.Bytes.append | apply Spec.Bytes.cons (by omega) | apply Spec.Bytes.take | apply Spec.Bytes.drop))
     obtain ⟨_, H107, hs108, rfl, D111, ⟨mb112, ps113, hr114⟩, hb115, hx109⟩ := hS106
     refine ⟨_, H107, hs108, ?_⟩
     have H107n : H36.next ≤ H107.next := hx109.1
     have hD116 := fun q e => (hb115 q e).imp (hD19 q) id
     have hS117 : ∀ q, D111 q → D7 q ∨ (H4.next ≤ q ∧ q < H107.next) := fun q e => (hb115 q e).elim (fun e => (hD16 q e).imp id (fun e => by omega)) (fun e => .inr (by omega))
     try show aw _ _ _ _ _ _
     refine aw_reg ?_
     refine st_op (ev_move rfl) rfl rfl rfl ?_
     refine st_op (ev_int64 (c := (i : Int) + 1) rfl rfl rfl (by omega) (by omega)) rfl rfl rfl ?_
     refine st_op (ev_assign rfl) rfl rfl rfl ?_
     try show aw _ _ _ _ _ _
     refine aw_keep [0, 1, 2, 8, 9] (l' := (.cons 0 (.slice opsA ops.length opsc) (.cons 1 (.int .i64 n) (.cons 2 (.int .i64 m) (.cons 8 (.pointer (some ⟨d6, 0, none⟩)) (.cons 9 (.int .i64 ((i : Int) + 1)) .nil)))))) (by repeat (first | exact Up.done | refine Up.then ?_ | refine Up.inBlock ?_)) rfl ?_
     exact ih18 (i + 1, (kq + 1), ps113, D111, mb112, H107) ⟨(show (i + 1) ≤ ops.length ∧ (i + 1) ≤ 30 from ⟨by omega, by omega⟩), (show 0 ≤ (kq + 1) ∧ (kq + 1) ≤ (i + 1) from ⟨by omega, by omega⟩), (show DiskR D111 H107 d6 mb112 (Spec.runT (ops.take (i + 1))) ps113 (kq + 1) from (by rw [Spec.runT_step hx27, Spec.stepT_is (L := x26.b) (List.take_of_length_le (by omega)).symm, Spec.stepD_0 (by omega)]; exact hr114)), (show ∀ q, D111 q → D7 q ∨ (H4.next ≤ q ∧ q < H107.next) from (fun q e => (hS117 q e).imp id (fun e => by omega))), (show Fr (fun q => (D7 q ∧ Z01 H4 q)) H4 H107 from (Fr.transG (Fr.transG (Fr.trans (Fr.transG (Fr.refl (fun q => (D7 q ∧ Z01 H4 q)) H4) hxl17 (fun q hq hE e => (⟨e.1, Z01.back hE e.2⟩))) (hx35.fr fun _ => False) (fun q hq (e : False) => e.elim)) hf40 (fun q hq hE e => absurd hq (by omega))) hx109 (fun q hq hE e => (Or.elim (hD16 q e.1) (fun d => (⟨d, Z01.back hE e.2⟩)) (fun d => absurd hq (by omega))))))⟩ (by simp only; omega)
    ·
     rw [Bool.not_eq_true] at hc103; refine aw_condF hc103 rfl ?_
     try show aw _ _ _ _ _ _
     have hc103 := ne_of_beq_false hc103
     refine aw_seq ?_
     refine aw_reg ?_
     refine st_op (ev_int rfl rfl rfl) rfl rfl rfl ?_
     refine st_op (ev_assign rfl) rfl rfl rfl ?_
     try show aw _ _ _ _ _ _
     by_cases hc118 : (x26.kind == 1) = true
     ·
      refine aw_condT hc118 rfl ?_
      try show aw _ _ _ _ _ _
      have hc118 := eq_of_beq hc118
      refine aw_reg ?_
      refine st_op (ev_move rfl) rfl rfl rfl ?_
      refine st_op (ev_fieldAddr rfl fa28_2 (o' := 2) rfl) rfl rfl rfl ?_
      refine st_op (ev_load rfl (lvar_one one9 hB38 rfl)) rfl rfl rfl ?_
      refine st_call rfl rfl rfl ent12 rfl rfl rfl ?_
      have hx120 : Ext Hl14 H36 := (Ext.then hx35 hf40 (fun q hq e => by omega))
      have h119 := DiskR.ext hr15 hx120
      have hS121 := disk_Sync_spec H36 d6 D2 (Spec.runT (ops.take i)) kq ⟨_, _, h119⟩ (by omega) x26.name (by first | omega | decide | assumption)
      obtain ⟨_, H122, hs123, rfl, D125, ⟨mb126, ps127, hr128⟩, hb129, hx124⟩ := hS121
      refine ⟨_, H122, hs123, ?_⟩
      have H122n : H36.next ≤ H122.next := hx124.1
      have hD130 := fun q e => (hb129 q e).imp (hD19 q) id
      have hS131 : ∀ q, D125 q → D7 q ∨ (H4.next ≤ q ∧ q < H122.next) := fun q e => (hb129 q e).elim (fun e => (hD16 q e).imp id (fun e => by omega)) (fun e => .inr (by omega))
      try show aw _ _ _ _ _ _
      refine aw_reg ?_
      refine st_op (ev_move rfl) rfl rfl rfl ?_
      refine st_op (ev_int64 (c := (i : Int) + 1) rfl rfl rfl (by omega) (by omega)) rfl rfl rfl ?_
      refine st_op (ev_assign rfl) rfl rfl rfl ?_
      try show aw _ _ _ _ _ _
      refine aw_keep [0, 1, 2, 8, 9] (l' := (.cons 0 (.slice opsA ops.length opsc) (.cons 1 (.int .i64 n) (.cons 2 (.int .i64 m) (.cons 8 (.pointer (some ⟨d6, 0, none⟩)) (.cons 9 (.int .i64 ((i : Int) + 1)) .nil)))))) (by repeat (first | exact Up.done | refine Up.then ?_ | refine Up.inBlock ?_)) rfl ?_
      exact ih18 (i + 1, (kq + 1), ps127, D125, mb126, H122) ⟨(show (i + 1) ≤ ops.length ∧ (i + 1) ≤ 30 from ⟨by omega, by omega⟩), (show 0 ≤ (kq + 1) ∧ (kq + 1) ≤ (i + 1) from ⟨by omega, by omega⟩), (show DiskR D125 H122 d6 mb126 (Spec.runT (ops.take (i + 1))) ps127 (kq + 1) from (by rw [Spec.runT_step hx27, Spec.stepT_is (L := x26.b) (List.take_of_length_le (by omega)).symm, Spec.stepD_1 (by omega)]; exact hr128)), (show ∀ q, D125 q → D7 q ∨ (H4.next ≤ q ∧ q < H122.next) from (fun q e => (hS131 q e).imp id (fun e => by omega))), (show Fr (fun q => (D7 q ∧ Z01 H4 q)) H4 H122 from (Fr.transG (Fr.transG (Fr.trans (Fr.transG (Fr.refl (fun q => (D7 q ∧ Z01 H4 q)) H4) hxl17 (fun q hq hE e => (⟨e.1, Z01.back hE e.2⟩))) (hx35.fr fun _ => False) (fun q hq (e : False) => e.elim)) hf40 (fun q hq hE e => absurd hq (by omega))) hx124 (fun q hq hE e => (Or.elim (hD16 q e.1) (fun d => (⟨d, Z01.back hE e.2⟩)) (fun d => absurd hq (by omega))))))⟩ (by simp only; omega)
     ·
      rw [Bool.not_eq_true] at hc118; refine aw_condF hc118 rfl ?_
      try show aw _ _ _ _ _ _
      have hc118 := ne_of_beq_false hc118
      refine aw_seq ?_
      refine aw_reg ?_
      refine st_op (ev_int rfl rfl rfl) rfl rfl rfl ?_
      refine st_op (ev_assign rfl) rfl rfl rfl ?_
      try show aw _ _ _ _ _ _
      by_cases hc132 : (x26.kind == 2) = true
      ·
       refine aw_condT hc132 rfl ?_
       try show aw _ _ _ _ _ _
       have hc132 := eq_of_beq hc132
       refine aw_reg ?_
       refine st_op (ev_move rfl) rfl rfl rfl ?_
       refine st_op (ev_fieldAddr rfl fa28_2 (o' := 2) rfl) rfl rfl rfl ?_
       refine st_op (ev_load rfl (lvar_one one9 hB38 rfl)) rfl rfl rfl ?_
       refine st_op (ev_fieldAddr rfl fa28_3 (o' := 3) rfl) rfl rfl rfl ?_
       refine st_op (ev_load rfl (lvar_one one26 hB38 rfl)) rfl rfl rfl ?_
       refine st_call rfl rfl rfl ent13 rfl rfl rfl ?_
       have hx134 : Ext Hl14 H36 := (Ext.then hx35 hf40 (fun q hq e => by omega))
       have h133 := DiskR.ext hr15 hx134
       have h139 := Row.ext hr281 hx134
       have hS135 := disk_Swap_spec H36 d6 D2 (Spec.runT (ops.take i)) kq ⟨_, _, h133⟩ (by omega) x26.name (by first | omega | decide | assumption) x26.bA x26.b x26.bc h139 hr282 (by omega) (by first | assumption | exact Spec.Bytes.nil | exact Spec.bytes_of _ | (repeat' first | assumption | exact Spec.Bytes.nil | exact Spec.bytes_of _ | exact Spec.enc_bytes _ | exact Spec.four_bytes _ | exact Spec.sealF_bytes (by assumption) | apply Spec.Bytes.append | apply Spec.Bytes.cons (by omega) | apply Spec.Bytes.take | apply Spec.Bytes.drop))
       obtain ⟨_, H136, hs137, rfl, D140, ⟨mb141, ps142, hr143⟩, hb144, hx138⟩ := hS135
       refine ⟨_, H136, hs137, ?_⟩
       have H136n : H36.next ≤ H136.next := hx138.1
       have hD145 := fun q e => (hb144 q e).imp (hD19 q) id
       have hS146 : ∀ q, D140 q → D7 q ∨ (H4.next ≤ q ∧ q < H136.next) := fun q e => (hb144 q e).elim (fun e => (hD16 q e).imp id (fun e => by omega)) (fun e => .inr (by omega))
       try show aw _ _ _ _ _ _
       refine aw_reg ?_
       refine st_op (ev_move rfl) rfl rfl rfl ?_
       refine st_op (ev_int64 (c := (i : Int) + 1) rfl rfl rfl (by omega) (by omega)) rfl rfl rfl ?_
       refine st_op (ev_assign rfl) rfl rfl rfl ?_
       try show aw _ _ _ _ _ _
       refine aw_keep [0, 1, 2, 8, 9] (l' := (.cons 0 (.slice opsA ops.length opsc) (.cons 1 (.int .i64 n) (.cons 2 (.int .i64 m) (.cons 8 (.pointer (some ⟨d6, 0, none⟩)) (.cons 9 (.int .i64 ((i : Int) + 1)) .nil)))))) (by repeat (first | exact Up.done | refine Up.then ?_ | refine Up.inBlock ?_)) rfl ?_
       exact ih18 (i + 1, (kq + 1), ps142, D140, mb141, H136) ⟨(show (i + 1) ≤ ops.length ∧ (i + 1) ≤ 30 from ⟨by omega, by omega⟩), (show 0 ≤ (kq + 1) ∧ (kq + 1) ≤ (i + 1) from ⟨by omega, by omega⟩), (show DiskR D140 H136 d6 mb141 (Spec.runT (ops.take (i + 1))) ps142 (kq + 1) from (by rw [Spec.runT_step hx27, Spec.stepT_is (L := x26.b) (List.take_of_length_le (by omega)).symm, Spec.stepD_2 (by omega)]; exact hr143)), (show ∀ q, D140 q → D7 q ∨ (H4.next ≤ q ∧ q < H136.next) from (fun q e => (hS146 q e).imp id (fun e => by omega))), (show Fr (fun q => (D7 q ∧ Z01 H4 q)) H4 H136 from (Fr.transG (Fr.transG (Fr.trans (Fr.transG (Fr.refl (fun q => (D7 q ∧ Z01 H4 q)) H4) hxl17 (fun q hq hE e => (⟨e.1, Z01.back hE e.2⟩))) (hx35.fr fun _ => False) (fun q hq (e : False) => e.elim)) hf40 (fun q hq hE e => absurd hq (by omega))) hx138 (fun q hq hE e => (Or.elim (hD16 q e.1) (fun d => (⟨d, Z01.back hE e.2⟩)) (fun d => absurd hq (by omega))))))⟩ (by simp only; omega)
      ·
       rw [Bool.not_eq_true] at hc132; refine aw_condF hc132 rfl ?_
       try show aw _ _ _ _ _ _
       have hc132 := ne_of_beq_false hc132
       refine aw_skip ?_
       try show aw _ _ _ _ _ _
       refine aw_reg ?_
       refine st_op (ev_move rfl) rfl rfl rfl ?_
       refine st_op (ev_int64 (c := (i : Int) + 1) rfl rfl rfl (by omega) (by omega)) rfl rfl rfl ?_
       refine st_op (ev_assign rfl) rfl rfl rfl ?_
       try show aw _ _ _ _ _ _
       have hx148 : Ext Hl14 H36 := (Ext.then hx35 hf40 (fun q hq e => by omega))
       have h147 := DiskR.ext hr15 hx148
       refine aw_keep [0, 1, 2, 8, 9] (l' := (.cons 0 (.slice opsA ops.length opsc) (.cons 1 (.int .i64 n) (.cons 2 (.int .i64 m) (.cons 8 (.pointer (some ⟨d6, 0, none⟩)) (.cons 9 (.int .i64 ((i : Int) + 1)) .nil)))))) (by repeat (first | exact Up.done | refine Up.then ?_ | refine Up.inBlock ?_)) rfl ?_
       exact ih18 (i + 1, kq, ps2, D2, mb2, H36) ⟨(show (i + 1) ≤ ops.length ∧ (i + 1) ≤ 30 from ⟨by omega, by omega⟩), (show 0 ≤ kq ∧ kq ≤ (i + 1) from ⟨by omega, by omega⟩), (show DiskR D2 H36 d6 mb2 (Spec.runT (ops.take (i + 1))) ps2 kq from (by rw [Spec.runT_step hx27, Spec.stepT_is (L := x26.b) (List.take_of_length_le (by omega)).symm, Spec.stepD_no (by omega) (by omega) (by omega)]; exact h147)), (show ∀ q, D2 q → D7 q ∨ (H4.next ≤ q ∧ q < H36.next) from (fun q e => (hD16 q e).imp id (fun e => by omega))), (show Fr (fun q => (D7 q ∧ Z01 H4 q)) H4 H36 from (Fr.transG (Fr.trans (Fr.transG (Fr.refl (fun q => (D7 q ∧ Z01 H4 q)) H4) hxl17 (fun q hq hE e => (⟨e.1, Z01.back hE e.2⟩))) (hx35.fr fun _ => False) (fun q hq (e : False) => e.elim)) hf40 (fun q hq hE e => absurd hq (by omega))))⟩ (by simp only; omega)
  ·
   rw [Bool.not_eq_true] at hc21; refine aw_condF hc21 rfl ?_
   try show aw _ _ _ _ _ _
   have hc21 := of_decide_eq_false hc21
   refine aw_exit ?_
   try show aw _ _ _ _ _ _
   refine aw_seq ?_
   refine aw_reg ?_
   iterate 2 refine st_op (ev_move rfl) rfl rfl rfl ?_
   refine st_call rfl rfl rfl ent14 rfl rfl rfl ?_
   have hS149 := disk_CrashR_spec Hl14 d6 mb2 D2 (Spec.runT (ops.take i)) ps2 kq hr15 (by omega) (by omega) n
   obtain ⟨_, H150, hs151, p153, D154, rfl, ⟨mb155, ps156, hr157⟩, hD158, hx152⟩ := hS149
   refine ⟨_, H150, hs151, ?_⟩
   have H150n : Hl14.next ≤ H150.next := hx152.1
   have h159 := DiskR.ext hr15 hx152
   have hin := DiskR.inB h159; have hnd := h159.nodup
   have hclen := Spec.crash_len (Spec.runT (ops.take i)) n; have hw := Spec.crash_whole (n := n) hin; have hcc := Spec.crash_crash (n := n) (m := m) hin hnd
   obtain ⟨cl, hcl⟩ : ∃ l_, l_ = (Spec.crashF (Spec.runT (ops.take i)) n) := ⟨_, rfl⟩
   rw [← hcl] at hr157 hclen hw hcc
   refine st_op (ev_assign rfl) rfl rfl rfl ?_
   try show aw _ _ _ _ _ _
   refine aw_seq ?_
   refine aw_reg ?_
   iterate 2 refine st_op (ev_move rfl) rfl rfl rfl ?_
   refine st_call rfl rfl rfl ent14 rfl rfl rfl ?_
   have hS160 := disk_CrashR_spec H150 p153 mb155 D154 cl ps156 0 hr157 (by omega) (by omega) m
   obtain ⟨_, H161, hs162, p164, D165, rfl, ⟨mb166, ps167, hr168⟩, hD169, hx163⟩ := hS160
   refine ⟨_, H161, hs162, ?_⟩
   have H161n : H150.next ≤ H161.next := hx163.1
   have h170 := DiskR.ext hr157 hx163
   rw [hcc] at hr168
   refine st_op (ev_assign rfl) rfl rfl rfl ?_
   try show aw _ _ _ _ _ _
   refine aw_seq ?_
   refine aw_reg ?_
   refine st_op (ev_move rfl) rfl rfl rfl ?_
   refine st_call rfl rfl rfl ent15 rfl rfl rfl ?_
   obtain ⟨_, H175, hs176, A177, c178, rfl, hm179, hx180⟩ := disk_NamesR_spec H161 p153 mb155 D154 cl ps156 0 h170 (by omega) (by omega)
   refine ⟨_, H175, hs176, ?_⟩
   have H175n : H161.next ≤ H175.next := hx180.1
   have A177n := Spec.names_length cl
   refine st_op (ev_move rfl) rfl rfl rfl ?_
   refine st_call rfl rfl rfl ent15 rfl rfl rfl ?_
   have h181 := DiskR.ext hr168 hx180
   obtain ⟨_, H186, hs187, A188, c189, rfl, hm190, hx191⟩ := disk_NamesR_spec H175 p164 mb166 D165 cl ps167 0 h181 (by omega) (by omega)
   refine ⟨_, H186, hs187, ?_⟩
   have H186n : H175.next ≤ H186.next := hx191.1
   have A188n := Spec.names_length cl
   iterate 2 refine st_op (ev_assign rfl) rfl rfl rfl ?_
   try show aw _ _ _ _ _ _
   iterate 2 refine aw_seq ?_
   refine aw_reg ?_
   refine st_op (ev_move rfl) rfl rfl rfl ?_
   refine st_op (ev_lenSl rfl Try.underlying33) rfl rfl rfl ?_
   refine st_op (ev_move rfl) rfl rfl rfl ?_
   refine st_op (ev_lenSl rfl Try.underlying33) rfl rfl rfl ?_
   refine st_op (ev_int rfl rfl rfl) rfl rfl rfl ?_
   try show aw _ _ _ _ _ _
   by_cases hc192 : (((Spec.namesF cl).length : Int) != ((Spec.namesF cl).length : Int)) = true
   ·
    refine aw_condT hc192 rfl ?_
    try show aw _ _ _ _ _ _
    exact absurd hc192 (by simp)
   ·
    rw [Bool.not_eq_true] at hc192; refine aw_condF hc192 rfl ?_
    try show aw _ _ _ _ _ _
    have hc192 : (((Spec.namesF cl).length : Int) = ((Spec.namesF cl).length : Int)) := by simpa using hc192
    refine aw_skip ?_
    try show aw _ _ _ _ _ _
    iterate 2 refine aw_seq ?_
    refine aw_reg ?_
    refine st_op (ev_assign rfl) rfl rfl rfl ?_
    try show aw _ _ _ _ _ _
    refine aw_block ?_
    refine aw_keep [11, 12, 13, 14, 15] (l' := (.cons 11 (.pointer (some ⟨p153, 0, none⟩)) (.cons 12 (.pointer (some ⟨p164, 0, none⟩)) (.cons 13 (.slice A177 ((Spec.namesF cl).length) c178) (.cons 14 (.slice A188 ((Spec.namesF cl).length) c189) (.cons 15 (.int .i64 0) .nil)))))) (by repeat (first | exact Up.done | refine Up.then ?_ | refine Up.inBlock ?_)) rfl ?_
    refine aw_iter (α := Nat × Heap) (fun a => (Spec.namesF cl).length - a.1) (fun a => (.cons 11 (.pointer (some ⟨p153, 0, none⟩)) (.cons 12 (.pointer (some ⟨p164, 0, none⟩)) (.cons 13 (.slice A177 ((Spec.namesF cl).length) c178) (.cons 14 (.slice A188 ((Spec.namesF cl).length) c189) (.cons 15 (.int .i64 (a.1 : Int)) .nil)))))) (fun a => a.2) (fun a => (a.1 ≤ (Spec.namesF cl).length) ∧ (Ext H186 a.2)) (0, H186) ⟨(show 0 ≤ (Spec.namesF cl).length from Nat.zero_le _), (show Ext H186 H186 from (Ext.refl H186))⟩ ?_
    rintro ⟨j, Hl193⟩ ⟨hj, hxl194⟩ ih195
    replace hj : j ≤ (Spec.namesF cl).length := hj
    replace hxl194 : Ext H186 Hl193 := hxl194
    show aw _ _ _ (RL _ (.cons 11 (.pointer (some ⟨p153, 0, none⟩)) (.cons 12 (.pointer (some ⟨p164, 0, none⟩)) (.cons 13 (.slice A177 ((Spec.namesF cl).length) c178) (.cons 14 (.slice A188 ((Spec.namesF cl).length) c189) (.cons 15 (.int .i64 (j : Int)) .nil)))))) Hl193 _
    have Hl193n : H186.next ≤ Hl193.next := hxl194.1
    iterate 2 refine aw_seq ?_
    refine aw_reg ?_
    iterate 2 refine st_op (ev_move rfl) rfl rfl rfl ?_
    refine st_op (ev_lenSl rfl Try.underlying33) rfl rfl rfl ?_
    refine st_op (ev_int rfl rfl rfl) rfl rfl rfl ?_
    try show aw _ _ _ _ _ _
    by_cases hc196 : (decide ((j : Int) < ((Spec.namesF cl).length : Int))) = true
    ·
     refine aw_condT hc196 rfl ?_
     try show aw _ _ _ _ _ _
     have hc196 := of_decide_eq_true hc196
     refine aw_skip ?_
     try show aw _ _ _ _ _ _
     refine aw_seq ?_
     refine aw_block ?_
     refine aw_seq ?_
     refine aw_reg ?_
     iterate 3 refine st_op (ev_move rfl) rfl rfl rfl ?_
     have hx198 : Ext H175 Hl193 := (Ext.trans hx191 hxl194)
     have h197 := My.ext hm179 hx198
     have hi199 : 0 ≤ ((j : Int) : Int) := by omega
     have hi200 : ((j : Int) : Int) < (((Spec.namesF cl).length : Nat) : Int) := by first | omega | (simp only [List.length_append, List.length_cons, List.length_nil, List.length_map, List.length_set, List.length_replicate, Spec.bytesOf_length]; omega) | (simp; omega)
     obtain ⟨x201, hx202⟩ : ∃ e, (Spec.namesF cl)[j]? = some e := ⟨_, List.getElem?_eq_getElem (by first | omega | (simp only [List.length_append, List.length_cons, List.length_nil, List.length_map, List.length_set, List.length_replicate, Spec.bytesOf_length]; omega) | (simp; omega))⟩
     have hx204 : Ext H161 Hl193 := (Ext.trans (Ext.trans hx180 hx191) hxl194)
     have h203 := DiskR.ext h170 hx204
     have x201s := name_size (DiskR.name_of h203 hx202)
     refine st_op (ev_at rfl rfl (My.row h197) (getMap strC hx202) (by first | rfl | omega | simp) hi199 hi200 el33) rfl rfl rfl ?_
     refine st_op (ev_atL rfl (My.row h197) (getMap strC hx202) one9 rfl) rfl rfl rfl ?_
     refine st_call rfl rfl rfl ent16 rfl rfl rfl ?_
     have hS205 := disk_Read_spec Hl193 p153 D154 cl 0 ⟨_, _, h203⟩ (by omega) x201 (by first | omega | decide | assumption)
     obtain ⟨_, H206, hs207, A209, c210, rfl, hm211, hb212, hl213, hx208⟩ := hS205
     refine ⟨_, H206, hs207, ?_⟩
     have H206n : Hl193.next ≤ H206.next := hx208.1
     refine st_op (ev_move rfl) rfl rfl rfl ?_
     iterate 2 refine st_op (ev_extract rfl rfl) rfl rfl rfl ?_
     iterate 2 refine st_op (ev_assign rfl) rfl rfl rfl ?_
     try show aw _ _ _ _ _ _
     refine aw_seq ?_
     refine aw_reg ?_
     iterate 3 refine st_op (ev_move rfl) rfl rfl rfl ?_
     have hx215 : Ext H186 H206 := (Ext.trans hxl194 hx208)
     have h214 := My.ext hm190 hx215
     have hi216 : 0 ≤ ((j : Int) : Int) := by omega
     have hi217 : ((j : Int) : Int) < (((Spec.namesF cl).length : Nat) : Int) := by first | omega | (simp only [List.length_append, List.length_cons, List.length_nil, List.length_map, List.length_set, List.length_replicate, Spec.bytesOf_length]; omega) | (simp; omega)
     refine st_op (ev_at rfl rfl (My.row h214) (getMap strC hx202) (by first | rfl | omega | simp) hi216 hi217 el33) rfl rfl rfl ?_
     refine st_op (ev_atL rfl (My.row h214) (getMap strC hx202) one9 rfl) rfl rfl rfl ?_
     refine st_call rfl rfl rfl ent16 rfl rfl rfl ?_
     have hx219 : Ext H175 H206 := (Ext.trans hx198 hx208)
     have h218 := DiskR.ext h181 hx219
     have hS220 := disk_Read_spec H206 p164 D165 cl 0 ⟨_, _, h218⟩ (by omega) x201 (by first | omega | decide | assumption)
     obtain ⟨_, H221, hs222, A224, c225, rfl, hm226, hb227, hl228, hx223⟩ := hS220
     refine ⟨_, H221, hs222, ?_⟩
     have H221n : H206.next ≤ H221.next := hx223.1
     refine st_op (ev_move rfl) rfl rfl rfl ?_
     iterate 2 refine st_op (ev_extract rfl rfl) rfl rfl rfl ?_
     iterate 2 refine st_op (ev_assign rfl) rfl rfl rfl ?_
     try show aw _ _ _ _ _ _
     refine aw_seq ?_
     refine aw_marks (fun b => b < H221.next) [(false, false), (false, false), (false, false), (false, false), (false, false), (false, false), (false, false), (false, false), (false, false), (false, false), (false, false), (false, false), (false, false), (false, false), (false, false), (false, false), (false, false), (false, false), (false, false), (false, false), (false, false), (false, false), (false, false), (false, false), (false, false)] mixed (by kernel_rfl) (by kernel_rfl) ?_
     iterate 2 refine sm_op (ev_move rfl) rfl rfl rfl ?_
     have hx230 : Ext Hl193 H221 := (Ext.trans hx208 hx223)
     have h229 := My.ext h197 hx230
     have hi231 : 0 ≤ ((j : Int) : Int) := by omega
     have hi232 : ((j : Int) : Int) < (((Spec.namesF cl).length : Nat) : Int) := by first | omega | (simp only [List.length_append, List.length_cons, List.length_nil, List.length_map, List.length_set, List.length_replicate, Spec.bytesOf_length]; omega) | (simp; omega)
     refine sm_op (ev_at rfl rfl (My.row h229) (getMap strC hx202) (by first | rfl | omega | simp) hi231 hi232 el33) rfl rfl rfl ?_
     refine sm_op (ev_atL rfl (My.row h229) (getMap strC hx202) one9 rfl) rfl rfl rfl ?_
     iterate 2 refine sm_op (ev_move rfl) rfl rfl rfl ?_
     have h233 := My.ext h214 hx223
     have hi234 : 0 ≤ ((j : Int) : Int) := by omega
     have hi235 : ((j : Int) : Int) < (((Spec.namesF cl).length : Nat) : Int) := by first | omega | (simp only [List.length_append, List.length_cons, List.length_nil, List.length_map, List.length_set, List.length_replicate, Spec.bytesOf_length]; omega) | (simp; omega)
     refine sm_op (ev_at rfl rfl (My.row h233) (getMap strC hx202) (by first | rfl | omega | simp) hi234 hi235 el33) rfl rfl rfl ?_
     refine sm_op (ev_atL rfl (My.row h233) (getMap strC hx202) one9 rfl) rfl rfl rfl ?_
     refine sm_op (ev_str rfl rfl rfl) rfl rfl rfl ?_
     refine sm_op (ev_move rfl) rfl rfl rfl ?_
     refine sm_bool 118 rfl (fun hb236 => ?_) (fun hb236 => ?_)
     ·
      replace hb236 : ((x201).toList == (x201).toList) = false := by rw [Bool.not_eq_true'] at hb236; exact hb236
      have hb236 := ne_of_beq_false hb236
      exact absurd rfl hb236
     ·
      replace hb236 : ((x201).toList == (x201).toList) = true := by rw [Bool.not_eq_false'] at hb236; exact hb236
      have hb236 := eq_of_beq hb236
      refine sm_op (ev_move rfl) rfl rfl rfl ?_
      have h237 := My.ext hm211 hx223
      refine sm_op (ev_strOf (l := (Spec.readF cl x201).1) (A := A209) (c := c210) slu8_26 isstr_9 rfl (My.anil h237) (My.row h237)) rfl rfl rfl ?_
      refine sm_op (ev_move rfl) rfl rfl rfl ?_
      refine sm_op (ev_strOf (l := (Spec.readF cl x201).1) (A := A224) (c := c225) slu8_26 isstr_9 rfl (My.anil hm226) (My.row hm226)) rfl rfl rfl ?_
      refine sm_op (ev_str rfl rfl rfl) rfl rfl rfl ?_
      refine sm_op (ev_pickF rfl rfl) rfl rfl rfl ?_
      refine sm_op (ev_move rfl) rfl rfl rfl ?_
      refine sm_bool 125 rfl (fun hb238 => ?_) (fun hb238 => ?_)
      ·
       replace hb238 : (((strOfNums ((Spec.readF cl x201).1))).toList == ((strOfNums ((Spec.readF cl x201).1))).toList) = false := by rw [Bool.not_eq_true'] at hb238; exact hb238
       have hb238 := ne_of_beq_false hb238
       exact absurd rfl hb238
      ·
       replace hb238 : (((strOfNums ((Spec.readF cl x201).1))).toList == ((strOfNums ((Spec.readF cl x201).1))).toList) = true := by rw [Bool.not_eq_false'] at hb238; exact hb238
       have hb238 := eq_of_beq hb238
       iterate 3 refine sm_op (ev_move rfl) rfl rfl rfl ?_
       have hi239 : 0 ≤ ((j : Int) : Int) := by omega
       have hi240 : ((j : Int) : Int) < (((Spec.namesF cl).length : Nat) : Int) := by first | omega | (simp only [List.length_append, List.length_cons, List.length_nil, List.length_map, List.length_set, List.length_replicate, Spec.bytesOf_length]; omega) | (simp; omega)
       refine sm_op (ev_at rfl rfl (My.row h229) (getMap strC hx202) (by first | rfl | omega | simp) hi239 hi240 el33) rfl rfl rfl ?_
       refine sm_op (ev_atL rfl (My.row h229) (getMap strC hx202) one9 rfl) rfl rfl rfl ?_
       refine sm_call rfl rfl rfl ent17 rfl rfl rfl ?_
       have h241 := DiskR.ext h203 hx230
       have hS242 := disk_Loose_spec H221 p153 D154 cl 0 ⟨_, _, h241⟩ (by omega) x201 (by first | omega | decide | assumption)
       obtain ⟨_, H243, hs244, rfl, hq246, hq247, hx245⟩ := hS242
       refine ⟨_, H243, hs244, (fun h => nomatch h), ?_⟩
       have H243n : H221.next ≤ H243.next := hx245.1
       refine sm_op (ev_int rfl rfl rfl) rfl rfl rfl ?_
       refine sm_op (ev_pickF rfl rfl) rfl rfl rfl ?_
       try show aw _ _ _ _ _ _
       by_cases hc248 : ((Spec.looseF cl x201) != 0) = true
       ·
        refine aw_condT hc248 rfl ?_
        try show aw _ _ _ _ _ _
        exact absurd hc248 (by rw [Spec.whole_loose hw]; decide)
       ·
        rw [Bool.not_eq_true] at hc248; refine aw_condF hc248 rfl ?_
        try show aw _ _ _ _ _ _
        have hc248 : ((Spec.looseF cl x201) = 0) := by simpa using hc248
        refine aw_skip ?_
        try show aw _ _ _ _ _ _
        refine aw_reg ?_
        refine st_op (ev_move rfl) rfl rfl rfl ?_
        refine st_op (ev_int64 (c := (j : Int) + 1) rfl rfl rfl (by omega) (by omega)) rfl rfl rfl ?_
        refine st_op (ev_assign rfl) rfl rfl rfl ?_
        try show aw _ _ _ _ _ _
        have hx249 : Ext H186 H243 := (Ext.trans (Ext.trans hx215 hx223) hx245)
        refine aw_keep [11, 12, 13, 14, 15] (l' := (.cons 11 (.pointer (some ⟨p153, 0, none⟩)) (.cons 12 (.pointer (some ⟨p164, 0, none⟩)) (.cons 13 (.slice A177 ((Spec.namesF cl).length) c178) (.cons 14 (.slice A188 ((Spec.namesF cl).length) c189) (.cons 15 (.int .i64 ((j : Int) + 1)) .nil)))))) (by repeat (first | exact Up.done | refine Up.then ?_ | refine Up.inBlock ?_)) rfl ?_
        exact ih195 (j + 1, H243) ⟨(show (j + 1) ≤ (Spec.namesF cl).length from (by omega)), (show Ext H186 H243 from hx249)⟩ (by simp only; omega)
    ·
     rw [Bool.not_eq_true] at hc196; refine aw_condF hc196 rfl ?_
     try show aw _ _ _ _ _ _
     have hc196 := of_decide_eq_false hc196
     refine aw_exit ?_
     try show aw _ _ _ _ _ _
     refine aw_seq ?_
     refine aw_reg ?_
     refine st_op (ev_assign rfl) rfl rfl rfl ?_
     try show aw _ _ _ _ _ _
     refine aw_ret ?_
     have hx250 : Ext H Hl193 := (Ext.trans (Ext.trans (Ext.trans (Ext.trans (Ext.trans (Ext.then (Ext.trans hx3 hx10) hxl17 (fun q hq e => by (first | omega | (replace e := hD9 _ e.1; omega)))) hx152) hx163) hx180) hx191) hxl194)
     have hres : true = true := by rfl
     exact ⟨.bool true, rfl, by first | (rw [hres]; done) | rw [← hres], hx250⟩
 ·
  have hb20 := of_decide_eq_false hb20
  iterate 2 refine st_skip rfl rfl rfl ?_
  refine st_op (ev_pickF rfl rfl) rfl rfl rfl ?_
  try show aw _ _ _ _ _ _
  refine aw_cond (t := false) rfl ?_
  try show aw _ _ _ _ _ _
  refine aw_exit ?_
  try show aw _ _ _ _ _ _
  refine aw_seq ?_
  refine aw_reg ?_
  iterate 2 refine st_op (ev_move rfl) rfl rfl rfl ?_
  refine st_call rfl rfl rfl ent14 rfl rfl rfl ?_
  have hS251 := disk_CrashR_spec Hl14 d6 mb2 D2 (Spec.runT (ops.take i)) ps2 kq hr15 (by omega) (by omega) n
  obtain ⟨_, H252, hs253, p255, D256, rfl, ⟨mb257, ps258, hr259⟩, hD260, hx254⟩ := hS251
  refine ⟨_, H252, hs253, ?_⟩
  have H252n : Hl14.next ≤ H252.next := hx254.1
  have h261 := DiskR.ext hr15 hx254
  have hin := DiskR.inB h261; have hnd := h261.nodup
  have hclen := Spec.crash_len (Spec.runT (ops.take i)) n; have hw := Spec.crash_whole (n := n) hin; have hcc := Spec.crash_crash (n := n) (m := m) hin hnd
  obtain ⟨cl, hcl⟩ : ∃ l_, l_ = (Spec.crashF (Spec.runT (ops.take i)) n) := ⟨_, rfl⟩
  rw [← hcl] at hr259 hclen hw hcc
  refine st_op (ev_assign rfl) rfl rfl rfl ?_
  try show aw _ _ _ _ _ _
  refine aw_seq ?_
  refine aw_reg ?_
  iterate 2 refine st_op (ev_move rfl) rfl rfl rfl ?_
  refine st_call rfl rfl rfl ent14 rfl rfl rfl ?_
  have hS262 := disk_CrashR_spec H252 p255 mb257 D256 cl ps258 0 hr259 (by omega) (by omega) m
  obtain ⟨_, H263, hs264, p266, D267, rfl, ⟨mb268, ps269, hr270⟩, hD271, hx265⟩ := hS262
  refine ⟨_, H263, hs264, ?_⟩
  have H263n : H252.next ≤ H263.next := hx265.1
  have h272 := DiskR.ext hr259 hx265
  rw [hcc] at hr270
  refine st_op (ev_assign rfl) rfl rfl rfl ?_
  try show aw _ _ _ _ _ _
  refine aw_seq ?_
  refine aw_reg ?_
  refine st_op (ev_move rfl) rfl rfl rfl ?_
  refine st_call rfl rfl rfl ent15 rfl rfl rfl ?_
  obtain ⟨_, H277, hs278, A279, c280, rfl, hm281, hx282⟩ := disk_NamesR_spec H263 p255 mb257 D256 cl ps258 0 h272 (by omega) (by omega)
  refine ⟨_, H277, hs278, ?_⟩
  have H277n : H263.next ≤ H277.next := hx282.1
  have A279n := Spec.names_length cl
  refine st_op (ev_move rfl) rfl rfl rfl ?_
  refine st_call rfl rfl rfl ent15 rfl rfl rfl ?_
  have h283 := DiskR.ext hr270 hx282
  obtain ⟨_, H288, hs289, A290, c291, rfl, hm292, hx293⟩ := disk_NamesR_spec H277 p266 mb268 D267 cl ps269 0 h283 (by omega) (by omega)
  refine ⟨_, H288, hs289, ?_⟩
  have H288n : H277.next ≤ H288.next := hx293.1
  have A290n := Spec.names_length cl
  iterate 2 refine st_op (ev_assign rfl) rfl rfl rfl ?_
  try show aw _ _ _ _ _ _
  iterate 2 refine aw_seq ?_
  refine aw_reg ?_
  refine st_op (ev_move rfl) rfl rfl rfl ?_
  refine st_op (ev_lenSl rfl Try.underlying33) rfl rfl rfl ?_
  refine st_op (ev_move rfl) rfl rfl rfl ?_
  refine st_op (ev_lenSl rfl Try.underlying33) rfl rfl rfl ?_
  refine st_op (ev_int rfl rfl rfl) rfl rfl rfl ?_
  try show aw _ _ _ _ _ _
  by_cases hc294 : (((Spec.namesF cl).length : Int) != ((Spec.namesF cl).length : Int)) = true
  ·
   refine aw_condT hc294 rfl ?_
   try show aw _ _ _ _ _ _
   exact absurd hc294 (by simp)
  ·
   rw [Bool.not_eq_true] at hc294; refine aw_condF hc294 rfl ?_
   try show aw _ _ _ _ _ _
   have hc294 : (((Spec.namesF cl).length : Int) = ((Spec.namesF cl).length : Int)) := by simpa using hc294
   refine aw_skip ?_
   try show aw _ _ _ _ _ _
   iterate 2 refine aw_seq ?_
   refine aw_reg ?_
   refine st_op (ev_assign rfl) rfl rfl rfl ?_
   try show aw _ _ _ _ _ _
   refine aw_block ?_
   refine aw_keep [11, 12, 13, 14, 15] (l' := (.cons 11 (.pointer (some ⟨p255, 0, none⟩)) (.cons 12 (.pointer (some ⟨p266, 0, none⟩)) (.cons 13 (.slice A279 ((Spec.namesF cl).length) c280) (.cons 14 (.slice A290 ((Spec.namesF cl).length) c291) (.cons 15 (.int .i64 0) .nil)))))) (by repeat (first | exact Up.done | refine Up.then ?_ | refine Up.inBlock ?_)) rfl ?_
   refine aw_iter (α := Nat × Heap) (fun a => (Spec.namesF cl).length - a.1) (fun a => (.cons 11 (.pointer (some ⟨p255, 0, none⟩)) (.cons 12 (.pointer (some ⟨p266, 0, none⟩)) (.cons 13 (.slice A279 ((Spec.namesF cl).length) c280) (.cons 14 (.slice A290 ((Spec.namesF cl).length) c291) (.cons 15 (.int .i64 (a.1 : Int)) .nil)))))) (fun a => a.2) (fun a => (a.1 ≤ (Spec.namesF cl).length) ∧ (Ext H288 a.2)) (0, H288) ⟨(show 0 ≤ (Spec.namesF cl).length from Nat.zero_le _), (show Ext H288 H288 from (Ext.refl H288))⟩ ?_
   rintro ⟨j, Hl295⟩ ⟨hj, hxl296⟩ ih297
   replace hj : j ≤ (Spec.namesF cl).length := hj
   replace hxl296 : Ext H288 Hl295 := hxl296
   show aw _ _ _ (RL _ (.cons 11 (.pointer (some ⟨p255, 0, none⟩)) (.cons 12 (.pointer (some ⟨p266, 0, none⟩)) (.cons 13 (.slice A279 ((Spec.namesF cl).length) c280) (.cons 14 (.slice A290 ((Spec.namesF cl).length) c291) (.cons 15 (.int .i64 (j : Int)) .nil)))))) Hl295 _
   have Hl295n : H288.next ≤ Hl295.next := hxl296.1
   iterate 2 refine aw_seq ?_
   refine aw_reg ?_
   iterate 2 refine st_op (ev_move rfl) rfl rfl rfl ?_
   refine st_op (ev_lenSl rfl Try.underlying33) rfl rfl rfl ?_
   refine st_op (ev_int rfl rfl rfl) rfl rfl rfl ?_
   try show aw _ _ _ _ _ _
   by_cases hc298 : (decide ((j : Int) < ((Spec.namesF cl).length : Int))) = true
   ·
    refine aw_condT hc298 rfl ?_
    try show aw _ _ _ _ _ _
    have hc298 := of_decide_eq_true hc298
    refine aw_skip ?_
    try show aw _ _ _ _ _ _
    refine aw_seq ?_
    refine aw_block ?_
    refine aw_seq ?_
    refine aw_reg ?_
    iterate 3 refine st_op (ev_move rfl) rfl rfl rfl ?_
    have hx300 : Ext H277 Hl295 := (Ext.trans hx293 hxl296)
    have h299 := My.ext hm281 hx300
    have hi301 : 0 ≤ ((j : Int) : Int) := by omega
    have hi302 : ((j : Int) : Int) < (((Spec.namesF cl).length : Nat) : Int) := by first | omega | (simp only [List.length_append, List.length_cons, List.length_nil, List.length_map, List.length_set, List.length_replicate, Spec.bytesOf_length]; omega) | (simp; omega)
    obtain ⟨x303, hx304⟩ : ∃ e, (Spec.namesF cl)[j]? = some e := ⟨_, List.getElem?_eq_getElem (by first | omega | (simp only [List.length_append, List.length_cons, List.length_nil, List.length_map, List.length_set, List.length_replicate, Spec.bytesOf_length]; omega) | (simp; omega))⟩
    have hx306 : Ext H263 Hl295 := (Ext.trans (Ext.trans hx282 hx293) hxl296)
    have h305 := DiskR.ext h272 hx306
    have x303s := name_size (DiskR.name_of h305 hx304)
    refine st_op (ev_at rfl rfl (My.row h299) (getMap strC hx304) (by first | rfl | omega | simp) hi301 hi302 el33) rfl rfl rfl ?_
    refine st_op (ev_atL rfl (My.row h299) (getMap strC hx304) one9 rfl) rfl rfl rfl ?_
    refine st_call rfl rfl rfl ent16 rfl rfl rfl ?_
    have hS307 := disk_Read_spec Hl295 p255 D256 cl 0 ⟨_, _, h305⟩ (by omega) x303 (by first | omega | decide | assumption)
    obtain ⟨_, H308, hs309, A311, c312, rfl, hm313, hb314, hl315, hx310⟩ := hS307
    refine ⟨_, H308, hs309, ?_⟩
    have H308n : Hl295.next ≤ H308.next := hx310.1
    refine st_op (ev_move rfl) rfl rfl rfl ?_
    iterate 2 refine st_op (ev_extract rfl rfl) rfl rfl rfl ?_
    iterate 2 refine st_op (ev_assign rfl) rfl rfl rfl ?_
    try show aw _ _ _ _ _ _
    refine aw_seq ?_
    refine aw_reg ?_
    iterate 3 refine st_op (ev_move rfl) rfl rfl rfl ?_
    have hx317 : Ext H288 H308 := (Ext.trans hxl296 hx310)
    have h316 := My.ext hm292 hx317
    have hi318 : 0 ≤ ((j : Int) : Int) := by omega
    have hi319 : ((j : Int) : Int) < (((Spec.namesF cl).length : Nat) : Int) := by first | omega | (simp only [List.length_append, List.length_cons, List.length_nil, List.length_map, List.length_set, List.length_replicate, Spec.bytesOf_length]; omega) | (simp; omega)
    refine st_op (ev_at rfl rfl (My.row h316) (getMap strC hx304) (by first | rfl | omega | simp) hi318 hi319 el33) rfl rfl rfl ?_
    refine st_op (ev_atL rfl (My.row h316) (getMap strC hx304) one9 rfl) rfl rfl rfl ?_
    refine st_call rfl rfl rfl ent16 rfl rfl rfl ?_
    have hx321 : Ext H277 H308 := (Ext.trans hx300 hx310)
    have h320 := DiskR.ext h283 hx321
    have hS322 := disk_Read_spec H308 p266 D267 cl 0 ⟨_, _, h320⟩ (by omega) x303 (by first | omega | decide | assumption)
    obtain ⟨_, H323, hs324, A326, c327, rfl, hm328, hb329, hl330, hx325⟩ := hS322
    refine ⟨_, H323, hs324, ?_⟩
    have H323n : H308.next ≤ H323.next := hx325.1
    refine st_op (ev_move rfl) rfl rfl rfl ?_
    iterate 2 refine st_op (ev_extract rfl rfl) rfl rfl rfl ?_
    iterate 2 refine st_op (ev_assign rfl) rfl rfl rfl ?_
    try show aw _ _ _ _ _ _
    refine aw_seq ?_
    refine aw_marks (fun b => b < H323.next) [(false, false), (false, false), (false, false), (false, false), (false, false), (false, false), (false, false), (false, false), (false, false), (false, false), (false, false), (false, false), (false, false), (false, false), (false, false), (false, false), (false, false), (false, false), (false, false), (false, false), (false, false), (false, false), (false, false), (false, false), (false, false)] mixed (by kernel_rfl) (by kernel_rfl) ?_
    iterate 2 refine sm_op (ev_move rfl) rfl rfl rfl ?_
    have hx332 : Ext Hl295 H323 := (Ext.trans hx310 hx325)
    have h331 := My.ext h299 hx332
    have hi333 : 0 ≤ ((j : Int) : Int) := by omega
    have hi334 : ((j : Int) : Int) < (((Spec.namesF cl).length : Nat) : Int) := by first | omega | (simp only [List.length_append, List.length_cons, List.length_nil, List.length_map, List.length_set, List.length_replicate, Spec.bytesOf_length]; omega) | (simp; omega)
    refine sm_op (ev_at rfl rfl (My.row h331) (getMap strC hx304) (by first | rfl | omega | simp) hi333 hi334 el33) rfl rfl rfl ?_
    refine sm_op (ev_atL rfl (My.row h331) (getMap strC hx304) one9 rfl) rfl rfl rfl ?_
    iterate 2 refine sm_op (ev_move rfl) rfl rfl rfl ?_
    have h335 := My.ext h316 hx325
    have hi336 : 0 ≤ ((j : Int) : Int) := by omega
    have hi337 : ((j : Int) : Int) < (((Spec.namesF cl).length : Nat) : Int) := by first | omega | (simp only [List.length_append, List.length_cons, List.length_nil, List.length_map, List.length_set, List.length_replicate, Spec.bytesOf_length]; omega) | (simp; omega)
    refine sm_op (ev_at rfl rfl (My.row h335) (getMap strC hx304) (by first | rfl | omega | simp) hi336 hi337 el33) rfl rfl rfl ?_
    refine sm_op (ev_atL rfl (My.row h335) (getMap strC hx304) one9 rfl) rfl rfl rfl ?_
    refine sm_op (ev_str rfl rfl rfl) rfl rfl rfl ?_
    refine sm_op (ev_move rfl) rfl rfl rfl ?_
    refine sm_bool 118 rfl (fun hb338 => ?_) (fun hb338 => ?_)
    ·
     replace hb338 : ((x303).toList == (x303).toList) = false := by rw [Bool.not_eq_true'] at hb338; exact hb338
     have hb338 := ne_of_beq_false hb338
     exact absurd rfl hb338
    ·
     replace hb338 : ((x303).toList == (x303).toList) = true := by rw [Bool.not_eq_false'] at hb338; exact hb338
     have hb338 := eq_of_beq hb338
     refine sm_op (ev_move rfl) rfl rfl rfl ?_
     have h339 := My.ext hm313 hx325
     refine sm_op (ev_strOf (l := (Spec.readF cl x303).1) (A := A311) (c := c312) slu8_26 isstr_9 rfl (My.anil h339) (My.row h339)) rfl rfl rfl ?_
     refine sm_op (ev_move rfl) rfl rfl rfl ?_
     refine sm_op (ev_strOf (l := (Spec.readF cl x303).1) (A := A326) (c := c327) slu8_26 isstr_9 rfl (My.anil hm328) (My.row hm328)) rfl rfl rfl ?_
     refine sm_op (ev_str rfl rfl rfl) rfl rfl rfl ?_
     refine sm_op (ev_pickF rfl rfl) rfl rfl rfl ?_
     refine sm_op (ev_move rfl) rfl rfl rfl ?_
     refine sm_bool 125 rfl (fun hb340 => ?_) (fun hb340 => ?_)
     ·
      replace hb340 : (((strOfNums ((Spec.readF cl x303).1))).toList == ((strOfNums ((Spec.readF cl x303).1))).toList) = false := by rw [Bool.not_eq_true'] at hb340; exact hb340
      have hb340 := ne_of_beq_false hb340
      exact absurd rfl hb340
     ·
      replace hb340 : (((strOfNums ((Spec.readF cl x303).1))).toList == ((strOfNums ((Spec.readF cl x303).1))).toList) = true := by rw [Bool.not_eq_false'] at hb340; exact hb340
      have hb340 := eq_of_beq hb340
      iterate 3 refine sm_op (ev_move rfl) rfl rfl rfl ?_
      have hi341 : 0 ≤ ((j : Int) : Int) := by omega
      have hi342 : ((j : Int) : Int) < (((Spec.namesF cl).length : Nat) : Int) := by first | omega | (simp only [List.length_append, List.length_cons, List.length_nil, List.length_map, List.length_set, List.length_replicate, Spec.bytesOf_length]; omega) | (simp; omega)
      refine sm_op (ev_at rfl rfl (My.row h331) (getMap strC hx304) (by first | rfl | omega | simp) hi341 hi342 el33) rfl rfl rfl ?_
      refine sm_op (ev_atL rfl (My.row h331) (getMap strC hx304) one9 rfl) rfl rfl rfl ?_
      refine sm_call rfl rfl rfl ent17 rfl rfl rfl ?_
      have h343 := DiskR.ext h305 hx332
      have hS344 := disk_Loose_spec H323 p255 D256 cl 0 ⟨_, _, h343⟩ (by omega) x303 (by first | omega | decide | assumption)
      obtain ⟨_, H345, hs346, rfl, hq348, hq349, hx347⟩ := hS344
      refine ⟨_, H345, hs346, (fun h => nomatch h), ?_⟩
      have H345n : H323.next ≤ H345.next := hx347.1
      refine sm_op (ev_int rfl rfl rfl) rfl rfl rfl ?_
      refine sm_op (ev_pickF rfl rfl) rfl rfl rfl ?_
      try show aw _ _ _ _ _ _
      by_cases hc350 : ((Spec.looseF cl x303) != 0) = true
      ·
       refine aw_condT hc350 rfl ?_
       try show aw _ _ _ _ _ _
       exact absurd hc350 (by rw [Spec.whole_loose hw]; decide)
      ·
       rw [Bool.not_eq_true] at hc350; refine aw_condF hc350 rfl ?_
       try show aw _ _ _ _ _ _
       have hc350 : ((Spec.looseF cl x303) = 0) := by simpa using hc350
       refine aw_skip ?_
       try show aw _ _ _ _ _ _
       refine aw_reg ?_
       refine st_op (ev_move rfl) rfl rfl rfl ?_
       refine st_op (ev_int64 (c := (j : Int) + 1) rfl rfl rfl (by omega) (by omega)) rfl rfl rfl ?_
       refine st_op (ev_assign rfl) rfl rfl rfl ?_
       try show aw _ _ _ _ _ _
       have hx351 : Ext H288 H345 := (Ext.trans (Ext.trans hx317 hx325) hx347)
       refine aw_keep [11, 12, 13, 14, 15] (l' := (.cons 11 (.pointer (some ⟨p255, 0, none⟩)) (.cons 12 (.pointer (some ⟨p266, 0, none⟩)) (.cons 13 (.slice A279 ((Spec.namesF cl).length) c280) (.cons 14 (.slice A290 ((Spec.namesF cl).length) c291) (.cons 15 (.int .i64 ((j : Int) + 1)) .nil)))))) (by repeat (first | exact Up.done | refine Up.then ?_ | refine Up.inBlock ?_)) rfl ?_
       exact ih297 (j + 1, H345) ⟨(show (j + 1) ≤ (Spec.namesF cl).length from (by omega)), (show Ext H288 H345 from hx351)⟩ (by simp only; omega)
   ·
    rw [Bool.not_eq_true] at hc298; refine aw_condF hc298 rfl ?_
    try show aw _ _ _ _ _ _
    have hc298 := of_decide_eq_false hc298
    refine aw_exit ?_
    try show aw _ _ _ _ _ _
    refine aw_seq ?_
    refine aw_reg ?_
    refine st_op (ev_assign rfl) rfl rfl rfl ?_
    try show aw _ _ _ _ _ _
    refine aw_ret ?_
    have hx352 : Ext H Hl295 := (Ext.trans (Ext.trans (Ext.trans (Ext.trans (Ext.trans (Ext.then (Ext.trans hx3 hx10) hxl17 (fun q hq e => by (first | omega | (replace e := hD9 _ e.1; omega)))) hx254) hx265) hx282) hx293) hxl296)
    have hres : true = true := by rfl
    exact ⟨.bool true, rfl, by first | (rw [hres]; done) | rw [← hres], hx352⟩

end Go.AM
