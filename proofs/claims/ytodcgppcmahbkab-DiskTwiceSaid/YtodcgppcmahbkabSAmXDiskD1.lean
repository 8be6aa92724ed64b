/- Part of a machine of its own for this claim: the program's code over memory without draws. -/
import Derived.Test.YtodcgppcmahbkabSAmPDisk4
import Derived.Test.YtodcgppcmahbkabSAmPDel
import Derived.Test.YtodcgppcmahbkabSAmD
import Derived.Test.YtodcgppcmahbkabSAmE
import Derived.Test.YtodcgppcmahbkabProg
import Derived.KernelRfl
set_option linter.unusedVariables false
set_option linter.unusedSimpArgs false
set_option linter.unnecessarySimpa false
set_option linter.unusedVariables false
set_option linter.unusedSimpArgs false
set_option linter.unnecessarySimpa false
namespace Go.AM
open Go Go.Proofs

noncomputable def E0 : TypeId → Bool := eqTy Try.prog
theorem E0_ok : EqOk Try.prog E0 := eqTy_ok
theorem mixed : Try.prog.follows .mixedOrders = true := by kernel_rfl

theorem ElemInfo.mk5 : ∃ i, Try.prog.info? 5 = some i ∧ i.size = 1 ∧ i.bytes = 1 ∧ (i.zero.map fun z => z.cells.size) = some 1 := elemInfo (by kernel_rfl)
theorem zf5 : ∃ i z, Try.prog.info? 5 = some i ∧ i.zero = some z ∧ z.cells.toList.all flat = true := zeroFlat (by kernel_rfl)
theorem el26 : elemIs Try.prog 26 1 = true := by kernel_rfl
theorem el33 : elemIs Try.prog 33 1 = true := by kernel_rfl
theorem ent10 : enters Try.prog 10 = true := by kernel_rfl
theorem ent11 : enters Try.prog 11 = true := by kernel_rfl
theorem ent12 : enters Try.prog 12 = true := by kernel_rfl
theorem ent13 : enters Try.prog 13 = true := by kernel_rfl
theorem ent14 : enters Try.prog 14 = true := by kernel_rfl
theorem ent15 : enters Try.prog 15 = true := by kernel_rfl
theorem ent16 : enters Try.prog 16 = true := by kernel_rfl
theorem ent17 : enters Try.prog 17 = true := by kernel_rfl
theorem ent31 : enters Try.prog 31 = true := by kernel_rfl
theorem ent32 : enters Try.prog 32 = true := by kernel_rfl
theorem ent33 : enters Try.prog 33 = true := by kernel_rfl
theorem ent34 : enters Try.prog 34 = true := by kernel_rfl
theorem ent35 : enters Try.prog 35 = true := by kernel_rfl
theorem eok26 : ElemOk Try.prog 26 5 1 1 := ⟨Try.underlying26, ElemInfo.mk5⟩
theorem fa77_0 : fieldIs Try.prog 77 0 0 = true := by kernel_rfl
theorem fa77_1 : fieldIs Try.prog 77 1 1 = true := by kernel_rfl
theorem fa81_0 : fieldIs Try.prog 81 0 0 = true := by kernel_rfl
theorem fa81_1 : fieldIs Try.prog 81 1 1 = true := by kernel_rfl
theorem fa81_2 : fieldIs Try.prog 81 2 2 = true := by kernel_rfl
theorem isrow26 : isRow Try.prog (some 26) = true := by kernel_rfl
theorem isstr_9 : isStr Try.prog 9 = true := by kernel_rfl
theorem one26 : oneB Try.prog 26 = true := by kernel_rfl
theorem one3 : oneB Try.prog 3 = true := by kernel_rfl
theorem one4 : oneB Try.prog 4 = true := by kernel_rfl
theorem one75 : oneB Try.prog 75 = true := by kernel_rfl
theorem one9 : oneB Try.prog 9 = true := by kernel_rfl
theorem pl77 : placesOf Try.prog 77 = some [(0, 1), (1, 1)] := by kernel_rfl
theorem pl81 : placesOf Try.prog 81 = some [(0, 1), (1, 1), (2, 1)] := by kernel_rfl
theorem ptrMap75 : ptrMap Try.prog 75 = true := by kernel_rfl
theorem size26 : sizeIs Try.prog 26 1 = true := by kernel_rfl
theorem size3 : sizeIs Try.prog 3 1 = true := by kernel_rfl
theorem size4 : sizeIs Try.prog 4 1 = true := by kernel_rfl
theorem slu8_26 : slU8 Try.prog 26 = true := by kernel_rfl
theorem zero77 : ZeroIs Try.prog 77 [.map none, .int .i64 0] := ⟨.agg #[.map none, .int .i64 0], by kernel_rfl, rfl, rfl, rfl⟩
theorem zero81 : ZeroIs Try.prog 81 [.slice none 0 0, .int .i64 0, .bool false] := ⟨.agg #[.slice none 0 0, .int .i64 0, .bool false], by kernel_rfl, rfl, rfl, rfl⟩
theorem disk_NewR_spec (H : Heap)  : ∃ v H', Spec Try.prog 10 [] H v H' ∧ (∃ b7 b1, (v = .pointer (some ⟨b7, 0, none⟩)) ∧ (H.next ≤ b7 ∧ b7 < H'.next) ∧ (H'.blk b7 = some ⟨[.map (some b1), .int .i64 0], 0, false, false⟩) ∧ (H.next ≤ b1 ∧ b1 < H'.next ∧ b1 ≠ b7) ∧ (H'.blk b1 = some ⟨[], 0, false, true⟩) ∧ (Ext H H')) := by
 refine spec_go0 E0_ok 4 (f := 10) Try.func10 rfl rfl ?_
 refine aw_seq ?_
 refine aw_reg ?_
 refine st_op (ev_assign rfl) rfl rfl rfl ?_
 try show aw _ _ _ _ _ _
 refine aw_seq ?_
 refine aw_reg ?_
 obtain ⟨b1, H2, he3, b1e, H2n_, hB5, f4⟩ := mem_makeMap H ptrMap75
 refine st_op (he3 _ _ _ _ _ _ _) rfl rfl rfl ?_
 have hx6 : Ext H H2 := Ext.new (by omega) H2n_ f4
 have H2n : H.next ≤ H2.next := hx6.1
 refine st_op (ev_build zero77 pl77 (parts := [(0, .map (some b1))]) rfl (cs := [.map (some b1), .int .i64 0]) rfl) rfl rfl rfl ?_
 obtain ⟨b7, H8, he9, b7e, H8n_, hB11, f10⟩ := mem_box (P := Try.prog) H2 (v := .agg #[.map (some b1), .int .i64 0]) (cs := [.map (some b1), .int .i64 0]) rfl rfl
 refine st_op (he9 _ _ _ _ _ _ _ _ _ rfl) rfl rfl rfl ?_
 have hx12 : Ext H2 H8 := Ext.new (by omega) H8n_ f10
 have H8n : H2.next ≤ H8.next := hx12.1
 refine st_op (ev_assign rfl) rfl rfl rfl ?_
 try show aw _ _ _ _ _ _
 refine aw_ret ?_
 have h13 := Ext.blk hx12 (by omega) hB5
 have hx14 : Ext H H8 := (Ext.trans hx6 hx12)
 exact ⟨.pointer (some ⟨b7, 0, none⟩), rfl, b7, b1, rfl, ⟨by omega, by omega⟩, hB11, ⟨by omega, by omega, by omega⟩, h13, hx14⟩
theorem disk_may_spec (H : Heap) (nm : ByteArray) (hnm : nm.size ≤ 140737488355328) : ∃ v H', Spec Try.prog 32 [.string nm] H v H' ∧ ((v = .bool (Spec.nameF nm)) ∧ (Ext H H')) := by
 refine spec_go1 E0_ok 27 (f := 32) Try.func32 rfl rfl rfl ?_
 refine aw_seq ?_
 refine aw_reg ?_
 refine st_op (ev_assign rfl) rfl rfl rfl ?_
 try show aw _ _ _ _ _ _
 iterate 2 refine aw_seq ?_
 refine aw_reg ?_
 refine st_op (ev_move rfl) rfl rfl rfl ?_
 refine st_op (ev_lenStr rfl Try.underlying9) rfl rfl rfl ?_
 refine st_op (ev_move rfl) rfl rfl rfl ?_
 try show aw _ _ _ _ _ _
 refine aw_block ?_
 refine aw_keep [0, 5, 6] (l' := (.cons 0 (.string nm) (.cons 5 (.int .i64 ((nm).size : Int)) (.cons 6 (.int .i64 0) .nil)))) (by repeat (first | exact Up.done | refine Up.then ?_ | refine Up.inBlock ?_)) rfl ?_
 refine aw_iter (α := Nat × Heap) (fun a => nm.size - a.1) (fun a => (.cons 0 (.string nm) (.cons 5 (.int .i64 ((nm).size : Int)) (.cons 6 (.int .i64 (a.1 : Int)) .nil)))) (fun a => a.2) (fun a => (a.1 ≤ nm.size) ∧ (Spec.lowAll nm.data.toList = Spec.lowAll (nm.data.toList.drop a.1)) ∧ (Ext H a.2)) (0, H) ⟨(show 0 ≤ nm.size from Nat.zero_le _), (show Spec.lowAll nm.data.toList = Spec.lowAll (nm.data.toList.drop 0) from rfl), (show Ext H H from (Ext.refl H))⟩ ?_
 rintro ⟨i, Hl1⟩ ⟨hi, hv, hxl2⟩ ih3
 replace hi : i ≤ nm.size := hi
 replace hv : Spec.lowAll nm.data.toList = Spec.lowAll (nm.data.toList.drop i) := hv
 replace hxl2 : Ext H Hl1 := hxl2
 show aw _ _ _ (RL _ (.cons 0 (.string nm) (.cons 5 (.int .i64 ((nm).size : Int)) (.cons 6 (.int .i64 (i : Int)) .nil)))) Hl1 _
 have Hl1n : H.next ≤ Hl1.next := hxl2.1
 refine aw_seq ?_
 refine aw_reg ?_
 refine st_op (ev_int rfl rfl rfl) rfl rfl rfl ?_
 try show aw _ _ _ _ _ _
 refine aw_seq ?_
 by_cases hc4 : (decide ((i : Int) < ((nm).size : Int))) = true
 ·
  refine aw_condT hc4 rfl ?_
  try show aw _ _ _ _ _ _
  have hc4 := of_decide_eq_true hc4
  refine aw_skip ?_
  try show aw _ _ _ _ _ _
  refine aw_seq ?_
  refine aw_block ?_
  refine aw_seq ?_
  refine aw_reg ?_
  refine st_op (ev_move rfl) rfl rfl rfl ?_
  refine st_op (ev_assign rfl) rfl rfl rfl ?_
  try show aw _ _ _ _ _ _
  refine aw_seq ?_
  refine aw_reg ?_
  iterate 2 refine st_op (ev_move rfl) rfl rfl rfl ?_
  obtain ⟨y5, hy6⟩ : ∃ y, (nm).data.toList[i]? = some y := ⟨_, List.getElem?_eq_getElem (by simp; omega)⟩
  have y5t := y5.toNat_lt
  refine st_op (ev_ixStr Try.underlying9 rfl rfl (ba_get hy6)) rfl rfl rfl ?_
  refine st_op (ev_int rfl rfl rfl) rfl rfl rfl ?_
  refine st_op (ev_move rfl) rfl rfl rfl ?_
  refine st_bool 13 rfl (fun hb7 => ?_) (fun hb7 => ?_)
  ·
   have hb7 := of_decide_eq_true hb7
   iterate 4 refine st_skip rfl rfl rfl ?_
   refine st_op (ev_pickT rfl rfl) rfl rfl rfl ?_
   try show aw _ _ _ _ _ _
   refine aw_cond (t := true) rfl ?_
   try show aw _ _ _ _ _ _
   refine aw_seq ?_
   refine aw_reg ?_
   refine st_op (ev_assign rfl) rfl rfl rfl ?_
   try show aw _ _ _ _ _ _
   refine aw_ret ?_
   have hres : (Spec.nameF nm) = false := by rw [Spec.nameF, hv, drop_at hy6, Spec.low_fail (by omega)]; rfl
   exact ⟨.bool false, rfl, by first | (rw [hres]; done) | rw [← hres], hxl2⟩
  ·
   have hb7 := of_decide_eq_false hb7
   iterate 2 refine st_op (ev_move rfl) rfl rfl rfl ?_
   refine st_op (ev_ixStr Try.underlying9 rfl rfl (ba_get hy6)) rfl rfl rfl ?_
   refine st_op (ev_int rfl rfl rfl) rfl rfl rfl ?_
   refine st_op (ev_pickF rfl rfl) rfl rfl rfl ?_
   try show aw _ _ _ _ _ _
   by_cases hc8 : (decide ((y5.toNat : Int) > 122)) = true
   ·
    refine aw_condT hc8 rfl ?_
    try show aw _ _ _ _ _ _
    have hc8 := of_decide_eq_true hc8
    refine aw_seq ?_
    refine aw_reg ?_
    refine st_op (ev_assign rfl) rfl rfl rfl ?_
    try show aw _ _ _ _ _ _
    refine aw_ret ?_
    have hres : (Spec.nameF nm) = false := by rw [Spec.nameF, hv, drop_at hy6, Spec.low_fail (by omega)]; rfl
    exact ⟨.bool false, rfl, by first | (rw [hres]; done) | rw [← hres], hxl2⟩
   ·
    rw [Bool.not_eq_true] at hc8; refine aw_condF hc8 rfl ?_
    try show aw _ _ _ _ _ _
    have hc8 := of_decide_eq_false hc8
    refine aw_skip ?_
    try show aw _ _ _ _ _ _
    refine aw_reg ?_
    refine st_op (ev_int64 (c := (i : Int) + 1) rfl rfl rfl (by omega) (by omega)) rfl rfl rfl ?_
    refine st_op (ev_move rfl) rfl rfl rfl ?_
    try show aw _ _ _ _ _ _
    refine aw_keep [0, 5, 6] (l' := (.cons 0 (.string nm) (.cons 5 (.int .i64 ((nm).size : Int)) (.cons 6 (.int .i64 ((i : Int) + 1)) .nil)))) (by repeat (first | exact Up.done | refine Up.then ?_ | refine Up.inBlock ?_)) rfl ?_
    exact ih3 (i + 1, Hl1) ⟨(show (i + 1) ≤ nm.size from (by omega)), (show Spec.lowAll nm.data.toList = Spec.lowAll (nm.data.toList.drop (i + 1)) from (by rw [hv, drop_at hy6]; exact Spec.low_step (by omega) (by omega))), (show Ext H Hl1 from hxl2)⟩ (by simp only; omega)
 ·
  rw [Bool.not_eq_true] at hc4; refine aw_condF hc4 rfl ?_
  try show aw _ _ _ _ _ _
  have hc4 := of_decide_eq_false hc4
  refine aw_exit ?_
  try show aw _ _ _ _ _ _
  refine aw_seq ?_
  refine aw_reg ?_
  refine st_op (ev_move rfl) rfl rfl rfl ?_
  refine st_op (ev_str rfl rfl rfl) rfl rfl rfl ?_
  refine st_op (ev_move rfl) rfl rfl rfl ?_
  refine st_bool 22 rfl (fun hb9 => ?_) (fun hb9 => ?_)
  ·
   replace hb9 : ((nm).toList == (⟨#[]⟩ : ByteArray).toList) = false := by rw [Bool.not_eq_true'] at hb9; exact hb9
   have hb9 := ne_of_beq_false hb9
   refine st_op (ev_move rfl) rfl rfl rfl ?_
   refine st_op (ev_lenStr rfl Try.underlying9) rfl rfl rfl ?_
   refine st_op (ev_int rfl rfl rfl) rfl rfl rfl ?_
   refine st_op (ev_pickT rfl rfl) rfl rfl rfl ?_
   refine st_op (ev_assign rfl) rfl rfl rfl ?_
   try show aw _ _ _ _ _ _
   refine aw_ret ?_
   have hres : (Spec.nameF nm) = (decide (((nm).size : Int) ≤ 10)) := by exact Spec.name_end hv (by assumption) (by assumption)
   exact ⟨.bool (decide (((nm).size : Int) ≤ 10)), rfl, by first | (rw [hres]; done) | rw [← hres], hxl2⟩
  ·
   replace hb9 : ((nm).toList == (⟨#[]⟩ : ByteArray).toList) = true := by rw [Bool.not_eq_false'] at hb9; exact hb9
   have hb9 := eq_of_beq hb9
   iterate 3 refine st_skip rfl rfl rfl ?_
   refine st_op (ev_pickF rfl rfl) rfl rfl rfl ?_
   refine st_op (ev_assign rfl) rfl rfl rfl ?_
   try show aw _ _ _ _ _ _
   refine aw_ret ?_
   have hres : (Spec.nameF nm) = false := by exact Spec.name_nil (by assumption)
   exact ⟨.bool false, rfl, by first | (rw [hres]; done) | rw [← hres], hxl2⟩
theorem disk_AppendForm_spec (H : Heap) (mb : Nat) (hmb : mb < H.next) (m : List Value) (Bm : H.blk mb = some ⟨m, 0, false, true⟩) (k : Int) (hk : 0 ≤ k ∧ k ≤ 1099511627776) (d : Nat) (hd : d < H.next) (Bd : H.blk d = some ⟨[.map (some mb), .int .i64 k], 0, false, false⟩) (nm : ByteArray) (hnm : nm.size ≤ 140737488355328) (bA : Option Addr) (b : List Int) (bc : Nat) (hb : Row H bA bc 1 (b.map u8c)) (cb : b.length ≤ bc) (lb : b.length ≤ 140737488355328) (bb : Spec.Bytes b) (hn : Spec.nameF nm = false) (n1 : mb ≠ d) : ∃ v H', Spec Try.prog 11 [.pointer (some ⟨d, 0, none⟩), .string nm, .slice bA b.length bc] H v H' ∧ ((v = .int .i64 1) ∧ (H'.blk d = some ⟨[.map (some mb), .int .i64 (k + 1)], 0, false, false⟩) ∧ (H'.blk mb = some ⟨m, 0, false, true⟩) ∧ (Fr (fun q => q = d) H H')) := by
 refine spec_go3 E0_ok 54 (f := 11) Try.func11 rfl rfl rfl ?_
 refine aw_seq ?_
 refine aw_reg ?_
 refine st_op (ev_assign rfl) rfl rfl rfl ?_
 try show aw _ _ _ _ _ _
 iterate 2 refine aw_seq ?_
 refine aw_reg ?_
 refine st_op (ev_move rfl) rfl rfl rfl ?_
 refine st_op (ev_nilEq rfl rfl Try.underlying24) rfl rfl rfl ?_
 try show aw _ _ _ _ _ _
 refine aw_cond (t := false) rfl ?_
 try show aw _ _ _ _ _ _
 refine aw_skip ?_
 try show aw _ _ _ _ _ _
 refine aw_seq ?_
 refine aw_reg ?_
 refine st_op (ev_move rfl) rfl rfl rfl ?_
 refine st_op (ev_nilCheck rfl) rfl rfl rfl ?_
 refine st_op (ev_fieldAddr rfl fa77_1 (o' := 1) rfl) rfl rfl rfl ?_
 refine st_op (ev_load rfl (lvar_one one3 Bd rfl)) rfl rfl rfl ?_
 refine st_op (ev_int64 (c := k + 1) rfl rfl rfl (by omega) (by omega)) rfl rfl rfl ?_
 refine st_op (ev_nilCheck rfl) rfl rfl rfl ?_
 refine st_op (ev_fieldAddr rfl fa77_1 (o' := 1) rfl) rfl rfl rfl ?_
 obtain ⟨H1, he2, H1n_, hB3, f4⟩ := mem_store (v := .int .i64 (k + 1)) (o := 1) (cs' := [.map (some mb), .int .i64 (k + 1)]) 1 rfl rfl size3 Bd rfl rfl rfl
 refine st_op0 (he2 _ _ _ _ _ _ _ _ _ rfl rfl) rfl rfl ?_
 have hf5 : Fr (fun q => q = d) H H1 := Fr.write H1n_ f4
 have H1n : H.next ≤ H1.next := hf5.1
 try show aw _ _ _ _ _ _
 iterate 2 refine aw_seq ?_
 refine aw_reg ?_
 refine st_op (ev_move rfl) rfl rfl rfl ?_
 refine st_call rfl rfl rfl ent32 rfl rfl rfl ?_
 obtain ⟨_, H7, hs6, hs6v, hx8⟩ := disk_may_spec H1 nm (by omega)
 rw [hs6v] at hs6; clear hs6v
 refine ⟨_, H7, hs6, ?_⟩
 have H7n : H1.next ≤ H7.next := hx8.1
 refine st_op (ev_not rfl) rfl rfl rfl ?_
 try show aw _ _ _ _ _ _
 by_cases hc9 : (!(Spec.nameF nm)) = true
 ·
  refine aw_condT hc9 rfl ?_
  try show aw _ _ _ _ _ _
  replace hc9 : (Spec.nameF nm) = false := by rw [Bool.not_eq_true'] at hc9; exact hc9
  refine aw_seq ?_
  refine aw_reg ?_
  refine st_op (ev_assign rfl) rfl rfl rfl ?_
  try show aw _ _ _ _ _ _
  refine aw_ret ?_
  have h10 := Ext.blk hx8 (by omega) hB3
  have h11 := Fr.blk hf5 (by omega) (fun e => (by omega)) Bm
  have h12 := Ext.blk hx8 (by omega) h11
  exact ⟨.int .i64 1, rfl, rfl, h10, h12, (Fr.trans (Fr.transG (Fr.refl (fun q => q = d) H) hf5 (fun q hq hE e => (e))) (hx8.fr fun _ => False) (fun q hq (e : False) => e.elim))⟩
 ·
  rw [Bool.not_eq_true] at hc9; refine aw_condF hc9 rfl ?_
  try show aw _ _ _ _ _ _
  replace hc9 : (Spec.nameF nm) = true := by rw [Bool.not_eq_false'] at hc9; exact hc9
  exfalso; simp_all
theorem disk_AppendOld_spec (H : Heap) (mb : Nat) (hmb : mb < H.next) (m : List Value) (Bm : H.blk mb = some ⟨m, 0, false, true⟩) (k : Int) (hk : 0 ≤ k ∧ k ≤ 1099511627776) (d : Nat) (hd : d < H.next) (Bd : H.blk d = some ⟨[.map (some mb), .int .i64 k], 0, false, false⟩) (nm : ByteArray) (hnm : nm.size ≤ 140737488355328) (bA : Option Addr) (b : List Int) (bc : Nat) (hb : Row H bA bc 1 (b.map u8c)) (cb : b.length ≤ bc) (lb : b.length ≤ 140737488355328) (bb : Spec.Bytes b) (hn : Spec.nameF nm = true) (lH : Heap) (lA : Option Addr) (l : List Int) (lc : Nat) (hl : My lH H lA lc 1 (l.map u8c)) (nl : lH.next ≤ H.next) (ll : l.length ≤ 1048576) (bl : Spec.Bytes l) (lM : Heap) (ol : My lH lM lA lc 1 (l.map u8c)) (il : lM.next ≤ H.next) (s : Int) (hs : 0 ≤ s ∧ s ≤ 1048576) (t : Bool) (f : Nat) (hf : f < H.next) (Bf : H.blk f = some ⟨[.slice lA l.length lc, .int .i64 s, .bool t], 0, false, false⟩) (hg : mapGet nm m = some (.pointer (some ⟨f, 0, none⟩))) (hl9 : l.length + b.length ≤ 1048576) (n1 : mb ≠ d) (n2 : f ≠ d) (n3 : f ≠ mb) : ∃ v H', Spec Try.prog 11 [.pointer (some ⟨d, 0, none⟩), .string nm, .slice bA b.length bc] H v H' ∧ (∃ A20 c21, (v = .int .i64 0) ∧ (H'.blk d = some ⟨[.map (some mb), .int .i64 (k + 1)], 0, false, false⟩) ∧ (H'.blk mb = some ⟨(mapPut nm (.pointer (some ⟨f, 0, none⟩)) m), 0, false, true⟩) ∧ (H'.blk f = some ⟨[.slice A20 ((l ++ b).length) c21, .int .i64 s, .bool t], 0, false, false⟩) ∧ (My lH H' A20 c21 1 ((l ++ b).map u8c)) ∧ (∀ q, inA A20 c21 q → inA lA lc q ∨ H.next ≤ q) ∧ (Fr (fun q => q = d ∨ q = f ∨ (lH.next ≤ q ∧ q < lM.next ∧ ZB H q 1) ∨ q = mb) H H')) := by
 refine spec_go3 E0_ok 54 (f := 11) Try.func11 rfl rfl rfl ?_
 refine aw_seq ?_
 refine aw_reg ?_
 refine st_op (ev_assign rfl) rfl rfl rfl ?_
 try show aw _ _ _ _ _ _
 iterate 2 refine aw_seq ?_
 refine aw_reg ?_
 refine st_op (ev_move rfl) rfl rfl rfl ?_
 refine st_op (ev_nilEq rfl rfl Try.underlying24) rfl rfl rfl ?_
 try show aw _ _ _ _ _ _
 refine aw_cond (t := false) rfl ?_
 try show aw _ _ _ _ _ _
 refine aw_skip ?_
 try show aw _ _ _ _ _ _
 refine aw_seq ?_
 refine aw_reg ?_
 refine st_op (ev_move rfl) rfl rfl rfl ?_
 refine st_op (ev_nilCheck rfl) rfl rfl rfl ?_
 refine st_op (ev_fieldAddr rfl fa77_1 (o' := 1) rfl) rfl rfl rfl ?_
 refine st_op (ev_load rfl (lvar_one one3 Bd rfl)) rfl rfl rfl ?_
 refine st_op (ev_int64 (c := k + 1) rfl rfl rfl (by omega) (by omega)) rfl rfl rfl ?_
 refine st_op (ev_nilCheck rfl) rfl rfl rfl ?_
 refine st_op (ev_fieldAddr rfl fa77_1 (o' := 1) rfl) rfl rfl rfl ?_
 obtain ⟨H1, he2, H1n_, hB3, f4⟩ := mem_store (v := .int .i64 (k + 1)) (o := 1) (cs' := [.map (some mb), .int .i64 (k + 1)]) 1 rfl rfl size3 Bd rfl rfl rfl
 refine st_op0 (he2 _ _ _ _ _ _ _ _ _ rfl rfl) rfl rfl ?_
 have hf5 : Fr (fun q => q = d) H H1 := Fr.write H1n_ f4
 have H1n : H.next ≤ H1.next := hf5.1
 try show aw _ _ _ _ _ _
 iterate 2 refine aw_seq ?_
 refine aw_reg ?_
 refine st_op (ev_move rfl) rfl rfl rfl ?_
 refine st_call rfl rfl rfl ent32 rfl rfl rfl ?_
 obtain ⟨_, H7, hs6, hs6v, hx8⟩ := disk_may_spec H1 nm (by omega)
 rw [hs6v] at hs6; clear hs6v
 refine ⟨_, H7, hs6, ?_⟩
 have H7n : H1.next ≤ H7.next := hx8.1
 refine st_op (ev_not rfl) rfl rfl rfl ?_
 try show aw _ _ _ _ _ _
 by_cases hc9 : (!(Spec.nameF nm)) = true
 ·
  refine aw_condT hc9 rfl ?_
  try show aw _ _ _ _ _ _
  replace hc9 : (Spec.nameF nm) = false := by rw [Bool.not_eq_true'] at hc9; exact hc9
  exfalso; simp_all
 ·
  rw [Bool.not_eq_true] at hc9; refine aw_condF hc9 rfl ?_
  try show aw _ _ _ _ _ _
  replace hc9 : (Spec.nameF nm) = true := by rw [Bool.not_eq_false'] at hc9; exact hc9
  refine aw_skip ?_
  try show aw _ _ _ _ _ _
  refine aw_seq ?_
  refine aw_reg ?_
  refine st_op (ev_move rfl) rfl rfl rfl ?_
  refine st_op (ev_nilCheck rfl) rfl rfl rfl ?_
  refine st_op (ev_fieldAddr rfl fa77_0 (o' := 0) rfl) rfl rfl rfl ?_
  have h10 := Ext.blk hx8 (by omega) hB3
  refine st_op (ev_load rfl (lvar_one one75 h10 rfl)) rfl rfl rfl ?_
  refine st_op (ev_move rfl) rfl rfl rfl ?_
  have h11 := Fr.blk hf5 (by omega) (fun e => (by omega)) Bm
  have h12 := Ext.blk hx8 (by omega) h11
  refine st_op (ev_lookup ptrMap75 rfl rfl h12 hg) rfl rfl rfl ?_
  refine st_op (ev_assign rfl) rfl rfl rfl ?_
  try show aw _ _ _ _ _ _
  iterate 2 refine aw_seq ?_
  refine aw_reg ?_
  refine st_op (ev_move rfl) rfl rfl rfl ?_
  refine st_op (ev_nilEq rfl rfl Try.underlying79) rfl rfl rfl ?_
  try show aw _ _ _ _ _ _
  refine aw_cond (t := false) rfl ?_
  try show aw _ _ _ _ _ _
  refine aw_skip ?_
  try show aw _ _ _ _ _ _
  iterate 2 refine aw_seq ?_
  refine aw_reg ?_
  refine st_op (ev_move rfl) rfl rfl rfl ?_
  refine st_op (ev_nilCheck rfl) rfl rfl rfl ?_
  refine st_op (ev_fieldAddr rfl fa81_0 (o' := 0) rfl) rfl rfl rfl ?_
  have h13 := Fr.blk hf5 (by omega) (fun e => (by omega)) Bf
  have h14 := Ext.blk hx8 (by omega) h13
  refine st_op (ev_load rfl (lvar_one one26 h14 rfl)) rfl rfl rfl ?_
  refine st_op (ev_lenSl rfl Try.underlying26) rfl rfl rfl ?_
  refine st_op (ev_move rfl) rfl rfl rfl ?_
  refine st_op (ev_lenSl rfl Try.underlying26) rfl rfl rfl ?_
  refine st_op (ev_int64 (c := 1048576 - (b.length : Int)) rfl rfl rfl (by omega) (by omega)) rfl rfl rfl ?_
  refine st_op (ev_int rfl rfl rfl) rfl rfl rfl ?_
  try show aw _ _ _ _ _ _
  by_cases hc15 : (decide ((l.length : Int) > 1048576 - (b.length : Int))) = true
  ·
   refine aw_condT hc15 rfl ?_
   try show aw _ _ _ _ _ _
   exfalso; simp only [decide_eq_true_eq, decide_eq_false_iff_not] at hc15; omega
  ·
   rw [Bool.not_eq_true] at hc15; refine aw_condF hc15 rfl ?_
   try show aw _ _ _ _ _ _
   have hc15 := of_decide_eq_false hc15
   refine aw_skip ?_
   try show aw _ _ _ _ _ _
   refine aw_seq ?_
   refine aw_reg ?_
   iterate 2 refine st_op (ev_move rfl) rfl rfl rfl ?_
   refine st_op (ev_nilCheck rfl) rfl rfl rfl ?_
   refine st_op (ev_fieldAddr rfl fa81_0 (o' := 0) rfl) rfl rfl rfl ?_
   refine st_op (ev_load rfl (lvar_one one26 h14 rfl)) rfl rfl rfl ?_
   refine st_op (ev_move rfl) rfl rfl rfl ?_
   have h16 := My.frS hl hf5 (fun q hq e => ⟨_, e ▸ Bd, show (0 : Nat) ≠ 1 by decide⟩)
   have h17 := My.ext h16 hx8
   have h18 := Row.fr hb hf5 (fun q hq e => ⟨_, e ▸ Bd, show (0 : Nat) ≠ 1 by decide⟩)
   have h19 := Row.ext h18 hx8
   obtain ⟨A20, c21, H22, W23, he24, hm25, hf27, hA28⟩ := mem_append3 (f := u8c) (old := l) (new := b) (m := l.length) (mx := b.length) (c := lc) (by first | rfl | simp) (by first | rfl | simp) eok26 (by decide) ol h17 (by omega) ((h19).srcF (by decide) (by first | rfl | simp)) rfl u8c_len u8c_one (by omega) (by omega)
   have hf26 := Fr.mono hf27 (fun q h => h.2)
   refine st_op (he24 _ _ _ _ _ _ _ _ _ _ rfl rfl isrow26) rfl rfl rfl ?_
   have H22n : H7.next ≤ H22.next := hf26.1
   refine st_op (ev_nilCheck rfl) rfl rfl rfl ?_
   refine st_op (ev_fieldAddr rfl fa81_0 (o' := 0) rfl) rfl rfl rfl ?_
   have h29 := Fr.blk hf26 (by omega) (fun e => (zb_ne h14 e.2.2 (show (0 : Nat) ≠ 1 by decide))) h14
   obtain ⟨H30, he31, H30n_, hB32, f33⟩ := mem_store (v := .slice A20 ((l ++ b).length) c21) (o := 0) (cs' := [.slice A20 ((l ++ b).length) c21, .int .i64 s, .bool t]) 1 rfl rfl size26 h29 rfl rfl rfl
   refine st_op0 (he31 _ _ _ _ _ _ _ _ _ rfl rfl) rfl rfl ?_
   have hf34 : Fr (fun q => q = f) H22 H30 := Fr.write H30n_ f33
   have H30n : H22.next ≤ H30.next := hf34.1
   try show aw _ _ _ _ _ _
   refine aw_seq ?_
   refine aw_reg ?_
   refine st_op (ev_move rfl) rfl rfl rfl ?_
   refine st_op (ev_nilCheck rfl) rfl rfl rfl ?_
   refine st_op (ev_fieldAddr rfl fa77_0 (o' := 0) rfl) rfl rfl rfl ?_
   have h35 := Fr.blk hf26 (by omega) (fun e => (zb_ne h10 e.2.2 (show (0 : Nat) ≠ 1 by decide))) h10
   have h36 := Fr.blk hf34 (by omega) (fun e => (by omega)) h35
   refine st_op (ev_load rfl (lvar_one one75 h36 rfl)) rfl rfl rfl ?_
   iterate 2 refine st_op (ev_move rfl) rfl rfl rfl ?_
   have h37 := Fr.blk hf26 (by omega) (fun e => (zb_ne h12 e.2.2 (show (0 : Nat) ≠ 1 by decide))) h12
   have h38 := Fr.blk hf34 (by omega) (fun e => (by omega)) h37
   obtain ⟨H39, he40, H39n_, hB41, f42⟩ := mem_mapUpd (v := .pointer (some ⟨f, 0, none⟩)) (s := nm) ptrMap75 h38 (by omega)
   refine st_op0 (he40 _ _ _ _ _ _ _ _ _ _ rfl rfl rfl) rfl rfl ?_
   have hf43 : Fr (fun q => q = mb) H30 H39 := Fr.write H39n_ f42
   have H39n : H30.next ≤ H39.next := hf43.1
   try show aw _ _ _ _ _ _
   refine aw_seq ?_
   refine aw_reg ?_
   refine st_op (ev_assign rfl) rfl rfl rfl ?_
   try show aw _ _ _ _ _ _
   refine aw_ret ?_
   have h44 := Fr.blk hf43 (by omega) (fun e => (by omega)) h36
   have h45 := Fr.blk hf43 (by omega) (fun e => (by omega)) hB32
   have h46 := My.frS hm25 hf34 (fun q hq e => ⟨_, e ▸ h29, show (0 : Nat) ≠ 1 by decide⟩)
   have h47 := My.frS h46 hf43 (fun q hq e => ⟨_, e ▸ h38, show (0 : Nat) ≠ 1 by decide⟩)
   exact ⟨.int .i64 0, rfl, A20, c21, rfl, h44, hB41, h45, h47, (fun q e => (hA28 q e).imp id (fun e => by omega)), (Fr.transG (Fr.transG (Fr.transG (Fr.trans (Fr.transG (Fr.refl (fun q => q = d ∨ q = f ∨ (lH.next ≤ q ∧ q < lM.next ∧ ZB H q 1) ∨ q = mb) H) hf5 (fun q hq hE e => Or.inl (e))) (hx8.fr fun _ => False) (fun q hq (e : False) => e.elim)) hf26 (fun q hq hE e => Or.inr (Or.inr (Or.inl (⟨by omega, by omega, ZB.back hE e.2.2⟩))))) hf34 (fun q hq hE e => Or.inr (Or.inl (e)))) hf43 (fun q hq hE e => Or.inr (Or.inr (Or.inr ((e))))))⟩
theorem disk_AppendOldF_spec (H : Heap) (mb : Nat) (hmb : mb < H.next) (m : List Value) (Bm : H.blk mb = some ⟨m, 0, false, true⟩) (k : Int) (hk : 0 ≤ k ∧ k ≤ 1099511627776) (d : Nat) (hd : d < H.next) (Bd : H.blk d = some ⟨[.map (some mb), .int .i64 k], 0, false, false⟩) (nm : ByteArray) (hnm : nm.size ≤ 140737488355328) (bA : Option Addr) (b : List Int) (bc : Nat) (hb : Row H bA bc 1 (b.map u8c)) (cb : b.length ≤ bc) (lb : b.length ≤ 140737488355328) (bb : Spec.Bytes b) (hn : Spec.nameF nm = true) (lA : Option Addr) (l : List Int) (lc : Nat) (hl : Row H lA lc 1 (l.map u8c)) (cl : l.length ≤ lc) (ll : l.length ≤ 1048576) (bl : Spec.Bytes l) (s : Int) (hs : 0 ≤ s ∧ s ≤ 1048576) (t : Bool) (f : Nat) (hf : f < H.next) (Bf : H.blk f = some ⟨[.slice lA l.length lc, .int .i64 s, .bool t], 0, false, false⟩) (hg : mapGet nm m = some (.pointer (some ⟨f, 0, none⟩))) (hl9 : 1048576 < l.length + b.length) (n1 : mb ≠ d) (n2 : f ≠ d) (n3 : f ≠ mb) : ∃ v H', Spec Try.prog 11 [.pointer (some ⟨d, 0, none⟩), .string nm, .slice bA b.length bc] H v H' ∧ ((v = .int .i64 5) ∧ (H'.blk d = some ⟨[.map (some mb), .int .i64 (k + 1)], 0, false, false⟩) ∧ (H'.blk mb = some ⟨m, 0, false, true⟩) ∧ (Fr (fun q => q = d) H H')) := by
 refine spec_go3 E0_ok 54 (f := 11) Try.func11 rfl rfl rfl ?_
 refine aw_seq ?_
 refine aw_reg ?_
 refine st_op (ev_assign rfl) rfl rfl rfl ?_
 try show aw _ _ _ _ _ _
 iterate 2 refine aw_seq ?_
 refine aw_reg ?_
 refine st_op (ev_move rfl) rfl rfl rfl ?_
 refine st_op (ev_nilEq rfl rfl Try.underlying24) rfl rfl rfl ?_
 try show aw _ _ _ _ _ _
 refine aw_cond (t := false) rfl ?_
 try show aw _ _ _ _ _ _
 refine aw_skip ?_
 try show aw _ _ _ _ _ _
 refine aw_seq ?_
 refine aw_reg ?_
 refine st_op (ev_move rfl) rfl rfl rfl ?_
 refine st_op (ev_nilCheck rfl) rfl rfl rfl ?_
 refine st_op (ev_fieldAddr rfl fa77_1 (o' := 1) rfl) rfl rfl rfl ?_
 refine st_op (ev_load rfl (lvar_one one3 Bd rfl)) rfl rfl rfl ?_
 refine st_op (ev_int64 (c := k + 1) rfl rfl rfl (by omega) (by omega)) rfl rfl rfl ?_
 refine st_op (ev_nilCheck rfl) rfl rfl rfl ?_
 refine st_op (ev_fieldAddr rfl fa77_1 (o' := 1) rfl) rfl rfl rfl ?_
 obtain ⟨H1, he2, H1n_, hB3, f4⟩ := mem_store (v := .int .i64 (k + 1)) (o := 1) (cs' := [.map (some mb), .int .i64 (k + 1)]) 1 rfl rfl size3 Bd rfl rfl rfl
 refine st_op0 (he2 _ _ _ _ _ _ _ _ _ rfl rfl) rfl rfl ?_
 have hf5 : Fr (fun q => q = d) H H1 := Fr.write H1n_ f4
 have H1n : H.next ≤ H1.next := hf5.1
 try show aw _ _ _ _ _ _
 iterate 2 refine aw_seq ?_
 refine aw_reg ?_
 refine st_op (ev_move rfl) rfl rfl rfl ?_
 refine st_call rfl rfl rfl ent32 rfl rfl rfl ?_
 obtain ⟨_, H7, hs6, hs6v, hx8⟩ := disk_may_spec H1 nm (by omega)
 rw [hs6v] at hs6; clear hs6v
 refine ⟨_, H7, hs6, ?_⟩
 have H7n : H1.next ≤ H7.next := hx8.1
 refine st_op (ev_not rfl) rfl rfl rfl ?_
 try show aw _ _ _ _ _ _
 by_cases hc9 : (!(Spec.nameF nm)) = true
 ·
  refine aw_condT hc9 rfl ?_
  try show aw _ _ _ _ _ _
  replace hc9 : (Spec.nameF nm) = false := by rw [Bool.not_eq_true'] at hc9; exact hc9
  exfalso; simp_all
 ·
  rw [Bool.not_eq_true] at hc9; refine aw_condF hc9 rfl ?_
  try show aw _ _ _ _ _ _
  replace hc9 : (Spec.nameF nm) = true := by rw [Bool.not_eq_false'] at hc9; exact hc9
  refine aw_skip ?_
  try show aw _ _ _ _ _ _
  refine aw_seq ?_
  refine aw_reg ?_
  refine st_op (ev_move rfl) rfl rfl rfl ?_
  refine st_op (ev_nilCheck rfl) rfl rfl rfl ?_
  refine st_op (ev_fieldAddr rfl fa77_0 (o' := 0) rfl) rfl rfl rfl ?_
  have h10 := Ext.blk hx8 (by omega) hB3
  refine st_op (ev_load rfl (lvar_one one75 h10 rfl)) rfl rfl rfl ?_
  refine st_op (ev_move rfl) rfl rfl rfl ?_
  have h11 := Fr.blk hf5 (by omega) (fun e => (by omega)) Bm
  have h12 := Ext.blk hx8 (by omega) h11
  refine st_op (ev_lookup ptrMap75 rfl rfl h12 hg) rfl rfl rfl ?_
  refine st_op (ev_assign rfl) rfl rfl rfl ?_
  try show aw _ _ _ _ _ _
  iterate 2 refine aw_seq ?_
  refine aw_reg ?_
  refine st_op (ev_move rfl) rfl rfl rfl ?_
  refine st_op (ev_nilEq rfl rfl Try.underlying79) rfl rfl rfl ?_
  try show aw _ _ _ _ _ _
  refine aw_cond (t := false) rfl ?_
  try show aw _ _ _ _ _ _
  refine aw_skip ?_
  try show aw _ _ _ _ _ _
  iterate 2 refine aw_seq ?_
  refine aw_reg ?_
  refine st_op (ev_move rfl) rfl rfl rfl ?_
  refine st_op (ev_nilCheck rfl) rfl rfl rfl ?_
  refine st_op (ev_fieldAddr rfl fa81_0 (o' := 0) rfl) rfl rfl rfl ?_
  have h13 := Fr.blk hf5 (by omega) (fun e => (by omega)) Bf
  have h14 := Ext.blk hx8 (by omega) h13
  refine st_op (ev_load rfl (lvar_one one26 h14 rfl)) rfl rfl rfl ?_
  refine st_op (ev_lenSl rfl Try.underlying26) rfl rfl rfl ?_
  refine st_op (ev_move rfl) rfl rfl rfl ?_
  refine st_op (ev_lenSl rfl Try.underlying26) rfl rfl rfl ?_
  refine st_op (ev_int64 (c := 1048576 - (b.length : Int)) rfl rfl rfl (by omega) (by omega)) rfl rfl rfl ?_
  refine st_op (ev_int rfl rfl rfl) rfl rfl rfl ?_
  try show aw _ _ _ _ _ _
  by_cases hc15 : (decide ((l.length : Int) > 1048576 - (b.length : Int))) = true
  ·
   refine aw_condT hc15 rfl ?_
   try show aw _ _ _ _ _ _
   have hc15 := of_decide_eq_true hc15
   refine aw_seq ?_
   refine aw_reg ?_
   refine st_op (ev_assign rfl) rfl rfl rfl ?_
   try show aw _ _ _ _ _ _
   refine aw_ret ?_
   exact ⟨.int .i64 5, rfl, rfl, h10, h12, (Fr.trans (Fr.transG (Fr.refl (fun q => q = d) H) hf5 (fun q hq hE e => (e))) (hx8.fr fun _ => False) (fun q hq (e : False) => e.elim))⟩
  ·
   rw [Bool.not_eq_true] at hc15; refine aw_condF hc15 rfl ?_
   try show aw _ _ _ _ _ _
   exfalso; simp only [decide_eq_true_eq, decide_eq_false_iff_not] at hc15; omega
theorem disk_AppendNew_spec (H : Heap) (mb : Nat) (hmb : mb < H.next) (m : List Value) (Bm : H.blk mb = some ⟨m, 0, false, true⟩) (k : Int) (hk : 0 ≤ k ∧ k ≤ 1099511627776) (d : Nat) (hd : d < H.next) (Bd : H.blk d = some ⟨[.map (some mb), .int .i64 k], 0, false, false⟩) (nm : ByteArray) (hnm : nm.size ≤ 140737488355328) (bA : Option Addr) (b : List Int) (bc : Nat) (hb : Row H bA bc 1 (b.map u8c)) (cb : b.length ≤ bc) (lb : b.length ≤ 140737488355328) (bb : Spec.Bytes b) (hn : Spec.nameF nm = true) (hg : mapGet nm m = none) (hl9 : b.length ≤ 1048576) (n1 : mb ≠ d) : ∃ v H', Spec Try.prog 11 [.pointer (some ⟨d, 0, none⟩), .string nm, .slice bA b.length bc] H v H' ∧ (∃ b13 A24 c25, (v = .int .i64 0) ∧ (H'.blk d = some ⟨[.map (some mb), .int .i64 (k + 1)], 0, false, false⟩) ∧ (H'.blk mb = some ⟨(mapPut nm (.pointer (some ⟨b13, 0, none⟩)) m), 0, false, true⟩) ∧ (H.next ≤ b13 ∧ b13 < H'.next) ∧ (H'.blk b13 = some ⟨[.slice A24 b.length c25, .int .i64 0, .bool false], 0, false, false⟩) ∧ (My H H' A24 c25 1 (b.map u8c)) ∧ (Fr (fun q => q = d ∨ q = mb) H H')) := by
 refine spec_go3 E0_ok 54 (f := 11) Try.func11 rfl rfl rfl ?_
 refine aw_seq ?_
 refine aw_reg ?_
 refine st_op (ev_assign rfl) rfl rfl rfl ?_
 try show aw _ _ _ _ _ _
 iterate 2 refine aw_seq ?_
 refine aw_reg ?_
 refine st_op (ev_move rfl) rfl rfl rfl ?_
 refine st_op (ev_nilEq rfl rfl Try.underlying24) rfl rfl rfl ?_
 try show aw _ _ _ _ _ _
 refine aw_cond (t := false) rfl ?_
 try show aw _ _ _ _ _ _
 refine aw_skip ?_
 try show aw _ _ _ _ _ _
 refine aw_seq ?_
 refine aw_reg ?_
 refine st_op (ev_move rfl) rfl rfl rfl ?_
 refine st_op (ev_nilCheck rfl) rfl rfl rfl ?_
 refine st_op (ev_fieldAddr rfl fa77_1 (o' := 1) rfl) rfl rfl rfl ?_
 refine st_op (ev_load rfl (lvar_one one3 Bd rfl)) rfl rfl rfl ?_
 refine st_op (ev_int64 (c := k + 1) rfl rfl rfl (by omega) (by omega)) rfl rfl rfl ?_
 refine st_op (ev_nilCheck rfl) rfl rfl rfl ?_
 refine st_op (ev_fieldAddr rfl fa77_1 (o' := 1) rfl) rfl rfl rfl ?_
 obtain ⟨H1, he2, H1n_, hB3, f4⟩ := mem_store (v := .int .i64 (k + 1)) (o := 1) (cs' := [.map (some mb), .int .i64 (k + 1)]) 1 rfl rfl size3 Bd rfl rfl rfl
 refine st_op0 (he2 _ _ _ _ _ _ _ _ _ rfl rfl) rfl rfl ?_
 have hf5 : Fr (fun q => q = d) H H1 := Fr.write H1n_ f4
 have H1n : H.next ≤ H1.next := hf5.1
 try show aw _ _ _ _ _ _
 iterate 2 refine aw_seq ?_
 refine aw_reg ?_
 refine st_op (ev_move rfl) rfl rfl rfl ?_
 refine st_call rfl rfl rfl ent32 rfl rfl rfl ?_
 obtain ⟨_, H7, hs6, hs6v, hx8⟩ := disk_may_spec H1 nm (by omega)
 rw [hs6v] at hs6; clear hs6v
 refine ⟨_, H7, hs6, ?_⟩
 have H7n : H1.next ≤ H7.next := hx8.1
 refine st_op (ev_not rfl) rfl rfl rfl ?_
 try show aw _ _ _ _ _ _
 by_cases hc9 : (!(Spec.nameF nm)) = true
 ·
  refine aw_condT hc9 rfl ?_
  try show aw _ _ _ _ _ _
  replace hc9 : (Spec.nameF nm) = false := by rw [Bool.not_eq_true'] at hc9; exact hc9
  exfalso; simp_all
 ·
  rw [Bool.not_eq_true] at hc9; refine aw_condF hc9 rfl ?_
  try show aw _ _ _ _ _ _
  replace hc9 : (Spec.nameF nm) = true := by rw [Bool.not_eq_false'] at hc9; exact hc9
  refine aw_skip ?_
  try show aw _ _ _ _ _ _
  refine aw_seq ?_
  refine aw_reg ?_
  refine st_op (ev_move rfl) rfl rfl rfl ?_
  refine st_op (ev_nilCheck rfl) rfl rfl rfl ?_
  refine st_op (ev_fieldAddr rfl fa77_0 (o' := 0) rfl) rfl rfl rfl ?_
  have h10 := Ext.blk hx8 (by omega) hB3
  refine st_op (ev_load rfl (lvar_one one75 h10 rfl)) rfl rfl rfl ?_
  refine st_op (ev_move rfl) rfl rfl rfl ?_
  have h11 := Fr.blk hf5 (by omega) (fun e => (by omega)) Bm
  have h12 := Ext.blk hx8 (by omega) h11
  refine st_op (ev_lookupN ptrMap75 rfl rfl h12 hg) rfl rfl rfl ?_
  refine st_op (ev_assign rfl) rfl rfl rfl ?_
  try show aw _ _ _ _ _ _
  iterate 2 refine aw_seq ?_
  refine aw_reg ?_
  refine st_op (ev_move rfl) rfl rfl rfl ?_
  refine st_op (ev_nilEq rfl rfl Try.underlying79) rfl rfl rfl ?_
  try show aw _ _ _ _ _ _
  refine aw_cond (t := true) rfl ?_
  try show aw _ _ _ _ _ _
  refine aw_reg ?_
  refine st_op (ev_build zero81 pl81 (parts := []) rfl (cs := [.slice none 0 0, .int .i64 0, .bool false]) rfl) rfl rfl rfl ?_
  obtain ⟨b13, H14, he15, b13e, H14n_, hB17, f16⟩ := mem_box (P := Try.prog) H7 (v := .agg #[.slice none 0 0, .int .i64 0, .bool false]) (cs := [.slice none 0 0, .int .i64 0, .bool false]) rfl rfl
  refine st_op (he15 _ _ _ _ _ _ _ _ _ rfl) rfl rfl rfl ?_
  have hx18 : Ext H7 H14 := Ext.new (by omega) H14n_ f16
  have H14n : H7.next ≤ H14.next := hx18.1
  refine st_op (ev_assign rfl) rfl rfl rfl ?_
  try show aw _ _ _ _ _ _
  iterate 2 refine aw_seq ?_
  refine aw_reg ?_
  refine st_op (ev_move rfl) rfl rfl rfl ?_
  refine st_op (ev_nilCheck rfl) rfl rfl rfl ?_
  refine st_op (ev_fieldAddr rfl fa81_0 (o' := 0) rfl) rfl rfl rfl ?_
  refine st_op (ev_load rfl (lvar_one one26 hB17 rfl)) rfl rfl rfl ?_
  refine st_op (ev_lenSl rfl Try.underlying26) rfl rfl rfl ?_
  refine st_op (ev_move rfl) rfl rfl rfl ?_
  refine st_op (ev_lenSl rfl Try.underlying26) rfl rfl rfl ?_
  refine st_op (ev_int64 (c := 1048576 - (b.length : Int)) rfl rfl rfl (by omega) (by omega)) rfl rfl rfl ?_
  refine st_op (ev_int rfl rfl rfl) rfl rfl rfl ?_
  try show aw _ _ _ _ _ _
  by_cases hc19 : (decide (0 > 1048576 - (b.length : Int))) = true
  ·
   refine aw_condT hc19 rfl ?_
   try show aw _ _ _ _ _ _
   exfalso; simp only [decide_eq_true_eq, decide_eq_false_iff_not] at hc19; omega
  ·
   rw [Bool.not_eq_true] at hc19; refine aw_condF hc19 rfl ?_
   try show aw _ _ _ _ _ _
   have hc19 := of_decide_eq_false hc19
   refine aw_skip ?_
   try show aw _ _ _ _ _ _
   refine aw_seq ?_
   refine aw_reg ?_
   iterate 2 refine st_op (ev_move rfl) rfl rfl rfl ?_
   refine st_op (ev_nilCheck rfl) rfl rfl rfl ?_
   refine st_op (ev_fieldAddr rfl fa81_0 (o' := 0) rfl) rfl rfl rfl ?_
   refine st_op (ev_load rfl (lvar_one one26 hB17 rfl)) rfl rfl rfl ?_
   refine st_op (ev_move rfl) rfl rfl rfl ?_
   have hm20 : My H14 H14 none 0 1 (([] : List Int).map u8c) := .nil
   have h21 := Row.fr hb hf5 (fun q hq e => ⟨_, e ▸ Bd, show (0 : Nat) ≠ 1 by decide⟩)
   have hx23 : Ext H1 H14 := (Ext.trans hx8 hx18)
   have h22 := Row.ext h21 hx23
   obtain ⟨A24, c25, H26, W27, he28, hm29, hf30⟩ := mem_append (f := u8c) (old := ([] : List Int)) (new := b) (m := 0) (mx := b.length) (c := 0) (by first | rfl | simp) (by first | rfl | simp) eok26 (by decide) hm20 hm20 (by omega) ((h22).srcF (by decide) (by first | rfl | simp)) rfl u8c_len u8c_one (by omega) (by omega)
   refine st_op (he28 _ _ _ _ _ _ _ _ _ _ rfl rfl isrow26) rfl rfl rfl ?_
   have H26n : H14.next ≤ H26.next := hf30.1
   rw [List.nil_append] at hm29
   refine st_op (ev_nilCheck rfl) rfl rfl rfl ?_
   refine st_op (ev_fieldAddr rfl fa81_0 (o' := 0) rfl) rfl rfl rfl ?_
   have hx32 : Ext H14 H26 := (Ext.then (Ext.refl H14) hf30 (fun q hq e => by omega))
   have h31 := Ext.blk hx32 (by omega) hB17
   obtain ⟨H33, he34, H33n_, hB35, f36⟩ := mem_store (v := .slice A24 b.length c25) (o := 0) (cs' := [.slice A24 b.length c25, .int .i64 0, .bool false]) 1 rfl rfl size26 h31 rfl rfl rfl
   refine st_op0 (he34 _ _ _ _ _ _ _ _ _ rfl rfl) rfl rfl ?_
   have hf37 : Fr (fun q => q = b13) H26 H33 := Fr.write H33n_ f36
   have H33n : H26.next ≤ H33.next := hf37.1
   try show aw _ _ _ _ _ _
   refine aw_seq ?_
   refine aw_reg ?_
   refine st_op (ev_move rfl) rfl rfl rfl ?_
   refine st_op (ev_nilCheck rfl) rfl rfl rfl ?_
   refine st_op (ev_fieldAddr rfl fa77_0 (o' := 0) rfl) rfl rfl rfl ?_
   have hx39 : Ext H7 H33 := (Ext.then (Ext.then hx18 hf30 (fun q hq e => by omega)) hf37 (fun q hq e => by omega))
   have h38 := Ext.blk hx39 (by omega) h10
   refine st_op (ev_load rfl (lvar_one one75 h38 rfl)) rfl rfl rfl ?_
   iterate 2 refine st_op (ev_move rfl) rfl rfl rfl ?_
   have h40 := Ext.blk hx39 (by omega) h12
   obtain ⟨H41, he42, H41n_, hB43, f44⟩ := mem_mapUpd (v := .pointer (some ⟨b13, 0, none⟩)) (s := nm) ptrMap75 h40 (by omega)
   refine st_op0 (he42 _ _ _ _ _ _ _ _ _ _ rfl rfl rfl) rfl rfl ?_
   have hf45 : Fr (fun q => q = mb) H33 H41 := Fr.write H41n_ f44
   have H41n : H33.next ≤ H41.next := hf45.1
   try show aw _ _ _ _ _ _
   refine aw_seq ?_
   refine aw_reg ?_
   refine st_op (ev_assign rfl) rfl rfl rfl ?_
   try show aw _ _ _ _ _ _
   refine aw_ret ?_
   have h46 := Fr.blk hf45 (by omega) (fun e => (by omega)) h38
   have h47 := Fr.blk hf45 (by omega) (fun e => (by omega)) hB35
   have h48 := My.frS hm29 hf37 (fun q hq e => ⟨_, e ▸ h31, show (0 : Nat) ≠ 1 by decide⟩)
   have h49 := My.frS h48 hf45 (fun q hq e => ⟨_, e ▸ h40, show (0 : Nat) ≠ 1 by decide⟩)
   exact ⟨.int .i64 0, rfl, b13, A24, c25, rfl, h46, hB43, ⟨by omega, by omega⟩, h47, (My.older h49 (by omega)), (Fr.transG (Fr.transG (Fr.transG (Fr.trans (Fr.trans (Fr.transG (Fr.refl (fun q => q = d ∨ q = mb) H) hf5 (fun q hq hE e => Or.inl (e))) (hx8.fr fun _ => False) (fun q hq (e : False) => e.elim)) (hx18.fr fun _ => False) (fun q hq (e : False) => e.elim)) hf30 (fun q hq hE e => absurd hq (by omega))) hf37 (fun q hq hE e => absurd hq (by omega))) hf45 (fun q hq hE e => Or.inr ((e))))⟩
theorem disk_AppendNewF_spec (H : Heap) (mb : Nat) (hmb : mb < H.next) (m : List Value) (Bm : H.blk mb = some ⟨m, 0, false, true⟩) (k : Int) (hk : 0 ≤ k ∧ k ≤ 1099511627776) (d : Nat) (hd : d < H.next) (Bd : H.blk d = some ⟨[.map (some mb), .int .i64 k], 0, false, false⟩) (nm : ByteArray) (hnm : nm.size ≤ 140737488355328) (bA : Option Addr) (b : List Int) (bc : Nat) (hb : Row H bA bc 1 (b.map u8c)) (cb : b.length ≤ bc) (lb : b.length ≤ 140737488355328) (bb : Spec.Bytes b) (hn : Spec.nameF nm = true) (hg : mapGet nm m = none) (hl9 : 1048576 < b.length) (n1 : mb ≠ d) : ∃ v H', Spec Try.prog 11 [.pointer (some ⟨d, 0, none⟩), .string nm, .slice bA b.length bc] H v H' ∧ ((v = .int .i64 5) ∧ (H'.blk d = some ⟨[.map (some mb), .int .i64 (k + 1)], 0, false, false⟩) ∧ (H'.blk mb = some ⟨m, 0, false, true⟩) ∧ (Fr (fun q => q = d) H H')) := by
 refine spec_go3 E0_ok 54 (f := 11) Try.func11 rfl rfl rfl ?_
 refine aw_seq ?_
 refine aw_reg ?_
 refine st_op (ev_assign rfl) rfl rfl rfl ?_
 try show aw _ _ _ _ _ _
 iterate 2 refine aw_seq ?_
 refine aw_reg ?_
 refine st_op (ev_move rfl) rfl rfl rfl ?_
 refine st_op (ev_nilEq rfl rfl Try.underlying24) rfl rfl rfl ?_
 try show aw _ _ _ _ _ _
 refine aw_cond (t := false) rfl ?_
 try show aw _ _ _ _ _ _
 refine aw_skip ?_
 try show aw _ _ _ _ _ _
 refine aw_seq ?_
 refine aw_reg ?_
 refine st_op (ev_move rfl) rfl rfl rfl ?_
 refine st_op (ev_nilCheck rfl) rfl rfl rfl ?_
 refine st_op (ev_fieldAddr rfl fa77_1 (o' := 1) rfl) rfl rfl rfl ?_
 refine st_op (ev_load rfl (lvar_one one3 Bd rfl)) rfl rfl rfl ?_
 refine st_op (ev_int64 (c := k + 1) rfl rfl rfl (by omega) (by omega)) rfl rfl rfl ?_
 refine st_op (ev_nilCheck rfl) rfl rfl rfl ?_
 refine st_op (ev_fieldAddr rfl fa77_1 (o' := 1) rfl) rfl rfl rfl ?_
 obtain ⟨H1, he2, H1n_, hB3, f4⟩ := mem_store (v := .int .i64 (k + 1)) (o := 1) (cs' := [.map (some mb), .int .i64 (k + 1)]) 1 rfl rfl size3 Bd rfl rfl rfl
 refine st_op0 (he2 _ _ _ _ _ _ _ _ _ rfl rfl) rfl rfl ?_
 have hf5 : Fr (fun q => q = d) H H1 := Fr.write H1n_ f4
 have H1n : H.next ≤ H1.next := hf5.1
 try show aw _ _ _ _ _ _
 iterate 2 refine aw_seq ?_
 refine aw_reg ?_
 refine st_op (ev_move rfl) rfl rfl rfl ?_
 refine st_call rfl rfl rfl ent32 rfl rfl rfl ?_
 obtain ⟨_, H7, hs6, hs6v, hx8⟩ := disk_may_spec H1 nm (by omega)
 rw [hs6v] at hs6; clear hs6v
 refine ⟨_, H7, hs6, ?_⟩
 have H7n : H1.next ≤ H7.next := hx8.1
 refine st_op (ev_not rfl) rfl rfl rfl ?_
 try show aw _ _ _ _ _ _
 by_cases hc9 : (!(Spec.nameF nm)) = true
 ·
  refine aw_condT hc9 rfl ?_
  try show aw _ _ _ _ _ _
  replace hc9 : (Spec.nameF nm) = false := by rw [Bool.not_eq_true'] at hc9; exact hc9
  exfalso; simp_all
 ·
  rw [Bool.not_eq_true] at hc9; refine aw_condF hc9 rfl ?_
  try show aw _ _ _ _ _ _
  replace hc9 : (Spec.nameF nm) = true := by rw [Bool.not_eq_false'] at hc9; exact hc9
  refine aw_skip ?_
  try show aw _ _ _ _ _ _
  refine aw_seq ?_
  refine aw_reg ?_
  refine st_op (ev_move rfl) rfl rfl rfl ?_
  refine st_op (ev_nilCheck rfl) rfl rfl rfl ?_
  refine st_op (ev_fieldAddr rfl fa77_0 (o' := 0) rfl) rfl rfl rfl ?_
  have h10 := Ext.blk hx8 (by omega) hB3
  refine st_op (ev_load rfl (lvar_one one75 h10 rfl)) rfl rfl rfl ?_
  refine st_op (ev_move rfl) rfl rfl rfl ?_
  have h11 := Fr.blk hf5 (by omega) (fun e => (by omega)) Bm
  have h12 := Ext.blk hx8 (by omega) h11
  refine st_op (ev_lookupN ptrMap75 rfl rfl h12 hg) rfl rfl rfl ?_
  refine st_op (ev_assign rfl) rfl rfl rfl ?_
  try show aw _ _ _ _ _ _
  iterate 2 refine aw_seq ?_
  refine aw_reg ?_
  refine st_op (ev_move rfl) rfl rfl rfl ?_
  refine st_op (ev_nilEq rfl rfl Try.underlying79) rfl rfl rfl ?_
  try show aw _ _ _ _ _ _
  refine aw_cond (t := true) rfl ?_
  try show aw _ _ _ _ _ _
  refine aw_reg ?_
  refine st_op (ev_build zero81 pl81 (parts := []) rfl (cs := [.slice none 0 0, .int .i64 0, .bool false]) rfl) rfl rfl rfl ?_
  obtain ⟨b13, H14, he15, b13e, H14n_, hB17, f16⟩ := mem_box (P := Try.prog) H7 (v := .agg #[.slice none 0 0, .int .i64 0, .bool false]) (cs := [.slice none 0 0, .int .i64 0, .bool false]) rfl rfl
  refine st_op (he15 _ _ _ _ _ _ _ _ _ rfl) rfl rfl rfl ?_
  have hx18 : Ext H7 H14 := Ext.new (by omega) H14n_ f16
  have H14n : H7.next ≤ H14.next := hx18.1
  refine st_op (ev_assign rfl) rfl rfl rfl ?_
  try show aw _ _ _ _ _ _
  iterate 2 refine aw_seq ?_
  refine aw_reg ?_
  refine st_op (ev_move rfl) rfl rfl rfl ?_
  refine st_op (ev_nilCheck rfl) rfl rfl rfl ?_
  refine st_op (ev_fieldAddr rfl fa81_0 (o' := 0) rfl) rfl rfl rfl ?_
  refine st_op (ev_load rfl (lvar_one one26 hB17 rfl)) rfl rfl rfl ?_
  refine st_op (ev_lenSl rfl Try.underlying26) rfl rfl rfl ?_
  refine st_op (ev_move rfl) rfl rfl rfl ?_
  refine st_op (ev_lenSl rfl Try.underlying26) rfl rfl rfl ?_
  refine st_op (ev_int64 (c := 1048576 - (b.length : Int)) rfl rfl rfl (by omega) (by omega)) rfl rfl rfl ?_
  refine st_op (ev_int rfl rfl rfl) rfl rfl rfl ?_
  try show aw _ _ _ _ _ _
  by_cases hc19 : (decide (0 > 1048576 - (b.length : Int))) = true
  ·
   refine aw_condT hc19 rfl ?_
   try show aw _ _ _ _ _ _
   have hc19 := of_decide_eq_true hc19
   refine aw_seq ?_
   refine aw_reg ?_
   refine st_op (ev_assign rfl) rfl rfl rfl ?_
   try show aw _ _ _ _ _ _
   refine aw_ret ?_
   have h20 := Ext.blk hx18 (by omega) h10
   have h21 := Ext.blk hx18 (by omega) h12
   exact ⟨.int .i64 5, rfl, rfl, h20, h21, (Fr.trans (Fr.trans (Fr.transG (Fr.refl (fun q => q = d) H) hf5 (fun q hq hE e => (e))) (hx8.fr fun _ => False) (fun q hq (e : False) => e.elim)) (hx18.fr fun _ => False) (fun q hq (e : False) => e.elim))⟩
  ·
   rw [Bool.not_eq_true] at hc19; refine aw_condF hc19 rfl ?_
   try show aw _ _ _ _ _ _
   exfalso; simp only [decide_eq_true_eq, decide_eq_false_iff_not] at hc19; omega
theorem disk_SyncOld_spec (H : Heap) (mb : Nat) (hmb : mb < H.next) (m : List Value) (Bm : H.blk mb = some ⟨m, 0, false, true⟩) (k : Int) (hk : 0 ≤ k ∧ k ≤ 1099511627776) (d : Nat) (hd : d < H.next) (Bd : H.blk d = some ⟨[.map (some mb), .int .i64 k], 0, false, false⟩) (nm : ByteArray) (hnm : nm.size ≤ 140737488355328) (lA : Option Addr) (l : List Int) (lc : Nat) (hl : Row H lA lc 1 (l.map u8c)) (cl : l.length ≤ lc) (ll : l.length ≤ 1048576) (bl : Spec.Bytes l) (s : Int) (hs : 0 ≤ s ∧ s ≤ 1048576) (t : Bool) (f : Nat) (hf : f < H.next) (Bf : H.blk f = some ⟨[.slice lA l.length lc, .int .i64 s, .bool t], 0, false, false⟩) (hg : mapGet nm m = some (.pointer (some ⟨f, 0, none⟩))) (n1 : mb ≠ d) (n2 : f ≠ d) (n3 : f ≠ mb) : ∃ v H', Spec Try.prog 12 [.pointer (some ⟨d, 0, none⟩), .string nm] H v H' ∧ ((v = .int .i64 0) ∧ (H'.blk d = some ⟨[.map (some mb), .int .i64 (k + 1)], 0, false, false⟩) ∧ (H'.blk mb = some ⟨m, 0, false, true⟩) ∧ (H'.blk f = some ⟨[.slice lA l.length lc, .int .i64 (l.length : Int), .bool true], 0, false, false⟩) ∧ (Fr (fun q => q = d ∨ q = f) H H')) := by
 refine spec_go2 E0_ok 34 (f := 12) Try.func12 rfl rfl rfl ?_
 refine aw_seq ?_
 refine aw_reg ?_
 refine st_op (ev_assign rfl) rfl rfl rfl ?_
 try show aw _ _ _ _ _ _
 iterate 2 refine aw_seq ?_
 refine aw_reg ?_
 refine st_op (ev_move rfl) rfl rfl rfl ?_
 refine st_op (ev_nilEq rfl rfl Try.underlying24) rfl rfl rfl ?_
 try show aw _ _ _ _ _ _
 refine aw_cond (t := false) rfl ?_
 try show aw _ _ _ _ _ _
 refine aw_skip ?_
 try show aw _ _ _ _ _ _
 refine aw_seq ?_
 refine aw_reg ?_
 refine st_op (ev_move rfl) rfl rfl rfl ?_
 refine st_op (ev_nilCheck rfl) rfl rfl rfl ?_
 refine st_op (ev_fieldAddr rfl fa77_1 (o' := 1) rfl) rfl rfl rfl ?_
 refine st_op (ev_load rfl (lvar_one one3 Bd rfl)) rfl rfl rfl ?_
 refine st_op (ev_int64 (c := k + 1) rfl rfl rfl (by omega) (by omega)) rfl rfl rfl ?_
 refine st_op (ev_nilCheck rfl) rfl rfl rfl ?_
 refine st_op (ev_fieldAddr rfl fa77_1 (o' := 1) rfl) rfl rfl rfl ?_
 obtain ⟨H1, he2, H1n_, hB3, f4⟩ := mem_store (v := .int .i64 (k + 1)) (o := 1) (cs' := [.map (some mb), .int .i64 (k + 1)]) 1 rfl rfl size3 Bd rfl rfl rfl
 refine st_op0 (he2 _ _ _ _ _ _ _ _ _ rfl rfl) rfl rfl ?_
 have hf5 : Fr (fun q => q = d) H H1 := Fr.write H1n_ f4
 have H1n : H.next ≤ H1.next := hf5.1
 try show aw _ _ _ _ _ _
 refine aw_seq ?_
 refine aw_reg ?_
 refine st_op (ev_move rfl) rfl rfl rfl ?_
 refine st_op (ev_nilCheck rfl) rfl rfl rfl ?_
 refine st_op (ev_fieldAddr rfl fa77_0 (o' := 0) rfl) rfl rfl rfl ?_
 refine st_op (ev_load rfl (lvar_one one75 hB3 rfl)) rfl rfl rfl ?_
 refine st_op (ev_move rfl) rfl rfl rfl ?_
 have h6 := Fr.blk hf5 (by omega) (fun e => (by omega)) Bm
 refine st_op (ev_lookup ptrMap75 rfl rfl h6 hg) rfl rfl rfl ?_
 refine st_op (ev_assign rfl) rfl rfl rfl ?_
 try show aw _ _ _ _ _ _
 iterate 2 refine aw_seq ?_
 refine aw_reg ?_
 refine st_op (ev_move rfl) rfl rfl rfl ?_
 refine st_op (ev_nilEq rfl rfl Try.underlying79) rfl rfl rfl ?_
 try show aw _ _ _ _ _ _
 refine aw_cond (t := false) rfl ?_
 try show aw _ _ _ _ _ _
 refine aw_skip ?_
 try show aw _ _ _ _ _ _
 refine aw_seq ?_
 refine aw_reg ?_
 iterate 3 refine st_op (ev_move rfl) rfl rfl rfl ?_
 refine st_op (ev_nilCheck rfl) rfl rfl rfl ?_
 refine st_op (ev_fieldAddr rfl fa81_0 (o' := 0) rfl) rfl rfl rfl ?_
 have h7 := Fr.blk hf5 (by omega) (fun e => (by omega)) Bf
 refine st_op (ev_load rfl (lvar_one one26 h7 rfl)) rfl rfl rfl ?_
 refine st_op (ev_lenSl rfl Try.underlying26) rfl rfl rfl ?_
 refine st_op (ev_nilCheck rfl) rfl rfl rfl ?_
 refine st_op (ev_fieldAddr rfl fa81_1 (o' := 1) rfl) rfl rfl rfl ?_
 obtain ⟨H8, he9, H8n_, hB10, f11⟩ := mem_store (v := .int .i64 (l.length : Int)) (o := 1) (cs' := [.slice lA l.length lc, .int .i64 (l.length : Int), .bool t]) 1 rfl rfl size3 h7 rfl rfl rfl
 refine st_op0 (he9 _ _ _ _ _ _ _ _ _ rfl rfl) rfl rfl ?_
 have hf12 : Fr (fun q => q = f) H1 H8 := Fr.write H8n_ f11
 have H8n : H1.next ≤ H8.next := hf12.1
 refine st_op (ev_nilCheck rfl) rfl rfl rfl ?_
 refine st_op (ev_fieldAddr rfl fa81_2 (o' := 2) rfl) rfl rfl rfl ?_
 obtain ⟨H13, he14, H13n_, hB15, f16⟩ := mem_store (v := .bool true) (o := 2) (cs' := [.slice lA l.length lc, .int .i64 (l.length : Int), .bool true]) 1 rfl rfl size4 hB10 rfl rfl rfl
 refine st_op0 (he14 _ _ _ _ _ _ _ _ _ rfl rfl) rfl rfl ?_
 have hf17 : Fr (fun q => q = f) H8 H13 := Fr.write H13n_ f16
 have H13n : H8.next ≤ H13.next := hf17.1
 try show aw _ _ _ _ _ _
 refine aw_seq ?_
 refine aw_reg ?_
 refine st_op (ev_assign rfl) rfl rfl rfl ?_
 try show aw _ _ _ _ _ _
 refine aw_ret ?_
 have h18 := Fr.blk hf12 (by omega) (fun e => (by omega)) hB3
 have h19 := Fr.blk hf17 (by omega) (fun e => (by omega)) h18
 have h20 := Fr.blk hf12 (by omega) (fun e => (by omega)) h6
 have h21 := Fr.blk hf17 (by omega) (fun e => (by omega)) h20
 exact ⟨.int .i64 0, rfl, rfl, h19, h21, hB15, (Fr.transG (Fr.transG (Fr.transG (Fr.refl (fun q => q = d ∨ q = f) H) hf5 (fun q hq hE e => Or.inl (e))) hf12 (fun q hq hE e => Or.inr ((e)))) hf17 (fun q hq hE e => Or.inr ((e))))⟩
theorem disk_SyncNone_spec (H : Heap) (mb : Nat) (hmb : mb < H.next) (m : List Value) (Bm : H.blk mb = some ⟨m, 0, false, true⟩) (k : Int) (hk : 0 ≤ k ∧ k ≤ 1099511627776) (d : Nat) (hd : d < H.next) (Bd : H.blk d = some ⟨[.map (some mb), .int .i64 k], 0, false, false⟩) (nm : ByteArray) (hnm : nm.size ≤ 140737488355328) (hg : mapGet nm m = none) (n1 : mb ≠ d) : ∃ v H', Spec Try.prog 12 [.pointer (some ⟨d, 0, none⟩), .string nm] H v H' ∧ ((v = .int .i64 14) ∧ (H'.blk d = some ⟨[.map (some mb), .int .i64 (k + 1)], 0, false, false⟩) ∧ (H'.blk mb = some ⟨m, 0, false, true⟩) ∧ (Fr (fun q => q = d) H H')) := by
 refine spec_go2 E0_ok 34 (f := 12) Try.func12 rfl rfl rfl ?_
 refine aw_seq ?_
 refine aw_reg ?_
 refine st_op (ev_assign rfl) rfl rfl rfl ?_
 try show aw _ _ _ _ _ _
 iterate 2 refine aw_seq ?_
 refine aw_reg ?_
 refine st_op (ev_move rfl) rfl rfl rfl ?_
 refine st_op (ev_nilEq rfl rfl Try.underlying24) rfl rfl rfl ?_
 try show aw _ _ _ _ _ _
 refine aw_cond (t := false) rfl ?_
 try show aw _ _ _ _ _ _
 refine aw_skip ?_
 try show aw _ _ _ _ _ _
 refine aw_seq ?_
 refine aw_reg ?_
 refine st_op (ev_move rfl) rfl rfl rfl ?_
 refine st_op (ev_nilCheck rfl) rfl rfl rfl ?_
 refine st_op (ev_fieldAddr rfl fa77_1 (o' := 1) rfl) rfl rfl rfl ?_
 refine st_op (ev_load rfl (lvar_one one3 Bd rfl)) rfl rfl rfl ?_
 refine st_op (ev_int64 (c := k + 1) rfl rfl rfl (by omega) (by omega)) rfl rfl rfl ?_
 refine st_op (ev_nilCheck rfl) rfl rfl rfl ?_
 refine st_op (ev_fieldAddr rfl fa77_1 (o' := 1) rfl) rfl rfl rfl ?_
 obtain ⟨H1, he2, H1n_, hB3, f4⟩ := mem_store (v := .int .i64 (k + 1)) (o := 1) (cs' := [.map (some mb), .int .i64 (k + 1)]) 1 rfl rfl size3 Bd rfl rfl rfl
 refine st_op0 (he2 _ _ _ _ _ _ _ _ _ rfl rfl) rfl rfl ?_
 have hf5 : Fr (fun q => q = d) H H1 := Fr.write H1n_ f4
 have H1n : H.next ≤ H1.next := hf5.1
 try show aw _ _ _ _ _ _
 refine aw_seq ?_
 refine aw_reg ?_
 refine st_op (ev_move rfl) rfl rfl rfl ?_
 refine st_op (ev_nilCheck rfl) rfl rfl rfl ?_
 refine st_op (ev_fieldAddr rfl fa77_0 (o' := 0) rfl) rfl rfl rfl ?_
 refine st_op (ev_load rfl (lvar_one one75 hB3 rfl)) rfl rfl rfl ?_
 refine st_op (ev_move rfl) rfl rfl rfl ?_
 have h6 := Fr.blk hf5 (by omega) (fun e => (by omega)) Bm
 refine st_op (ev_lookupN ptrMap75 rfl rfl h6 hg) rfl rfl rfl ?_
 refine st_op (ev_assign rfl) rfl rfl rfl ?_
 try show aw _ _ _ _ _ _
 iterate 2 refine aw_seq ?_
 refine aw_reg ?_
 refine st_op (ev_move rfl) rfl rfl rfl ?_
 refine st_op (ev_nilEq rfl rfl Try.underlying79) rfl rfl rfl ?_
 try show aw _ _ _ _ _ _
 refine aw_cond (t := true) rfl ?_
 try show aw _ _ _ _ _ _
 refine aw_seq ?_
 refine aw_reg ?_
 refine st_op (ev_assign rfl) rfl rfl rfl ?_
 try show aw _ _ _ _ _ _
 refine aw_ret ?_
 exact ⟨.int .i64 14, rfl, rfl, hB3, h6, (Fr.transG (Fr.refl (fun q => q = d) H) hf5 (fun q hq hE e => (e)))⟩
theorem disk_SwapForm_spec (H : Heap) (mb : Nat) (hmb : mb < H.next) (m : List Value) (Bm : H.blk mb = some ⟨m, 0, false, true⟩) (k : Int) (hk : 0 ≤ k ∧ k ≤ 1099511627776) (d : Nat) (hd : d < H.next) (Bd : H.blk d = some ⟨[.map (some mb), .int .i64 k], 0, false, false⟩) (nm : ByteArray) (hnm : nm.size ≤ 140737488355328) (bA : Option Addr) (b : List Int) (bc : Nat) (hb : Row H bA bc 1 (b.map u8c)) (cb : b.length ≤ bc) (lb : b.length ≤ 140737488355328) (bb : Spec.Bytes b) (hn : Spec.nameF nm = false) (n1 : mb ≠ d) : ∃ v H', Spec Try.prog 13 [.pointer (some ⟨d, 0, none⟩), .string nm, .slice bA b.length bc] H v H' ∧ ((v = .int .i64 1) ∧ (H'.blk d = some ⟨[.map (some mb), .int .i64 (k + 1)], 0, false, false⟩) ∧ (H'.blk mb = some ⟨m, 0, false, true⟩) ∧ (Fr (fun q => q = d) H H')) := by
 refine spec_go3 E0_ok 35 (f := 13) Try.func13 rfl rfl rfl ?_
 refine aw_seq ?_
 refine aw_reg ?_
 refine st_op (ev_assign rfl) rfl rfl rfl ?_
 try show aw _ _ _ _ _ _
 iterate 2 refine aw_seq ?_
 refine aw_reg ?_
 refine st_op (ev_move rfl) rfl rfl rfl ?_
 refine st_op (ev_nilEq rfl rfl Try.underlying24) rfl rfl rfl ?_
 try show aw _ _ _ _ _ _
 refine aw_cond (t := false) rfl ?_
 try show aw _ _ _ _ _ _
 refine aw_skip ?_
 try show aw _ _ _ _ _ _
 refine aw_seq ?_
 refine aw_reg ?_
 refine st_op (ev_move rfl) rfl rfl rfl ?_
 refine st_op (ev_nilCheck rfl) rfl rfl rfl ?_
 refine st_op (ev_fieldAddr rfl fa77_1 (o' := 1) rfl) rfl rfl rfl ?_
 refine st_op (ev_load rfl (lvar_one one3 Bd rfl)) rfl rfl rfl ?_
 refine st_op (ev_int64 (c := k + 1) rfl rfl rfl (by omega) (by omega)) rfl rfl rfl ?_
 refine st_op (ev_nilCheck rfl) rfl rfl rfl ?_
 refine st_op (ev_fieldAddr rfl fa77_1 (o' := 1) rfl) rfl rfl rfl ?_
 obtain ⟨H1, he2, H1n_, hB3, f4⟩ := mem_store (v := .int .i64 (k + 1)) (o := 1) (cs' := [.map (some mb), .int .i64 (k + 1)]) 1 rfl rfl size3 Bd rfl rfl rfl
 refine st_op0 (he2 _ _ _ _ _ _ _ _ _ rfl rfl) rfl rfl ?_
 have hf5 : Fr (fun q => q = d) H H1 := Fr.write H1n_ f4
 have H1n : H.next ≤ H1.next := hf5.1
 try show aw _ _ _ _ _ _
 refine aw_seq ?_
 refine aw_block ?_
 refine aw_seq ?_
 refine aw_reg ?_
 refine st_op (ev_move rfl) rfl rfl rfl ?_
 refine st_call rfl rfl rfl ent32 rfl rfl rfl ?_
 obtain ⟨_, H7, hs6, hs6v, hx8⟩ := disk_may_spec H1 nm (by omega)
 rw [hs6v] at hs6; clear hs6v
 refine ⟨_, H7, hs6, ?_⟩
 have H7n : H1.next ≤ H7.next := hx8.1
 refine st_op (ev_not rfl) rfl rfl rfl ?_
 refine st_op (ev_assign rfl) rfl rfl rfl ?_
 try show aw _ _ _ _ _ _
 by_cases hc9 : (!(Spec.nameF nm)) = true
 ·
  refine aw_condT hc9 rfl ?_
  try show aw _ _ _ _ _ _
  replace hc9 : (Spec.nameF nm) = false := by rw [Bool.not_eq_true'] at hc9; exact hc9
  refine aw_seq ?_
  refine aw_reg ?_
  refine st_op (ev_assign rfl) rfl rfl rfl ?_
  try show aw _ _ _ _ _ _
  refine aw_ret ?_
  have h10 := Ext.blk hx8 (by omega) hB3
  have h11 := Fr.blk hf5 (by omega) (fun e => (by omega)) Bm
  have h12 := Ext.blk hx8 (by omega) h11
  exact ⟨.int .i64 1, rfl, rfl, h10, h12, (Fr.trans (Fr.transG (Fr.refl (fun q => q = d) H) hf5 (fun q hq hE e => (e))) (hx8.fr fun _ => False) (fun q hq (e : False) => e.elim))⟩
 ·
  rw [Bool.not_eq_true] at hc9; refine aw_condF hc9 rfl ?_
  try show aw _ _ _ _ _ _
  replace hc9 : (Spec.nameF nm) = true := by rw [Bool.not_eq_false'] at hc9; exact hc9
  exfalso; simp_all
theorem disk_SwapFull_spec (H : Heap) (mb : Nat) (hmb : mb < H.next) (m : List Value) (Bm : H.blk mb = some ⟨m, 0, false, true⟩) (k : Int) (hk : 0 ≤ k ∧ k ≤ 1099511627776) (d : Nat) (hd : d < H.next) (Bd : H.blk d = some ⟨[.map (some mb), .int .i64 k], 0, false, false⟩) (nm : ByteArray) (hnm : nm.size ≤ 140737488355328) (bA : Option Addr) (b : List Int) (bc : Nat) (hb : Row H bA bc 1 (b.map u8c)) (cb : b.length ≤ bc) (lb : b.length ≤ 140737488355328) (bb : Spec.Bytes b) (hn : Spec.nameF nm = true) (hl9 : 1048576 < b.length) (n1 : mb ≠ d) : ∃ v H', Spec Try.prog 13 [.pointer (some ⟨d, 0, none⟩), .string nm, .slice bA b.length bc] H v H' ∧ ((v = .int .i64 5) ∧ (H'.blk d = some ⟨[.map (some mb), .int .i64 (k + 1)], 0, false, false⟩) ∧ (H'.blk mb = some ⟨m, 0, false, true⟩) ∧ (Fr (fun q => q = d) H H')) := by
 refine spec_go3 E0_ok 35 (f := 13) Try.func13 rfl rfl rfl ?_
 refine aw_seq ?_
 refine aw_reg ?_
 refine st_op (ev_assign rfl) rfl rfl rfl ?_
 try show aw _ _ _ _ _ _
 iterate 2 refine aw_seq ?_
 refine aw_reg ?_
 refine st_op (ev_move rfl) rfl rfl rfl ?_
 refine st_op (ev_nilEq rfl rfl Try.underlying24) rfl rfl rfl ?_
 try show aw _ _ _ _ _ _
 refine aw_cond (t := false) rfl ?_
 try show aw _ _ _ _ _ _
 refine aw_skip ?_
 try show aw _ _ _ _ _ _
 refine aw_seq ?_
 refine aw_reg ?_
 refine st_op (ev_move rfl) rfl rfl rfl ?_
 refine st_op (ev_nilCheck rfl) rfl rfl rfl ?_
 refine st_op (ev_fieldAddr rfl fa77_1 (o' := 1) rfl) rfl rfl rfl ?_
 refine st_op (ev_load rfl (lvar_one one3 Bd rfl)) rfl rfl rfl ?_
 refine st_op (ev_int64 (c := k + 1) rfl rfl rfl (by omega) (by omega)) rfl rfl rfl ?_
 refine st_op (ev_nilCheck rfl) rfl rfl rfl ?_
 refine st_op (ev_fieldAddr rfl fa77_1 (o' := 1) rfl) rfl rfl rfl ?_
 obtain ⟨H1, he2, H1n_, hB3, f4⟩ := mem_store (v := .int .i64 (k + 1)) (o := 1) (cs' := [.map (some mb), .int .i64 (k + 1)]) 1 rfl rfl size3 Bd rfl rfl rfl
 refine st_op0 (he2 _ _ _ _ _ _ _ _ _ rfl rfl) rfl rfl ?_
 have hf5 : Fr (fun q => q = d) H H1 := Fr.write H1n_ f4
 have H1n : H.next ≤ H1.next := hf5.1
 try show aw _ _ _ _ _ _
 refine aw_seq ?_
 refine aw_block ?_
 refine aw_seq ?_
 refine aw_reg ?_
 refine st_op (ev_move rfl) rfl rfl rfl ?_
 refine st_call rfl rfl rfl ent32 rfl rfl rfl ?_
 obtain ⟨_, H7, hs6, hs6v, hx8⟩ := disk_may_spec H1 nm (by omega)
 rw [hs6v] at hs6; clear hs6v
 refine ⟨_, H7, hs6, ?_⟩
 have H7n : H1.next ≤ H7.next := hx8.1
 refine st_op (ev_not rfl) rfl rfl rfl ?_
 refine st_op (ev_assign rfl) rfl rfl rfl ?_
 try show aw _ _ _ _ _ _
 by_cases hc9 : (!(Spec.nameF nm)) = true
 ·
  refine aw_condT hc9 rfl ?_
  try show aw _ _ _ _ _ _
  replace hc9 : (Spec.nameF nm) = false := by rw [Bool.not_eq_true'] at hc9; exact hc9
  exfalso; simp_all
 ·
  rw [Bool.not_eq_true] at hc9; refine aw_condF hc9 rfl ?_
  try show aw _ _ _ _ _ _
  replace hc9 : (Spec.nameF nm) = true := by rw [Bool.not_eq_false'] at hc9; exact hc9
  refine aw_seq ?_
  refine aw_reg ?_
  refine st_op (ev_move rfl) rfl rfl rfl ?_
  refine st_op (ev_lenSl rfl Try.underlying26) rfl rfl rfl ?_
  refine st_op (ev_int rfl rfl rfl) rfl rfl rfl ?_
  refine st_op (ev_assign rfl) rfl rfl rfl ?_
  try show aw _ _ _ _ _ _
  by_cases hc10 : (decide ((b.length : Int) > 1048576)) = true
  ·
   refine aw_condT hc10 rfl ?_
   try show aw _ _ _ _ _ _
   have hc10 := of_decide_eq_true hc10
   refine aw_seq ?_
   refine aw_reg ?_
   refine st_op (ev_assign rfl) rfl rfl rfl ?_
   try show aw _ _ _ _ _ _
   refine aw_ret ?_
   have h11 := Ext.blk hx8 (by omega) hB3
   have h12 := Fr.blk hf5 (by omega) (fun e => (by omega)) Bm
   have h13 := Ext.blk hx8 (by omega) h12
   exact ⟨.int .i64 5, rfl, rfl, h11, h13, (Fr.trans (Fr.transG (Fr.refl (fun q => q = d) H) hf5 (fun q hq hE e => (e))) (hx8.fr fun _ => False) (fun q hq (e : False) => e.elim))⟩
  ·
   rw [Bool.not_eq_true] at hc10; refine aw_condF hc10 rfl ?_
   try show aw _ _ _ _ _ _
   exfalso; simp only [decide_eq_true_eq, decide_eq_false_iff_not] at hc10; omega
theorem bytes_Clone_spec (H : Heap) (lA : Option Addr) (l : List Int) (lc : Nat) (hl : Row H lA lc 1 (l.map u8c)) (cl : l.length ≤ lc) (ll : l.length ≤ 1073741824) : ∃ v H', Spec Try.prog 33 [.slice lA l.length lc] H v H' ∧ (∃ rA0 rc0, (v = .slice rA0 l.length rc0) ∧ (My H H' rA0 rc0 1 (l.map u8c)) ∧ (Ext H H')) := by
 refine spec_go1 E0_ok 8 (f := 33) Try.func33 rfl rfl rfl ?_
 refine aw_seq ?_
 refine aw_reg ?_
 refine st_op (ev_assign rfl) rfl rfl rfl ?_
 try show aw _ _ _ _ _ _
 iterate 2 refine aw_seq ?_
 refine aw_reg ?_
 refine st_op (ev_move rfl) rfl rfl rfl ?_
 refine st_op (ev_nilSl rfl rfl Try.underlying26) rfl rfl rfl ?_
 try show aw _ _ _ _ _ _
 by_cases hc1 : (Option.isNone lA) = true
 ·
  refine aw_condT hc1 rfl ?_
  try show aw _ _ _ _ _ _
  refine aw_seq ?_
  refine aw_reg ?_
  refine st_op (ev_assign rfl) rfl rfl rfl ?_
  try show aw _ _ _ _ _ _
  refine aw_ret ?_
  have hm2 : My H H none 0 1 (([] : List Int).map u8c) := .nil
  have hres : l = ([] : List Int) := by exact Row.isNone hl (by assumption)
  exact ⟨.slice none 0 0, rfl, none, 0, by first | (rw [hres]; first | done | rfl | simp; done) | rfl, (by rw [hres]; exact hm2), (Ext.refl H)⟩
 ·
  rw [Bool.not_eq_true] at hc1; refine aw_condF hc1 rfl ?_
  try show aw _ _ _ _ _ _
  refine aw_skip ?_
  try show aw _ _ _ _ _ _
  refine aw_seq ?_
  refine aw_reg ?_
  obtain ⟨b3, H4, he5, b3e, H4n_, hm7, f6⟩ := mem_lit H (xs := ([] : List Value)) (m := 0) (rows := ([] : List (List Value))) rfl eok26 (by decide) (by decide) zf5 rfl (allLen rfl) rfl
  replace hm7 : My H H4 (some ⟨b3, 0, none⟩) 0 1 (([] : List Int).map u8c) := hm7
  refine st_op (he5 _ _ _ _ _ _ _ _ rfl) rfl rfl rfl ?_
  have hx8 : Ext H H4 := Ext.new (by omega) H4n_ f6
  have H4n : H.next ≤ H4.next := hx8.1
  refine st_op (ev_move rfl) rfl rfl rfl ?_
  have h9 := Row.ext hl hx8
  obtain ⟨A10, c11, H12, W13, he14, hm15, hf16⟩ := mem_append (f := u8c) (old := ([] : List Int)) (new := l) (m := 0) (mx := l.length) (c := 0) (by first | rfl | simp) (by first | rfl | simp) eok26 (by decide) hm7 hm7 (by omega) ((h9).srcF (by decide) (by first | rfl | simp)) rfl u8c_len u8c_one (by first | omega | (simp only [List.length_append, List.length_cons, List.length_nil, List.length_map, List.length_set, List.length_replicate, Spec.bytesOf_length]; omega) | (simp; omega)) (by first | omega | (simp only [List.length_append, List.length_cons, List.length_nil, List.length_map, List.length_set, List.length_replicate, Spec.bytesOf_length]; omega) | (simp; omega))
  refine st_op (he14 _ _ _ _ _ _ _ _ _ _ rfl rfl isrow26) rfl rfl rfl ?_
  have H12n : H4.next ≤ H12.next := hf16.1
  rw [List.nil_append] at hm15
  refine st_op (ev_assign rfl) rfl rfl rfl ?_
  try show aw _ _ _ _ _ _
  refine aw_ret ?_
  have hx17 : Ext H H12 := (Ext.then hx8 hf16 (fun q hq e => by omega))
  have hres : l = l := by rfl
  exact ⟨.slice A10 l.length c11, rfl, A10, c11, by first | (rw [hres]; first | done | rfl | simp; done) | rfl, (by rw [hres]; exact hm15), hx17⟩
theorem disk_SwapOk_spec (H : Heap) (mb : Nat) (hmb : mb < H.next) (m : List Value) (Bm : H.blk mb = some ⟨m, 0, false, true⟩) (k : Int) (hk : 0 ≤ k ∧ k ≤ 1099511627776) (d : Nat) (hd : d < H.next) (Bd : H.blk d = some ⟨[.map (some mb), .int .i64 k], 0, false, false⟩) (nm : ByteArray) (hnm : nm.size ≤ 140737488355328) (bA : Option Addr) (b : List Int) (bc : Nat) (hb : Row H bA bc 1 (b.map u8c)) (cb : b.length ≤ bc) (lb : b.length ≤ 140737488355328) (bb : Spec.Bytes b) (hn : Spec.nameF nm = true) (hl9 : b.length ≤ 1048576) (n1 : mb ≠ d) : ∃ v H', Spec Try.prog 13 [.pointer (some ⟨d, 0, none⟩), .string nm, .slice bA b.length bc] H v H' ∧ (∃ b20 A17 c18, (v = .int .i64 0) ∧ (H'.blk d = some ⟨[.map (some mb), .int .i64 (k + 1)], 0, false, false⟩) ∧ (H'.blk mb = some ⟨(mapPut nm (.pointer (some ⟨b20, 0, none⟩)) m), 0, false, true⟩) ∧ (H.next ≤ b20 ∧ b20 < H'.next) ∧ (H'.blk b20 = some ⟨[.slice A17 b.length c18, .int .i64 (b.length : Int), .bool true], 0, false, false⟩) ∧ (My H H' A17 c18 1 (b.map u8c)) ∧ (Fr (fun q => q = d ∨ q = mb) H H')) := by
 refine spec_go3 E0_ok 35 (f := 13) Try.func13 rfl rfl rfl ?_
 refine aw_seq ?_
 refine aw_reg ?_
 refine st_op (ev_assign rfl) rfl rfl rfl ?_
 try show aw _ _ _ _ _ _
 iterate 2 refine aw_seq ?_
 refine aw_reg ?_
 refine st_op (ev_move rfl) rfl rfl rfl ?_
 refine st_op (ev_nilEq rfl rfl Try.underlying24) rfl rfl rfl ?_
 try show aw _ _ _ _ _ _
 refine aw_cond (t := false) rfl ?_
 try show aw _ _ _ _ _ _
 refine aw_skip ?_
 try show aw _ _ _ _ _ _
 refine aw_seq ?_
 refine aw_reg ?_
 refine st_op (ev_move rfl) rfl rfl rfl ?_
 refine st_op (ev_nilCheck rfl) rfl rfl rfl ?_
 refine st_op (ev_fieldAddr rfl fa77_1 (o' := 1) rfl) rfl rfl rfl ?_
 refine st_op (ev_load rfl (lvar_one one3 Bd rfl)) rfl rfl rfl ?_
 refine st_op (ev_int64 (c := k + 1) rfl rfl rfl (by omega) (by omega)) rfl rfl rfl ?_
 refine st_op (ev_nilCheck rfl) rfl rfl rfl ?_
 refine st_op (ev_fieldAddr rfl fa77_1 (o' := 1) rfl) rfl rfl rfl ?_
 obtain ⟨H1, he2, H1n_, hB3, f4⟩ := mem_store (v := .int .i64 (k + 1)) (o := 1) (cs' := [.map (some mb), .int .i64 (k + 1)]) 1 rfl rfl size3 Bd rfl rfl rfl
 refine st_op0 (he2 _ _ _ _ _ _ _ _ _ rfl rfl) rfl rfl ?_
 have hf5 : Fr (fun q => q = d) H H1 := Fr.write H1n_ f4
 have H1n : H.next ≤ H1.next := hf5.1
 try show aw _ _ _ _ _ _
 refine aw_seq ?_
 refine aw_block ?_
 refine aw_seq ?_
 refine aw_reg ?_
 refine st_op (ev_move rfl) rfl rfl rfl ?_
 refine st_call rfl rfl rfl ent32 rfl rfl rfl ?_
 obtain ⟨_, H7, hs6, hs6v, hx8⟩ := disk_may_spec H1 nm (by omega)
 rw [hs6v] at hs6; clear hs6v
 refine ⟨_, H7, hs6, ?_⟩
 have H7n : H1.next ≤ H7.next := hx8.1
 refine st_op (ev_not rfl) rfl rfl rfl ?_
 refine st_op (ev_assign rfl) rfl rfl rfl ?_
 try show aw _ _ _ _ _ _
 by_cases hc9 : (!(Spec.nameF nm)) = true
 ·
  refine aw_condT hc9 rfl ?_
  try show aw _ _ _ _ _ _
  replace hc9 : (Spec.nameF nm) = false := by rw [Bool.not_eq_true'] at hc9; exact hc9
  exfalso; simp_all
 ·
  rw [Bool.not_eq_true] at hc9; refine aw_condF hc9 rfl ?_
  try show aw _ _ _ _ _ _
  replace hc9 : (Spec.nameF nm) = true := by rw [Bool.not_eq_false'] at hc9; exact hc9
  refine aw_seq ?_
  refine aw_reg ?_
  refine st_op (ev_move rfl) rfl rfl rfl ?_
  refine st_op (ev_lenSl rfl Try.underlying26) rfl rfl rfl ?_
  refine st_op (ev_int rfl rfl rfl) rfl rfl rfl ?_
  refine st_op (ev_assign rfl) rfl rfl rfl ?_
  try show aw _ _ _ _ _ _
  by_cases hc10 : (decide ((b.length : Int) > 1048576)) = true
  ·
   refine aw_condT hc10 rfl ?_
   try show aw _ _ _ _ _ _
   exfalso; simp only [decide_eq_true_eq, decide_eq_false_iff_not] at hc10; omega
  ·
   rw [Bool.not_eq_true] at hc10; refine aw_condF hc10 rfl ?_
   try show aw _ _ _ _ _ _
   have hc10 := of_decide_eq_false hc10
   refine aw_skip ?_
   try show aw _ _ _ _ _ _
   refine aw_seq ?_
   refine aw_marks (fun b => b < H7.next) [(false, false), (false, false), (false, false), (true, false), (false, false), (false, false), (false, true), (false, false), (false, false), (false, false), (false, true), (false, false)] mixed (by kernel_rfl) (by kernel_rfl) ?_
   refine sm_op (ev_move rfl) rfl rfl rfl ?_
   refine sm_op (ev_nilCheck rfl) rfl rfl rfl ?_
   refine sm_op (ev_fieldAddr rfl fa77_0 (o' := 0) rfl) rfl rfl rfl ?_
   have h11 := Ext.blk hx8 (by omega) hB3
   refine sm_read (ev_load rfl (lvar_one one75 h11 rfl)) rfl rfl rfl (fun b hb => by cases hb; dsimp only <;> omega) ?_
   iterate 2 refine sm_op (ev_move rfl) rfl rfl rfl ?_
   refine sm_call rfl rfl rfl ent33 rfl rfl rfl ?_
   have h12 := Row.fr hb hf5 (fun q hq e => ⟨_, e ▸ Bd, show (0 : Nat) ≠ 1 by decide⟩)
   have h13 := Row.ext h12 hx8
   obtain ⟨_, H15, hs14, A17, c18, hs14v, hm19, hx16⟩ := bytes_Clone_spec H7 bA b bc h13 cb (by omega)
   rw [hs14v] at hs14; clear hs14v
   refine ⟨_, H15, hs14, (fun _ b hb => hx16.2 b (by omega)), ?_⟩
   have H15n : H7.next ≤ H15.next := hx16.1
   refine sm_op (ev_move rfl) rfl rfl rfl ?_
   refine sm_op (ev_lenSl rfl Try.underlying26) rfl rfl rfl ?_
   refine sm_op (ev_build zero81 pl81 (parts := [(0, .slice A17 b.length c18), (1, .int .i64 (b.length : Int)), (2, .bool true)]) rfl (cs := [.slice A17 b.length c18, .int .i64 (b.length : Int), .bool true]) rfl) rfl rfl rfl ?_
   obtain ⟨b20, H21, he22, b20e, H21n_, hB24, f23⟩ := mem_box (P := Try.prog) H15 (v := .agg #[.slice A17 b.length c18, .int .i64 (b.length : Int), .bool true]) (cs := [.slice A17 b.length c18, .int .i64 (b.length : Int), .bool true]) rfl rfl
   refine sm_act (he22 _ _ _ _ _ _ _ _ _ rfl) rfl rfl rfl (fun q hq => f23 q (by omega)) ?_
   have hx25 : Ext H15 H21 := Ext.new (by omega) H21n_ f23
   have H21n : H15.next ≤ H21.next := hx25.1
   have h26 := Fr.blk hf5 (by omega) (fun e => (by omega)) Bm
   have hx28 : Ext H1 H21 := (Ext.trans (Ext.trans hx8 hx16) hx25)
   have h27 := Ext.blk hx28 (by omega) h26
   obtain ⟨H29, he30, H29n_, hB31, f32⟩ := mem_mapUpd (v := .pointer (some ⟨b20, 0, none⟩)) (s := nm) ptrMap75 h27 (by omega)
   refine sm_op0 (he30 _ _ _ _ _ _ _ _ _ _ rfl rfl rfl) rfl rfl ?_
   have hf33 : Fr (fun q => q = mb) H21 H29 := Fr.write H29n_ f32
   have H29n : H21.next ≤ H29.next := hf33.1
   try show aw _ _ _ _ _ _
   refine aw_seq ?_
   refine aw_reg ?_
   refine st_op (ev_assign rfl) rfl rfl rfl ?_
   try show aw _ _ _ _ _ _
   refine aw_ret ?_
   have hx35 : Ext H7 H21 := (Ext.trans hx16 hx25)
   have h34 := Ext.blk hx35 (by omega) h11
   have h36 := Fr.blk hf33 (by omega) (fun e => (by omega)) h34
   have h37 := Fr.blk hf33 (by omega) (fun e => (by omega)) hB24
   have h38 := My.ext hm19 hx25
   have h39 := My.frS h38 hf33 (fun q hq e => ⟨_, e ▸ h27, show (0 : Nat) ≠ 1 by decide⟩)
   exact ⟨.int .i64 0, rfl, b20, A17, c18, rfl, h36, hB31, ⟨by omega, by omega⟩, h37, (My.older h39 (by omega)), (Fr.transG (Fr.trans (Fr.trans (Fr.trans (Fr.transG (Fr.refl (fun q => q = d ∨ q = mb) H) hf5 (fun q hq hE e => Or.inl (e))) (hx8.fr fun _ => False) (fun q hq (e : False) => e.elim)) (hx16.fr fun _ => False) (fun q hq (e : False) => e.elim)) (hx25.fr fun _ => False) (fun q hq (e : False) => e.elim)) hf33 (fun q hq hE e => Or.inr ((e))))⟩
theorem disk_ReadOld_spec (H : Heap) (mb : Nat) (hmb : mb < H.next) (m : List Value) (Bm : H.blk mb = some ⟨m, 0, false, true⟩) (k : Int) (hk : 0 ≤ k ∧ k ≤ 1099511627776) (d : Nat) (hd : d < H.next) (Bd : H.blk d = some ⟨[.map (some mb), .int .i64 k], 0, false, false⟩) (nm : ByteArray) (hnm : nm.size ≤ 140737488355328) (lA : Option Addr) (l : List Int) (lc : Nat) (hl : Row H lA lc 1 (l.map u8c)) (cl : l.length ≤ lc) (ll : l.length ≤ 1048576) (bl : Spec.Bytes l) (s : Int) (hs : 0 ≤ s ∧ s ≤ 1048576) (t : Bool) (f : Nat) (hf : f < H.next) (Bf : H.blk f = some ⟨[.slice lA l.length lc, .int .i64 s, .bool t], 0, false, false⟩) (hg : mapGet nm m = some (.pointer (some ⟨f, 0, none⟩))) (n1 : mb ≠ d) (n2 : f ≠ d) (n3 : f ≠ mb) : ∃ v H', Spec Try.prog 16 [.pointer (some ⟨d, 0, none⟩), .string nm] H v H' ∧ (∃ A4 c5, (v = .tuple #[.slice A4 l.length c5, .int .i64 0]) ∧ (My H H' A4 c5 1 (l.map u8c)) ∧ (Ext H H')) := by
 refine spec_go2 E0_ok 27 (f := 16) Try.func16 rfl rfl rfl ?_
 refine aw_seq ?_
 refine aw_reg ?_
 iterate 2 refine st_op (ev_assign rfl) rfl rfl rfl ?_
 try show aw _ _ _ _ _ _
 iterate 2 refine aw_seq ?_
 refine aw_reg ?_
 refine st_op (ev_move rfl) rfl rfl rfl ?_
 refine st_op (ev_nilEq rfl rfl Try.underlying24) rfl rfl rfl ?_
 iterate 2 refine st_op (ev_move rfl) rfl rfl rfl ?_
 refine st_op (ev_nilCheck rfl) rfl rfl rfl ?_
 refine st_op (ev_fieldAddr rfl fa77_0 (o' := 0) rfl) rfl rfl rfl ?_
 refine st_op (ev_load rfl (lvar_one one75 Bd rfl)) rfl rfl rfl ?_
 refine st_op (ev_move rfl) rfl rfl rfl ?_
 refine st_op (ev_lookup ptrMap75 rfl rfl Bm hg) rfl rfl rfl ?_
 refine st_op (ev_nilEq rfl rfl Try.underlying79) rfl rfl rfl ?_
 refine st_op (ev_pickF rfl rfl) rfl rfl rfl ?_
 try show aw _ _ _ _ _ _
 refine aw_cond (t := false) rfl ?_
 try show aw _ _ _ _ _ _
 refine aw_skip ?_
 try show aw _ _ _ _ _ _
 refine aw_seq ?_
 refine aw_reg ?_
 refine st_op (ev_move rfl) rfl rfl rfl ?_
 refine st_op (ev_nilCheck rfl) rfl rfl rfl ?_
 refine st_op (ev_fieldAddr rfl fa77_0 (o' := 0) rfl) rfl rfl rfl ?_
 refine st_op (ev_load rfl (lvar_one one75 Bd rfl)) rfl rfl rfl ?_
 refine st_op (ev_move rfl) rfl rfl rfl ?_
 refine st_op (ev_lookup ptrMap75 rfl rfl Bm hg) rfl rfl rfl ?_
 refine st_op (ev_nilCheck rfl) rfl rfl rfl ?_
 refine st_op (ev_fieldAddr rfl fa81_0 (o' := 0) rfl) rfl rfl rfl ?_
 refine st_op (ev_load rfl (lvar_one one26 Bf rfl)) rfl rfl rfl ?_
 refine st_call rfl rfl rfl ent33 rfl rfl rfl ?_
 obtain ⟨_, H2, hs1, A4, c5, hs1v, hm6, hx3⟩ := bytes_Clone_spec H lA l lc hl cl (by omega)
 rw [hs1v] at hs1; clear hs1v
 refine ⟨_, H2, hs1, ?_⟩
 have H2n : H.next ≤ H2.next := hx3.1
 iterate 2 refine st_op (ev_assign rfl) rfl rfl rfl ?_
 try show aw _ _ _ _ _ _
 refine aw_ret ?_
 exact ⟨.tuple #[.slice A4 l.length c5, .int .i64 0], rfl, A4, c5, rfl, hm6, hx3⟩
theorem disk_ReadNone_spec (H : Heap) (mb : Nat) (hmb : mb < H.next) (m : List Value) (Bm : H.blk mb = some ⟨m, 0, false, true⟩) (k : Int) (hk : 0 ≤ k ∧ k ≤ 1099511627776) (d : Nat) (hd : d < H.next) (Bd : H.blk d = some ⟨[.map (some mb), .int .i64 k], 0, false, false⟩) (nm : ByteArray) (hnm : nm.size ≤ 140737488355328) (hg : mapGet nm m = none) (n1 : mb ≠ d) : ∃ v H', Spec Try.prog 16 [.pointer (some ⟨d, 0, none⟩), .string nm] H v H' ∧ ((v = .tuple #[.slice none 0 0, .int .i64 14]) ∧ (Ext H H')) := by
 refine spec_go2 E0_ok 27 (f := 16) Try.func16 rfl rfl rfl ?_
 refine aw_seq ?_
 refine aw_reg ?_
 iterate 2 refine st_op (ev_assign rfl) rfl rfl rfl ?_
 try show aw _ _ _ _ _ _
 iterate 2 refine aw_seq ?_
 refine aw_reg ?_
 refine st_op (ev_move rfl) rfl rfl rfl ?_
 refine st_op (ev_nilEq rfl rfl Try.underlying24) rfl rfl rfl ?_
 iterate 2 refine st_op (ev_move rfl) rfl rfl rfl ?_
 refine st_op (ev_nilCheck rfl) rfl rfl rfl ?_
 refine st_op (ev_fieldAddr rfl fa77_0 (o' := 0) rfl) rfl rfl rfl ?_
 refine st_op (ev_load rfl (lvar_one one75 Bd rfl)) rfl rfl rfl ?_
 refine st_op (ev_move rfl) rfl rfl rfl ?_
 refine st_op (ev_lookupN ptrMap75 rfl rfl Bm hg) rfl rfl rfl ?_
 refine st_op (ev_nilEq rfl rfl Try.underlying79) rfl rfl rfl ?_
 refine st_op (ev_pickF rfl rfl) rfl rfl rfl ?_
 try show aw _ _ _ _ _ _
 refine aw_cond (t := true) rfl ?_
 try show aw _ _ _ _ _ _
 refine aw_seq ?_
 refine aw_reg ?_
 iterate 2 refine st_op (ev_assign rfl) rfl rfl rfl ?_
 try show aw _ _ _ _ _ _
 refine aw_ret ?_
 exact ⟨.tuple #[.slice none 0 0, .int .i64 14], rfl, rfl, (Ext.refl H)⟩
theorem disk_LooseOld_spec (H : Heap) (mb : Nat) (hmb : mb < H.next) (m : List Value) (Bm : H.blk mb = some ⟨m, 0, false, true⟩) (k : Int) (hk : 0 ≤ k ∧ k ≤ 1099511627776) (d : Nat) (hd : d < H.next) (Bd : H.blk d = some ⟨[.map (some mb), .int .i64 k], 0, false, false⟩) (nm : ByteArray) (hnm : nm.size ≤ 140737488355328) (lA : Option Addr) (l : List Int) (lc : Nat) (hl : Row H lA lc 1 (l.map u8c)) (cl : l.length ≤ lc) (ll : l.length ≤ 1048576) (bl : Spec.Bytes l) (s : Int) (hs : 0 ≤ s ∧ s ≤ 1048576) (t : Bool) (f : Nat) (hf : f < H.next) (Bf : H.blk f = some ⟨[.slice lA l.length lc, .int .i64 s, .bool t], 0, false, false⟩) (hg : mapGet nm m = some (.pointer (some ⟨f, 0, none⟩))) (n1 : mb ≠ d) (n2 : f ≠ d) (n3 : f ≠ mb) : ∃ v H', Spec Try.prog 17 [.pointer (some ⟨d, 0, none⟩), .string nm] H v H' ∧ ((v = .int .i64 ((l.length : Int) - s)) ∧ (Ext H H')) := by
 refine spec_go2 E0_ok 36 (f := 17) Try.func17 rfl rfl rfl ?_
 refine aw_seq ?_
 refine aw_reg ?_
 refine st_op (ev_assign rfl) rfl rfl rfl ?_
 try show aw _ _ _ _ _ _
 iterate 2 refine aw_seq ?_
 refine aw_reg ?_
 refine st_op (ev_move rfl) rfl rfl rfl ?_
 refine st_op (ev_nilEq rfl rfl Try.underlying24) rfl rfl rfl ?_
 iterate 2 refine st_op (ev_move rfl) rfl rfl rfl ?_
 refine st_op (ev_nilCheck rfl) rfl rfl rfl ?_
 refine st_op (ev_fieldAddr rfl fa77_0 (o' := 0) rfl) rfl rfl rfl ?_
 refine st_op (ev_load rfl (lvar_one one75 Bd rfl)) rfl rfl rfl ?_
 refine st_op (ev_move rfl) rfl rfl rfl ?_
 refine st_op (ev_lookup ptrMap75 rfl rfl Bm hg) rfl rfl rfl ?_
 refine st_op (ev_nilEq rfl rfl Try.underlying79) rfl rfl rfl ?_
 refine st_op (ev_pickF rfl rfl) rfl rfl rfl ?_
 try show aw _ _ _ _ _ _
 refine aw_cond (t := false) rfl ?_
 try show aw _ _ _ _ _ _
 refine aw_skip ?_
 try show aw _ _ _ _ _ _
 refine aw_seq ?_
 refine aw_marks (fun b => b < H.next) [(false, false), (false, false), (false, false), (false, false), (false, false), (false, false), (false, false), (false, false), (false, false), (false, false), (false, false), (false, false), (false, false), (false, false), (false, false), (false, false), (false, false), (false, false), (false, false), (false, false), (false, false)] mixed (by kernel_rfl) (by kernel_rfl) ?_
 refine sm_op (ev_move rfl) rfl rfl rfl ?_
 refine sm_op (ev_nilCheck rfl) rfl rfl rfl ?_
 refine sm_op (ev_fieldAddr rfl fa77_0 (o' := 0) rfl) rfl rfl rfl ?_
 refine sm_op (ev_load rfl (lvar_one one75 Bd rfl)) rfl rfl rfl ?_
 refine sm_op (ev_move rfl) rfl rfl rfl ?_
 refine sm_op (ev_lookup ptrMap75 rfl rfl Bm hg) rfl rfl rfl ?_
 refine sm_op (ev_nilCheck rfl) rfl rfl rfl ?_
 refine sm_op (ev_fieldAddr rfl fa81_0 (o' := 0) rfl) rfl rfl rfl ?_
 refine sm_op (ev_load rfl (lvar_one one26 Bf rfl)) rfl rfl rfl ?_
 refine sm_op (ev_lenSl rfl Try.underlying26) rfl rfl rfl ?_
 refine sm_op (ev_move rfl) rfl rfl rfl ?_
 refine sm_op (ev_nilCheck rfl) rfl rfl rfl ?_
 refine sm_op (ev_fieldAddr rfl fa77_0 (o' := 0) rfl) rfl rfl rfl ?_
 refine sm_op (ev_load rfl (lvar_one one75 Bd rfl)) rfl rfl rfl ?_
 refine sm_op (ev_move rfl) rfl rfl rfl ?_
 refine sm_op (ev_lookup ptrMap75 rfl rfl Bm hg) rfl rfl rfl ?_
 refine sm_op (ev_nilCheck rfl) rfl rfl rfl ?_
 refine sm_op (ev_fieldAddr rfl fa81_1 (o' := 1) rfl) rfl rfl rfl ?_
 refine sm_op (ev_load rfl (lvar_one one3 Bf rfl)) rfl rfl rfl ?_
 refine sm_op (ev_int64 (c := (l.length : Int) - s) rfl rfl rfl (by omega) (by omega)) rfl rfl rfl ?_
 refine sm_op (ev_assign rfl) rfl rfl rfl ?_
 try show aw _ _ _ _ _ _
 refine aw_ret ?_
 exact ⟨.int .i64 ((l.length : Int) - s), rfl, rfl, (Ext.refl H)⟩
theorem disk_LooseNone_spec (H : Heap) (mb : Nat) (hmb : mb < H.next) (m : List Value) (Bm : H.blk mb = some ⟨m, 0, false, true⟩) (k : Int) (hk : 0 ≤ k ∧ k ≤ 1099511627776) (d : Nat) (hd : d < H.next) (Bd : H.blk d = some ⟨[.map (some mb), .int .i64 k], 0, false, false⟩) (nm : ByteArray) (hnm : nm.size ≤ 140737488355328) (hg : mapGet nm m = none) (n1 : mb ≠ d) : ∃ v H', Spec Try.prog 17 [.pointer (some ⟨d, 0, none⟩), .string nm] H v H' ∧ ((v = .int .i64 0) ∧ (Ext H H')) := by
 refine spec_go2 E0_ok 36 (f := 17) Try.func17 rfl rfl rfl ?_
 refine aw_seq ?_
 refine aw_reg ?_
 refine st_op (ev_assign rfl) rfl rfl rfl ?_
 try show aw _ _ _ _ _ _
 iterate 2 refine aw_seq ?_
 refine aw_reg ?_
 refine st_op (ev_move rfl) rfl rfl rfl ?_
 refine st_op (ev_nilEq rfl rfl Try.underlying24) rfl rfl rfl ?_
 iterate 2 refine st_op (ev_move rfl) rfl rfl rfl ?_
 refine st_op (ev_nilCheck rfl) rfl rfl rfl ?_
 refine st_op (ev_fieldAddr rfl fa77_0 (o' := 0) rfl) rfl rfl rfl ?_
 refine st_op (ev_load rfl (lvar_one one75 Bd rfl)) rfl rfl rfl ?_
 refine st_op (ev_move rfl) rfl rfl rfl ?_
 refine st_op (ev_lookupN ptrMap75 rfl rfl Bm hg) rfl rfl rfl ?_
 refine st_op (ev_nilEq rfl rfl Try.underlying79) rfl rfl rfl ?_
 refine st_op (ev_pickF rfl rfl) rfl rfl rfl ?_
 try show aw _ _ _ _ _ _
 refine aw_cond (t := true) rfl ?_
 try show aw _ _ _ _ _ _
 refine aw_seq ?_
 refine aw_reg ?_
 refine st_op (ev_assign rfl) rfl rfl rfl ?_
 try show aw _ _ _ _ _ _
 refine aw_ret ?_
 exact ⟨.int .i64 0, rfl, rfl, (Ext.refl H)⟩
theorem disk_CallsR_spec (H : Heap) (mb : Nat) (hmb : mb < H.next) (m : List Value) (Bm : H.blk mb = some ⟨m, 0, false, true⟩) (k : Int) (hk : 0 ≤ k ∧ k ≤ 1099511627776) (d : Nat) (hd : d < H.next) (Bd : H.blk d = some ⟨[.map (some mb), .int .i64 k], 0, false, false⟩) (n1 : mb ≠ d) : ∃ v H', Spec Try.prog 31 [.pointer (some ⟨d, 0, none⟩)] H v H' ∧ ((v = .int .i64 k) ∧ (Ext H H')) := by
 refine spec_go1 E0_ok 9 (f := 31) Try.func31 rfl rfl rfl ?_
 refine aw_seq ?_
 refine aw_reg ?_
 refine st_op (ev_assign rfl) rfl rfl rfl ?_
 try show aw _ _ _ _ _ _
 iterate 2 refine aw_seq ?_
 refine aw_reg ?_
 refine st_op (ev_move rfl) rfl rfl rfl ?_
 refine st_op (ev_nilEq rfl rfl Try.underlying24) rfl rfl rfl ?_
 try show aw _ _ _ _ _ _
 refine aw_cond (t := false) rfl ?_
 try show aw _ _ _ _ _ _
 refine aw_skip ?_
 try show aw _ _ _ _ _ _
 refine aw_seq ?_
 refine aw_reg ?_
 refine st_op (ev_move rfl) rfl rfl rfl ?_
 refine st_op (ev_nilCheck rfl) rfl rfl rfl ?_
 refine st_op (ev_fieldAddr rfl fa77_1 (o' := 1) rfl) rfl rfl rfl ?_
 refine st_op (ev_load rfl (lvar_one one3 Bd rfl)) rfl rfl rfl ?_
 refine st_op (ev_assign rfl) rfl rfl rfl ?_
 try show aw _ _ _ _ _ _
 refine aw_ret ?_
 exact ⟨.int .i64 k, rfl, rfl, (Ext.refl H)⟩
section
variable {D : Nat → Prop} {l : Files} {k : Int}
theorem disk_Append_spec (H : Heap) (d : Nat) (D : Nat → Prop) (l : Files) (k : Int) (hd : DiskH D H d l k) (hk : k ≤ 1099511627776) (nm : ByteArray) (hnm : nm.size ≤ 140737488355328) (bA : Option Addr) (b : List Int) (bc : Nat) (hb : Row H bA bc 1 (b.map u8c)) (cb : b.length ≤ bc) (lb : b.length ≤ 140737488355328) (bb : Spec.Bytes b) :
  ∃ v H', Spec Try.prog 11 [.pointer (some ⟨d, 0, none⟩), .string nm, .slice bA b.length bc] H v H' ∧ (v = .int .i64 (Spec.appF l nm b).1 ∧ ∃ D', DiskH D' H' d (Spec.appF l nm b).2 (k + 1) ∧ (∀ q, D' q → D q ∨ (H.next ≤ q ∧ q < H'.next)) ∧ Fr (fun q => D q ∧ Z01 H q) H H') := by
 obtain ⟨mb, ps, r⟩ := hd
 have n1 := r.ne_m
 have hp := r.below _ r.dp
 have hm := r.below _ r.dm
 have kk : 0 ≤ k ∧ k ≤ 1099511627776 := ⟨r.kb, hk⟩
 by_cases hn : Spec.nameF nm = true
 ·
  rcases hg : Spec.fget nm l with _ | f
  ·
   obtain ⟨g1, g2, g3, g4⟩ := fget_none r.len hg
   by_cases hl : b.length ≤ 1048576
   ·
    obtain ⟨v, H', hs, b', A, c, rfl, e1, e2, e3, e4, e5, e6⟩ := disk_AppendNew_spec H mb hm _ r.mblk k kk d hp r.blk nm hnm bA b bc hb cb lb bb hn g1 hl n1
    have ha : Spec.appF l nm b = (0, Spec.fput nm ⟨b, 0, false⟩ l) := by simp [Spec.appF, hn, hg, hl]
    rw [ha, g2]
    refine ⟨_, H', hs, rfl, grow D H H', ⟨mb, _, r.add e6 (fun x _ e => e.imp id .inl) e1 (by rw [e2, g4 ⟨b, 0, false⟩ (b', A, c)]) ⟨.inr e3, fun x hx => .inr ⟨e5.inNew x hx, inA.lt e5 x hx⟩, e4, My.older e5 (Nat.zero_le _), bb, hl, Int.le_refl _, by simp only; omega⟩ e3.1 (fun x hx => e5.inNew x hx) (by omega) hn g3⟩, fun q h => h, Fr.mono e6 (fun q e => e.elim (fun e => e ▸ r.zp) (fun e => e ▸ r.zm))⟩
   ·
    obtain ⟨v, H', hs, rfl, e1, e2, e6⟩ := disk_AppendNewF_spec H mb hm _ r.mblk k kk d hp r.blk nm hnm bA b bc hb cb lb bb hn g1 (by omega) n1
    have ha : Spec.appF l nm b = (5, l) := by simp [Spec.appF, hn, hg, hl]
    rw [ha]
    exact ⟨_, H', hs, rfl, grow D H H', ⟨mb, ps, r.same e6 (fun _ _ e => e) e1 e2 (by omega)⟩, fun q h => h, Fr.mono e6 (fun q e => e ▸ r.zp)⟩
  ·
   obtain ⟨i, q, hi, hq, g1, g2, g3⟩ := fget_some r.len hg
   have z := r.at_ i _ q hi hq
   have nf := r.ne_f z
   have hf := r.below _ z.dom
   have zl : 0 ≤ f.lasts ∧ f.lasts ≤ 1048576 := ⟨z.lo, by have h1 := z.hi; have h2 := z.len; simp only at h1 h2; omega⟩
   by_cases hl : f.b.length + b.length ≤ 1048576
   ·
    obtain ⟨G, M, y1, y2, y3, y4, y5⟩ := z.row.exact
    obtain ⟨v, H', hs, A, c, rfl, e1, e2, e3, e4, e5, e6⟩ := disk_AppendOld_spec H mb hm _ r.mblk k kk d hp r.blk nm hnm bA b bc hb cb lb bb hn G q.2.1 f.b q.2.2 y1 y4 z.len z.bytes M y2 y3 f.lasts zl f.there q.1 hf z.blk g1 hl n1 nf.1 nf.2
    have ha : Spec.appF l nm b = (0, Spec.fput nm ⟨f.b ++ b, f.lasts, f.there⟩ l) := by simp [Spec.appF, hn, hg, hl]
    rw [ha, g2]
    refine ⟨_, H', hs, rfl, grow D H H', ⟨mb, _, r.set (f' := ⟨f.b ++ b, f.lasts, f.there⟩) (q' := (q.1, A, c)) hi hq e6 (fun x _ e => ?_) e1 (by rw [e2, ← g3 ⟨f.b ++ b, f.lasts, f.there⟩ (q.1, A, c)]) ⟨.inl z.dom, fun x hx => (e5 x hx).imp (z.rdom x) (fun e => ⟨e, inA.lt e4 x hx⟩), e3, My.older e4 (Nat.zero_le _), Spec.Bytes.append z.bytes bb, by simp only [List.length_append]; omega, z.lo, by have h1 := z.hi; simp only [List.length_append] at h1 ⊢; omega⟩ (.inl rfl) e5 (by omega)⟩, fun q h => h, Fr.mono e6 (fun x e => ?_)⟩
    ·
     rcases e with e | e | e | e
     ·
      exact .inl e
     ·
      exact .inr (.inr (.inl e))
     ·
      exact .inr (.inr (.inr (y5 x e.1 e.2.1)))
     ·
      exact .inr (.inl e)
    ·
     rcases e with e | e | e | e
     ·
      exact e ▸ r.zp
     ·
      exact e ▸ z.zf
     ·
      exact z.zr x (y5 x e.1 e.2.1)
     ·
      exact e ▸ r.zm
   ·
    obtain ⟨v, H', hs, rfl, e1, e2, e6⟩ := disk_AppendOldF_spec H mb hm _ r.mblk k kk d hp r.blk nm hnm bA b bc hb cb lb bb hn q.2.1 f.b q.2.2 (My.row z.row) (My.capF z.row (by have := z.len; simp only at this; omega)) z.len z.bytes f.lasts zl f.there q.1 hf z.blk g1 (by omega) n1 nf.1 nf.2
    have ha : Spec.appF l nm b = (5, l) := by simp [Spec.appF, hn, hg, hl]
    rw [ha]
    exact ⟨_, H', hs, rfl, grow D H H', ⟨mb, ps, r.same e6 (fun _ _ e => e) e1 e2 (by omega)⟩, fun q h => h, Fr.mono e6 (fun q e => e ▸ r.zp)⟩
 ·
  obtain ⟨v, H', hs, rfl, e1, e2, e6⟩ := disk_AppendForm_spec H mb hm _ r.mblk k kk d hp r.blk nm hnm bA b bc hb cb lb bb (by simpa using hn) n1
  have ha : Spec.appF l nm b = (1, l) := by simp [Spec.appF, hn]
  rw [ha]
  exact ⟨_, H', hs, rfl, grow D H H', ⟨mb, ps, r.same e6 (fun _ _ e => e) e1 e2 (by omega)⟩, fun q h => h, Fr.mono e6 (fun q e => e ▸ r.zp)⟩
theorem disk_Sync_spec (H : Heap) (d : Nat) (D : Nat → Prop) (l : Files) (k : Int) (hd : DiskH D H d l k) (hk : k ≤ 1099511627776) (nm : ByteArray) (hnm : nm.size ≤ 140737488355328) :
  ∃ v H', Spec Try.prog 12 [.pointer (some ⟨d, 0, none⟩), .string nm] H v H' ∧ (v = .int .i64 (Spec.syncF l nm).1 ∧ ∃ D', DiskH D' H' d (Spec.syncF l nm).2 (k + 1) ∧ (∀ q, D' q → D q ∨ (H.next ≤ q ∧ q < H'.next)) ∧ Fr (fun q => D q ∧ Z01 H q) H H') := by
 obtain ⟨mb, ps, r⟩ := hd
 have n1 := r.ne_m
 have hp := r.below _ r.dp
 have hm := r.below _ r.dm
 have kk : 0 ≤ k ∧ k ≤ 1099511627776 := ⟨r.kb, hk⟩
 rcases hg : Spec.fget nm l with _ | f
 ·
  obtain ⟨g1, g2, g3, g4⟩ := fget_none r.len hg
  obtain ⟨v, H', hs, rfl, e1, e2, e6⟩ := disk_SyncNone_spec H mb hm _ r.mblk k kk d hp r.blk nm hnm g1 n1
  have ha : Spec.syncF l nm = (14, l) := by simp [Spec.syncF, hg]
  rw [ha]
  exact ⟨_, H', hs, rfl, grow D H H', ⟨mb, ps, r.same e6 (fun _ _ e => e) e1 e2 (by omega)⟩, fun q h => h, Fr.mono e6 (fun q e => e ▸ r.zp)⟩
 ·
  obtain ⟨i, q, hi, hq, g1, g2, g3⟩ := fget_some r.len hg
  have z := r.at_ i _ q hi hq
  have nf := r.ne_f z
  have hf := r.below _ z.dom
  have zl : 0 ≤ f.lasts ∧ f.lasts ≤ 1048576 := ⟨z.lo, by have h1 := z.hi; have h2 := z.len; simp only at h1 h2; omega⟩
  obtain ⟨v, H', hs, rfl, e1, e2, e3, e6⟩ := disk_SyncOld_spec H mb hm _ r.mblk k kk d hp r.blk nm hnm q.2.1 f.b q.2.2 (My.row z.row) (My.capF z.row (by have := z.len; simp only at this; omega)) z.len z.bytes f.lasts zl f.there q.1 hf z.blk g1 n1 nf.1 nf.2
  have ha : Spec.syncF l nm = (0, Spec.fput nm ⟨f.b, f.b.length, true⟩ l) := by simp [Spec.syncF, hg]
  have hrow : My H00 H' q.2.1 q.2.2 1 (f.b.map u8c) := My.hid z.row (Fr.mono e6 fun y e => ⟨e, fun c => by
   rcases e with e | e
   ·
    exact z.zb c (e ▸ r.blk)
   ·
    exact z.zb c (e ▸ z.blk)⟩)
  rw [ha, g2]
  refine ⟨_, H', hs, rfl, grow D H H', ⟨mb, _, r.set (f' := ⟨f.b, f.b.length, true⟩) (q' := q) hi hq e6 (fun x _ e => ?_) e1 ?_ ⟨.inl z.dom, fun x hx => .inl (z.rdom x hx), e3, hrow, z.bytes, z.len, by simp only; omega, Int.le_refl _⟩ (.inl rfl) (fun x hx => .inl hx) (by omega)⟩, fun q h => h, Fr.mono e6 (fun x e => ?_)⟩
  ·
   rcases e with e | e
   ·
    exact .inl e
   ·
    exact .inr (.inr (.inl e))
  ·
   rw [e2, ← g3 ⟨f.b, f.b.length, true⟩ q, mapPut_same g1]
  ·
   rcases e with e | e
   ·
    exact e ▸ r.zp
   ·
    exact e ▸ z.zf
theorem disk_Swap_spec (H : Heap) (d : Nat) (D : Nat → Prop) (l : Files) (k : Int) (hd : DiskH D H d l k) (hk : k ≤ 1099511627776) (nm : ByteArray) (hnm : nm.size ≤ 140737488355328) (bA : Option Addr) (b : List Int) (bc : Nat) (hb : Row H bA bc 1 (b.map u8c)) (cb : b.length ≤ bc) (lb : b.length ≤ 140737488355328) (bb : Spec.Bytes b) :
  ∃ v H', Spec Try.prog 13 [.pointer (some ⟨d, 0, none⟩), .string nm, .slice bA b.length bc] H v H' ∧ (v = .int .i64 (Spec.swapF l nm b).1 ∧ ∃ D', DiskH D' H' d (Spec.swapF l nm b).2 (k + 1) ∧ (∀ q, D' q → D q ∨ (H.next ≤ q ∧ q < H'.next)) ∧ Fr (fun q => D q ∧ Z01 H q) H H') := by
 obtain ⟨mb, ps, r⟩ := hd
 have n1 := r.ne_m
 have hp := r.below _ r.dp
 have hm := r.below _ r.dm
 have kk : 0 ≤ k ∧ k ≤ 1099511627776 := ⟨r.kb, hk⟩
 by_cases hn : Spec.nameF nm = true
 ·
  by_cases hl : b.length ≤ 1048576
  ·
   obtain ⟨v, H', hs, b', A, c, rfl, e1, e2, e3, e4, e5, e6⟩ := disk_SwapOk_spec H mb hm _ r.mblk k kk d hp r.blk nm hnm bA b bc hb cb lb bb hn hl n1
   have ha : Spec.swapF l nm b = (0, Spec.fput nm ⟨b, b.length, true⟩ l) := by simp [Spec.swapF, hn, hl]
   have hf : FileAt (grow D H H') H' (b', A, c) ⟨b, b.length, true⟩ := ⟨.inr e3, fun x hx => .inr ⟨e5.inNew x hx, inA.lt e5 x hx⟩, e4, My.older e5 (Nat.zero_le _), bb, hl, by simp only; omega, Int.le_refl _⟩
   have hW : Fr (fun q => D q ∧ Z01 H q) H H' := Fr.mono e6 (fun q e => e.elim (fun e => e ▸ r.zp) (fun e => e ▸ r.zm))
   rw [ha]
   rcases hg : Spec.fget nm l with _ | f
   ·
    obtain ⟨g1, g2, g3, g4⟩ := fget_none r.len hg
    rw [g2]
    exact ⟨_, H', hs, rfl, grow D H H', ⟨mb, _, r.add e6 (fun x _ e => e.imp id .inl) e1 (by rw [e2, g4 ⟨b, b.length, true⟩ (b', A, c)]) hf e3.1 (fun x hx => e5.inNew x hx) (by omega) hn g3⟩, fun q h => h, hW⟩
   ·
    obtain ⟨i, q, hi, hq, g1, g2, g3⟩ := fget_some r.len hg
    rw [g2]
    exact ⟨_, H', hs, rfl, grow D H H', ⟨mb, _, r.set (f' := ⟨b, b.length, true⟩) (q' := (b', A, c)) hi hq e6 (fun x _ e => e.imp id .inl) e1 (by rw [e2, g3 ⟨b, b.length, true⟩ (b', A, c)]) hf (.inr e3.1) (fun x hx => .inr (e5.inNew x hx)) (by omega)⟩, fun q h => h, hW⟩
  ·
   obtain ⟨v, H', hs, rfl, e1, e2, e6⟩ := disk_SwapFull_spec H mb hm _ r.mblk k kk d hp r.blk nm hnm bA b bc hb cb lb bb hn (by omega) n1
   have ha : Spec.swapF l nm b = (5, l) := by simp [Spec.swapF, hn, hl]
   rw [ha]
   exact ⟨_, H', hs, rfl, grow D H H', ⟨mb, ps, r.same e6 (fun _ _ e => e) e1 e2 (by omega)⟩, fun q h => h, Fr.mono e6 (fun q e => e ▸ r.zp)⟩
 ·
  obtain ⟨v, H', hs, rfl, e1, e2, e6⟩ := disk_SwapForm_spec H mb hm _ r.mblk k kk d hp r.blk nm hnm bA b bc hb cb lb bb (by simpa using hn) n1
  have ha : Spec.swapF l nm b = (1, l) := by simp [Spec.swapF, hn]
  rw [ha]
  exact ⟨_, H', hs, rfl, grow D H H', ⟨mb, ps, r.same e6 (fun _ _ e => e) e1 e2 (by omega)⟩, fun q h => h, Fr.mono e6 (fun q e => e ▸ r.zp)⟩
theorem disk_Read_spec (H : Heap) (d : Nat) (D : Nat → Prop) (l : Files) (k : Int) (hd : DiskH D H d l k) (hk : k ≤ 1099511627776) (nm : ByteArray) (hnm : nm.size ≤ 140737488355328) :
  ∃ v H', Spec Try.prog 16 [.pointer (some ⟨d, 0, none⟩), .string nm] H v H' ∧ (∃ A c, v = .tuple #[.slice A (Spec.readF l nm).1.length c, .int .i64 (Spec.readF l nm).2] ∧ My H H' A c 1 ((Spec.readF l nm).1.map u8c) ∧ Spec.Bytes (Spec.readF l nm).1 ∧ (Spec.readF l nm).1.length ≤ 1048576 ∧ Ext H H') := by
 obtain ⟨mb, ps, r⟩ := hd
 have n1 := r.ne_m
 have hp := r.below _ r.dp
 have hm := r.below _ r.dm
 have kk : 0 ≤ k ∧ k ≤ 1099511627776 := ⟨r.kb, hk⟩
 rcases hg : Spec.fget nm l with _ | f
 ·
  obtain ⟨g1, g2, g3, g4⟩ := fget_none r.len hg
  obtain ⟨v, H', hs, rfl, e6⟩ := disk_ReadNone_spec H mb hm _ r.mblk k kk d hp r.blk nm hnm g1 n1
  have ha : Spec.readF l nm = ([], 14) := by simp [Spec.readF, hg]
  rw [ha]
  exact ⟨_, H', hs, none, 0, rfl, .nil, Spec.Bytes.nil, Nat.zero_le _, e6⟩
 ·
  obtain ⟨i, q, hi, hq, g1, g2, g3⟩ := fget_some r.len hg
  have z := r.at_ i _ q hi hq
  have nf := r.ne_f z
  have hf := r.below _ z.dom
  have zl : 0 ≤ f.lasts ∧ f.lasts ≤ 1048576 := ⟨z.lo, by have h1 := z.hi; have h2 := z.len; simp only at h1 h2; omega⟩
  obtain ⟨v, H', hs, A, c, rfl, e5, e6⟩ := disk_ReadOld_spec H mb hm _ r.mblk k kk d hp r.blk nm hnm q.2.1 f.b q.2.2 (My.row z.row) (My.capF z.row (by have := z.len; simp only at this; omega)) z.len z.bytes f.lasts zl f.there q.1 hf z.blk g1 n1 nf.1 nf.2
  have ha : Spec.readF l nm = (f.b, 0) := by simp [Spec.readF, hg]
  rw [ha]
  exact ⟨_, H', hs, A, c, rfl, e5, z.bytes, z.len, e6⟩
theorem disk_Loose_spec (H : Heap) (d : Nat) (D : Nat → Prop) (l : Files) (k : Int) (hd : DiskH D H d l k) (hk : k ≤ 1099511627776) (nm : ByteArray) (hnm : nm.size ≤ 140737488355328) :
  ∃ v H', Spec Try.prog 17 [.pointer (some ⟨d, 0, none⟩), .string nm] H v H' ∧ (v = .int .i64 (Spec.looseF l nm) ∧ 0 ≤ Spec.looseF l nm ∧ Spec.looseF l nm ≤ 1048576 ∧ Ext H H') := by
 obtain ⟨mb, ps, r⟩ := hd
 have n1 := r.ne_m
 have hp := r.below _ r.dp
 have hm := r.below _ r.dm
 have kk : 0 ≤ k ∧ k ≤ 1099511627776 := ⟨r.kb, hk⟩
 rcases hg : Spec.fget nm l with _ | f
 ·
  obtain ⟨g1, g2, g3, g4⟩ := fget_none r.len hg
  obtain ⟨v, H', hs, rfl, e6⟩ := disk_LooseNone_spec H mb hm _ r.mblk k kk d hp r.blk nm hnm g1 n1
  have ha : Spec.looseF l nm = 0 := by simp [Spec.looseF, hg]
  rw [ha]
  exact ⟨_, H', hs, rfl, by decide, by decide, e6⟩
 ·
  obtain ⟨i, q, hi, hq, g1, g2, g3⟩ := fget_some r.len hg
  have z := r.at_ i _ q hi hq
  have nf := r.ne_f z
  have hf := r.below _ z.dom
  have zl : 0 ≤ f.lasts ∧ f.lasts ≤ 1048576 := ⟨z.lo, by have h1 := z.hi; have h2 := z.len; simp only at h1 h2; omega⟩
  obtain ⟨v, H', hs, rfl, e6⟩ := disk_LooseOld_spec H mb hm _ r.mblk k kk d hp r.blk nm hnm q.2.1 f.b q.2.2 (My.row z.row) (My.capF z.row (by have := z.len; simp only at this; omega)) z.len z.bytes f.lasts zl f.there q.1 hf z.blk g1 n1 nf.1 nf.2
  have ha : Spec.looseF l nm = f.b.length - f.lasts := by simp [Spec.looseF, hg]
  have h1 := z.hi; have h2 := z.len; have h3 := z.lo
  simp only at h1 h2 h3
  rw [ha]
  exact ⟨_, H', hs, rfl, by omega, by omega, e6⟩
theorem disk_Calls_spec (H : Heap) (d : Nat) (D : Nat → Prop) (l : Files) (k : Int) (hd : DiskH D H d l k) (hk : k ≤ 1099511627776) :
  ∃ v H', Spec Try.prog 31 [.pointer (some ⟨d, 0, none⟩)] H v H' ∧ (v = .int .i64 k ∧ 0 ≤ k ∧ Ext H H') := by
 obtain ⟨mb, ps, r⟩ := hd
 obtain ⟨v, H', hs, rfl, e6⟩ := disk_CallsR_spec H mb (r.below _ r.dm) _ r.mblk k ⟨r.kb, hk⟩ d (r.below _ r.dp) r.blk r.ne_m
 exact ⟨_, H', hs, rfl, r.kb, e6⟩
theorem disk_New_spec (H : Heap) : ∃ v H', Spec Try.prog 10 [] H v H' ∧ (∃ d D', v = .pointer (some ⟨d, 0, none⟩) ∧ DiskH D' H' d [] 0 ∧ (∀ q, D' q → H.next ≤ q ∧ q < H'.next) ∧ Ext H H') := by
 obtain ⟨v, H', hs, d, mb, rfl, e1, e2, e3, e4, e6⟩ := disk_NewR_spec H
 exact ⟨_, H', hs, d, fun q => H.next ≤ q ∧ q < H'.next, rfl, ⟨mb, [], e1, ⟨e3.1, e3.2.1⟩, e2, e4, rfl, fun i e q h => (by cases h), fun i j q q' _ h => (by cases h), fun e h => (by cases h), List.nodup_nil, Int.le_refl _, fun q h => h.2⟩, fun q h => h, e6⟩
end


theorem maps_KeysR_spec (H : Heap) (mb : Nat) : ∃ v H', Spec Try.prog 35 [.map (some mb)] H v H' ∧ (∃ b1, (v = .func (.func 54) #[] #[.pointer (some ⟨b1, 0, none⟩)]) ∧ (H.next ≤ b1 ∧ b1 < H'.next) ∧ (H'.blk b1 = some ⟨[.map (some mb)], 0, false, false⟩) ∧ (Ext H H')) := by
 refine spec_go1 E0_ok 4 (f := 35) Try.func35 rfl rfl rfl ?_
 refine aw_seq ?_
 refine aw_reg ?_
 obtain ⟨b1, H2, he3, b1e, H2n_, hB5, f4⟩ := mem_box (P := Try.prog) H (v := .map (some mb)) (cs := [.map (some mb)]) rfl rfl
 refine st_op (he3 _ _ _ _ _ _ _ _ _ rfl) rfl rfl rfl ?_
 have hx6 : Ext H H2 := Ext.new (by omega) H2n_ f4
 have H2n : H.next ≤ H2.next := hx6.1
 refine st_op (ev_assign rfl) rfl rfl rfl ?_
 try show aw _ _ _ _ _ _
 refine aw_seq ?_
 refine aw_reg ?_
 refine st_op (ev_makeFunc rfl) rfl rfl rfl ?_
 refine st_op (ev_assign rfl) rfl rfl rfl ?_
 try show aw _ _ _ _ _ _
 refine aw_ret ?_
 exact ⟨.func (.func 54) #[] #[.pointer (some ⟨b1, 0, none⟩)], rfl, b1, rfl, ⟨by omega, by omega⟩, hB5, hx6⟩

end Go.AM
namespace Go.Proofs
open Go.Shelf Go.RowKit Go.Maps Go.Sort
def Try.keys35_ren : Go.Shelf.Ren := ⟨fun | 7 => 35 | 10 => 54 | n => n, fun | 23 => 75 | 26 => 9 | 3 => 79 | 28 => 85 | 0 => 0 | 27 => 84 | 33 => 78 | 4 => 4 | n => n, fun | n => n⟩
theorem Try.keys35 : Go.Proofs.SlLaysZ.n7 Try.prog Try.keys35_ren := {
 mixed := by kernel_rfl
 f7 := ⟨Try.f35.name, by decide, Try.func35.trans (congrArg some (by kernel_rfl))⟩
 f10 := ⟨Try.f54.name, by decide, Try.func54.trans (congrArg some (by kernel_rfl))⟩
 t0 := Try.underlying0
 a0 := Try.isAgg0
 z0 := Try.sizeOf0
 v0 := Try.zeroValue0
 t4 := Try.underlying4
 a4 := Try.isAgg4
 z4 := Try.sizeOf4
 v4 := Try.zeroValue4
 t23 := Try.underlying75
 a23 := Try.isAgg75
 z23 := Try.sizeOf75
 v23 := Try.zeroValue75
 t26 := Try.underlying9
 a26 := Try.isAgg9
 z26 := Try.sizeOf9
 v26 := Try.zeroValue9
 t27 := Try.underlying84
 a27 := Try.isAgg84
 z27 := Try.sizeOf84
 v27 := Try.zeroValue84
 t28 := Try.underlying85
 a28 := Try.isAgg85
 z28 := Try.sizeOf85
 v28 := Try.zeroValue85
 t33 := Try.underlying78
 a33 := Try.isAgg78
 z33 := Try.sizeOf78
 v33 := Try.zeroValue78 }
def Try.sorted34_ren : Go.Shelf.Ren := ⟨fun | 6 => 34 | 8 => 52 | 9 => 53 | 11 => 67 | 13 => 69 | 12 => 68 | 23 => 85 | 24 => 86 | 14 => 76 | 15 => 77 | 16 => 78 | 17 => 79 | 18 => 80 | 19 => 81 | 20 => 82 | 21 => 83 | 22 => 84 | 25 => 87 | 26 => 88 | 27 => 89 | 28 => 90 | 29 => 91 | 30 => 92 | 31 => 93 | n => n, fun | 26 => 9 | 28 => 85 | 24 => 33 | 0 => 0 | 3 => 3 | 37 => 129 | 48 => 133 | 50 => 139 | 4 => 4 | 40 => 143 | 39 => 142 | 45 => 148 | 5 => 5 | 9 => 9 | 51 => 152 | 55 => 156 | 57 => 158 | 58 => 159 | 33 => 78 | n => n, fun | n => n⟩
theorem Try.sorted34 : Go.Proofs.SlLaysZ.n6 Try.prog Try.sorted34_ren := {
 mixed := by kernel_rfl
 f6 := ⟨Try.f34.name, by decide, Try.func34.trans (congrArg some (by kernel_rfl))⟩
 f8 := ⟨Try.f52.name, by decide, Try.func52.trans (congrArg some (by kernel_rfl))⟩
 f11 := ⟨Try.f67.name, by decide, Try.func67.trans (congrArg some (by kernel_rfl))⟩
 t0 := Try.underlying0
 a0 := Try.isAgg0
 z0 := Try.sizeOf0
 v0 := Try.zeroValue0
 t24 := Try.underlying33
 a24 := Try.isAgg33
 z24 := Try.sizeOf33
 v24 := Try.zeroValue33
 t26 := Try.underlying9
 a26 := Try.isAgg9
 z26 := Try.sizeOf9
 v26 := Try.zeroValue9
 t28 := Try.underlying85
 a28 := Try.isAgg85
 z28 := Try.sizeOf85
 v28 := Try.zeroValue85
 i26 := by kernel_rfl }
def Try.sort53_ren : Go.Shelf.Ren := ⟨fun | 6 => 53 | 8 => 69 | 9 => 68 | 19 => 85 | 20 => 86 | 21 => 76 | 22 => 77 | 23 => 78 | 24 => 79 | 25 => 80 | 26 => 81 | 27 => 82 | 28 => 83 | 29 => 84 | 36 => 87 | 31 => 88 | 32 => 89 | 37 => 90 | 38 => 91 | 39 => 92 | 41 => 93 | n => n, fun | 27 => 33 | 29 => 9 | 3 => 3 | 32 => 129 | 26 => 33 | 0 => 0 | 44 => 133 | 46 => 139 | 4 => 4 | 36 => 143 | 35 => 142 | 41 => 148 | 5 => 5 | 9 => 9 | 53 => 152 | 57 => 156 | 63 => 158 | 64 => 159 | n => n, fun | n => n⟩
theorem Try.sort53 : Go.Proofs.SlLaysM.n6 Try.prog Try.sort53_ren := {
 mixed := by kernel_rfl
 f6 := ⟨Try.f53.name, by decide, Try.func53.trans (congrArg some (by kernel_rfl))⟩
 f8 := Try.func69.trans (congrArg some (by kernel_rfl))
 f9 := ⟨Try.f68.name, by decide, Try.func68.trans (congrArg some (by kernel_rfl))⟩
 f19 := Try.func85.trans (congrArg some (by kernel_rfl))
 f20 := Try.func86.trans (congrArg some (by kernel_rfl))
 f21 := ⟨Try.f76.name, by decide, Try.func76.trans (congrArg some (by kernel_rfl))⟩
 f22 := ⟨Try.f77.name, by decide, Try.func77.trans (congrArg some (by kernel_rfl))⟩
 f23 := ⟨Try.f78.name, by decide, Try.func78.trans (congrArg some (by kernel_rfl))⟩
 f24 := ⟨Try.f79.name, by decide, Try.func79.trans (congrArg some (by kernel_rfl))⟩
 f25 := ⟨Try.f80.name, by decide, Try.func80.trans (congrArg some (by kernel_rfl))⟩
 f26 := ⟨Try.f81.name, by decide, Try.func81.trans (congrArg some (by kernel_rfl))⟩
 f27 := ⟨Try.f82.name, by decide, Try.func82.trans (congrArg some (by kernel_rfl))⟩
 f28 := ⟨Try.f83.name, by decide, Try.func83.trans (congrArg some (by kernel_rfl))⟩
 f29 := ⟨Try.f84.name, by decide, Try.func84.trans (congrArg some (by kernel_rfl))⟩
 f31 := Try.func88.trans (congrArg some (by kernel_rfl))
 f32 := Try.func89.trans (congrArg some (by kernel_rfl))
 f36 := ⟨Try.f87.name, by decide, Try.func87.trans (congrArg some (by kernel_rfl))⟩
 f37 := ⟨Try.f90.name, by decide, Try.func90.trans (congrArg some (by kernel_rfl))⟩
 f38 := ⟨Try.f91.name, by decide, Try.func91.trans (congrArg some (by kernel_rfl))⟩
 f39 := ⟨Try.f92.name, by decide, Try.func92.trans (congrArg some (by kernel_rfl))⟩
 f41 := ⟨Try.f93.name, by decide, Try.func93.trans (congrArg some (by kernel_rfl))⟩
 t0 := Try.underlying0
 a0 := Try.isAgg0
 z0 := Try.sizeOf0
 v0 := Try.zeroValue0
 t3 := Try.underlying3
 a3 := Try.isAgg3
 z3 := Try.sizeOf3
 v3 := Try.zeroValue3
 t4 := Try.underlying4
 a4 := Try.isAgg4
 z4 := Try.sizeOf4
 v4 := Try.zeroValue4
 t5 := Try.underlying5
 a5 := Try.isAgg5
 z5 := Try.sizeOf5
 v5 := Try.zeroValue5
 t9 := Try.underlying9
 a9 := Try.isAgg9
 z9 := Try.sizeOf9
 v9 := Try.zeroValue9
 t26 := Try.underlying33
 a26 := Try.isAgg33
 z26 := Try.sizeOf33
 v26 := Try.zeroValue33
 t27 := Try.underlying33
 a27 := Try.isAgg33
 z27 := Try.sizeOf33
 v27 := Try.zeroValue33
 t29 := Try.underlying9
 a29 := Try.isAgg9
 z29 := Try.sizeOf9
 v29 := Try.zeroValue9
 t32 := Try.underlying129
 a32 := Try.isAgg129
 z32 := Try.sizeOf129
 v32 := Try.zeroValue129
 t35 := Try.underlying142
 a35 := Try.isAgg142
 z35 := Try.sizeOf142
 v35 := Try.zeroValue142
 t36 := Try.underlying143
 a36 := Try.isAgg143
 z36 := Try.sizeOf143
 v36 := Try.zeroValue143
 t41 := Try.underlying148
 a41 := Try.isAgg148
 z41 := Try.sizeOf148
 v41 := Try.zeroValue148
 t44 := Try.underlying133
 a44 := Try.isAgg133
 z44 := Try.sizeOf133
 v44 := Try.zeroValue133
 t46 := Try.underlying139
 a46 := Try.isAgg139
 z46 := Try.sizeOf139
 v46 := Try.zeroValue139
 t53 := Try.underlying152
 a53 := Try.isAgg152
 z53 := Try.sizeOf152
 v53 := Try.zeroValue152
 t57 := Try.underlying156
 a57 := Try.isAgg156
 z57 := Try.sizeOf156
 v57 := Try.zeroValue156
 t63 := Try.underlying158
 a63 := Try.isAgg158
 z63 := Try.sizeOf158
 v63 := Try.zeroValue158
 t64 := Try.underlying159
 a64 := Try.isAgg159
 z64 := Try.sizeOf159
 v64 := Try.zeroValue159 }

theorem Try.sortsK (m : Nat) : AnyZ.SortsIn Try.prog Try.sorted34_ren Fence.wide m :=
 ⟨fun blk off cap ss W hH hblk hsz => callsIn_wide.2 (AnyM.slices_Sort_string Try.sort53 blk off cap ss W hH hblk hsz),
   fun p cap W => callsIn_wide.2 (AnyM.slices_Sort_string_none Try.sort53 p cap W)⟩
set_option maxHeartbeats 1000000 in
theorem Try.sortedK : Go.AM.SortedK Try.prog 34 54 9 := by
 refine ⟨Try.underlying9, fun Bm b nn D0 R w hBm hm hown hmax hbytes => ?_⟩
 have hseq : SeqGives Fence.wide 2 Try.prog 54 #[.pointer (some ⟨Bm, 0, none⟩)] encStr (fun ss => ss.Perm (strKeys D0)) (Maps.size D0) w :=
  AnyZ.keys_gives (ρ := Try.keys35_ren) { Try.keys35 with } Fence.wide _ trivial rfl (by omega) Bm b nn D0 _ hBm hm hown
 exact (callsIn_wide (n := 5)).1 (AnyZ.sorted_in Try.sorted34 Fence.wide 5 trivial trivial trivial trivial rfl (by omega) (Try.sortsK _) (enters_of Try.func53 (by kernel_rfl) rfl) 54 #[.pointer (some ⟨Bm, 0, none⟩)] trivial (enters_of Try.func54 (by kernel_rfl) rfl) _ _ hmax hbytes _ hseq)
end Go.Proofs
namespace Go.AM
open Go Go.Proofs

theorem disk_NamesR_spec (H : Heap) (d dm : Nat) (dD : Nat → Prop) (dl : Files) (dp : List Place) (dk : Int) (rd : DiskR dD H d dm dl dp dk) (kd : dk ≤ 1099511627776) (ld : dl.length ≤ 1099511627776) : ∃ v H', Spec Try.prog 15 [.pointer (some ⟨d, 0, none⟩)] H v H' ∧ (∃ A7 c8, (v = .slice A7 ((Spec.namesF dl).length) c8) ∧ (My H H' A7 c8 1 ((Spec.namesF dl).map strC)) ∧ (Ext H H')) := by
 have bd := rd.below _ rd.dp; have bdm := rd.below _ rd.dm; have zd := rd.kb
 refine spec_go1 E0_ok 11 (f := 15) Try.func15 rfl rfl rfl ?_
 refine aw_seq ?_
 refine aw_reg ?_
 refine st_op (ev_assign rfl) rfl rfl rfl ?_
 try show aw _ _ _ _ _ _
 iterate 2 refine aw_seq ?_
 refine aw_reg ?_
 refine st_op (ev_move rfl) rfl rfl rfl ?_
 refine st_op (ev_nilEq rfl rfl Try.underlying24) rfl rfl rfl ?_
 try show aw _ _ _ _ _ _
 refine aw_cond (t := false) rfl ?_
 try show aw _ _ _ _ _ _
 refine aw_skip ?_
 try show aw _ _ _ _ _ _
 refine aw_seq ?_
 refine aw_reg ?_
 refine st_op (ev_move rfl) rfl rfl rfl ?_
 refine st_op (ev_nilCheck rfl) rfl rfl rfl ?_
 refine st_op (ev_fieldAddr rfl fa77_0 (o' := 0) rfl) rfl rfl rfl ?_
 refine st_op (ev_load rfl (lvar_one one75 rd.blk rfl)) rfl rfl rfl ?_
 refine st_call rfl rfl rfl ent35 rfl rfl rfl ?_
 obtain ⟨_, H1, hs2, b3, rfl, b3l, b3B, hx4⟩ := maps_KeysR_spec H dm
 refine ⟨_, H1, hs2, ?_⟩
 have H1n : H.next ≤ H1.next := hx4.1
 refine st_call rfl rfl rfl ent34 rfl rfl rfl ?_
 have h11 := DiskR.ext rd hx4
 obtain ⟨_, H5, hs6, A7, c8, rfl, hm9, hx10⟩ := names_am Try.sortedK h11.len b3B h11.mblk (by omega)
 refine ⟨_, H5, hs6, ?_⟩
 have H5n : H1.next ≤ H5.next := hx10.1
 have A7n := Spec.names_length dl
 refine st_op (ev_assign rfl) rfl rfl rfl ?_
 try show aw _ _ _ _ _ _
 refine aw_ret ?_
 have hx12 : Ext H H5 := (Ext.trans hx4 hx10)
 exact ⟨.slice A7 ((Spec.namesF dl).length) c8, rfl, A7, c8, rfl, (My.older hm9 (by omega)), hx12⟩


theorem disk_CrashR_spec (H : Heap) (d dm : Nat) (dD : Nat → Prop) (dl : Files) (dp : List Place) (dk : Int) (rd : DiskR dD H d dm dl dp dk) (kd : dk ≤ 1099511627776) (ld : dl.length ≤ 1099511627776) (n : Int) : ∃ v H', Spec Try.prog 14 [.pointer (some ⟨d, 0, none⟩), .int .i64 n] H v H' ∧ (∃ p D', v = .pointer (some ⟨p, 0, none⟩) ∧ DiskH D' H' p (Spec.crashF dl n) 0 ∧ (∀ q, D' q → H.next ≤ q ∧ q < H'.next) ∧ Ext H H') := by
 have bd := rd.below _ rd.dp; have bdm := rd.below _ rd.dm; have zd := rd.kb
 refine spec_go2 E0_ok 65 (f := 14) Try.func14 rfl rfl rfl ?_
 refine aw_seq ?_
 refine aw_reg ?_
 refine st_op (ev_assign rfl) rfl rfl rfl ?_
 try show aw _ _ _ _ _ _
 iterate 2 refine aw_seq ?_
 refine aw_reg ?_
 refine st_op (ev_move rfl) rfl rfl rfl ?_
 refine st_op (ev_nilEq rfl rfl Try.underlying24) rfl rfl rfl ?_
 try show aw _ _ _ _ _ _
 refine aw_cond (t := false) rfl ?_
 try show aw _ _ _ _ _ _
 refine aw_skip ?_
 try show aw _ _ _ _ _ _
 refine aw_seq ?_
 refine aw_reg ?_
 refine st_call rfl rfl rfl ent10 rfl rfl rfl ?_
 obtain ⟨_, H1, hs2, d3, D4, rfl, ⟨mb8, ps9, hr10⟩, hD6, hx7⟩ := disk_New_spec H
 refine ⟨_, H1, hs2, ?_⟩
 have H1n : H.next ≤ H1.next := hx7.1
 have bd3 := hD6 _ hr10.dp; have bmb8 := hD6 _ hr10.dm
 refine st_op (ev_assign rfl) rfl rfl rfl ?_
 try show aw _ _ _ _ _ _
 iterate 2 refine aw_seq ?_
 refine aw_reg ?_
 refine st_op (ev_move rfl) rfl rfl rfl ?_
 refine st_call rfl rfl rfl ent15 rfl rfl rfl ?_
 have h17 := DiskR.ext rd hx7
 obtain ⟨_, H11, hs12, A13, c14, rfl, hm15, hx16⟩ := disk_NamesR_spec H1 d dm dD dl dp dk h17 (by omega) (by omega)
 refine ⟨_, H11, hs12, ?_⟩
 have H11n : H1.next ≤ H11.next := hx16.1
 have A13n := Spec.names_length dl
 refine st_op (ev_lenSl rfl Try.underlying33) rfl rfl rfl ?_
 refine st_op (ev_move rfl) rfl rfl rfl ?_
 try show aw _ _ _ _ _ _
 refine aw_block ?_
 have h19 := DiskR.ext hr10 hx16
 refine aw_keep [0, 1, 5, 14, 15, 16] (l' := (.cons 0 (.pointer (some ⟨d, 0, none⟩)) (.cons 1 (.int .i64 n) (.cons 5 (.pointer (some ⟨d3, 0, none⟩)) (.cons 14 (.slice A13 ((Spec.namesF dl).length) c14) (.cons 15 (.int .i64 ((Spec.namesF dl).length : Int)) (.cons 16 (.int .i64 0) .nil))))))) (by repeat (first | exact Up.done | refine Up.then ?_ | refine Up.inBlock ?_)) rfl ?_
 refine aw_iter (α := Nat × List Place × (Nat → Prop) × Heap) (fun a => (Spec.namesF dl).length - a.1) (fun a => (.cons 0 (.pointer (some ⟨d, 0, none⟩)) (.cons 1 (.int .i64 n) (.cons 5 (.pointer (some ⟨d3, 0, none⟩)) (.cons 14 (.slice A13 ((Spec.namesF dl).length) c14) (.cons 15 (.int .i64 ((Spec.namesF dl).length : Int)) (.cons 16 (.int .i64 (a.1 : Int)) .nil))))))) (fun a => a.2.2.2) (fun a => (a.1 ≤ (Spec.namesF dl).length) ∧ (DiskR a.2.2.1 a.2.2.2 d3 mb8 (((Spec.namesF dl).take a.1).filterMap (Spec.crash1 dl n)) a.2.1 0) ∧ (∀ q, a.2.2.1 q → D4 q ∨ (H11.next ≤ q ∧ q < a.2.2.2.next)) ∧ (Fr (fun q => (D4 q ∧ Z01 H11 q)) H11 a.2.2.2)) (0, ps9, D4, H11) ⟨(show 0 ≤ (Spec.namesF dl).length from Nat.zero_le _), (show DiskR D4 H11 d3 mb8 (((Spec.namesF dl).take 0).filterMap (Spec.crash1 dl n)) ps9 0 from h19), (show ∀ q, D4 q → D4 q ∨ (H11.next ≤ q ∧ q < H11.next) from (fun q e => .inl e)), (show Fr (fun q => (D4 q ∧ Z01 H11 q)) H11 H11 from (Fr.refl _ H11))⟩ ?_
 rintro ⟨i, ps2, D2, Hl18⟩ ⟨hi, hr20, hD21, hxl22⟩ ih23
 replace hi : i ≤ (Spec.namesF dl).length := hi
 replace hr20 : DiskR D2 Hl18 d3 mb8 (((Spec.namesF dl).take i).filterMap (Spec.crash1 dl n)) ps2 0 := hr20
 replace hD21 : ∀ q, D2 q → D4 q ∨ (H11.next ≤ q ∧ q < Hl18.next) := hD21
 replace hxl22 : Fr (fun q => (D4 q ∧ Z01 H11 q)) H11 Hl18 := hxl22
 show aw _ _ _ (RL _ (.cons 0 (.pointer (some ⟨d, 0, none⟩)) (.cons 1 (.int .i64 n) (.cons 5 (.pointer (some ⟨d3, 0, none⟩)) (.cons 14 (.slice A13 ((Spec.namesF dl).length) c14) (.cons 15 (.int .i64 ((Spec.namesF dl).length : Int)) (.cons 16 (.int .i64 (i : Int)) .nil))))))) Hl18 _
 have Hl18n : H11.next ≤ Hl18.next := hxl22.1
 have hD24 := fun q e => (hD21 q e).imp (hD6 q) id
 refine aw_seq ?_
 refine aw_reg ?_
 refine st_op (ev_int rfl rfl rfl) rfl rfl rfl ?_
 try show aw _ _ _ _ _ _
 refine aw_seq ?_
 by_cases hc25 : (decide ((i : Int) < ((Spec.namesF dl).length : Int))) = true
 ·
  refine aw_condT hc25 rfl ?_
  try show aw _ _ _ _ _ _
  have hc25 := of_decide_eq_true hc25
  refine aw_skip ?_
  try show aw _ _ _ _ _ _
  refine aw_seq ?_
  refine aw_block ?_
  refine aw_seq ?_
  refine aw_reg ?_
  have h26 := My.fr hm15 hxl22 (fun q h1 h2 e => by (first | omega | (replace e := hD6 _ e.1; omega)))
  have hi27 : 0 ≤ ((i : Int) : Int) := by omega
  have hi28 : ((i : Int) : Int) < (((Spec.namesF dl).length : Nat) : Int) := by first | omega | (simp only [List.length_append, List.length_cons, List.length_nil, List.length_map, List.length_set, List.length_replicate, Spec.bytesOf_length]; omega) | (simp; omega)
  obtain ⟨x29, hx30⟩ : ∃ e, (Spec.namesF dl)[i]? = some e := ⟨_, List.getElem?_eq_getElem (by first | omega | (simp only [List.length_append, List.length_cons, List.length_nil, List.length_map, List.length_set, List.length_replicate, Spec.bytesOf_length]; omega) | (simp; omega))⟩
  refine st_op (ev_at rfl rfl (My.row h26) (getMap strC hx30) (by first | rfl | omega | simp) hi27 hi28 el33) rfl rfl rfl ?_
  refine st_op (ev_atL rfl (My.row h26) (getMap strC hx30) one9 rfl) rfl rfl rfl ?_
  refine st_op (ev_assign rfl) rfl rfl rfl ?_
  try show aw _ _ _ _ _ _
  refine aw_seq ?_
  refine aw_reg ?_
  refine st_op (ev_move rfl) rfl rfl rfl ?_
  refine st_op (ev_nilCheck rfl) rfl rfl rfl ?_
  refine st_op (ev_fieldAddr rfl fa77_0 (o' := 0) rfl) rfl rfl rfl ?_
  have hx32 : Ext H Hl18 := (Ext.then (Ext.trans hx7 hx16) hxl22 (fun q hq e => by (first | omega | (replace e := hD6 _ e.1; omega))))
  have h31 := DiskR.ext rd hx32
  refine st_op (ev_load rfl (lvar_one one75 h31.blk rfl)) rfl rfl rfl ?_
  refine st_op (ev_move rfl) rfl rfl rfl ?_
  obtain ⟨fi33, hf34⟩ := Spec.names_get (l := dl) hx30
  obtain ⟨⟨b35, A36, c37⟩, hg38, z39⟩ := DiskR.found h31 hf34
  have b35l := rd.below _ z39.dom
  dsimp only at b35l hg38
  have z39n := z39.len; have z39lo := z39.lo; have z39hi := z39.hi; have z39b := z39.bytes; have z39B := z39.blk; have z39r := My.row z39.row; have z39c := My.capF z39.row (by omega)
  have z39s := name_size (DiskR.name_of h31 hx30)
  dsimp only at z39B z39r z39c
  refine st_op (ev_lookup ptrMap75 rfl rfl h31.mblk hg38) rfl rfl rfl ?_
  refine st_op (ev_assign rfl) rfl rfl rfl ?_
  try show aw _ _ _ _ _ _
  refine aw_seq ?_
  refine aw_reg ?_
  refine st_op (ev_move rfl) rfl rfl rfl ?_
  refine st_op (ev_nilCheck rfl) rfl rfl rfl ?_
  refine st_op (ev_fieldAddr rfl fa81_1 (o' := 1) rfl) rfl rfl rfl ?_
  refine st_op (ev_load rfl (lvar_one one3 z39B rfl)) rfl rfl rfl ?_
  refine st_op (ev_assign rfl) rfl rfl rfl ?_
  try show aw _ _ _ _ _ _
  iterate 2 refine aw_seq ?_
  refine aw_reg ?_
  refine st_op (ev_move rfl) rfl rfl rfl ?_
  refine st_op (ev_int rfl rfl rfl) rfl rfl rfl ?_
  try show aw _ _ _ _ _ _
  by_cases hc40 : (decide (n ≥ 0)) = true
  ·
   refine aw_condT hc40 rfl ?_
   try show aw _ _ _ _ _ _
   have hc40 := of_decide_eq_true hc40
   refine aw_reg ?_
   iterate 4 refine st_op (ev_move rfl) rfl rfl rfl ?_
   refine st_call rfl rfl rfl ent17 rfl rfl rfl ?_
   obtain ⟨_, H41, hs42, rfl, hq43, hq44, hx45⟩ := disk_Loose_spec Hl18 d dD dl dk ⟨_, _, h31⟩ (by omega) x29 (by omega)
   refine ⟨_, H41, hs42, ?_⟩
   have H41n : Hl18.next ≤ H41.next := hx45.1
   refine st_op (ev_int64 (c := (Spec.looseF dl x29) + 1) rfl rfl rfl (by omega) (by omega)) rfl rfl rfl ?_
   refine st_op (ev_rem (b := (Spec.looseF dl x29) + 1) rfl rfl (by omega)) rfl rfl rfl ?_
   generalize hr47 : (Int.tmod n ((Spec.looseF dl x29) + 1)) = rm46
   have hr47b := Spec.rem_bounds (by omega) hf34 z39hi hr47
   refine st_op (ev_int64 (c := fi33.lasts + rm46) rfl rfl rfl (by omega) (by omega)) rfl rfl rfl ?_
   refine st_op (ev_assign rfl) rfl rfl rfl ?_
   try show aw _ _ _ _ _ _
   refine aw_seq ?_
   refine aw_reg ?_
   refine st_op (ev_move rfl) rfl rfl rfl ?_
   refine st_op (ev_int rfl rfl rfl) rfl rfl rfl ?_
   refine st_op (ev_move rfl) rfl rfl rfl ?_
   refine st_bool 42 rfl (fun hb48 => ?_) (fun hb48 => ?_)
   ·
    have hb48 := of_decide_eq_true hb48
    iterate 4 refine st_skip rfl rfl rfl ?_
    refine st_op (ev_pickT rfl rfl) rfl rfl rfl ?_
    try show aw _ _ _ _ _ _
    refine aw_cond (t := true) rfl ?_
    try show aw _ _ _ _ _ _
    refine aw_marks (fun b => b < H41.next) [(false, false), (false, false), (false, false), (true, false), (false, false), (false, false), (false, false), (false, false), (false, false), (false, false), (false, false), (false, true), (false, false), (false, false), (false, true), (false, false)] mixed (by kernel_rfl) (by kernel_rfl) ?_
    refine sm_op (ev_move rfl) rfl rfl rfl ?_
    refine sm_op (ev_nilCheck rfl) rfl rfl rfl ?_
    refine sm_op (ev_fieldAddr rfl fa77_0 (o' := 0) rfl) rfl rfl rfl ?_
    have h49 := DiskR.ext hr20 hx45
    refine sm_read (ev_load rfl (lvar_one one75 h49.blk rfl)) rfl rfl rfl (fun b hb => by cases hb; dsimp only <;> omega) ?_
    iterate 2 refine sm_op (ev_move rfl) rfl rfl rfl ?_
    refine sm_op (ev_nilCheck rfl) rfl rfl rfl ?_
    refine sm_op (ev_fieldAddr rfl fa81_0 (o' := 0) rfl) rfl rfl rfl ?_
    have h50 := Ext.blk hx45 (by omega) z39B
    refine sm_op (ev_load rfl (lvar_one one26 h50 rfl)) rfl rfl rfl ?_
    refine sm_op (ev_move rfl) rfl rfl rfl ?_
    have h59 := Row.ext z39r hx45
    obtain ⟨A51, c52, L53, hL54, hl55, hs56, hr57, hc58⟩ := sliceA_typed u8c el26 (by decide) h59 z39c (lo := none) (hi := some (.int .i64 (fi33.lasts + rm46))) (l := 0) (h := ((fi33.lasts + rm46)).toNat) (by rw [Option.isSome_some, if_pos rfl]; exact bound_int (by first | omega | (simp only [List.length_append, List.length_cons, List.length_nil, List.length_map, List.length_set, List.length_replicate, Spec.bytesOf_length]; omega) | (simp; omega)) (by first | omega | (simp only [List.length_append, List.length_cons, List.length_nil, List.length_map, List.length_set, List.length_replicate, Spec.bytesOf_length]; omega) | (simp; omega)) (by first | rfl | omega)) rfl (by first | omega | (simp only [List.length_append, List.length_cons, List.length_nil, List.length_map, List.length_set, List.length_replicate, Spec.bytesOf_length]; omega) | (simp; omega)) (by first | omega | (simp only [List.length_append, List.length_cons, List.length_nil, List.length_map, List.length_set, List.length_replicate, Spec.bytesOf_length]; omega) | (simp; omega))
    refine sm_op (ev_slice rfl rfl rfl rfl hs56) rfl rfl rfl ?_
    have hL54b : Spec.Bytes L53 := by rw [hL54]; exact Spec.Bytes.take (Spec.Bytes.drop z39b _) _
    refine sm_call rfl rfl rfl ent33 rfl rfl rfl ?_
    obtain ⟨_, H61, hs60, A63, c64, hs60v, hm65, hx62⟩ := bytes_Clone_spec H41 A51 L53 c52 hr57 hc58 (by first | omega | (simp only [List.length_append, List.length_cons, List.length_nil, List.length_map, List.length_set, List.length_replicate, Spec.bytesOf_length]; omega) | (simp; omega))
    rw [hs60v] at hs60; clear hs60v
    refine ⟨_, H61, hs60, (fun _ b hb => hx62.2 b (by omega)), ?_⟩
    have H61n : H41.next ≤ H61.next := hx62.1
    refine sm_op (ev_move rfl) rfl rfl rfl ?_
    refine sm_op (ev_build zero81 pl81 (parts := [(0, .slice A63 L53.length c64), (1, .int .i64 (fi33.lasts + rm46)), (2, .bool true)]) rfl (cs := [.slice A63 L53.length c64, .int .i64 (fi33.lasts + rm46), .bool true]) rfl) rfl rfl rfl ?_
    obtain ⟨b66, H67, he68, b66e, H67n_, hB70, f69⟩ := mem_box (P := Try.prog) H61 (v := .agg #[.slice A63 L53.length c64, .int .i64 (fi33.lasts + rm46), .bool true]) (cs := [.slice A63 L53.length c64, .int .i64 (fi33.lasts + rm46), .bool true]) rfl rfl
    refine sm_act (he68 _ _ _ _ _ _ _ _ _ rfl) rfl rfl rfl (fun q hq => f69 q (by omega)) ?_
    have hx71 : Ext H61 H67 := Ext.new (by omega) H67n_ f69
    have H67n : H61.next ≤ H67.next := hx71.1
    have hx73 : Ext H41 H67 := (Ext.trans hx62 hx71)
    have h72 := DiskR.ext h49 hx73
    obtain ⟨H74, he75, H74n_, hB76, f77⟩ := mem_mapUpd (v := .pointer (some ⟨b66, 0, none⟩)) (s := x29) ptrMap75 h72.mblk (by omega)
    refine sm_op0 (he75 _ _ _ _ _ _ _ _ _ _ rfl rfl rfl) rfl rfl ?_
    have hf78 : Fr (fun q => q = mb8) H67 H74 := Fr.write H74n_ f77
    have H74n : H67.next ≤ H74.next := hf78.1
    have h79 := Fr.blk hf78 (by omega) (fun e => (by omega)) hB70
    have h80 := My.ext hm65 hx71
    have h81 := My.frS h80 hf78 (fun q hq e => ⟨_, e ▸ h72.mblk, show (0 : Nat) ≠ 1 by decide⟩)
    have hx83 : Ext H H74 := (Ext.then (Ext.trans (Ext.trans (Ext.trans hx32 hx45) hx62) hx71) hf78 (fun q hq e => by omega))
    have h82 := DiskR.ext rd hx83
    have hr84 := DiskR.put_new (f' := ⟨L53, fi33.lasts + rm46, true⟩) hr20 (Fr.transG (Fr.trans (Fr.trans (Fr.trans (Fr.refl (fun q => q = mb8) Hl18) (hx45.fr fun _ => False) (fun q hq (e : False) => e.elim)) (hx62.fr fun _ => False) (fun q hq (e : False) => e.elim)) (hx71.fr fun _ => False) (fun q hq (e : False) => e.elim)) hf78 (fun q hq hE e => (e))) hB76 ⟨by omega, by omega⟩ h79 h81 (by omega) (by assumption) (by dsimp only; omega) (by dsimp only; omega) (Spec.crash_new (DiskR.names_nodup h82) hx30) (DiskR.name_of h82 hx30)
    have hD85 : ∀ q, (grow D2 Hl18 H74) q → _ := fun q e => Or.imp (hD24 q) id e
    have hS86 : ∀ q, (grow D2 Hl18 H74) q → D4 q ∨ (H11.next ≤ q ∧ q < H74.next) := fun q e => e.elim (fun e => (hD21 q e).imp id (fun e => by omega)) (fun e => .inr (by omega))
    try show aw _ _ _ _ _ _
    refine aw_reg ?_
    refine st_op (ev_int64 (c := (i : Int) + 1) rfl rfl rfl (by omega) (by omega)) rfl rfl rfl ?_
    refine st_op (ev_move rfl) rfl rfl rfl ?_
    try show aw _ _ _ _ _ _
    refine aw_keep [0, 1, 5, 14, 15, 16] (l' := (.cons 0 (.pointer (some ⟨d, 0, none⟩)) (.cons 1 (.int .i64 n) (.cons 5 (.pointer (some ⟨d3, 0, none⟩)) (.cons 14 (.slice A13 ((Spec.namesF dl).length) c14) (.cons 15 (.int .i64 ((Spec.namesF dl).length : Int)) (.cons 16 (.int .i64 ((i : Int) + 1)) .nil))))))) (by repeat (first | exact Up.done | refine Up.then ?_ | refine Up.inBlock ?_)) rfl ?_
    have hkk : Spec.keepN fi33 n = fi33.lasts + rm46 := by first | exact Spec.keep_neg (by omega) | exact Spec.keep_eq (by omega) hf34 hr47
    exact ih23 (i + 1, (ps2 ++ [(b66, A63, c64)]), (grow D2 Hl18 H74), H74) ⟨(show (i + 1) ≤ (Spec.namesF dl).length from (by omega)), (show DiskR (grow D2 Hl18 H74) H74 d3 mb8 (((Spec.namesF dl).take (i + 1)).filterMap (Spec.crash1 dl n)) (ps2 ++ [(b66, A63, c64)]) 0 from (by rw [Spec.crash_step hx30, Spec.crash1_yes hf34 (by rw [hkk]; exact .inl (by omega)), hkk]; have h9 := hr84; rw [hL54] at h9; simpa using h9)), (show ∀ q, (grow D2 Hl18 H74) q → D4 q ∨ (H11.next ≤ q ∧ q < H74.next) from (fun q e => (hS86 q e).imp id (fun e => by omega))), (show Fr (fun q => (D4 q ∧ Z01 H11 q)) H11 H74 from (Fr.transG (Fr.trans (Fr.trans (Fr.trans (Fr.transG (Fr.refl (fun q => (D4 q ∧ Z01 H11 q)) H11) hxl22 (fun q hq hE e => (⟨e.1, Z01.back hE e.2⟩))) (hx45.fr fun _ => False) (fun q hq (e : False) => e.elim)) (hx62.fr fun _ => False) (fun q hq (e : False) => e.elim)) (hx71.fr fun _ => False) (fun q hq (e : False) => e.elim)) hf78 (fun q hq hE e => (e ▸ (DiskR.zm h19)))))⟩ (by simp only; omega)
   ·
    have hb48 := of_decide_eq_false hb48
    refine st_op (ev_move rfl) rfl rfl rfl ?_
    refine st_op (ev_nilCheck rfl) rfl rfl rfl ?_
    refine st_op (ev_fieldAddr rfl fa81_2 (o' := 2) rfl) rfl rfl rfl ?_
    have h87 := Ext.blk hx45 (by omega) z39B
    refine st_op (ev_load rfl (lvar_one one4 h87 rfl)) rfl rfl rfl ?_
    refine st_op (ev_pickF rfl rfl) rfl rfl rfl ?_
    try show aw _ _ _ _ _ _
    by_cases hc88 : fi33.there = true
    ·
     refine aw_condT hc88 rfl ?_
     try show aw _ _ _ _ _ _
     refine aw_marks (fun b => b < H41.next) [(false, false), (false, false), (false, false), (true, false), (false, false), (false, false), (false, false), (false, false), (false, false), (false, false), (false, false), (false, true), (false, false), (false, false), (false, true), (false, false)] mixed (by kernel_rfl) (by kernel_rfl) ?_
     refine sm_op (ev_move rfl) rfl rfl rfl ?_
     refine sm_op (ev_nilCheck rfl) rfl rfl rfl ?_
     refine sm_op (ev_fieldAddr rfl fa77_0 (o' := 0) rfl) rfl rfl rfl ?_
     have h89 := DiskR.ext hr20 hx45
     refine sm_read (ev_load rfl (lvar_one one75 h89.blk rfl)) rfl rfl rfl (fun b hb => by cases hb; dsimp only <;> omega) ?_
     iterate 2 refine sm_op (ev_move rfl) rfl rfl rfl ?_
     refine sm_op (ev_nilCheck rfl) rfl rfl rfl ?_
     refine sm_op (ev_fieldAddr rfl fa81_0 (o' := 0) rfl) rfl rfl rfl ?_
     refine sm_op (ev_load rfl (lvar_one one26 h87 rfl)) rfl rfl rfl ?_
     refine sm_op (ev_move rfl) rfl rfl rfl ?_
     have h98 := Row.ext z39r hx45
     obtain ⟨A90, c91, L92, hL93, hl94, hs95, hr96, hc97⟩ := sliceA_typed u8c el26 (by decide) h98 z39c (lo := none) (hi := some (.int .i64 (fi33.lasts + rm46))) (l := 0) (h := ((fi33.lasts + rm46)).toNat) (by rw [Option.isSome_some, if_pos rfl]; exact bound_int (by first | omega | (simp only [List.length_append, List.length_cons, List.length_nil, List.length_map, List.length_set, List.length_replicate, Spec.bytesOf_length]; omega) | (simp; omega)) (by first | omega | (simp only [List.length_append, List.length_cons, List.length_nil, List.length_map, List.length_set, List.length_replicate, Spec.bytesOf_length]; omega) | (simp; omega)) (by first | rfl | omega)) rfl (by first | omega | (simp only [List.length_append, List.length_cons, List.length_nil, List.length_map, List.length_set, List.length_replicate, Spec.bytesOf_length]; omega) | (simp; omega)) (by first | omega | (simp only [List.length_append, List.length_cons, List.length_nil, List.length_map, List.length_set, List.length_replicate, Spec.bytesOf_length]; omega) | (simp; omega))
     refine sm_op (ev_slice rfl rfl rfl rfl hs95) rfl rfl rfl ?_
     have hL93b : Spec.Bytes L92 := by rw [hL93]; exact Spec.Bytes.take (Spec.Bytes.drop z39b _) _
     refine sm_call rfl rfl rfl ent33 rfl rfl rfl ?_
     obtain ⟨_, H100, hs99, A102, c103, hs99v, hm104, hx101⟩ := bytes_Clone_spec H41 A90 L92 c91 hr96 hc97 (by first | omega | (simp only [List.length_append, List.length_cons, List.length_nil, List.length_map, List.length_set, List.length_replicate, Spec.bytesOf_length]; omega) | (simp; omega))
     rw [hs99v] at hs99; clear hs99v
     refine ⟨_, H100, hs99, (fun _ b hb => hx101.2 b (by omega)), ?_⟩
     have H100n : H41.next ≤ H100.next := hx101.1
     refine sm_op (ev_move rfl) rfl rfl rfl ?_
     refine sm_op (ev_build zero81 pl81 (parts := [(0, .slice A102 L92.length c103), (1, .int .i64 (fi33.lasts + rm46)), (2, .bool true)]) rfl (cs := [.slice A102 L92.length c103, .int .i64 (fi33.lasts + rm46), .bool true]) rfl) rfl rfl rfl ?_
     obtain ⟨b105, H106, he107, b105e, H106n_, hB109, f108⟩ := mem_box (P := Try.prog) H100 (v := .agg #[.slice A102 L92.length c103, .int .i64 (fi33.lasts + rm46), .bool true]) (cs := [.slice A102 L92.length c103, .int .i64 (fi33.lasts + rm46), .bool true]) rfl rfl
     refine sm_act (he107 _ _ _ _ _ _ _ _ _ rfl) rfl rfl rfl (fun q hq => f108 q (by omega)) ?_
     have hx110 : Ext H100 H106 := Ext.new (by omega) H106n_ f108
     have H106n : H100.next ≤ H106.next := hx110.1
     have hx112 : Ext H41 H106 := (Ext.trans hx101 hx110)
     have h111 := DiskR.ext h89 hx112
     obtain ⟨H113, he114, H113n_, hB115, f116⟩ := mem_mapUpd (v := .pointer (some ⟨b105, 0, none⟩)) (s := x29) ptrMap75 h111.mblk (by omega)
     refine sm_op0 (he114 _ _ _ _ _ _ _ _ _ _ rfl rfl rfl) rfl rfl ?_
     have hf117 : Fr (fun q => q = mb8) H106 H113 := Fr.write H113n_ f116
     have H113n : H106.next ≤ H113.next := hf117.1
     have h118 := Fr.blk hf117 (by omega) (fun e => (by omega)) hB109
     have h119 := My.ext hm104 hx110
     have h120 := My.frS h119 hf117 (fun q hq e => ⟨_, e ▸ h111.mblk, show (0 : Nat) ≠ 1 by decide⟩)
     have hx122 : Ext H H113 := (Ext.then (Ext.trans (Ext.trans (Ext.trans hx32 hx45) hx101) hx110) hf117 (fun q hq e => by omega))
     have h121 := DiskR.ext rd hx122
     have hr123 := DiskR.put_new (f' := ⟨L92, fi33.lasts + rm46, true⟩) hr20 (Fr.transG (Fr.trans (Fr.trans (Fr.trans (Fr.refl (fun q => q = mb8) Hl18) (hx45.fr fun _ => False) (fun q hq (e : False) => e.elim)) (hx101.fr fun _ => False) (fun q hq (e : False) => e.elim)) (hx110.fr fun _ => False) (fun q hq (e : False) => e.elim)) hf117 (fun q hq hE e => (e))) hB115 ⟨by omega, by omega⟩ h118 h120 (by omega) (by assumption) (by dsimp only; omega) (by dsimp only; omega) (Spec.crash_new (DiskR.names_nodup h121) hx30) (DiskR.name_of h121 hx30)
     have hD124 : ∀ q, (grow D2 Hl18 H113) q → _ := fun q e => Or.imp (hD24 q) id e
     have hS125 : ∀ q, (grow D2 Hl18 H113) q → D4 q ∨ (H11.next ≤ q ∧ q < H113.next) := fun q e => e.elim (fun e => (hD21 q e).imp id (fun e => by omega)) (fun e => .inr (by omega))
     try show aw _ _ _ _ _ _
     refine aw_reg ?_
     refine st_op (ev_int64 (c := (i : Int) + 1) rfl rfl rfl (by omega) (by omega)) rfl rfl rfl ?_
     refine st_op (ev_move rfl) rfl rfl rfl ?_
     try show aw _ _ _ _ _ _
     refine aw_keep [0, 1, 5, 14, 15, 16] (l' := (.cons 0 (.pointer (some ⟨d, 0, none⟩)) (.cons 1 (.int .i64 n) (.cons 5 (.pointer (some ⟨d3, 0, none⟩)) (.cons 14 (.slice A13 ((Spec.namesF dl).length) c14) (.cons 15 (.int .i64 ((Spec.namesF dl).length : Int)) (.cons 16 (.int .i64 ((i : Int) + 1)) .nil))))))) (by repeat (first | exact Up.done | refine Up.then ?_ | refine Up.inBlock ?_)) rfl ?_
     have hkk : Spec.keepN fi33 n = fi33.lasts + rm46 := by first | exact Spec.keep_neg (by omega) | exact Spec.keep_eq (by omega) hf34 hr47
     exact ih23 (i + 1, (ps2 ++ [(b105, A102, c103)]), (grow D2 Hl18 H113), H113) ⟨(show (i + 1) ≤ (Spec.namesF dl).length from (by omega)), (show DiskR (grow D2 Hl18 H113) H113 d3 mb8 (((Spec.namesF dl).take (i + 1)).filterMap (Spec.crash1 dl n)) (ps2 ++ [(b105, A102, c103)]) 0 from (by rw [Spec.crash_step hx30, Spec.crash1_yes hf34 (by rw [hkk]; exact .inr hc88), hkk]; have h9 := hr123; rw [hL93] at h9; simpa using h9)), (show ∀ q, (grow D2 Hl18 H113) q → D4 q ∨ (H11.next ≤ q ∧ q < H113.next) from (fun q e => (hS125 q e).imp id (fun e => by omega))), (show Fr (fun q => (D4 q ∧ Z01 H11 q)) H11 H113 from (Fr.transG (Fr.trans (Fr.trans (Fr.trans (Fr.transG (Fr.refl (fun q => (D4 q ∧ Z01 H11 q)) H11) hxl22 (fun q hq hE e => (⟨e.1, Z01.back hE e.2⟩))) (hx45.fr fun _ => False) (fun q hq (e : False) => e.elim)) (hx101.fr fun _ => False) (fun q hq (e : False) => e.elim)) (hx110.fr fun _ => False) (fun q hq (e : False) => e.elim)) hf117 (fun q hq hE e => (e ▸ (DiskR.zm h19)))))⟩ (by simp only; omega)
    ·
     rw [Bool.not_eq_true] at hc88; refine aw_condF hc88 rfl ?_
     try show aw _ _ _ _ _ _
     refine aw_skip ?_
     try show aw _ _ _ _ _ _
     refine aw_reg ?_
     refine st_op (ev_int64 (c := (i : Int) + 1) rfl rfl rfl (by omega) (by omega)) rfl rfl rfl ?_
     refine st_op (ev_move rfl) rfl rfl rfl ?_
     try show aw _ _ _ _ _ _
     have h126 := DiskR.ext hr20 hx45
     refine aw_keep [0, 1, 5, 14, 15, 16] (l' := (.cons 0 (.pointer (some ⟨d, 0, none⟩)) (.cons 1 (.int .i64 n) (.cons 5 (.pointer (some ⟨d3, 0, none⟩)) (.cons 14 (.slice A13 ((Spec.namesF dl).length) c14) (.cons 15 (.int .i64 ((Spec.namesF dl).length : Int)) (.cons 16 (.int .i64 ((i : Int) + 1)) .nil))))))) (by repeat (first | exact Up.done | refine Up.then ?_ | refine Up.inBlock ?_)) rfl ?_
     have hkk : Spec.keepN fi33 n = fi33.lasts + rm46 := by first | exact Spec.keep_neg (by omega) | exact Spec.keep_eq (by omega) hf34 hr47
     exact ih23 (i + 1, ps2, D2, H41) ⟨(show (i + 1) ≤ (Spec.namesF dl).length from (by omega)), (show DiskR D2 H41 d3 mb8 (((Spec.namesF dl).take (i + 1)).filterMap (Spec.crash1 dl n)) ps2 0 from (by rw [Spec.crash_step hx30, Spec.crash1_no hf34 (by rw [hkk]; rintro (h | h) <;> first | omega | simp_all)]; simpa using h126)), (show ∀ q, D2 q → D4 q ∨ (H11.next ≤ q ∧ q < H41.next) from (fun q e => (hD21 q e).imp id (fun e => by omega))), (show Fr (fun q => (D4 q ∧ Z01 H11 q)) H11 H41 from (Fr.trans (Fr.transG (Fr.refl (fun q => (D4 q ∧ Z01 H11 q)) H11) hxl22 (fun q hq hE e => (⟨e.1, Z01.back hE e.2⟩))) (hx45.fr fun _ => False) (fun q hq (e : False) => e.elim)))⟩ (by simp only; omega)
  ·
   rw [Bool.not_eq_true] at hc40; refine aw_condF hc40 rfl ?_
   try show aw _ _ _ _ _ _
   have hc40 := of_decide_eq_false hc40
   refine aw_skip ?_
   try show aw _ _ _ _ _ _
   refine aw_seq ?_
   refine aw_reg ?_
   refine st_op (ev_move rfl) rfl rfl rfl ?_
   refine st_op (ev_int rfl rfl rfl) rfl rfl rfl ?_
   refine st_op (ev_move rfl) rfl rfl rfl ?_
   refine st_bool 42 rfl (fun hb127 => ?_) (fun hb127 => ?_)
   ·
    have hb127 := of_decide_eq_true hb127
    iterate 4 refine st_skip rfl rfl rfl ?_
    refine st_op (ev_pickT rfl rfl) rfl rfl rfl ?_
    try show aw _ _ _ _ _ _
    refine aw_cond (t := true) rfl ?_
    try show aw _ _ _ _ _ _
    refine aw_marks (fun b => b < Hl18.next) [(false, false), (false, false), (false, false), (true, false), (false, false), (false, false), (false, false), (false, false), (false, false), (false, false), (false, false), (false, true), (false, false), (false, false), (false, true), (false, false)] mixed (by kernel_rfl) (by kernel_rfl) ?_
    refine sm_op (ev_move rfl) rfl rfl rfl ?_
    refine sm_op (ev_nilCheck rfl) rfl rfl rfl ?_
    refine sm_op (ev_fieldAddr rfl fa77_0 (o' := 0) rfl) rfl rfl rfl ?_
    refine sm_read (ev_load rfl (lvar_one one75 hr20.blk rfl)) rfl rfl rfl (fun b hb => by cases hb; dsimp only <;> omega) ?_
    iterate 2 refine sm_op (ev_move rfl) rfl rfl rfl ?_
    refine sm_op (ev_nilCheck rfl) rfl rfl rfl ?_
    refine sm_op (ev_fieldAddr rfl fa81_0 (o' := 0) rfl) rfl rfl rfl ?_
    refine sm_op (ev_load rfl (lvar_one one26 z39B rfl)) rfl rfl rfl ?_
    refine sm_op (ev_move rfl) rfl rfl rfl ?_
    obtain ⟨A128, c129, L130, hL131, hl132, hs133, hr134, hc135⟩ := sliceA_typed u8c el26 (by decide) z39r z39c (lo := none) (hi := some (.int .i64 fi33.lasts)) (l := 0) (h := (fi33.lasts).toNat) (by rw [Option.isSome_some, if_pos rfl]; exact bound_int (by first | omega | (simp only [List.length_append, List.length_cons, List.length_nil, List.length_map, List.length_set, List.length_replicate, Spec.bytesOf_length]; omega) | (simp; omega)) (by first | omega | (simp only [List.length_append, List.length_cons, List.length_nil, List.length_map, List.length_set, List.length_replicate, Spec.bytesOf_length]; omega) | (simp; omega)) (by first | rfl | omega)) rfl (by first | omega | (simp only [List.length_append, List.length_cons, List.length_nil, List.length_map, List.length_set, List.length_replicate, Spec.bytesOf_length]; omega) | (simp; omega)) (by first | omega | (simp only [List.length_append, List.length_cons, List.length_nil, List.length_map, List.length_set, List.length_replicate, Spec.bytesOf_length]; omega) | (simp; omega))
    refine sm_op (ev_slice rfl rfl rfl rfl hs133) rfl rfl rfl ?_
    have hL131b : Spec.Bytes L130 := by rw [hL131]; exact Spec.Bytes.take (Spec.Bytes.drop z39b _) _
    refine sm_call rfl rfl rfl ent33 rfl rfl rfl ?_
    obtain ⟨_, H137, hs136, A139, c140, hs136v, hm141, hx138⟩ := bytes_Clone_spec Hl18 A128 L130 c129 hr134 hc135 (by first | omega | (simp only [List.length_append, List.length_cons, List.length_nil, List.length_map, List.length_set, List.length_replicate, Spec.bytesOf_length]; omega) | (simp; omega))
    rw [hs136v] at hs136; clear hs136v
    refine ⟨_, H137, hs136, (fun _ b hb => hx138.2 b (by omega)), ?_⟩
    have H137n : Hl18.next ≤ H137.next := hx138.1
    refine sm_op (ev_move rfl) rfl rfl rfl ?_
    refine sm_op (ev_build zero81 pl81 (parts := [(0, .slice A139 L130.length c140), (1, .int .i64 fi33.lasts), (2, .bool true)]) rfl (cs := [.slice A139 L130.length c140, .int .i64 fi33.lasts, .bool true]) rfl) rfl rfl rfl ?_
    obtain ⟨b142, H143, he144, b142e, H143n_, hB146, f145⟩ := mem_box (P := Try.prog) H137 (v := .agg #[.slice A139 L130.length c140, .int .i64 fi33.lasts, .bool true]) (cs := [.slice A139 L130.length c140, .int .i64 fi33.lasts, .bool true]) rfl rfl
    refine sm_act (he144 _ _ _ _ _ _ _ _ _ rfl) rfl rfl rfl (fun q hq => f145 q (by omega)) ?_
    have hx147 : Ext H137 H143 := Ext.new (by omega) H143n_ f145
    have H143n : H137.next ≤ H143.next := hx147.1
    have hx149 : Ext Hl18 H143 := (Ext.trans hx138 hx147)
    have h148 := DiskR.ext hr20 hx149
    obtain ⟨H150, he151, H150n_, hB152, f153⟩ := mem_mapUpd (v := .pointer (some ⟨b142, 0, none⟩)) (s := x29) ptrMap75 h148.mblk (by omega)
    refine sm_op0 (he151 _ _ _ _ _ _ _ _ _ _ rfl rfl rfl) rfl rfl ?_
    have hf154 : Fr (fun q => q = mb8) H143 H150 := Fr.write H150n_ f153
    have H150n : H143.next ≤ H150.next := hf154.1
    have h155 := Fr.blk hf154 (by omega) (fun e => (by omega)) hB146
    have h156 := My.ext hm141 hx147
    have h157 := My.frS h156 hf154 (fun q hq e => ⟨_, e ▸ h148.mblk, show (0 : Nat) ≠ 1 by decide⟩)
    have hx159 : Ext H H150 := (Ext.then (Ext.trans (Ext.trans hx32 hx138) hx147) hf154 (fun q hq e => by omega))
    have h158 := DiskR.ext rd hx159
    have hr160 := DiskR.put_new (f' := ⟨L130, fi33.lasts, true⟩) hr20 (Fr.transG (Fr.trans (Fr.trans (Fr.refl (fun q => q = mb8) Hl18) (hx138.fr fun _ => False) (fun q hq (e : False) => e.elim)) (hx147.fr fun _ => False) (fun q hq (e : False) => e.elim)) hf154 (fun q hq hE e => (e))) hB152 ⟨by omega, by omega⟩ h155 h157 (by omega) (by assumption) (by dsimp only; omega) (by dsimp only; omega) (Spec.crash_new (DiskR.names_nodup h158) hx30) (DiskR.name_of h158 hx30)
    have hD161 : ∀ q, (grow D2 Hl18 H150) q → _ := fun q e => Or.imp (hD24 q) id e
    have hS162 : ∀ q, (grow D2 Hl18 H150) q → D4 q ∨ (H11.next ≤ q ∧ q < H150.next) := fun q e => e.elim (fun e => (hD21 q e).imp id (fun e => by omega)) (fun e => .inr (by omega))
    try show aw _ _ _ _ _ _
    refine aw_reg ?_
    refine st_op (ev_int64 (c := (i : Int) + 1) rfl rfl rfl (by omega) (by omega)) rfl rfl rfl ?_
    refine st_op (ev_move rfl) rfl rfl rfl ?_
    try show aw _ _ _ _ _ _
    refine aw_keep [0, 1, 5, 14, 15, 16] (l' := (.cons 0 (.pointer (some ⟨d, 0, none⟩)) (.cons 1 (.int .i64 n) (.cons 5 (.pointer (some ⟨d3, 0, none⟩)) (.cons 14 (.slice A13 ((Spec.namesF dl).length) c14) (.cons 15 (.int .i64 ((Spec.namesF dl).length : Int)) (.cons 16 (.int .i64 ((i : Int) + 1)) .nil))))))) (by repeat (first | exact Up.done | refine Up.then ?_ | refine Up.inBlock ?_)) rfl ?_
    have hkk : Spec.keepN fi33 n = fi33.lasts := by first | exact Spec.keep_neg (by omega) | exact Spec.keep_eq (by omega) hf34 rfl
    exact ih23 (i + 1, (ps2 ++ [(b142, A139, c140)]), (grow D2 Hl18 H150), H150) ⟨(show (i + 1) ≤ (Spec.namesF dl).length from (by omega)), (show DiskR (grow D2 Hl18 H150) H150 d3 mb8 (((Spec.namesF dl).take (i + 1)).filterMap (Spec.crash1 dl n)) (ps2 ++ [(b142, A139, c140)]) 0 from (by rw [Spec.crash_step hx30, Spec.crash1_yes hf34 (by rw [hkk]; exact .inl (by omega)), hkk]; have h9 := hr160; rw [hL131] at h9; simpa using h9)), (show ∀ q, (grow D2 Hl18 H150) q → D4 q ∨ (H11.next ≤ q ∧ q < H150.next) from (fun q e => (hS162 q e).imp id (fun e => by omega))), (show Fr (fun q => (D4 q ∧ Z01 H11 q)) H11 H150 from (Fr.transG (Fr.trans (Fr.trans (Fr.transG (Fr.refl (fun q => (D4 q ∧ Z01 H11 q)) H11) hxl22 (fun q hq hE e => (⟨e.1, Z01.back hE e.2⟩))) (hx138.fr fun _ => False) (fun q hq (e : False) => e.elim)) (hx147.fr fun _ => False) (fun q hq (e : False) => e.elim)) hf154 (fun q hq hE e => (e ▸ (DiskR.zm h19)))))⟩ (by simp only; omega)
   ·
    have hb127 := of_decide_eq_false hb127
    refine st_op (ev_move rfl) rfl rfl rfl ?_
    refine st_op (ev_nilCheck rfl) rfl rfl rfl ?_
    refine st_op (ev_fieldAddr rfl fa81_2 (o' := 2) rfl) rfl rfl rfl ?_
    refine st_op (ev_load rfl (lvar_one one4 z39B rfl)) rfl rfl rfl ?_
    refine st_op (ev_pickF rfl rfl) rfl rfl rfl ?_
    try show aw _ _ _ _ _ _
    by_cases hc163 : fi33.there = true
    ·
     refine aw_condT hc163 rfl ?_
     try show aw _ _ _ _ _ _
     refine aw_marks (fun b => b < Hl18.next) [(false, false), (false, false), (false, false), (true, false), (false, false), (false, false), (false, false), (false, false), (false, false), (false, false), (false, false), (false, true), (false, false), (false, false), (false, true), (false, false)] mixed (by kernel_rfl) (by kernel_rfl) ?_
     refine sm_op (ev_move rfl) rfl rfl rfl ?_
     refine sm_op (ev_nilCheck rfl) rfl rfl rfl ?_
     refine sm_op (ev_fieldAddr rfl fa77_0 (o' := 0) rfl) rfl rfl rfl ?_
     refine sm_read (ev_load rfl (lvar_one one75 hr20.blk rfl)) rfl rfl rfl (fun b hb => by cases hb; dsimp only <;> omega) ?_
     iterate 2 refine sm_op (ev_move rfl) rfl rfl rfl ?_
     refine sm_op (ev_nilCheck rfl) rfl rfl rfl ?_
     refine sm_op (ev_fieldAddr rfl fa81_0 (o' := 0) rfl) rfl rfl rfl ?_
     refine sm_op (ev_load rfl (lvar_one one26 z39B rfl)) rfl rfl rfl ?_
     refine sm_op (ev_move rfl) rfl rfl rfl ?_
     obtain ⟨A164, c165, L166, hL167, hl168, hs169, hr170, hc171⟩ := sliceA_typed u8c el26 (by decide) z39r z39c (lo := none) (hi := some (.int .i64 fi33.lasts)) (l := 0) (h := (fi33.lasts).toNat) (by rw [Option.isSome_some, if_pos rfl]; exact bound_int (by first | omega | (simp only [List.length_append, List.length_cons, List.length_nil, List.length_map, List.length_set, List.length_replicate, Spec.bytesOf_length]; omega) | (simp; omega)) (by first | omega | (simp only [List.length_append, List.length_cons, List.length_nil, List.length_map, List.length_set, List.length_replicate, Spec.bytesOf_length]; omega) | (simp; omega)) (by first | rfl | omega)) rfl (by first | omega | (simp only [List.length_append, List.length_cons, List.length_nil, List.length_map, List.length_set, List.length_replicate, Spec.bytesOf_length]; omega) | (simp; omega)) (by first | omega | (simp only [List.length_append, List.length_cons, List.length_nil, List.length_map, List.length_set, List.length_replicate, Spec.bytesOf_length]; omega) | (simp; omega))
     refine sm_op (ev_slice rfl rfl rfl rfl hs169) rfl rfl rfl ?_
     have hL167b : Spec.Bytes L166 := by rw [hL167]; exact Spec.Bytes.take (Spec.Bytes.drop z39b _) _
     refine sm_call rfl rfl rfl ent33 rfl rfl rfl ?_
     obtain ⟨_, H173, hs172, A175, c176, hs172v, hm177, hx174⟩ := bytes_Clone_spec Hl18 A164 L166 c165 hr170 hc171 (by first | omega | (simp only [List.length_append, List.length_cons, List.length_nil, List.length_map, List.length_set, List.length_replicate, Spec.bytesOf_length]; omega) | (simp; omega))
     rw [hs172v] at hs172; clear hs172v
     refine ⟨_, H173, hs172, (fun _ b hb => hx174.2 b (by omega)), ?_⟩
     have H173n : Hl18.next ≤ H173.next := hx174.1
     refine sm_op (ev_move rfl) rfl rfl rfl ?_
     refine sm_op (ev_build zero81 pl81 (parts := [(0, .slice A175 L166.length c176), (1, .int .i64 fi33.lasts), (2, .bool true)]) rfl (cs := [.slice A175 L166.length c176, .int .i64 fi33.lasts, .bool true]) rfl) rfl rfl rfl ?_
     obtain ⟨b178, H179, he180, b178e, H179n_, hB182, f181⟩ := mem_box (P := Try.prog) H173 (v := .agg #[.slice A175 L166.length c176, .int .i64 fi33.lasts, .bool true]) (cs := [.slice A175 L166.length c176, .int .i64 fi33.lasts, .bool true]) rfl rfl
     refine sm_act (he180 _ _ _ _ _ _ _ _ _ rfl) rfl rfl rfl (fun q hq => f181 q (by omega)) ?_
     have hx183 : Ext H173 H179 := Ext.new (by omega) H179n_ f181
     have H179n : H173.next ≤ H179.next := hx183.1
     have hx185 : Ext Hl18 H179 := (Ext.trans hx174 hx183)
     have h184 := DiskR.ext hr20 hx185
     obtain ⟨H186, he187, H186n_, hB188, f189⟩ := mem_mapUpd (v := .pointer (some ⟨b178, 0, none⟩)) (s := x29) ptrMap75 h184.mblk (by omega)
     refine sm_op0 (he187 _ _ _ _ _ _ _ _ _ _ rfl rfl rfl) rfl rfl ?_
     have hf190 : Fr (fun q => q = mb8) H179 H186 := Fr.write H186n_ f189
     have H186n : H179.next ≤ H186.next := hf190.1
     have h191 := Fr.blk hf190 (by omega) (fun e => (by omega)) hB182
     have h192 := My.ext hm177 hx183
     have h193 := My.frS h192 hf190 (fun q hq e => ⟨_, e ▸ h184.mblk, show (0 : Nat) ≠ 1 by decide⟩)
     have hx195 : Ext H H186 := (Ext.then (Ext.trans (Ext.trans hx32 hx174) hx183) hf190 (fun q hq e => by omega))
     have h194 := DiskR.ext rd hx195
     have hr196 := DiskR.put_new (f' := ⟨L166, fi33.lasts, true⟩) hr20 (Fr.transG (Fr.trans (Fr.trans (Fr.refl (fun q => q = mb8) Hl18) (hx174.fr fun _ => False) (fun q hq (e : False) => e.elim)) (hx183.fr fun _ => False) (fun q hq (e : False) => e.elim)) hf190 (fun q hq hE e => (e))) hB188 ⟨by omega, by omega⟩ h191 h193 (by omega) (by assumption) (by dsimp only; omega) (by dsimp only; omega) (Spec.crash_new (DiskR.names_nodup h194) hx30) (DiskR.name_of h194 hx30)
     have hD197 : ∀ q, (grow D2 Hl18 H186) q → _ := fun q e => Or.imp (hD24 q) id e
     have hS198 : ∀ q, (grow D2 Hl18 H186) q → D4 q ∨ (H11.next ≤ q ∧ q < H186.next) := fun q e => e.elim (fun e => (hD21 q e).imp id (fun e => by omega)) (fun e => .inr (by omega))
     try show aw _ _ _ _ _ _
     refine aw_reg ?_
     refine st_op (ev_int64 (c := (i : Int) + 1) rfl rfl rfl (by omega) (by omega)) rfl rfl rfl ?_
     refine st_op (ev_move rfl) rfl rfl rfl ?_
     try show aw _ _ _ _ _ _
     refine aw_keep [0, 1, 5, 14, 15, 16] (l' := (.cons 0 (.pointer (some ⟨d, 0, none⟩)) (.cons 1 (.int .i64 n) (.cons 5 (.pointer (some ⟨d3, 0, none⟩)) (.cons 14 (.slice A13 ((Spec.namesF dl).length) c14) (.cons 15 (.int .i64 ((Spec.namesF dl).length : Int)) (.cons 16 (.int .i64 ((i : Int) + 1)) .nil))))))) (by repeat (first | exact Up.done | refine Up.then ?_ | refine Up.inBlock ?_)) rfl ?_
     have hkk : Spec.keepN fi33 n = fi33.lasts := by first | exact Spec.keep_neg (by omega) | exact Spec.keep_eq (by omega) hf34 rfl
     exact ih23 (i + 1, (ps2 ++ [(b178, A175, c176)]), (grow D2 Hl18 H186), H186) ⟨(show (i + 1) ≤ (Spec.namesF dl).length from (by omega)), (show DiskR (grow D2 Hl18 H186) H186 d3 mb8 (((Spec.namesF dl).take (i + 1)).filterMap (Spec.crash1 dl n)) (ps2 ++ [(b178, A175, c176)]) 0 from (by rw [Spec.crash_step hx30, Spec.crash1_yes hf34 (by rw [hkk]; exact .inr hc163), hkk]; have h9 := hr196; rw [hL167] at h9; simpa using h9)), (show ∀ q, (grow D2 Hl18 H186) q → D4 q ∨ (H11.next ≤ q ∧ q < H186.next) from (fun q e => (hS198 q e).imp id (fun e => by omega))), (show Fr (fun q => (D4 q ∧ Z01 H11 q)) H11 H186 from (Fr.transG (Fr.trans (Fr.trans (Fr.transG (Fr.refl (fun q => (D4 q ∧ Z01 H11 q)) H11) hxl22 (fun q hq hE e => (⟨e.1, Z01.back hE e.2⟩))) (hx174.fr fun _ => False) (fun q hq (e : False) => e.elim)) (hx183.fr fun _ => False) (fun q hq (e : False) => e.elim)) hf190 (fun q hq hE e => (e ▸ (DiskR.zm h19)))))⟩ (by simp only; omega)
    ·
     rw [Bool.not_eq_true] at hc163; refine aw_condF hc163 rfl ?_
     try show aw _ _ _ _ _ _
     refine aw_skip ?_
     try show aw _ _ _ _ _ _
     refine aw_reg ?_
     refine st_op (ev_int64 (c := (i : Int) + 1) rfl rfl rfl (by omega) (by omega)) rfl rfl rfl ?_
     refine st_op (ev_move rfl) rfl rfl rfl ?_
     try show aw _ _ _ _ _ _
     refine aw_keep [0, 1, 5, 14, 15, 16] (l' := (.cons 0 (.pointer (some ⟨d, 0, none⟩)) (.cons 1 (.int .i64 n) (.cons 5 (.pointer (some ⟨d3, 0, none⟩)) (.cons 14 (.slice A13 ((Spec.namesF dl).length) c14) (.cons 15 (.int .i64 ((Spec.namesF dl).length : Int)) (.cons 16 (.int .i64 ((i : Int) + 1)) .nil))))))) (by repeat (first | exact Up.done | refine Up.then ?_ | refine Up.inBlock ?_)) rfl ?_
     have hkk : Spec.keepN fi33 n = fi33.lasts := by first | exact Spec.keep_neg (by omega) | exact Spec.keep_eq (by omega) hf34 rfl
     exact ih23 (i + 1, ps2, D2, Hl18) ⟨(show (i + 1) ≤ (Spec.namesF dl).length from (by omega)), (show DiskR D2 Hl18 d3 mb8 (((Spec.namesF dl).take (i + 1)).filterMap (Spec.crash1 dl n)) ps2 0 from (by rw [Spec.crash_step hx30, Spec.crash1_no hf34 (by rw [hkk]; rintro (h | h) <;> first | omega | simp_all)]; simpa using hr20)), (show ∀ q, D2 q → D4 q ∨ (H11.next ≤ q ∧ q < Hl18.next) from (fun q e => (hD21 q e).imp id (fun e => by omega))), (show Fr (fun q => (D4 q ∧ Z01 H11 q)) H11 Hl18 from (Fr.transG (Fr.refl (fun q => (D4 q ∧ Z01 H11 q)) H11) hxl22 (fun q hq hE e => (⟨e.1, Z01.back hE e.2⟩))))⟩ (by simp only; omega)
 ·
  rw [Bool.not_eq_true] at hc25; refine aw_condF hc25 rfl ?_
  try show aw _ _ _ _ _ _
  have hc25 := of_decide_eq_false hc25
  refine aw_exit ?_
  try show aw _ _ _ _ _ _
  refine aw_seq ?_
  refine aw_reg ?_
  refine st_op (ev_move rfl) rfl rfl rfl ?_
  refine st_op (ev_assign rfl) rfl rfl rfl ?_
  try show aw _ _ _ _ _ _
  refine aw_ret ?_
  have hres : ((Spec.namesF dl).take i).filterMap (Spec.crash1 dl n) = Spec.crashF dl n := by unfold Spec.crashF; rw [List.take_of_length_le (by omega)]
  rw [hres] at hr20
  have hx199 : Ext H Hl18 := (Ext.then (Ext.trans hx7 hx16) hxl22 (fun q hq e => by (first | omega | (replace e := hD6 _ e.1; omega))))
  exact ⟨_, rfl, d3, D2, rfl, ⟨_, _, hr20⟩, (fun q e => by have e := hD24 q e; omega), hx199⟩





theorem law17_begun_spec (H : Heap)  : ∃ v H', Spec Try.prog 9 [] H v H' ∧ ((v = .bool true) ∧ (Ext H H')) := by
 refine spec_go0 E0_ok 63 (f := 9) Try.func9 rfl rfl ?_
 refine aw_seq ?_
 refine aw_reg ?_
 refine st_op (ev_assign rfl) rfl rfl rfl ?_
 try show aw _ _ _ _ _ _
 refine aw_seq ?_
 refine aw_reg ?_
 refine st_call rfl rfl rfl ent10 rfl rfl rfl ?_
 obtain ⟨_, H1, hs2, d3, D4, rfl, ⟨mb8, ps9, hr10⟩, hD6, hx7⟩ := disk_New_spec H
 refine ⟨_, H1, hs2, ?_⟩
 have H1n : H.next ≤ H1.next := hx7.1
 have bd3 := hD6 _ hr10.dp; have bmb8 := hD6 _ hr10.dm
 refine st_op (ev_assign rfl) rfl rfl rfl ?_
 try show aw _ _ _ _ _ _
 iterate 2 refine aw_seq ?_
 refine aw_reg ?_
 refine st_op (ev_move rfl) rfl rfl rfl ?_
 refine st_op (ev_nilEq rfl rfl Try.underlying24) rfl rfl rfl ?_
 try show aw _ _ _ _ _ _
 refine aw_cond (t := false) rfl ?_
 try show aw _ _ _ _ _ _
 refine aw_skip ?_
 try show aw _ _ _ _ _ _
 refine aw_seq ?_
 refine aw_reg ?_
 refine st_op (ev_move rfl) rfl rfl rfl ?_
 obtain ⟨b11, H12, he13, b11e, H12n_, hm15, f14⟩ := mem_lit H1 (xs := ([.int .u8 120, .int .u8 121, .int .u8 122] : List Value)) (m := 3) (rows := [[.int .u8 120], [.int .u8 121], [.int .u8 122]]) rfl eok26 (by decide) (by decide) zf5 rfl (allLen rfl) rfl
 replace hm15 : My H1 H12 (some ⟨b11, 0, none⟩) 3 1 ([120, 121, 122].map u8c) := hm15
 refine st_op (he13 _ _ _ _ _ _ _ _ rfl) rfl rfl rfl ?_
 have hx16 : Ext H1 H12 := Ext.new (by omega) H12n_ f14
 have H12n : H1.next ≤ H12.next := hx16.1
 obtain ⟨W17, he18⟩ := My.convBB (n := 3) hm15 (by simp) (by decide) slu8_26
 refine st_op (he18 _ _ _ _ _ _ _ _ rfl) rfl rfl rfl ?_
 refine st_call rfl rfl rfl ent11 rfl rfl rfl ?_
 have h19 := DiskR.ext hr10 hx16
 have hS20 := disk_Append_spec H12 d3 D4 ([] : Files) 0 ⟨_, _, h19⟩ (by omega) (⟨#[97]⟩) (by first | omega | decide | assumption) (some ⟨b11, 0, none⟩) ([120, 121, 122]) 3 (My.row hm15) (My.capF hm15 (by first | omega | (simp only [List.length_append, List.length_cons, List.length_nil, List.length_map, List.length_set, List.length_replicate, Spec.bytesOf_length]; omega) | (simp; omega))) (by first | omega | (simp only [List.length_append, List.length_cons, List.length_nil, List.length_map, List.length_set, List.length_replicate, Spec.bytesOf_length]; omega) | (simp; omega)) (by first | assumption | exact Spec.Bytes.nil | exact Spec.bytes_of _ | (repeat' first | assumption | exact Spec.Bytes.nil | exact Spec.bytes_of _ | exact Spec.enc_bytes _ | exact Spec.four_bytes _ | exact Spec.sealF_bytes (by assumption) | apply Spec.Bytes.append | apply Spec.Bytes.cons (by omega) | apply Spec.Bytes.take | apply Spec.Bytes.drop))
 rw [Spec.one_app0 (F := ⟨#[97]⟩) (a := [120, 121, 122]) (by decide) (by first | omega | (simp only [List.length_append, List.length_take, Spec.bytesOf_length]; omega) | (simp; omega) | decide)] at hS20; try dsimp only at hS20
 obtain ⟨_, H21, hs22, rfl, D24, ⟨mb25, ps26, hr27⟩, hb28, hx23⟩ := hS20
 refine ⟨_, H21, hs22, ?_⟩
 have H21n : H12.next ≤ H21.next := hx23.1
 have hD29 := fun q e => (hb28 q e).imp (hD6 q) id
 refine st_op (ev_move rfl) rfl rfl rfl ?_
 refine st_call rfl rfl rfl ent17 rfl rfl rfl ?_
 have hS30 := disk_Loose_spec H21 d3 D24 ([(⟨#[97]⟩, ⟨[120, 121, 122], 0, false⟩)] : Files) (0 + 1) ⟨_, _, hr27⟩ (by omega) (⟨#[97]⟩) (by first | omega | decide | assumption)
 rw [Spec.one_loose (F := ⟨#[97]⟩) (a := [120, 121, 122]) (s := 0) (t := false)] at hS30; try dsimp only at hS30
 obtain ⟨_, H31, hs32, rfl, hq34, hq35, hx33⟩ := hS30
 refine ⟨_, H31, hs32, ?_⟩
 have H31n : H21.next ≤ H31.next := hx33.1
 iterate 2 refine st_op (ev_assign rfl) rfl rfl rfl ?_
 try show aw _ _ _ _ _ _
 refine aw_seq ?_
 refine aw_reg ?_
 refine st_op (ev_move rfl) rfl rfl rfl ?_
 refine st_call rfl rfl rfl ent14 rfl rfl rfl ?_
 have h36 := DiskR.ext hr27 hx33
 have hS37 := disk_CrashR_spec H31 d3 mb25 D24 ([(⟨#[97]⟩, ⟨[120, 121, 122], 0, false⟩)] : Files) ps26 (0 + 1) h36 (by omega) (by simp) 2
 rw [Spec.one_crash (F := ⟨#[97]⟩) (a := [120, 121, 122]) (s := 0) (t := false) (n := 2) (.inl (by decide))] at hS37; try dsimp only at hS37
 obtain ⟨_, H38, hs39, p41, D42, rfl, ⟨mb43, ps44, hr45⟩, hD46, hx40⟩ := hS37
 refine ⟨_, H38, hs39, ?_⟩
 have H38n : H31.next ≤ H38.next := hx40.1
 refine st_call rfl rfl rfl ent16 rfl rfl rfl ?_
 have hS47 := disk_Read_spec H38 p41 D42 ([(⟨#[97]⟩, ⟨(([120, 121, 122]).take (Spec.keepN ⟨[120, 121, 122], 0, false⟩ 2).toNat), (Spec.keepN ⟨[120, 121, 122], 0, false⟩ 2), true⟩)] : Files) 0 ⟨_, _, hr45⟩ (by omega) (⟨#[97]⟩) (by first | omega | decide | assumption)
 rw [Spec.one_read (F := ⟨#[97]⟩) (a := (([120, 121, 122]).take (Spec.keepN ⟨[120, 121, 122], 0, false⟩ 2).toNat)) (s := (Spec.keepN ⟨[120, 121, 122], 0, false⟩ 2)) (t := true)] at hS47; try dsimp only at hS47
 obtain ⟨_, H48, hs49, A51, c52, rfl, hm53, hb54, hl55, hx50⟩ := hS47
 refine ⟨_, H48, hs49, ?_⟩
 have H48n : H38.next ≤ H48.next := hx50.1
 refine st_op (ev_move rfl) rfl rfl rfl ?_
 iterate 2 refine st_op (ev_extract rfl rfl) rfl rfl rfl ?_
 iterate 2 refine st_op (ev_assign rfl) rfl rfl rfl ?_
 try show aw _ _ _ _ _ _
 refine aw_seq ?_
 refine aw_reg ?_
 refine st_op (ev_move rfl) rfl rfl rfl ?_
 refine st_call rfl rfl rfl ent14 rfl rfl rfl ?_
 have hx57 : Ext H31 H48 := (Ext.trans hx40 hx50)
 have h56 := DiskR.ext h36 hx57
 have hS58 := disk_CrashR_spec H48 d3 mb25 D24 ([(⟨#[97]⟩, ⟨[120, 121, 122], 0, false⟩)] : Files) ps26 (0 + 1) h56 (by omega) (by simp) 0
 rw [Spec.one_crash0 (F := ⟨#[97]⟩) (a := [120, 121, 122]) (s := 0) (t := false) (n := 0) (by decide)] at hS58; try dsimp only at hS58
 obtain ⟨_, H59, hs60, p62, D63, rfl, ⟨mb64, ps65, hr66⟩, hD67, hx61⟩ := hS58
 refine ⟨_, H59, hs60, ?_⟩
 have H59n : H48.next ≤ H59.next := hx61.1
 refine st_call rfl rfl rfl ent16 rfl rfl rfl ?_
 have hS68 := disk_Read_spec H59 p62 D63 ([] : Files) 0 ⟨_, _, hr66⟩ (by omega) (⟨#[97]⟩) (by first | omega | decide | assumption)
 rw [Spec.no_read (F := ⟨#[97]⟩)] at hS68; try dsimp only at hS68
 obtain ⟨_, H69, hs70, A72, c73, rfl, hm74, hb75, hl76, hx71⟩ := hS68
 refine ⟨_, H69, hs70, ?_⟩
 have H69n : H59.next ≤ H69.next := hx71.1
 refine st_op (ev_move rfl) rfl rfl rfl ?_
 iterate 2 refine st_op (ev_extract rfl rfl) rfl rfl rfl ?_
 iterate 2 refine st_op (ev_assign rfl) rfl rfl rfl ?_
 try show aw _ _ _ _ _ _
 refine aw_seq ?_
 refine aw_reg ?_
 refine st_op (ev_move rfl) rfl rfl rfl ?_
 refine st_op (ev_int rfl rfl rfl) rfl rfl rfl ?_
 iterate 2 refine st_op (ev_move rfl) rfl rfl rfl ?_
 refine st_op (ev_int rfl rfl rfl) rfl rfl rfl ?_
 refine st_op (ev_pickT rfl rfl) rfl rfl rfl ?_
 refine st_op (ev_move rfl) rfl rfl rfl ?_
 refine st_bool 35 rfl (fun hb77 => ?_) (fun hb77 => ?_)
 ·
  have hb77 := eq_of_beq hb77
  refine st_op (ev_move rfl) rfl rfl rfl ?_
  have hx79 : Ext H48 H69 := (Ext.trans hx61 hx71)
  have h78 := My.ext hm53 hx79
  refine st_op (ev_strOf (l := (([120, 121, 122]).take (Spec.keepN ⟨[120, 121, 122], 0, false⟩ 2).toNat)) (A := A51) (c := c52) slu8_26 isstr_9 rfl (My.anil h78) (My.row h78)) rfl rfl rfl ?_
  refine st_op (ev_str rfl rfl rfl) rfl rfl rfl ?_
  refine st_op (ev_pickT rfl rfl) rfl rfl rfl ?_
  refine st_op (ev_move rfl) rfl rfl rfl ?_
  refine st_bool 40 rfl (fun hb80 => ?_) (fun hb80 => ?_)
  ·
   have hb80 := eq_of_beq hb80
   refine st_op (ev_move rfl) rfl rfl rfl ?_
   refine st_op (ev_int rfl rfl rfl) rfl rfl rfl ?_
   refine st_op (ev_pickT rfl rfl) rfl rfl rfl ?_
   iterate 2 refine st_op (ev_move rfl) rfl rfl rfl ?_
   refine st_op (ev_int rfl rfl rfl) rfl rfl rfl ?_
   refine st_op (ev_pickT rfl rfl) rfl rfl rfl ?_
   iterate 2 refine st_op (ev_move rfl) rfl rfl rfl ?_
   refine st_call rfl rfl rfl ent12 rfl rfl rfl ?_
   have h81 := DiskR.ext h56 hx79
   have hS82 := disk_Sync_spec H69 d3 D24 ([(⟨#[97]⟩, ⟨[120, 121, 122], 0, false⟩)] : Files) (0 + 1) ⟨_, _, h81⟩ (by omega) (⟨#[97]⟩) (by first | omega | decide | assumption)
   rw [Spec.one_sync (F := ⟨#[97]⟩) (a := [120, 121, 122]) (s := 0) (t := false)] at hS82; try dsimp only at hS82
   obtain ⟨_, H83, hs84, rfl, D86, ⟨mb87, ps88, hr89⟩, hb90, hx85⟩ := hS82
   refine ⟨_, H83, hs84, ?_⟩
   have H83n : H69.next ≤ H83.next := hx85.1
   have hD91 := fun q e => (hb90 q e).imp (hD29 q) id
   refine st_op (ev_int rfl rfl rfl) rfl rfl rfl ?_
   refine st_op (ev_pickT rfl rfl) rfl rfl rfl ?_
   iterate 2 refine st_op (ev_move rfl) rfl rfl rfl ?_
   refine st_call rfl rfl rfl ent17 rfl rfl rfl ?_
   have hS92 := disk_Loose_spec H83 d3 D86 ([(⟨#[97]⟩, ⟨[120, 121, 122], (([120, 121, 122]).length : Int), true⟩)] : Files) ((0 + 1) + 1) ⟨_, _, hr89⟩ (by omega) (⟨#[97]⟩) (by first | omega | decide | assumption)
   rw [Spec.one_loose_whole (F := ⟨#[97]⟩) (a := [120, 121, 122]) (t := true)] at hS92; try dsimp only at hS92
   obtain ⟨_, H93, hs94, rfl, hq96, hq97, hx95⟩ := hS92
   refine ⟨_, H93, hs94, ?_⟩
   have H93n : H83.next ≤ H93.next := hx95.1
   refine st_op (ev_int rfl rfl rfl) rfl rfl rfl ?_
   refine st_op (ev_pickT rfl rfl) rfl rfl rfl ?_
   iterate 2 refine st_op (ev_move rfl) rfl rfl rfl ?_
   refine st_call rfl rfl rfl ent31 rfl rfl rfl ?_
   have h98 := DiskR.ext hr89 hx95
   have hS99 := disk_Calls_spec H93 d3 D86 ([(⟨#[97]⟩, ⟨[120, 121, 122], (([120, 121, 122]).length : Int), true⟩)] : Files) ((0 + 1) + 1) ⟨_, _, h98⟩ (by omega)
   obtain ⟨_, H100, hs101, rfl, hq103, hx102⟩ := hS99
   refine ⟨_, H100, hs101, ?_⟩
   have H100n : H93.next ≤ H100.next := hx102.1
   refine st_op (ev_int rfl rfl rfl) rfl rfl rfl ?_
   refine st_op (ev_pickT rfl rfl) rfl rfl rfl ?_
   refine st_op (ev_assign rfl) rfl rfl rfl ?_
   try show aw _ _ _ _ _ _
   refine aw_ret ?_
   have hx105 : Ext H H100 := (Ext.trans (Ext.trans (Ext.then (Ext.trans (Ext.trans (Ext.trans (Ext.trans (Ext.trans (Ext.then (Ext.trans hx7 hx16) hx23 (fun q hq e => by (first | omega | (replace e := hD6 _ e.1; omega)))) hx33) hx40) hx50) hx61) hx71) hx85 (fun q hq e => by (first | omega | (replace e := hD29 _ e.1; omega)))) hx95) hx102)
   exact ⟨.bool (((0 + 1) + 1) == 2), rfl, rfl, hx105⟩
  ·
   exact Bool.noConfusion (hb80.symm.trans (show _ = true from by kernel_rfl))
 ·
  exact Bool.noConfusion (hb77.symm.trans (show _ = true from by kernel_rfl))

end Go.AM
