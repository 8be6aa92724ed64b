/- Part of a machine of its own for this claim: the program's code over memory without draws. -/
import Derived.Test.YtfodghhmglbapaaSAmXMsgB4
set_option linter.unusedVariables false
set_option linter.unusedSimpArgs false
set_option linter.unnecessarySimpa false
set_option linter.unusedVariables false
set_option linter.unusedSimpArgs false
set_option linter.unnecessarySimpa false
namespace Go.AM
open Go Go.Proofs
theorem ent13 : enters Try.prog 13 = true := by kernel_rfl
theorem ent14 : enters Try.prog 14 = true := by kernel_rfl
theorem ent9 : enters Try.prog 9 = true := by kernel_rfl
theorem size5 : sizeIs Try.prog 5 1 = true := by kernel_rfl
theorem zero5 : ZeroIs Try.prog 5 [.int .u8 0] := ⟨.int .u8 0, by kernel_rfl, rfl, rfl, rfl⟩
theorem law_MsgBig_spec (H : Heap) (n : Int) (hn : -9223372036854775808 ≤ n ∧ n ≤ 9223372036854775807) (at_ : Int) (hat_ : -9223372036854775808 ≤ at_ ∧ at_ ≤ 9223372036854775807) (x : Int) (hx : 0 ≤ x ∧ x ≤ 255) : ∃ v H', Spec Try.prog 6 [.int .i64 n, .int .i64 at_, .int .u8 x] H v H' ∧ ((v = .bool true) ∧ (Ext H H')) := by
 refine spec_go3 E0_ok 85 (f := 6) Try.func6 rfl rfl rfl ?_
 refine aw_seq ?_
 refine aw_reg ?_
 refine st_op (ev_assign rfl) rfl rfl rfl ?_
 try show aw _ _ _ _ _ _
 refine aw_seq ?_
 refine aw_reg ?_
 refine st_call rfl rfl rfl ent9 rfl rfl rfl ?_
 obtain ⟨_, H2, hs1, hs1v, hx3⟩ := law25_begun_spec H 
 rw [hs1v] at hs1; clear hs1v
 rw [hx3] at hs1; clear hx3
 refine ⟨_, H, hs1, ?_⟩
 refine st_op (ev_assign rfl) rfl rfl rfl ?_
 try show aw _ _ _ _ _ _
 iterate 2 refine aw_seq ?_
 refine aw_reg ?_
 refine st_op (ev_move rfl) rfl rfl rfl ?_
 refine st_op (ev_not rfl) rfl rfl rfl ?_
 try show aw _ _ _ _ _ _
 refine aw_cond (t := false) rfl ?_
 try show aw _ _ _ _ _ _
 refine aw_skip ?_
 try show aw _ _ _ _ _ _
 iterate 2 refine aw_seq ?_
 refine aw_reg ?_
 refine st_op (ev_move rfl) rfl rfl rfl ?_
 refine st_op (ev_int rfl rfl rfl) rfl rfl rfl ?_
 refine st_op (ev_move rfl) rfl rfl rfl ?_
 refine st_bool 20 rfl (fun hb4 => ?_) (fun hb4 => ?_)
 ·
  have hb4 := of_decide_eq_true hb4
  iterate 2 refine st_skip rfl rfl rfl ?_
  refine st_op (ev_pickT rfl rfl) rfl rfl rfl ?_
  refine st_op (ev_move rfl) rfl rfl rfl ?_
  iterate 2 refine st_skip rfl rfl rfl ?_
  refine st_op (ev_pickT rfl rfl) rfl rfl rfl ?_
  try show aw _ _ _ _ _ _
  refine aw_cond (t := true) rfl ?_
  try show aw _ _ _ _ _ _
  refine aw_seq ?_
  refine aw_reg ?_
  refine st_op (ev_assign rfl) rfl rfl rfl ?_
  try show aw _ _ _ _ _ _
  refine aw_ret ?_
  have hres : true = true := by rfl
  exact ⟨.bool true, rfl, by first | (rw [hres]; done) | rw [← hres], (Ext.refl H)⟩
 ·
  have hb4 := of_decide_eq_false hb4
  refine st_op (ev_move rfl) rfl rfl rfl ?_
  refine st_op (ev_int rfl rfl rfl) rfl rfl rfl ?_
  refine st_op (ev_pickF rfl rfl) rfl rfl rfl ?_
  refine st_op (ev_move rfl) rfl rfl rfl ?_
  refine st_bool 24 rfl (fun hb5 => ?_) (fun hb5 => ?_)
  ·
   have hb5 := of_decide_eq_true hb5
   iterate 2 refine st_skip rfl rfl rfl ?_
   refine st_op (ev_pickT rfl rfl) rfl rfl rfl ?_
   try show aw _ _ _ _ _ _
   refine aw_cond (t := true) rfl ?_
   try show aw _ _ _ _ _ _
   refine aw_seq ?_
   refine aw_reg ?_
   refine st_op (ev_assign rfl) rfl rfl rfl ?_
   try show aw _ _ _ _ _ _
   refine aw_ret ?_
   have hres : true = true := by rfl
   exact ⟨.bool true, rfl, by first | (rw [hres]; done) | rw [← hres], (Ext.refl H)⟩
  ·
   have hb5 := of_decide_eq_false hb5
   refine st_op (ev_move rfl) rfl rfl rfl ?_
   refine st_op (ev_int rfl rfl rfl) rfl rfl rfl ?_
   refine st_op (ev_pickF rfl rfl) rfl rfl rfl ?_
   try show aw _ _ _ _ _ _
   by_cases hc6 : (decide (at_ < 0)) = true
   ·
    refine aw_condT hc6 rfl ?_
    try show aw _ _ _ _ _ _
    have hc6 := of_decide_eq_true hc6
    refine aw_seq ?_
    refine aw_reg ?_
    refine st_op (ev_assign rfl) rfl rfl rfl ?_
    try show aw _ _ _ _ _ _
    refine aw_ret ?_
    have hres : true = true := by rfl
    exact ⟨.bool true, rfl, by first | (rw [hres]; done) | rw [← hres], (Ext.refl H)⟩
   ·
    rw [Bool.not_eq_true] at hc6; refine aw_condF hc6 rfl ?_
    try show aw _ _ _ _ _ _
    have hc6 := of_decide_eq_false hc6
    refine aw_skip ?_
    try show aw _ _ _ _ _ _
    refine aw_seq ?_
    refine aw_reg ?_
    refine st_op (ev_move rfl) rfl rfl rfl ?_
    obtain ⟨A7, H8, he9, hm10, hx11⟩ := mem_make1 (k1 := .i64) (k2 := .i64) (n := n) (f := u8c) (e0 := (0 : Int)) H eok29 zero5 rfl (by omega) (by omega) (by omega)
    refine st_op (he9 _ _ _ _ _ _ _ _ _ rfl rfl) rfl rfl rfl ?_
    have H8n : H.next ≤ H8.next := hx11.1
    refine st_op (ev_assign rfl) rfl rfl rfl ?_
    try show aw _ _ _ _ _ _
    iterate 2 refine aw_seq ?_
    refine aw_reg ?_
    refine st_op (ev_assign rfl) rfl rfl rfl ?_
    try show aw _ _ _ _ _ _
    refine aw_block ?_
    have hrl : (List.replicate (n).toNat (0 : Int)).length = n.toNat := by simp
    refine aw_keep [0, 1, 2, 8, 9] (l' := (.cons 0 (.int .i64 n) (.cons 1 (.int .i64 at_) (.cons 2 (.int .u8 x) (.cons 8 (.slice A7 ((List.replicate (n).toNat (0 : Int)).length) ((n).toNat)) (.cons 9 (.int .i64 0) .nil)))))) (by repeat (first | exact Up.done | refine Up.then ?_ | refine Up.inBlock ?_)) rfl ?_
    refine aw_iter (α := Int × List Int × Heap) (fun a => (200200 - a.1).toNat) (fun a => (.cons 0 (.int .i64 n) (.cons 1 (.int .i64 at_) (.cons 2 (.int .u8 x) (.cons 8 (.slice A7 ((List.replicate (n).toNat (0 : Int)).length) ((n).toNat)) (.cons 9 (.int .i64 a.1) .nil)))))) (fun a => a.2.2) (fun a => (a.2.1.length = (List.replicate (n).toNat (0 : Int)).length) ∧ (Spec.Bytes a.2.1) ∧ (0 ≤ a.1 ∧ a.1 ≤ 200200) ∧ (My H a.2.2 A7 (n).toNat 1 (a.2.1.map u8c)) ∧ (Fr (fun q => (H.next ≤ q ∧ q < H8.next ∧ ZB H8 q 1)) H8 a.2.2)) ((0 : Int), (List.replicate (n).toNat (0 : Int)), H8) ⟨(show (List.replicate (n).toNat (0 : Int)).length = (List.replicate (n).toNat (0 : Int)).length from rfl), (show Spec.Bytes (List.replicate (n).toNat (0 : Int)) from (fun x hx => by rw [List.eq_of_mem_replicate hx]; omega)), (show 0 ≤ (0 : Int) ∧ (0 : Int) ≤ 200200 from ⟨by omega, by omega⟩), (show My H H8 A7 (n).toNat 1 ((List.replicate (n).toNat (0 : Int)).map u8c) from hm10), (show Fr (fun q => (H.next ≤ q ∧ q < H8.next ∧ ZB H8 q 1)) H8 H8 from (Fr.refl _ H8))⟩ ?_
    rintro ⟨i, bl, Hl12⟩ ⟨hbl, hby, hn13, hm14, hxl15⟩ ih16
    replace hbl : bl.length = (List.replicate (n).toNat (0 : Int)).length := hbl
    replace hby : Spec.Bytes bl := hby
    replace hn13 : 0 ≤ i ∧ i ≤ 200200 := hn13
    replace hm14 : My H Hl12 A7 (n).toNat 1 (bl.map u8c) := hm14
    replace hxl15 : Fr (fun q => (H.next ≤ q ∧ q < H8.next ∧ ZB H8 q 1)) H8 Hl12 := hxl15
    show aw _ _ _ (RL _ (.cons 0 (.int .i64 n) (.cons 1 (.int .i64 at_) (.cons 2 (.int .u8 x) (.cons 8 (.slice A7 ((List.replicate (n).toNat (0 : Int)).length) ((n).toNat)) (.cons 9 (.int .i64 i) .nil)))))) Hl12 _
    have Hl12n : H8.next ≤ Hl12.next := hxl15.1
    iterate 2 refine aw_seq ?_
    refine aw_reg ?_
    iterate 2 refine st_op (ev_move rfl) rfl rfl rfl ?_
    refine st_op (ev_int rfl rfl rfl) rfl rfl rfl ?_
    try show aw _ _ _ _ _ _
    by_cases hc17 : (decide (i < n)) = true
    ·
     refine aw_condT hc17 rfl ?_
     try show aw _ _ _ _ _ _
     have hc17 := of_decide_eq_true hc17
     refine aw_skip ?_
     try show aw _ _ _ _ _ _
     refine aw_seq ?_
     refine aw_block ?_
     refine aw_reg ?_
     iterate 3 refine st_op (ev_move rfl) rfl rfl rfl ?_
     have hw18 : 0 ≤ (IntKind.u8.wrap i) ∧ (IntKind.u8.wrap i) ≤ 255 := wrapU8 _
     refine st_op (ev_convInt Try.underlying3 Try.underlying5 rfl) rfl rfl rfl ?_
     have hi19 : 0 ≤ (i : Int) := by omega
     have hi20 : (i : Int) < (((List.replicate (n).toNat (0 : Int)).length : Nat) : Int) := by first | omega | (simp only [List.length_append, List.length_cons, List.length_nil, List.length_map, List.length_set, List.length_replicate, Spec.bytesOf_length]; omega) | (simp; omega)
     obtain ⟨x21, hx22⟩ : ∃ e, bl[(i).toNat]? = some e := ⟨_, List.getElem?_eq_getElem (by first | omega | (simp only [List.length_append, List.length_cons, List.length_nil, List.length_map, List.length_set, List.length_replicate, Spec.bytesOf_length]; omega) | (simp; omega))⟩
     have x21b : 0 ≤ x21 ∧ x21 < 256 := ((by assumption) : Spec.Bytes bl) _ (List.mem_of_getElem? hx22)
     refine st_op (ev_at rfl rfl (My.row hm14) (getMap u8c hx22) (by first | rfl | omega | simp) hi19 hi20 el29) rfl rfl rfl ?_
     obtain ⟨H23, W24, he25, hm26, hf27, H23n_⟩ := mem_storeAt (v := .int .u8 (IntKind.u8.wrap i)) size5 rfl rfl hm14 hm14 (getMap u8c hx22) (show 0 < 1 by decide)
     rw [show (u8c x21).set 0 (.int .u8 (IntKind.u8.wrap i)) = u8c (IntKind.u8.wrap i) from rfl, ← List.map_set] at hm26
     refine st_op0 (he25 _ _ _ _ _ _ _ _ _ rfl rfl) rfl rfl ?_
     have H23n : Hl12.next ≤ H23.next := hf27.1
     try show aw _ _ _ _ _ _
     refine aw_reg ?_
     refine st_op (ev_move rfl) rfl rfl rfl ?_
     refine st_op (ev_int64 (c := i + 101) rfl rfl rfl (by omega) (by omega)) rfl rfl rfl ?_
     refine st_op (ev_assign rfl) rfl rfl rfl ?_
     try show aw _ _ _ _ _ _
     refine aw_keep [0, 1, 2, 8, 9] (l' := (.cons 0 (.int .i64 n) (.cons 1 (.int .i64 at_) (.cons 2 (.int .u8 x) (.cons 8 (.slice A7 ((List.replicate (n).toNat (0 : Int)).length) ((n).toNat)) (.cons 9 (.int .i64 (i + 101)) .nil)))))) (by repeat (first | exact Up.done | refine Up.then ?_ | refine Up.inBlock ?_)) rfl ?_
     exact ih16 (i + 101, (bl.set ((i).toNat) (IntKind.u8.wrap i)), H23) ⟨(show (bl.set ((i).toNat) (IntKind.u8.wrap i)).length = (List.replicate (n).toNat (0 : Int)).length from (by rw [List.length_set]; exact hbl)), (show Spec.Bytes (bl.set ((i).toNat) (IntKind.u8.wrap i)) from (Spec.Bytes.set (by assumption) (by omega))), (show 0 ≤ (i + 101) ∧ (i + 101) ≤ 200200 from ⟨by omega, by omega⟩), (show My H H23 A7 (n).toNat 1 ((bl.set ((i).toNat) (IntKind.u8.wrap i)).map u8c) from hm26), (show Fr (fun q => (H.next ≤ q ∧ q < H8.next ∧ ZB H8 q 1)) H8 H23 from (Fr.transG (Fr.transG (Fr.refl (fun q => (H.next ≤ q ∧ q < H8.next ∧ ZB H8 q 1)) H8) hxl15 (fun q hq hE e => (⟨by omega, by omega, ZB.back hE e.2.2⟩))) hf27 (fun q hq hE e => (⟨by omega, by omega, ZB.back hE e.2.2⟩))))⟩ (by simp only; omega)
    ·
     rw [Bool.not_eq_true] at hc17; refine aw_condF hc17 rfl ?_
     try show aw _ _ _ _ _ _
     have hc17 := of_decide_eq_false hc17
     refine aw_exit ?_
     try show aw _ _ _ _ _ _
     refine aw_seq ?_
     refine aw_reg ?_
     refine st_op (ev_move rfl) rfl rfl rfl ?_
     refine st_op (ev_strOf (l := bl) (A := A7) (c := (n).toNat) slu8_29 isstr_9 (by show some (Value.slice A7 ((List.replicate (n).toNat (0 : Int)).length) ((n).toNat)) = some (Value.slice _ bl.length _); first | rfl | (congr 2; simp; done) | (congr 2; omega)) (My.anil hm14) (My.row hm14)) rfl rfl rfl ?_
     have hz28 := strOfNums_size bl
     refine st_op (ev_build zero24 pl24 (parts := [(0, .int .i64 5), (1, .int .i64 2), (2, .string (⟨#[49, 50]⟩)), (3, .string (strOfNums bl))]) rfl (cs := [.int .i64 5, .int .i64 2, .string (⟨#[49, 50]⟩), .string (strOfNums bl)]) rfl) rfl rfl rfl ?_
     refine st_op (ev_build zero26 pl26 (parts := [(0, .int .i64 5), (1, .int .i64 1), (2, .int .i64 2), (3, .int .i64 3), (9, .agg #[.int .i64 5, .int .i64 2, .string (⟨#[49, 50]⟩), .string (strOfNums bl)])]) rfl (cs := [.int .i64 5, .int .i64 1, .int .i64 2, .int .i64 3, .int .i64 0, .int .i64 0, .int .i64 0, .bool false, .slice none 0 0, .int .i64 5, .int .i64 2, .string (⟨#[49, 50]⟩), .string (strOfNums bl)]) rfl) rfl rfl rfl ?_
     obtain ⟨b29, H30, he31, b29e, H30n_, hB33, f32⟩ := mem_alloc Hl12 zero26
     refine st_op (he31 _ _ _ _ _ _ _) rfl rfl rfl ?_
     have hx34 : Ext Hl12 H30 := Ext.new (by omega) H30n_ f32
     have H30n : Hl12.next ≤ H30.next := hx34.1
     obtain ⟨H35, he36, H35n_, hB37, f38⟩ := mem_store (v := .agg #[.int .i64 5, .int .i64 1, .int .i64 2, .int .i64 3, .int .i64 0, .int .i64 0, .int .i64 0, .bool false, .slice none 0 0, .int .i64 5, .int .i64 2, .string (⟨#[49, 50]⟩), .string (strOfNums bl)]) (o := 0) (cs' := [.int .i64 5, .int .i64 1, .int .i64 2, .int .i64 3, .int .i64 0, .int .i64 0, .int .i64 0, .bool false, .slice none 0 0, .int .i64 5, .int .i64 2, .string (⟨#[49, 50]⟩), .string (strOfNums bl)]) 13 rfl rfl size26 hB33 rfl rfl rfl
     refine st_op0 (he36 _ _ _ _ _ _ _ _ _ rfl rfl) rfl rfl ?_
     have hf39 : Fr (fun q => q = b29) H30 H35 := Fr.write H35n_ f38
     have H35n : H30.next ≤ H35.next := hf39.1
     try show aw _ _ _ _ _ _
     refine aw_seq ?_
     refine aw_reg ?_
     refine st_op (ev_load rfl (lvar_part (l := [.int .i64 5, .int .i64 1, .int .i64 2, .int .i64 3, .int .i64 0, .int .i64 0, .int .i64 0, .bool false, .slice none 0 0, .int .i64 5, .int .i64 2, .string (⟨#[49, 50]⟩), .string (strOfNums bl)]) many26 hB37 rfl rfl (by decide))) rfl rfl rfl ?_
     refine st_call rfl rfl rfl ent11 rfl rfl rfl ?_
     obtain ⟨_, H41, hs40, A43, c44, hs40v, hm45, hq46, hq47, hq48, hx42⟩ := msg_Encode_spec H35 (5 : Int) (1 : Int) (2 : Int) (3 : Int) (0 : Int) (0 : Int) (0 : Int) false none ([] : List Entry) 0 Row.nil (Nat.le_refl 0) (by first | omega | (simp only [List.length_append, List.length_cons, List.length_nil, List.length_map, List.length_set, List.length_replicate, Spec.bytesOf_length]; omega) | (simp; omega)) (5 : Int) (2 : Int) (⟨#[49, 50]⟩ : ByteArray) (by decide) (strOfNums bl) (by first | omega | (simp only [List.length_append, List.length_cons, List.length_nil, List.length_map, List.length_set, List.length_replicate, Spec.bytesOf_length]; omega) | (simp; omega))
     rw [hs40v] at hs40; clear hs40v
     refine ⟨_, H41, hs40, ?_⟩
     have H41n : H35.next ≤ H41.next := hx42.1
     refine st_op (ev_assign rfl) rfl rfl rfl ?_
     try show aw _ _ _ _ _ _
     refine aw_seq ?_
     refine aw_reg ?_
     refine st_op (ev_move rfl) rfl rfl rfl ?_
     refine st_call rfl rfl rfl ent13 rfl rfl rfl ?_
     obtain ⟨_, H50, hs49, A52, c53, hs49v, hm54, hq55, hq56, hq57, hq58, hx51⟩ := msg_Decode_spec H41 A43 (Spec.encM (⟨(5 : Int), (1 : Int), (2 : Int), (3 : Int), (0 : Int), (0 : Int), (0 : Int), false, ([] : List Entry), ⟨(5 : Int), (2 : Int), (⟨#[49, 50]⟩ : ByteArray), (strOfNums bl)⟩⟩ : Msg)) c44 (My.row hm45) (My.capF hm45 (by first | omega | (simp only [List.length_append, List.length_cons, List.length_nil, List.length_map, List.length_set, List.length_replicate, Spec.bytesOf_length]; omega) | (simp; omega))) (by first | omega | (simp only [List.length_append, List.length_cons, List.length_nil, List.length_map, List.length_set, List.length_replicate, Spec.bytesOf_length]; omega) | (simp; omega)) (My.anil hm45) (Spec.encM_bytes _)
     rw [hs49v] at hs49; clear hs49v
     generalize hR60 : (Spec.decM (Spec.encM (⟨(5 : Int), (1 : Int), (2 : Int), (3 : Int), (0 : Int), (0 : Int), (0 : Int), false, ([] : List Entry), ⟨(5 : Int), (2 : Int), (⟨#[49, 50]⟩ : ByteArray), (strOfNums bl)⟩⟩ : Msg))) = r59 at hs49 hm54 hq55 hq56 hq57 hq58
     obtain ⟨z61, z62, z63, z64, z65, z66, z67, z68, z69, z70, z71, z72, z73, z74⟩ := r59
     dsimp only at hs49 hm54 hq55 hq56 hq57 hq58
     refine ⟨_, H50, hs49, ?_⟩
     have H50n : H41.next ≤ H50.next := hx51.1
     refine st_op (ev_move rfl) rfl rfl rfl ?_
     iterate 2 refine st_op (ev_extract rfl rfl) rfl rfl rfl ?_
     obtain ⟨b75, H76, he77, b75e, H76n_, hB79, f78⟩ := mem_alloc H50 zero26
     refine st_op (he77 _ _ _ _ _ _ _) rfl rfl rfl ?_
     have hx80 : Ext H50 H76 := Ext.new (by omega) H76n_ f78
     have H76n : H50.next ≤ H76.next := hx80.1
     obtain ⟨H81, he82, H81n_, hB83, f84⟩ := mem_store (v := .agg #[.int .i64 z61, .int .i64 z62, .int .i64 z63, .int .i64 z64, .int .i64 z65, .int .i64 z66, .int .i64 z67, .bool z68, .slice A52 z69.length c53, .int .i64 z70, .int .i64 z71, .string z72, .string z73]) (o := 0) (cs' := [.int .i64 z61, .int .i64 z62, .int .i64 z63, .int .i64 z64, .int .i64 z65, .int .i64 z66, .int .i64 z67, .bool z68, .slice A52 z69.length c53, .int .i64 z70, .int .i64 z71, .string z72, .string z73]) 13 rfl rfl size26 hB79 rfl rfl rfl
     refine st_op0 (he82 _ _ _ _ _ _ _ _ _ rfl rfl) rfl rfl ?_
     have hf85 : Fr (fun q => q = b75) H76 H81 := Fr.write H81n_ f84
     have H81n : H76.next ≤ H81.next := hf85.1
     refine st_op (ev_assign rfl) rfl rfl rfl ?_
     try show aw _ _ _ _ _ _
     iterate 2 refine aw_seq ?_
     refine aw_reg ?_
     refine st_op (ev_move rfl) rfl rfl rfl ?_
     refine st_op (ev_lenSl rfl Try.underlying29) rfl rfl rfl ?_
     refine st_op (ev_int rfl rfl rfl) rfl rfl rfl ?_
     refine st_op (ev_move rfl) rfl rfl rfl ?_
     refine st_bool 54 rfl (fun hb86 => ?_) (fun hb86 => ?_)
     ·
      have hb86 := eq_of_beq hb86
      iterate 2 refine st_skip rfl rfl rfl ?_
      refine st_op (ev_pickT rfl rfl) rfl rfl rfl ?_
      refine st_op (ev_move rfl) rfl rfl rfl ?_
      iterate 4 refine st_skip rfl rfl rfl ?_
      refine st_op (ev_pickT rfl rfl) rfl rfl rfl ?_
      try show aw _ _ _ _ _ _
      refine aw_cond (t := true) rfl ?_
      try show aw _ _ _ _ _ _
      refine aw_seq ?_
      refine aw_reg ?_
      refine st_op (ev_assign rfl) rfl rfl rfl ?_
      try show aw _ _ _ _ _ _
      refine aw_ret ?_
      have hx87 : Ext H H81 := (Ext.then (Ext.trans (Ext.trans (Ext.trans (Ext.then (Ext.trans (Ext.then hx11 hxl15 (fun q hq e => by omega)) hx34) hf39 (fun q hq e => by omega)) hx42) hx51) hx80) hf85 (fun q hq e => by omega))
      have hres : true = false := by have q := Spec.back_same (show Spec.mayM (⟨(5 : Int), (1 : Int), (2 : Int), (3 : Int), (0 : Int), (0 : Int), (0 : Int), false, ([] : List Entry), ⟨(5 : Int), (2 : Int), (⟨#[49, 50]⟩ : ByteArray), (strOfNums bl)⟩⟩ : Msg) = true from Spec.may_big (by rw [strOfNums_size]; omega)) hR60; have q0 := Spec.encM_pos (show Spec.mayM (⟨(5 : Int), (1 : Int), (2 : Int), (3 : Int), (0 : Int), (0 : Int), (0 : Int), false, ([] : List Entry), ⟨(5 : Int), (2 : Int), (⟨#[49, 50]⟩ : ByteArray), (strOfNums bl)⟩⟩ : Msg) = true from Spec.may_big (by rw [strOfNums_size]; omega)); first | (exfalso; omega)
      exact ⟨.bool false, rfl, by first | (rw [hres]; done) | rw [← hres], hx87⟩
     ·
      have hb86 := ne_of_beq_false hb86
      refine st_op (ev_move rfl) rfl rfl rfl ?_
      refine st_op (ev_int rfl rfl rfl) rfl rfl rfl ?_
      refine st_op (ev_pickF rfl rfl) rfl rfl rfl ?_
      refine st_op (ev_move rfl) rfl rfl rfl ?_
      refine st_bool 58 rfl (fun hb88 => ?_) (fun hb88 => ?_)
      ·
       have hb88 : ¬ (z74 = 0) := by simpa using hb88
       iterate 4 refine st_skip rfl rfl rfl ?_
       refine st_op (ev_pickT rfl rfl) rfl rfl rfl ?_
       try show aw _ _ _ _ _ _
       refine aw_cond (t := true) rfl ?_
       try show aw _ _ _ _ _ _
       refine aw_seq ?_
       refine aw_reg ?_
       refine st_op (ev_assign rfl) rfl rfl rfl ?_
       try show aw _ _ _ _ _ _
       refine aw_ret ?_
       have hx89 : Ext H H81 := (Ext.then (Ext.trans (Ext.trans (Ext.trans (Ext.then (Ext.trans (Ext.then hx11 hxl15 (fun q hq e => by omega)) hx34) hf39 (fun q hq e => by omega)) hx42) hx51) hx80) hf85 (fun q hq e => by omega))
       have hres : true = false := by have q := Spec.back_same (show Spec.mayM (⟨(5 : Int), (1 : Int), (2 : Int), (3 : Int), (0 : Int), (0 : Int), (0 : Int), false, ([] : List Entry), ⟨(5 : Int), (2 : Int), (⟨#[49, 50]⟩ : ByteArray), (strOfNums bl)⟩⟩ : Msg) = true from Spec.may_big (by rw [strOfNums_size]; omega)) hR60; have q0 := Spec.encM_pos (show Spec.mayM (⟨(5 : Int), (1 : Int), (2 : Int), (3 : Int), (0 : Int), (0 : Int), (0 : Int), false, ([] : List Entry), ⟨(5 : Int), (2 : Int), (⟨#[49, 50]⟩ : ByteArray), (strOfNums bl)⟩⟩ : Msg) = true from Spec.may_big (by rw [strOfNums_size]; omega)); first | (exfalso; omega)
       exact ⟨.bool false, rfl, by first | (rw [hres]; done) | rw [← hres], hx89⟩
      ·
       have hb88 : (z74 = 0) := by simpa using hb88
       have hx91 : Ext H35 H81 := (Ext.then (Ext.trans (Ext.trans hx42 hx51) hx80) hf85 (fun q hq e => by omega))
       have h90 := Ext.blk hx91 (by omega) hB37
       refine st_op (ev_load rfl (lvar_part (l := [.int .i64 5, .int .i64 1, .int .i64 2, .int .i64 3, .int .i64 0, .int .i64 0, .int .i64 0, .bool false, .slice none 0 0, .int .i64 5, .int .i64 2, .string (⟨#[49, 50]⟩), .string (strOfNums bl)]) many26 h90 rfl rfl (by decide))) rfl rfl rfl ?_
       refine st_op (ev_load rfl (lvar_part (l := [.int .i64 z61, .int .i64 z62, .int .i64 z63, .int .i64 z64, .int .i64 z65, .int .i64 z66, .int .i64 z67, .bool z68, .slice A52 z69.length c53, .int .i64 z70, .int .i64 z71, .string z72, .string z73]) many26 hB83 rfl rfl (by decide))) rfl rfl rfl ?_
       refine st_call rfl rfl rfl ent14 rfl rfl rfl ?_
       have hx93 : Ext H50 H81 := (Ext.then hx80 hf85 (fun q hq e => by omega))
       have h92 := My.ext hm54 hx93
       obtain ⟨_, H95, hs94, hs94v, hx96⟩ := law24_EqMsg_spec H81 (5 : Int) (1 : Int) (2 : Int) (3 : Int) (0 : Int) (0 : Int) (0 : Int) false none ([] : List Entry) 0 Row.nil (Nat.le_refl 0) (by first | omega | (simp only [List.length_append, List.length_cons, List.length_nil, List.length_map, List.length_set, List.length_replicate, Spec.bytesOf_length]; omega) | (simp; omega)) (5 : Int) (2 : Int) (⟨#[49, 50]⟩ : ByteArray) (strOfNums bl) z61 z62 z63 z64 z65 z66 z67 z68 A52 z69 c53 (My.row h92) (My.capF h92 (by first | omega | (simp only [List.length_append, List.length_cons, List.length_nil, List.length_map, List.length_set, List.length_replicate, Spec.bytesOf_length]; omega) | (simp; omega))) (by first | omega | (simp only [List.length_append, List.length_cons, List.length_nil, List.length_map, List.length_set, List.length_replicate, Spec.bytesOf_length]; omega) | (simp; omega)) z70 z71 z72 z73
       rw [hs94v] at hs94; clear hs94v
       refine ⟨_, H95, hs94, ?_⟩
       have H95n : H81.next ≤ H95.next := hx96.1
       refine st_op (ev_not rfl) rfl rfl rfl ?_
       refine st_op (ev_pickF rfl rfl) rfl rfl rfl ?_
       try show aw _ _ _ _ _ _
       by_cases hc97 : (!(decide ((5 : Int) = z61 ∧ (1 : Int) = z62 ∧ (2 : Int) = z63 ∧ (3 : Int) = z64 ∧ (0 : Int) = z65 ∧ (0 : Int) = z66 ∧ (0 : Int) = z67 ∧ false = z68 ∧ Spec.eqEs ([] : List Entry) z69 = true ∧ Spec.eqSn (5 : Int) (2 : Int) (⟨#[49, 50]⟩ : ByteArray) (strOfNums bl) z70 z71 z72 z73 = true))) = true
       ·
        refine aw_condT hc97 rfl ?_
        try show aw _ _ _ _ _ _
        replace hc97 : (decide ((5 : Int) = z61 ∧ (1 : Int) = z62 ∧ (2 : Int) = z63 ∧ (3 : Int) = z64 ∧ (0 : Int) = z65 ∧ (0 : Int) = z66 ∧ (0 : Int) = z67 ∧ false = z68 ∧ Spec.eqEs ([] : List Entry) z69 = true ∧ Spec.eqSn (5 : Int) (2 : Int) (⟨#[49, 50]⟩ : ByteArray) (strOfNums bl) z70 z71 z72 z73 = true)) = false := by rw [Bool.not_eq_true'] at hc97; exact hc97
        have hc97 := of_decide_eq_false hc97
        refine aw_seq ?_
        refine aw_reg ?_
        refine st_op (ev_assign rfl) rfl rfl rfl ?_
        try show aw _ _ _ _ _ _
        refine aw_ret ?_
        have hx98 : Ext H H95 := (Ext.trans (Ext.then (Ext.trans (Ext.trans (Ext.trans (Ext.then (Ext.trans (Ext.then hx11 hxl15 (fun q hq e => by omega)) hx34) hf39 (fun q hq e => by omega)) hx42) hx51) hx80) hf85 (fun q hq e => by omega)) hx96)
        have hres : true = false := by have q := Spec.back_same (show Spec.mayM (⟨(5 : Int), (1 : Int), (2 : Int), (3 : Int), (0 : Int), (0 : Int), (0 : Int), false, ([] : List Entry), ⟨(5 : Int), (2 : Int), (⟨#[49, 50]⟩ : ByteArray), (strOfNums bl)⟩⟩ : Msg) = true from Spec.may_big (by rw [strOfNums_size]; omega)) hR60; have q0 := Spec.encM_pos (show Spec.mayM (⟨(5 : Int), (1 : Int), (2 : Int), (3 : Int), (0 : Int), (0 : Int), (0 : Int), false, ([] : List Entry), ⟨(5 : Int), (2 : Int), (⟨#[49, 50]⟩ : ByteArray), (strOfNums bl)⟩⟩ : Msg) = true from Spec.may_big (by rw [strOfNums_size]; omega)); first | (exfalso; omega) | (exfalso; obtain ⟨_, rfl, rfl, rfl, rfl, rfl, rfl, rfl, rfl, rfl, rfl, rfl, rfl, rfl⟩ := q; exact hc97 ⟨rfl, rfl, rfl, rfl, rfl, rfl, rfl, rfl, Spec.eqEs_self _, Spec.eqSn_iff.2 ⟨rfl, rfl, rfl, rfl⟩⟩)
        exact ⟨.bool false, rfl, by first | (rw [hres]; done) | rw [← hres], hx98⟩
       ·
        rw [Bool.not_eq_true] at hc97; refine aw_condF hc97 rfl ?_
        try show aw _ _ _ _ _ _
        replace hc97 : (decide ((5 : Int) = z61 ∧ (1 : Int) = z62 ∧ (2 : Int) = z63 ∧ (3 : Int) = z64 ∧ (0 : Int) = z65 ∧ (0 : Int) = z66 ∧ (0 : Int) = z67 ∧ false = z68 ∧ Spec.eqEs ([] : List Entry) z69 = true ∧ Spec.eqSn (5 : Int) (2 : Int) (⟨#[49, 50]⟩ : ByteArray) (strOfNums bl) z70 z71 z72 z73 = true)) = true := by rw [Bool.not_eq_false'] at hc97; exact hc97
        have hc97 := of_decide_eq_true hc97
        refine aw_skip ?_
        try show aw _ _ _ _ _ _
        iterate 2 refine aw_seq ?_
        refine aw_reg ?_
        refine st_op (ev_move rfl) rfl rfl rfl ?_
        refine st_op (ev_int rfl rfl rfl) rfl rfl rfl ?_
        try show aw _ _ _ _ _ _
        by_cases hc99 : (x == 0) = true
        ·
         refine aw_condT hc99 rfl ?_
         try show aw _ _ _ _ _ _
         have hc99 := eq_of_beq hc99
         refine aw_seq ?_
         refine aw_reg ?_
         refine st_op (ev_assign rfl) rfl rfl rfl ?_
         try show aw _ _ _ _ _ _
         refine aw_ret ?_
         have hx100 : Ext H H95 := (Ext.trans (Ext.then (Ext.trans (Ext.trans (Ext.trans (Ext.then (Ext.trans (Ext.then hx11 hxl15 (fun q hq e => by omega)) hx34) hf39 (fun q hq e => by omega)) hx42) hx51) hx80) hf85 (fun q hq e => by omega)) hx96)
         have hres : true = true := by rfl
         exact ⟨.bool true, rfl, by first | (rw [hres]; done) | rw [← hres], hx100⟩
        ·
         rw [Bool.not_eq_true] at hc99; refine aw_condF hc99 rfl ?_
         try show aw _ _ _ _ _ _
         have hc99 := ne_of_beq_false hc99
         refine aw_skip ?_
         try show aw _ _ _ _ _ _
         refine aw_seq ?_
         refine aw_reg ?_
         refine st_op (ev_move rfl) rfl rfl rfl ?_
         have hm101 : My H95 H95 none 0 1 (([] : List Int).map u8c) := .nil
         have hx103 : Ext H41 H95 := (Ext.trans (Ext.then (Ext.trans hx51 hx80) hf85 (fun q hq e => by omega)) hx96)
         have h102 := My.ext hm45 hx103
         obtain ⟨A104, c105, H106, W107, he108, hm109, hf110⟩ := mem_append (f := u8c) (old := ([] : List Int)) (new := (Spec.encM (⟨(5 : Int), (1 : Int), (2 : Int), (3 : Int), (0 : Int), (0 : Int), (0 : Int), false, ([] : List Entry), ⟨(5 : Int), (2 : Int), (⟨#[49, 50]⟩ : ByteArray), (strOfNums bl)⟩⟩ : Msg))) (m := 0) (mx := (Spec.encM (⟨(5 : Int), (1 : Int), (2 : Int), (3 : Int), (0 : Int), (0 : Int), (0 : Int), false, ([] : List Entry), ⟨(5 : Int), (2 : Int), (⟨#[49, 50]⟩ : ByteArray), (strOfNums bl)⟩⟩ : Msg)).length) (c := 0) (by first | rfl | simp) (by first | rfl | simp) eok29 (by decide) hm101 hm101 (by omega) (((My.row h102)).srcF (by decide) (by first | rfl | simp)) rfl u8c_len u8c_one (by first | omega | (simp only [List.length_append, List.length_cons, List.length_nil, List.length_map, List.length_set, List.length_replicate, Spec.bytesOf_length]; omega) | (simp; omega)) (by first | omega | (simp only [List.length_append, List.length_cons, List.length_nil, List.length_map, List.length_set, List.length_replicate, Spec.bytesOf_length]; omega) | (simp; omega))
         refine st_op (he108 _ _ _ _ _ _ _ _ _ _ rfl rfl isrow29) rfl rfl rfl ?_
         have H106n : H95.next ≤ H106.next := hf110.1
         rw [List.nil_append] at hm109
         refine st_op (ev_assign rfl) rfl rfl rfl ?_
         try show aw _ _ _ _ _ _
         refine aw_seq ?_
         refine aw_reg ?_
         iterate 3 refine st_op (ev_move rfl) rfl rfl rfl ?_
         refine st_op (ev_lenSl rfl Try.underlying29) rfl rfl rfl ?_
         have ht111 : 0 ≤ Int.tmod at_ ((Spec.encM (⟨(5 : Int), (1 : Int), (2 : Int), (3 : Int), (0 : Int), (0 : Int), (0 : Int), false, ([] : List Entry), ⟨(5 : Int), (2 : Int), (⟨#[49, 50]⟩ : ByteArray), (strOfNums bl)⟩⟩ : Msg)).length : Int) ∧ Int.tmod at_ ((Spec.encM (⟨(5 : Int), (1 : Int), (2 : Int), (3 : Int), (0 : Int), (0 : Int), (0 : Int), false, ([] : List Entry), ⟨(5 : Int), (2 : Int), (⟨#[49, 50]⟩ : ByteArray), (strOfNums bl)⟩⟩ : Msg)).length : Int) < ((Spec.encM (⟨(5 : Int), (1 : Int), (2 : Int), (3 : Int), (0 : Int), (0 : Int), (0 : Int), false, ([] : List Entry), ⟨(5 : Int), (2 : Int), (⟨#[49, 50]⟩ : ByteArray), (strOfNums bl)⟩⟩ : Msg)).length : Int) := ⟨Int.tmod_nonneg _ (by omega), Int.tmod_lt_of_pos _ (by omega)⟩
         refine st_op (ev_rem (b := ((Spec.encM (⟨(5 : Int), (1 : Int), (2 : Int), (3 : Int), (0 : Int), (0 : Int), (0 : Int), false, ([] : List Entry), ⟨(5 : Int), (2 : Int), (⟨#[49, 50]⟩ : ByteArray), (strOfNums bl)⟩⟩ : Msg)).length : Int)) rfl rfl (by omega)) rfl rfl rfl ?_
         have hi112 : 0 ≤ ((Int.tmod at_ ((Spec.encM (⟨(5 : Int), (1 : Int), (2 : Int), (3 : Int), (0 : Int), (0 : Int), (0 : Int), false, ([] : List Entry), ⟨(5 : Int), (2 : Int), (⟨#[49, 50]⟩ : ByteArray), (strOfNums bl)⟩⟩ : Msg)).length : Int)) : Int) := by omega
         have hi113 : ((Int.tmod at_ ((Spec.encM (⟨(5 : Int), (1 : Int), (2 : Int), (3 : Int), (0 : Int), (0 : Int), (0 : Int), false, ([] : List Entry), ⟨(5 : Int), (2 : Int), (⟨#[49, 50]⟩ : ByteArray), (strOfNums bl)⟩⟩ : Msg)).length : Int)) : Int) < (((Spec.encM (⟨(5 : Int), (1 : Int), (2 : Int), (3 : Int), (0 : Int), (0 : Int), (0 : Int), false, ([] : List Entry), ⟨(5 : Int), (2 : Int), (⟨#[49, 50]⟩ : ByteArray), (strOfNums bl)⟩⟩ : Msg)).length : Nat) : Int) := by first | omega | (simp only [List.length_append, List.length_cons, List.length_nil, List.length_map, List.length_set, List.length_replicate, Spec.bytesOf_length]; omega) | (simp; omega)
         obtain ⟨x114, hx115⟩ : ∃ e, (Spec.encM (⟨(5 : Int), (1 : Int), (2 : Int), (3 : Int), (0 : Int), (0 : Int), (0 : Int), false, ([] : List Entry), ⟨(5 : Int), (2 : Int), (⟨#[49, 50]⟩ : ByteArray), (strOfNums bl)⟩⟩ : Msg))[((Int.tmod at_ ((Spec.encM (⟨(5 : Int), (1 : Int), (2 : Int), (3 : Int), (0 : Int), (0 : Int), (0 : Int), false, ([] : List Entry), ⟨(5 : Int), (2 : Int), (⟨#[49, 50]⟩ : ByteArray), (strOfNums bl)⟩⟩ : Msg)).length : Int))).toNat]? = some e := ⟨_, List.getElem?_eq_getElem (by first | omega | (simp only [List.length_append, List.length_cons, List.length_nil, List.length_map, List.length_set, List.length_replicate, Spec.bytesOf_length]; omega) | (simp; omega))⟩
         have x114b : 0 ≤ x114 ∧ x114 < 256 := ((Spec.encM_bytes _) : Spec.Bytes (Spec.encM (⟨(5 : Int), (1 : Int), (2 : Int), (3 : Int), (0 : Int), (0 : Int), (0 : Int), false, ([] : List Entry), ⟨(5 : Int), (2 : Int), (⟨#[49, 50]⟩ : ByteArray), (strOfNums bl)⟩⟩ : Msg))) _ (List.mem_of_getElem? hx115)
         refine st_op (ev_at rfl rfl (My.row hm109) (getMap u8c hx115) (by first | rfl | omega | simp) hi112 hi113 el29) rfl rfl rfl ?_
         refine st_op (ev_atL rfl (My.row hm109) (getMap u8c hx115) one5 rfl) rfl rfl rfl ?_
         refine st_op (ev_move rfl) rfl rfl rfl ?_
         have hw116 : 0 ≤ (Go.bits .xor .u8 x114 x) ∧ (Go.bits .xor .u8 x114 x) ≤ 255 := bitsU8 _ _ _
         refine st_op (ev_bits rfl rfl rfl) rfl rfl rfl ?_
         have hi117 : 0 ≤ ((Int.tmod at_ ((Spec.encM (⟨(5 : Int), (1 : Int), (2 : Int), (3 : Int), (0 : Int), (0 : Int), (0 : Int), false, ([] : List Entry), ⟨(5 : Int), (2 : Int), (⟨#[49, 50]⟩ : ByteArray), (strOfNums bl)⟩⟩ : Msg)).length : Int)) : Int) := by omega
         have hi118 : ((Int.tmod at_ ((Spec.encM (⟨(5 : Int), (1 : Int), (2 : Int), (3 : Int), (0 : Int), (0 : Int), (0 : Int), false, ([] : List Entry), ⟨(5 : Int), (2 : Int), (⟨#[49, 50]⟩ : ByteArray), (strOfNums bl)⟩⟩ : Msg)).length : Int)) : Int) < (((Spec.encM (⟨(5 : Int), (1 : Int), (2 : Int), (3 : Int), (0 : Int), (0 : Int), (0 : Int), false, ([] : List Entry), ⟨(5 : Int), (2 : Int), (⟨#[49, 50]⟩ : ByteArray), (strOfNums bl)⟩⟩ : Msg)).length : Nat) : Int) := by first | omega | (simp only [List.length_append, List.length_cons, List.length_nil, List.length_map, List.length_set, List.length_replicate, Spec.bytesOf_length]; omega) | (simp; omega)
         refine st_op (ev_at rfl rfl (My.row hm109) (getMap u8c hx115) (by first | rfl | omega | simp) hi117 hi118 el29) rfl rfl rfl ?_
         obtain ⟨H119, W120, he121, hm122, hf123, H119n_⟩ := mem_storeAt (v := .int .u8 (Go.bits .xor .u8 x114 x)) size5 rfl rfl hm109 hm109 (getMap u8c hx115) (show 0 < 1 by decide)
         rw [show (u8c x114).set 0 (.int .u8 (Go.bits .xor .u8 x114 x)) = u8c (Go.bits .xor .u8 x114 x) from rfl, ← List.map_set] at hm122
         refine st_op0 (he121 _ _ _ _ _ _ _ _ _ rfl rfl) rfl rfl ?_
         have H119n : H106.next ≤ H119.next := hf123.1
         try show aw _ _ _ _ _ _
         refine aw_seq ?_
         refine aw_reg ?_
         refine st_op (ev_move rfl) rfl rfl rfl ?_
         refine st_call rfl rfl rfl ent13 rfl rfl rfl ?_
         obtain ⟨_, H125, hs124, A127, c128, hs124v, hm129, hq130, hq131, hq132, hq133, hx126⟩ := msg_Decode_spec H119 A104 ((Spec.encM (⟨(5 : Int), (1 : Int), (2 : Int), (3 : Int), (0 : Int), (0 : Int), (0 : Int), false, ([] : List Entry), ⟨(5 : Int), (2 : Int), (⟨#[49, 50]⟩ : ByteArray), (strOfNums bl)⟩⟩ : Msg)).set (((Int.tmod at_ ((Spec.encM (⟨(5 : Int), (1 : Int), (2 : Int), (3 : Int), (0 : Int), (0 : Int), (0 : Int), false, ([] : List Entry), ⟨(5 : Int), (2 : Int), (⟨#[49, 50]⟩ : ByteArray), (strOfNums bl)⟩⟩ : Msg)).length : Int))).toNat) (Go.bits .xor .u8 x114 x)) c105 (My.row hm122) (My.capF hm122 (by first | omega | (simp only [List.length_append, List.length_cons, List.length_nil, List.length_map, List.length_set, List.length_replicate, Spec.bytesOf_length]; omega) | (simp; omega))) (by first | omega | (simp only [List.length_append, List.length_cons, List.length_nil, List.length_map, List.length_set, List.length_replicate, Spec.bytesOf_length]; omega) | (simp; omega)) (My.anil hm122) (Spec.Bytes.set (Spec.encM_bytes _) (by omega))
         rw [hs124v] at hs124; clear hs124v
         rw [show ((Spec.encM (⟨(5 : Int), (1 : Int), (2 : Int), (3 : Int), (0 : Int), (0 : Int), (0 : Int), false, ([] : List Entry), ⟨(5 : Int), (2 : Int), (⟨#[49, 50]⟩ : ByteArray), (strOfNums bl)⟩⟩ : Msg)).set (((Int.tmod at_ ((Spec.encM (⟨(5 : Int), (1 : Int), (2 : Int), (3 : Int), (0 : Int), (0 : Int), (0 : Int), false, ([] : List Entry), ⟨(5 : Int), (2 : Int), (⟨#[49, 50]⟩ : ByteArray), (strOfNums bl)⟩⟩ : Msg)).length : Int))).toNat) (Go.bits .xor .u8 x114 x)).length = (Spec.encM (⟨(5 : Int), (1 : Int), (2 : Int), (3 : Int), (0 : Int), (0 : Int), (0 : Int), false, ([] : List Entry), ⟨(5 : Int), (2 : Int), (⟨#[49, 50]⟩ : ByteArray), (strOfNums bl)⟩⟩ : Msg)).length from by first | rfl | (simp; done) | omega] at hs124
         generalize hR135 : (Spec.decM ((Spec.encM (⟨(5 : Int), (1 : Int), (2 : Int), (3 : Int), (0 : Int), (0 : Int), (0 : Int), false, ([] : List Entry), ⟨(5 : Int), (2 : Int), (⟨#[49, 50]⟩ : ByteArray), (strOfNums bl)⟩⟩ : Msg)).set (((Int.tmod at_ ((Spec.encM (⟨(5 : Int), (1 : Int), (2 : Int), (3 : Int), (0 : Int), (0 : Int), (0 : Int), false, ([] : List Entry), ⟨(5 : Int), (2 : Int), (⟨#[49, 50]⟩ : ByteArray), (strOfNums bl)⟩⟩ : Msg)).length : Int))).toNat) (Go.bits .xor .u8 x114 x))) = r134 at hs124 hm129 hq130 hq131 hq132 hq133
         obtain ⟨z136, z137, z138, z139, z140, z141, z142, z143, z144, z145, z146, z147, z148, z149⟩ := r134
         dsimp only at hs124 hm129 hq130 hq131 hq132 hq133
         refine ⟨_, H125, hs124, ?_⟩
         have H125n : H119.next ≤ H125.next := hx126.1
         refine st_op (ev_move rfl) rfl rfl rfl ?_
         iterate 2 refine st_op (ev_extract rfl rfl) rfl rfl rfl ?_
         refine st_op (ev_assign rfl) rfl rfl rfl ?_
         try show aw _ _ _ _ _ _
         refine aw_seq ?_
         refine aw_reg ?_
         refine st_op (ev_move rfl) rfl rfl rfl ?_
         refine st_op (ev_int rfl rfl rfl) rfl rfl rfl ?_
         refine st_op (ev_assign rfl) rfl rfl rfl ?_
         try show aw _ _ _ _ _ _
         refine aw_ret ?_
         have hx150 : Ext H H125 := (Ext.trans (Ext.then (Ext.then (Ext.trans (Ext.then (Ext.trans (Ext.trans (Ext.trans (Ext.then (Ext.trans (Ext.then hx11 hxl15 (fun q hq e => by omega)) hx34) hf39 (fun q hq e => by omega)) hx42) hx51) hx80) hf85 (fun q hq e => by omega)) hx96) hf110 (fun q hq e => by omega)) hf123 (fun q hq e => by omega)) hx126)
         have hres : true = (z149 == 1) := by have q := Spec.back_byte (show Spec.mayM (⟨(5 : Int), (1 : Int), (2 : Int), (3 : Int), (0 : Int), (0 : Int), (0 : Int), false, ([] : List Entry), ⟨(5 : Int), (2 : Int), (⟨#[49, 50]⟩ : ByteArray), (strOfNums bl)⟩⟩ : Msg) = true from Spec.may_big (by rw [strOfNums_size]; omega)) hx115 (by omega) (by omega) hR135; symm; rw [beq_iff_eq]; exact q.1
         exact ⟨.bool (z149 == 1), rfl, by first | (rw [hres]; done) | rw [← hres], hx150⟩

end Go.AM
