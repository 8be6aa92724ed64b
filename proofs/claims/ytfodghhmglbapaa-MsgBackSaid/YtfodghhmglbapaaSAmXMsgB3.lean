/- Part of a machine of its own for this claim: the program's code over memory without draws. -/
import Derived.Test.YtfodghhmglbapaaSAmXMsgB2
set_option linter.unusedVariables false
set_option linter.unusedSimpArgs false
set_option linter.unnecessarySimpa false
set_option linter.unusedVariables false
set_option linter.unusedSimpArgs false
set_option linter.unnecessarySimpa false
namespace Go.AM
open Go Go.Proofs
theorem msg_text_spec (H : Heap) (kind : Int) (from_ : Int) (to_ : Int) (term : Int) (index : Int) (logterm : Int) (commit : Int) (yes : Bool) (esA : Option Addr) (es : List Entry) (esc : Nat) (hes : Row H esA esc 4 (es.map Entry.cells)) (ces : es.length ≤ esc) (les : es.length ≤ 1048576) (s_index : Int) (s_term : Int) (s_conf : ByteArray) (hs_conf : s_conf.size ≤ 1073741824) (s_data : ByteArray) (hs_data : s_data.size ≤ 1073741824) (um : Spec.mayMsg kind from_ to_ term index logterm commit yes es s_index s_term s_conf s_data = true) : ∃ v H', Spec Try.prog 24 [.agg #[.int .i64 kind, .int .i64 from_, .int .i64 to_, .int .i64 term, .int .i64 index, .int .i64 logterm, .int .i64 commit, .bool yes, .slice esA es.length esc, .int .i64 s_index, .int .i64 s_term, .string s_conf, .string s_data]] H v H' ∧ (∃ rA0 rc0, (v = .slice rA0 ((Spec.textF (⟨kind, from_, to_, term, index, logterm, commit, yes, es, ⟨s_index, s_term, s_conf, s_data⟩⟩ : Msg)).length) rc0) ∧ (My H H' rA0 rc0 1 ((Spec.textF (⟨kind, from_, to_, term, index, logterm, commit, yes, es, ⟨s_index, s_term, s_conf, s_data⟩⟩ : Msg)).map u8c)) ∧ (((Spec.textF (⟨kind, from_, to_, term, index, logterm, commit, yes, es, ⟨s_index, s_term, s_conf, s_data⟩⟩ : Msg))).length ≤ 1800000) ∧ (Ext H H')) := by
 refine spec_go1 E0_ok 61 (f := 24) Try.func24 rfl rfl rfl ?_
 refine aw_seq ?_
 refine aw_reg ?_
 obtain ⟨b1, H2, he3, b1e, H2n_, hB5, f4⟩ := mem_box (P := Try.prog) H (v := .agg #[.int .i64 kind, .int .i64 from_, .int .i64 to_, .int .i64 term, .int .i64 index, .int .i64 logterm, .int .i64 commit, .bool yes, .slice esA es.length esc, .int .i64 s_index, .int .i64 s_term, .string s_conf, .string s_data]) (cs := [.int .i64 kind, .int .i64 from_, .int .i64 to_, .int .i64 term, .int .i64 index, .int .i64 logterm, .int .i64 commit, .bool yes, .slice esA es.length esc, .int .i64 s_index, .int .i64 s_term, .string s_conf, .string s_data]) rfl rfl
 refine st_op (he3 _ _ _ _ _ _ _ _ _ rfl) rfl rfl rfl ?_
 have hx6 : Ext H H2 := Ext.new (by omega) H2n_ f4
 have H2n : H.next ≤ H2.next := hx6.1
 refine st_op (ev_assign rfl) rfl rfl rfl ?_
 try show aw _ _ _ _ _ _
 refine aw_seq ?_
 refine aw_reg ?_
 refine st_op (ev_assign rfl) rfl rfl rfl ?_
 try show aw _ _ _ _ _ _
 refine aw_seq ?_
 refine aw_reg ?_
 refine st_op (ev_assign rfl) rfl rfl rfl ?_
 try show aw _ _ _ _ _ _
 iterate 2 refine aw_seq ?_
 refine aw_reg ?_
 refine st_op (ev_fieldAddr rfl fa26_7 (o' := 7) rfl) rfl rfl rfl ?_
 refine st_op (ev_load rfl (lvar_one one4 hB5 rfl)) rfl rfl rfl ?_
 try show aw _ _ _ _ _ _
 by_cases hc7 : yes = true
 ·
  refine aw_condT hc7 rfl ?_
  try show aw _ _ _ _ _ _
  refine aw_reg ?_
  refine st_op (ev_assign rfl) rfl rfl rfl ?_
  try show aw _ _ _ _ _ _
  iterate 2 refine aw_seq ?_
  refine aw_reg ?_
  refine st_op (ev_fieldAddr rfl fa26_0 (o' := 0) rfl) rfl rfl rfl ?_
  refine st_op (ev_load rfl (lvar_one one3 hB5 rfl)) rfl rfl rfl ?_
  refine st_op (ev_fieldAddr rfl fa26_1 (o' := 1) rfl) rfl rfl rfl ?_
  refine st_op (ev_load rfl (lvar_one one3 hB5 rfl)) rfl rfl rfl ?_
  refine st_op (ev_fieldAddr rfl fa26_2 (o' := 2) rfl) rfl rfl rfl ?_
  refine st_op (ev_load rfl (lvar_one one3 hB5 rfl)) rfl rfl rfl ?_
  refine st_op (ev_fieldAddr rfl fa26_3 (o' := 3) rfl) rfl rfl rfl ?_
  refine st_op (ev_load rfl (lvar_one one2 hB5 rfl)) rfl rfl rfl ?_
  refine st_op (ev_fieldAddr rfl fa26_4 (o' := 4) rfl) rfl rfl rfl ?_
  refine st_op (ev_load rfl (lvar_one one2 hB5 rfl)) rfl rfl rfl ?_
  refine st_op (ev_fieldAddr rfl fa26_5 (o' := 5) rfl) rfl rfl rfl ?_
  refine st_op (ev_load rfl (lvar_one one2 hB5 rfl)) rfl rfl rfl ?_
  refine st_op (ev_fieldAddr rfl fa26_6 (o' := 6) rfl) rfl rfl rfl ?_
  refine st_op (ev_load rfl (lvar_one one2 hB5 rfl)) rfl rfl rfl ?_
  refine st_op (ev_move rfl) rfl rfl rfl ?_
  refine st_op (ev_fieldAddr rfl fa26_8 (o' := 8) rfl) rfl rfl rfl ?_
  refine st_op (ev_load rfl (lvar_one one22 hB5 rfl)) rfl rfl rfl ?_
  refine st_op (ev_lenSl rfl Try.underlying22) rfl rfl rfl ?_
  obtain ⟨b8, H9, he10, b8e, H9n_, hm12, f11⟩ := mem_lit H2 (xs := ([.int .i64 kind, .int .i64 from_, .int .i64 to_, .int .i64 term, .int .i64 index, .int .i64 logterm, .int .i64 commit, .int .i64 1, .int .i64 (es.length : Int)] : List Value)) (m := 9) (rows := [[.int .i64 kind], [.int .i64 from_], [.int .i64 to_], [.int .i64 term], [.int .i64 index], [.int .i64 logterm], [.int .i64 commit], [.int .i64 1], [.int .i64 (es.length : Int)]]) rfl eok77 (by decide) (by decide) zf2 rfl (allLen rfl) rfl
  replace hm12 : My H2 H9 (some ⟨b8, 0, none⟩) 9 1 ([kind, from_, to_, term, index, logterm, commit, 1, (es.length : Int)].map i64c) := hm12
  refine st_op (he10 _ _ _ _ _ _ _ _ rfl) rfl rfl rfl ?_
  have hx13 : Ext H2 H9 := Ext.new (by omega) H9n_ f11
  have H9n : H2.next ≤ H9.next := hx13.1
  refine st_op (ev_lenSl rfl Try.underlying77) rfl rfl rfl ?_
  refine st_op (ev_move rfl) rfl rfl rfl ?_
  try show aw _ _ _ _ _ _
  refine aw_block ?_
  have mB := (Spec.may_bnd (m := (⟨kind, from_, to_, term, index, logterm, commit, yes, es, ⟨s_index, s_term, s_conf, s_data⟩⟩ : Msg)) um)
  obtain ⟨⟨mB1, mB2, mB3, mB4, mB5, mB6, mB7⟩, mB8⟩ := mB
  simp only at mB1 mB2 mB3 mB4 mB5 mB6 mB7 mB8
  have hns : Spec.Ints [kind, from_, to_, term, index, logterm, commit, 1, (es.length : Int)] := by intro x hx; simp only [List.mem_cons, List.not_mem_nil, or_false] at hx; rcases hx with rfl | rfl | rfl | rfl | rfl | rfl | rfl | rfl | rfl <;> omega
  have hm15 : My H9 H9 none 0 1 (([] : List Int).map u8c) := .nil
  refine aw_keep [1, 3, 29, 30, 31] (l' := (.cons 1 (.pointer (some ⟨b1, 0, none⟩)) (.cons 3 (.slice none 0 0) (.cons 29 (.slice (some ⟨b8, 0, none⟩) 9 9) (.cons 30 (.int .i64 9) (.cons 31 (.int .i64 0) .nil)))))) (by repeat (first | exact Up.done | refine Up.then ?_ | refine Up.inBlock ?_)) rfl ?_
  refine aw_iter (α := Nat × Option Addr × Nat × List Int × Heap) (fun a => 9 - a.1) (fun a => (.cons 1 (.pointer (some ⟨b1, 0, none⟩)) (.cons 3 (.slice a.2.1 a.2.2.2.1.length a.2.2.1) (.cons 29 (.slice (some ⟨b8, 0, none⟩) 9 9) (.cons 30 (.int .i64 9) (.cons 31 (.int .i64 (a.1 : Int)) .nil)))))) (fun a => a.2.2.2.2) (fun a => (a.1 ≤ 9) ∧ (a.2.2.2.1 = Spec.encs ([kind, from_, to_, term, index, logterm, commit, 1, (es.length : Int)].take a.1)) ∧ (a.2.2.2.1.length ≤ 10 * a.1) ∧ (My H9 a.2.2.2.2 a.2.1 a.2.2.1 1 (a.2.2.2.1.map u8c)) ∧ (Ext H9 a.2.2.2.2)) (0, none, 0, ([] : List Int), H9) ⟨(show 0 ≤ 9 from Nat.zero_le _), (show ([] : List Int) = Spec.encs ([kind, from_, to_, term, index, logterm, commit, 1, (es.length : Int)].take 0) from rfl), (show ([] : List Int).length ≤ 10 * 0 from Nat.le_refl _), (show My H9 H9 none 0 1 (([] : List Int).map u8c) from hm15), (show Ext H9 H9 from (Ext.refl H9))⟩ ?_
  rintro ⟨i, A, cp, b, Hl14⟩ ⟨hi, hb, hbl, hm16, hxl17⟩ ih18
  replace hi : i ≤ 9 := hi
  replace hb : b = Spec.encs ([kind, from_, to_, term, index, logterm, commit, 1, (es.length : Int)].take i) := hb
  replace hbl : b.length ≤ 10 * i := hbl
  replace hm16 : My H9 Hl14 A cp 1 (b.map u8c) := hm16
  replace hxl17 : Ext H9 Hl14 := hxl17
  show aw _ _ _ (RL _ (.cons 1 (.pointer (some ⟨b1, 0, none⟩)) (.cons 3 (.slice A b.length cp) (.cons 29 (.slice (some ⟨b8, 0, none⟩) 9 9) (.cons 30 (.int .i64 9) (.cons 31 (.int .i64 (i : Int)) .nil)))))) Hl14 _
  have Hl14n : H9.next ≤ Hl14.next := hxl17.1
  refine aw_seq ?_
  refine aw_reg ?_
  refine st_op (ev_int rfl rfl rfl) rfl rfl rfl ?_
  try show aw _ _ _ _ _ _
  refine aw_seq ?_
  by_cases hc19 : (decide ((i : Int) < 9)) = true
  ·
   refine aw_condT hc19 rfl ?_
   try show aw _ _ _ _ _ _
   have hc19 := of_decide_eq_true hc19
   refine aw_skip ?_
   try show aw _ _ _ _ _ _
   refine aw_seq ?_
   refine aw_block ?_
   refine aw_seq ?_
   refine aw_reg ?_
   have h20 := My.ext hm12 hxl17
   have hi21 : 0 ≤ ((i : Int) : Int) := by omega
   have hi22 : ((i : Int) : Int) < ((9 : Nat) : Int) := by first | omega | (simp only [List.length_append, List.length_cons, List.length_nil, List.length_map, List.length_set, List.length_replicate, Spec.bytesOf_length]; omega) | (simp; omega)
   obtain ⟨x23, hx24⟩ : ∃ e, ([kind, from_, to_, term, index, logterm, commit, 1, (es.length : Int)])[i]? = some e := ⟨_, List.getElem?_eq_getElem (by first | omega | (simp only [List.length_append, List.length_cons, List.length_nil, List.length_map, List.length_set, List.length_replicate, Spec.bytesOf_length]; omega) | (simp; omega))⟩
   have x23b := hns _ (List.mem_of_getElem? hx24)
   refine st_op (ev_at rfl rfl (My.row h20) (getMap i64c hx24) (by first | rfl | omega | simp) hi21 hi22 el77) rfl rfl rfl ?_
   refine st_op (ev_atL rfl (My.row h20) (getMap i64c hx24) one2 rfl) rfl rfl rfl ?_
   refine st_op (ev_assign rfl) rfl rfl rfl ?_
   try show aw _ _ _ _ _ _
   refine aw_reg ?_
   iterate 2 refine st_op (ev_move rfl) rfl rfl rfl ?_
   refine st_call rfl rfl rfl ent26 rfl rfl rfl ?_
   obtain ⟨_, H26, hs25, A28, c29, hs25v, hm30, hq31, hx27⟩ := num_Put_spec Hl14 H9 A b cp hm16 (by omega) (by first | omega | (simp only [List.length_append, List.length_cons, List.length_nil, List.length_map, List.length_set, List.length_replicate, Spec.bytesOf_length]; omega) | (simp; omega)) x23 ⟨by omega, by omega⟩
   rw [hs25v] at hs25; clear hs25v
   refine ⟨_, H26, hs25, ?_⟩
   have H26n : Hl14.next ≤ H26.next := hx27.1
   refine st_op (ev_assign rfl) rfl rfl rfl ?_
   try show aw _ _ _ _ _ _
   refine aw_reg ?_
   refine st_op (ev_int64 (c := (i : Int) + 1) rfl rfl rfl (by omega) (by omega)) rfl rfl rfl ?_
   refine st_op (ev_move rfl) rfl rfl rfl ?_
   try show aw _ _ _ _ _ _
   have hx32 : Ext H9 H26 := (Ext.then hxl17 hx27 (fun q hq e => by omega))
   refine aw_keep [1, 3, 29, 30, 31] (l' := (.cons 1 (.pointer (some ⟨b1, 0, none⟩)) (.cons 3 (.slice A28 ((b ++ Spec.enc (Spec.zig x23)).length) c29) (.cons 29 (.slice (some ⟨b8, 0, none⟩) 9 9) (.cons 30 (.int .i64 9) (.cons 31 (.int .i64 ((i : Int) + 1)) .nil)))))) (by repeat (first | exact Up.done | refine Up.then ?_ | refine Up.inBlock ?_)) rfl ?_
   exact ih18 (i + 1, A28, c29, (b ++ Spec.enc (Spec.zig x23)), H26) ⟨(show (i + 1) ≤ 9 from (by omega)), (show (b ++ Spec.enc (Spec.zig x23)) = Spec.encs ([kind, from_, to_, term, index, logterm, commit, 1, (es.length : Int)].take (i + 1)) from (by rw [Spec.encs_snoc hx24, ← hb])), (show (b ++ Spec.enc (Spec.zig x23)).length ≤ 10 * (i + 1) from (by rw [List.length_append]; omega)), (show My H9 H26 A28 c29 1 ((b ++ Spec.enc (Spec.zig x23)).map u8c) from hm30), (show Ext H9 H26 from hx32)⟩ (by simp only; omega)
  ·
   rw [Bool.not_eq_true] at hc19; refine aw_condF hc19 rfl ?_
   try show aw _ _ _ _ _ _
   have hc19 := of_decide_eq_false hc19
   refine aw_exit ?_
   try show aw _ _ _ _ _ _
   iterate 2 refine aw_seq ?_
   refine aw_reg ?_
   refine st_op (ev_fieldAddr rfl fa26_8 (o' := 8) rfl) rfl rfl rfl ?_
   have hx34 : Ext H2 Hl14 := (Ext.trans hx13 hxl17)
   have h33 := Ext.blk hx34 (by omega) hB5
   refine st_op (ev_load rfl (lvar_one one22 h33 rfl)) rfl rfl rfl ?_
   refine st_op (ev_lenSl rfl Try.underlying22) rfl rfl rfl ?_
   refine st_op (ev_move rfl) rfl rfl rfl ?_
   try show aw _ _ _ _ _ _
   refine aw_block ?_
   refine aw_keep [1, 3, 40, 41, 42] (l' := (.cons 1 (.pointer (some ⟨b1, 0, none⟩)) (.cons 3 (.slice A b.length cp) (.cons 40 (.slice esA es.length esc) (.cons 41 (.int .i64 (es.length : Int)) (.cons 42 (.int .i64 0) .nil)))))) (by repeat (first | exact Up.done | refine Up.then ?_ | refine Up.inBlock ?_)) rfl ?_
   refine aw_iter (α := Nat × Option Addr × Nat × List Int × Heap) (fun a => es.length - a.1) (fun a => (.cons 1 (.pointer (some ⟨b1, 0, none⟩)) (.cons 3 (.slice a.2.1 a.2.2.2.1.length a.2.2.1) (.cons 40 (.slice esA es.length esc) (.cons 41 (.int .i64 (es.length : Int)) (.cons 42 (.int .i64 (a.1 : Int)) .nil)))))) (fun a => a.2.2.2.2) (fun a => (a.1 ≤ es.length) ∧ (a.2.2.2.1 = b ++ ((es.take a.1).map Spec.encE).flatten) ∧ (a.2.2.2.1.length ≤ 90 + 2550 * a.1) ∧ (My H9 a.2.2.2.2 a.2.1 a.2.2.1 1 (a.2.2.2.1.map u8c)) ∧ (Fr (fun q => (H9.next ≤ q ∧ q < Hl14.next ∧ ZB Hl14 q 1)) Hl14 a.2.2.2.2)) (0, A, cp, b, Hl14) ⟨(show 0 ≤ es.length from Nat.zero_le _), (show b = b ++ ((es.take 0).map Spec.encE).flatten from (by simp)), (show b.length ≤ 90 + 2550 * 0 from (by omega)), (show My H9 Hl14 A cp 1 (b.map u8c) from hm16), (show Fr (fun q => (H9.next ≤ q ∧ q < Hl14.next ∧ ZB Hl14 q 1)) Hl14 Hl14 from (Fr.refl _ Hl14))⟩ ?_
   rintro ⟨j, A2, cp2, b2, Hl35⟩ ⟨hj, hb2, hbl2, hm36, hxl37⟩ ih38
   replace hj : j ≤ es.length := hj
   replace hb2 : b2 = b ++ ((es.take j).map Spec.encE).flatten := hb2
   replace hbl2 : b2.length ≤ 90 + 2550 * j := hbl2
   replace hm36 : My H9 Hl35 A2 cp2 1 (b2.map u8c) := hm36
   replace hxl37 : Fr (fun q => (H9.next ≤ q ∧ q < Hl14.next ∧ ZB Hl14 q 1)) Hl14 Hl35 := hxl37
   show aw _ _ _ (RL _ (.cons 1 (.pointer (some ⟨b1, 0, none⟩)) (.cons 3 (.slice A2 b2.length cp2) (.cons 40 (.slice esA es.length esc) (.cons 41 (.int .i64 (es.length : Int)) (.cons 42 (.int .i64 (j : Int)) .nil)))))) Hl35 _
   have Hl35n : Hl14.next ≤ Hl35.next := hxl37.1
   refine aw_seq ?_
   refine aw_reg ?_
   refine st_op (ev_int rfl rfl rfl) rfl rfl rfl ?_
   try show aw _ _ _ _ _ _
   refine aw_seq ?_
   by_cases hc39 : (decide ((j : Int) < (es.length : Int))) = true
   ·
    refine aw_condT hc39 rfl ?_
    try show aw _ _ _ _ _ _
    have hc39 := of_decide_eq_true hc39
    refine aw_skip ?_
    try show aw _ _ _ _ _ _
    refine aw_seq ?_
    refine aw_block ?_
    refine aw_seq ?_
    refine aw_reg ?_
    have hx41 : Ext H Hl35 := (Ext.then (Ext.trans (Ext.trans hx6 hx13) hxl17) hxl37 (fun q hq e => by omega))
    have h40 := Row.ext hes hx41
    have hi42 : 0 ≤ ((j : Int) : Int) := by omega
    have hi43 : ((j : Int) : Int) < ((es.length : Nat) : Int) := by first | omega | (simp only [List.length_append, List.length_cons, List.length_nil, List.length_map, List.length_set, List.length_replicate, Spec.bytesOf_length]; omega) | (simp; omega)
    obtain ⟨x44, hx45⟩ : ∃ e, es[j]? = some e := ⟨_, List.getElem?_eq_getElem (by first | omega | (simp only [List.length_append, List.length_cons, List.length_nil, List.length_map, List.length_set, List.length_replicate, Spec.bytesOf_length]; omega) | (simp; omega))⟩
    refine st_op (ev_at rfl rfl h40 (getMap Entry.cells hx45) (by first | rfl | omega | simp) hi42 hi43 el22) rfl rfl rfl ?_
    refine st_op (ev_atN (cs := [.int .i64 x44.index, .int .i64 x44.term, .int .i64 x44.kind, .string x44.data]) rfl h40 (getMap Entry.cells hx45) many45 rfl rfl (by decide)) rfl rfl rfl ?_
    obtain ⟨b46, H47, he48, b46e, H47n_, hB50, f49⟩ := mem_alloc Hl35 zero45
    refine st_op (he48 _ _ _ _ _ _ _) rfl rfl rfl ?_
    have hx51 : Ext Hl35 H47 := Ext.new (by omega) H47n_ f49
    have H47n : Hl35.next ≤ H47.next := hx51.1
    obtain ⟨H52, he53, H52n_, hB54, f55⟩ := mem_store (v := .agg #[.int .i64 x44.index, .int .i64 x44.term, .int .i64 x44.kind, .string x44.data]) (o := 0) (cs' := [.int .i64 x44.index, .int .i64 x44.term, .int .i64 x44.kind, .string x44.data]) 4 rfl rfl size45 hB50 rfl rfl rfl
    refine st_op0 (he53 _ _ _ _ _ _ _ _ _ rfl rfl) rfl rfl ?_
    have hf56 : Fr (fun q => q = b46) H47 H52 := Fr.write H52n_ f55
    have H52n : H47.next ≤ H52.next := hf56.1
    try show aw _ _ _ _ _ _
    refine aw_reg ?_
    refine st_op (ev_move rfl) rfl rfl rfl ?_
    refine st_op (ev_load rfl (lvar_part (l := [.int .i64 x44.index, .int .i64 x44.term, .int .i64 x44.kind, .string x44.data]) many45 hB54 rfl rfl (by decide))) rfl rfl rfl ?_
    refine st_op (ev_build zero82 pl82 (parts := [(2, .agg #[.int .i64 x44.index, .int .i64 x44.term, .int .i64 x44.kind, .string x44.data])]) rfl (cs := [.bool false, .int .i64 0, .int .i64 0, .int .i64 x44.index, .int .i64 x44.term, .int .i64 x44.kind, .string x44.data]) rfl) rfl rfl rfl ?_
    refine st_call rfl rfl rfl ent45 rfl rfl rfl ?_
    obtain ⟨_, H58, hs57, A60, c61, hs57v, hm62, hq63, hx59⟩ := wal_Encode_spec H52 false (0 : Int) (0 : Int) x44.index x44.term x44.kind x44.data
    rw [hs57v] at hs57; clear hs57v
    refine ⟨_, H58, hs57, ?_⟩
    have H58n : H52.next ≤ H58.next := hx59.1
    have hx65 : Ext Hl35 H58 := (Ext.trans (Ext.then hx51 hf56 (fun q hq e => by omega)) hx59)
    have h64 := My.ext hm36 hx65
    obtain ⟨A66, c67, H68, W69, he70, hm71, hf72⟩ := mem_append (f := u8c) (old := b2) (new := (Spec.encodeF false (0 : Int) (0 : Int) x44.index x44.term x44.kind x44.data)) (m := b2.length) (mx := (Spec.encodeF false (0 : Int) (0 : Int) x44.index x44.term x44.kind x44.data).length) (c := cp2) (by first | rfl | simp) (by first | rfl | simp) eok29 (by decide) hm36 h64 (by omega) (((My.row hm62)).srcF (by decide) (by first | rfl | simp)) rfl u8c_len u8c_one (by first | omega | (simp only [List.length_append, List.length_cons, List.length_nil, List.length_map, List.length_set, List.length_replicate, Spec.bytesOf_length]; omega) | (simp; omega)) (by first | omega | (simp only [List.length_append, List.length_cons, List.length_nil, List.length_map, List.length_set, List.length_replicate, Spec.bytesOf_length]; omega) | (simp; omega))
    refine st_op (he70 _ _ _ _ _ _ _ _ _ _ rfl rfl isrow29) rfl rfl rfl ?_
    have H68n : H58.next ≤ H68.next := hf72.1
    refine st_op (ev_assign rfl) rfl rfl rfl ?_
    try show aw _ _ _ _ _ _
    refine aw_reg ?_
    refine st_op (ev_int64 (c := (j : Int) + 1) rfl rfl rfl (by omega) (by omega)) rfl rfl rfl ?_
    refine st_op (ev_move rfl) rfl rfl rfl ?_
    try show aw _ _ _ _ _ _
    refine aw_keep [1, 3, 40, 41, 42] (l' := (.cons 1 (.pointer (some ⟨b1, 0, none⟩)) (.cons 3 (.slice A66 ((b2 ++ (Spec.encodeF false (0 : Int) (0 : Int) x44.index x44.term x44.kind x44.data)).length) c67) (.cons 40 (.slice esA es.length esc) (.cons 41 (.int .i64 (es.length : Int)) (.cons 42 (.int .i64 ((j : Int) + 1)) .nil)))))) (by repeat (first | exact Up.done | refine Up.then ?_ | refine Up.inBlock ?_)) rfl ?_
    exact ih38 (j + 1, A66, c67, (b2 ++ (Spec.encodeF false (0 : Int) (0 : Int) x44.index x44.term x44.kind x44.data)), H68) ⟨(show (j + 1) ≤ es.length from (by omega)), (show (b2 ++ (Spec.encodeF false (0 : Int) (0 : Int) x44.index x44.term x44.kind x44.data)) = b ++ ((es.take (j + 1)).map Spec.encE).flatten from (by rw [List.take_add_one, hx45, List.map_append, List.flatten_append, hb2, List.append_assoc]; simp [Spec.encE])), (show (b2 ++ (Spec.encodeF false (0 : Int) (0 : Int) x44.index x44.term x44.kind x44.data)).length ≤ 90 + 2550 * (j + 1) from (by rw [List.length_append]; have := @Spec.encodeF_len false 0 0 x44.index x44.term x44.kind x44.data; omega)), (show My H9 H68 A66 c67 1 ((b2 ++ (Spec.encodeF false (0 : Int) (0 : Int) x44.index x44.term x44.kind x44.data)).map u8c) from hm71), (show Fr (fun q => (H9.next ≤ q ∧ q < Hl14.next ∧ ZB Hl14 q 1)) Hl14 H68 from (Fr.transG (Fr.trans (Fr.transG (Fr.trans (Fr.transG (Fr.refl (fun q => (H9.next ≤ q ∧ q < Hl14.next ∧ ZB Hl14 q 1)) Hl14) hxl37 (fun q hq hE e => (⟨by omega, by omega, ZB.back hE e.2.2⟩))) (hx51.fr fun _ => False) (fun q hq (e : False) => e.elim)) hf56 (fun q hq hE e => absurd hq (by omega))) (hx59.fr fun _ => False) (fun q hq (e : False) => e.elim)) hf72 (fun q hq hE e => (⟨by omega, by omega, ZB.back hE e.2.2⟩))))⟩ (by simp only; omega)
   ·
    rw [Bool.not_eq_true] at hc39; refine aw_condF hc39 rfl ?_
    try show aw _ _ _ _ _ _
    have hc39 := of_decide_eq_false hc39
    refine aw_exit ?_
    try show aw _ _ _ _ _ _
    iterate 2 refine aw_seq ?_
    refine aw_reg ?_
    refine st_op (ev_fieldAddr rfl fa26_0 (o' := 0) rfl) rfl rfl rfl ?_
    have hx74 : Ext H2 Hl35 := (Ext.then hx34 hxl37 (fun q hq e => by omega))
    have h73 := Ext.blk hx74 (by omega) hB5
    refine st_op (ev_load rfl (lvar_one one3 h73 rfl)) rfl rfl rfl ?_
    refine st_op (ev_int rfl rfl rfl) rfl rfl rfl ?_
    try show aw _ _ _ _ _ _
    by_cases hc75 : (kind == 5) = true
    ·
     refine aw_condT hc75 rfl ?_
     try show aw _ _ _ _ _ _
     have hc75 := eq_of_beq hc75
     refine aw_reg ?_
     refine st_op (ev_move rfl) rfl rfl rfl ?_
     refine st_op (ev_fieldAddr rfl fa26_9 (o' := 9) rfl) rfl rfl rfl ?_
     refine st_op (ev_load rfl (lvar_part (l := [.int .i64 s_index, .int .i64 s_term, .string s_conf, .string s_data]) many24 h73 rfl rfl (by decide))) rfl rfl rfl ?_
     refine st_call rfl rfl rfl ent44 rfl rfl rfl ?_
     obtain ⟨_, H77, hs76, A79, c80, hs76v, hm81, hq82, hq83, hq84, hx78⟩ := wal_PutSnap_spec Hl35 s_index s_term s_conf s_data
     rw [hs76v] at hs76; clear hs76v
     refine ⟨_, H77, hs76, ?_⟩
     have H77n : Hl35.next ≤ H77.next := hx78.1
     have h85 := My.ext hm36 hx78
     obtain ⟨A86, c87, H88, W89, he90, hm91, hf92⟩ := mem_append (f := u8c) (old := b2) (new := (Spec.snapF s_index s_term s_conf s_data)) (m := b2.length) (mx := (Spec.snapF s_index s_term s_conf s_data).length) (c := cp2) (by first | rfl | simp) (by first | rfl | simp) eok29 (by decide) hm36 h85 (by omega) (((My.row hm81)).srcF (by decide) (by first | rfl | simp)) rfl u8c_len u8c_one (by first | omega | (simp only [List.length_append, List.length_cons, List.length_nil, List.length_map, List.length_set, List.length_replicate, Spec.bytesOf_length]; omega) | (simp; omega)) (by first | omega | (simp only [List.length_append, List.length_cons, List.length_nil, List.length_map, List.length_set, List.length_replicate, Spec.bytesOf_length]; omega) | (simp; omega))
     refine st_op (he90 _ _ _ _ _ _ _ _ _ _ rfl rfl isrow29) rfl rfl rfl ?_
     have H88n : H77.next ≤ H88.next := hf92.1
     refine st_op (ev_assign rfl) rfl rfl rfl ?_
     try show aw _ _ _ _ _ _
     refine aw_seq ?_
     refine aw_reg ?_
     refine st_op (ev_move rfl) rfl rfl rfl ?_
     refine st_op (ev_assign rfl) rfl rfl rfl ?_
     try show aw _ _ _ _ _ _
     refine aw_ret ?_
     have hx93 : Ext H H88 := (Ext.then (Ext.trans (Ext.then (Ext.trans (Ext.trans hx6 hx13) hxl17) hxl37 (fun q hq e => by omega)) hx78) hf92 (fun q hq e => by omega))
     have hres : (Spec.textF (⟨kind, from_, to_, term, index, logterm, commit, yes, es, ⟨s_index, s_term, s_conf, s_data⟩⟩ : Msg)) = (b2 ++ (Spec.snapF s_index s_term s_conf s_data)) := by show Spec.encs [kind, from_, to_, term, index, logterm, commit, (if yes = true then 1 else 0), (es.length : Int)] ++ (es.map Spec.encE).flatten ++ (if kind = 5 then Spec.snapF s_index s_term s_conf s_data else []) = _; have e1 : b = Spec.encs [kind, from_, to_, term, index, logterm, commit, 1, (es.length : Int)] := (by rw [hb, List.take_of_length_le (by simp; omega)]); have e2 : b2 = b ++ (es.map Spec.encE).flatten := (by rw [hb2, List.take_of_length_le (by omega)]); rw [e2, e1]; (first | rw [if_pos (show yes = true by assumption)] | rw [if_neg (show ¬ yes = true from fun h => Bool.noConfusion (h.symm.trans (show yes = false by assumption)))]); (first | rw [if_pos (show kind = 5 by assumption)] | rw [if_neg (show ¬ kind = 5 by assumption), List.append_nil])
     exact ⟨.slice A86 ((b2 ++ (Spec.snapF s_index s_term s_conf s_data)).length) c87, rfl, A86, c87, by first | (rw [hres]; first | done | rfl | simp; done) | rfl, (by rw [hres]; exact (My.older hm91 (by omega))), (by exact Spec.textF_len (m := (⟨kind, from_, to_, term, index, logterm, commit, yes, es, ⟨s_index, s_term, s_conf, s_data⟩⟩ : Msg)) um), hx93⟩
    ·
     rw [Bool.not_eq_true] at hc75; refine aw_condF hc75 rfl ?_
     try show aw _ _ _ _ _ _
     have hc75 := ne_of_beq_false hc75
     refine aw_skip ?_
     try show aw _ _ _ _ _ _
     refine aw_seq ?_
     refine aw_reg ?_
     refine st_op (ev_move rfl) rfl rfl rfl ?_
     refine st_op (ev_assign rfl) rfl rfl rfl ?_
     try show aw _ _ _ _ _ _
     refine aw_ret ?_
     have hx94 : Ext H Hl35 := (Ext.then (Ext.trans (Ext.trans hx6 hx13) hxl17) hxl37 (fun q hq e => by omega))
     have hres : (Spec.textF (⟨kind, from_, to_, term, index, logterm, commit, yes, es, ⟨s_index, s_term, s_conf, s_data⟩⟩ : Msg)) = b2 := by show Spec.encs [kind, from_, to_, term, index, logterm, commit, (if yes = true then 1 else 0), (es.length : Int)] ++ (es.map Spec.encE).flatten ++ (if kind = 5 then Spec.snapF s_index s_term s_conf s_data else []) = _; have e1 : b = Spec.encs [kind, from_, to_, term, index, logterm, commit, 1, (es.length : Int)] := (by rw [hb, List.take_of_length_le (by simp; omega)]); have e2 : b2 = b ++ (es.map Spec.encE).flatten := (by rw [hb2, List.take_of_length_le (by omega)]); rw [e2, e1]; (first | rw [if_pos (show yes = true by assumption)] | rw [if_neg (show ¬ yes = true from fun h => Bool.noConfusion (h.symm.trans (show yes = false by assumption)))]); (first | rw [if_pos (show kind = 5 by assumption)] | rw [if_neg (show ¬ kind = 5 by assumption), List.append_nil])
     exact ⟨.slice A2 b2.length cp2, rfl, A2, cp2, by first | (rw [hres]; first | done | rfl | simp; done) | rfl, (by rw [hres]; exact (My.older hm36 (by omega))), (by exact Spec.textF_len (m := (⟨kind, from_, to_, term, index, logterm, commit, yes, es, ⟨s_index, s_term, s_conf, s_data⟩⟩ : Msg)) um), hx94⟩
 ·
  rw [Bool.not_eq_true] at hc7; refine aw_condF hc7 rfl ?_
  try show aw _ _ _ _ _ _
  refine aw_skip ?_
  try show aw _ _ _ _ _ _
  iterate 2 refine aw_seq ?_
  refine aw_reg ?_
  refine st_op (ev_fieldAddr rfl fa26_0 (o' := 0) rfl) rfl rfl rfl ?_
  refine st_op (ev_load rfl (lvar_one one3 hB5 rfl)) rfl rfl rfl ?_
  refine st_op (ev_fieldAddr rfl fa26_1 (o' := 1) rfl) rfl rfl rfl ?_
  refine st_op (ev_load rfl (lvar_one one3 hB5 rfl)) rfl rfl rfl ?_
  refine st_op (ev_fieldAddr rfl fa26_2 (o' := 2) rfl) rfl rfl rfl ?_
  refine st_op (ev_load rfl (lvar_one one3 hB5 rfl)) rfl rfl rfl ?_
  refine st_op (ev_fieldAddr rfl fa26_3 (o' := 3) rfl) rfl rfl rfl ?_
  refine st_op (ev_load rfl (lvar_one one2 hB5 rfl)) rfl rfl rfl ?_
  refine st_op (ev_fieldAddr rfl fa26_4 (o' := 4) rfl) rfl rfl rfl ?_
  refine st_op (ev_load rfl (lvar_one one2 hB5 rfl)) rfl rfl rfl ?_
  refine st_op (ev_fieldAddr rfl fa26_5 (o' := 5) rfl) rfl rfl rfl ?_
  refine st_op (ev_load rfl (lvar_one one2 hB5 rfl)) rfl rfl rfl ?_
  refine st_op (ev_fieldAddr rfl fa26_6 (o' := 6) rfl) rfl rfl rfl ?_
  refine st_op (ev_load rfl (lvar_one one2 hB5 rfl)) rfl rfl rfl ?_
  refine st_op (ev_move rfl) rfl rfl rfl ?_
  refine st_op (ev_fieldAddr rfl fa26_8 (o' := 8) rfl) rfl rfl rfl ?_
  refine st_op (ev_load rfl (lvar_one one22 hB5 rfl)) rfl rfl rfl ?_
  refine st_op (ev_lenSl rfl Try.underlying22) rfl rfl rfl ?_
  obtain ⟨b95, H96, he97, b95e, H96n_, hm99, f98⟩ := mem_lit H2 (xs := ([.int .i64 kind, .int .i64 from_, .int .i64 to_, .int .i64 term, .int .i64 index, .int .i64 logterm, .int .i64 commit, .int .i64 0, .int .i64 (es.length : Int)] : List Value)) (m := 9) (rows := [[.int .i64 kind], [.int .i64 from_], [.int .i64 to_], [.int .i64 term], [.int .i64 index], [.int .i64 logterm], [.int .i64 commit], [.int .i64 0], [.int .i64 (es.length : Int)]]) rfl eok77 (by decide) (by decide) zf2 rfl (allLen rfl) rfl
  replace hm99 : My H2 H96 (some ⟨b95, 0, none⟩) 9 1 ([kind, from_, to_, term, index, logterm, commit, 0, (es.length : Int)].map i64c) := hm99
  refine st_op (he97 _ _ _ _ _ _ _ _ rfl) rfl rfl rfl ?_
  have hx100 : Ext H2 H96 := Ext.new (by omega) H96n_ f98
  have H96n : H2.next ≤ H96.next := hx100.1
  refine st_op (ev_lenSl rfl Try.underlying77) rfl rfl rfl ?_
  refine st_op (ev_move rfl) rfl rfl rfl ?_
  try show aw _ _ _ _ _ _
  refine aw_block ?_
  have mB := (Spec.may_bnd (m := (⟨kind, from_, to_, term, index, logterm, commit, yes, es, ⟨s_index, s_term, s_conf, s_data⟩⟩ : Msg)) um)
  obtain ⟨⟨mB1, mB2, mB3, mB4, mB5, mB6, mB7⟩, mB8⟩ := mB
  simp only at mB1 mB2 mB3 mB4 mB5 mB6 mB7 mB8
  have hns : Spec.Ints [kind, from_, to_, term, index, logterm, commit, 0, (es.length : Int)] := by intro x hx; simp only [List.mem_cons, List.not_mem_nil, or_false] at hx; rcases hx with rfl | rfl | rfl | rfl | rfl | rfl | rfl | rfl | rfl <;> omega
  have hm102 : My H96 H96 none 0 1 (([] : List Int).map u8c) := .nil
  refine aw_keep [1, 3, 29, 30, 31] (l' := (.cons 1 (.pointer (some ⟨b1, 0, none⟩)) (.cons 3 (.slice none 0 0) (.cons 29 (.slice (some ⟨b95, 0, none⟩) 9 9) (.cons 30 (.int .i64 9) (.cons 31 (.int .i64 0) .nil)))))) (by repeat (first | exact Up.done | refine Up.then ?_ | refine Up.inBlock ?_)) rfl ?_
  refine aw_iter (α := Nat × Option Addr × Nat × List Int × Heap) (fun a => 9 - a.1) (fun a => (.cons 1 (.pointer (some ⟨b1, 0, none⟩)) (.cons 3 (.slice a.2.1 a.2.2.2.1.length a.2.2.1) (.cons 29 (.slice (some ⟨b95, 0, none⟩) 9 9) (.cons 30 (.int .i64 9) (.cons 31 (.int .i64 (a.1 : Int)) .nil)))))) (fun a => a.2.2.2.2) (fun a => (a.1 ≤ 9) ∧ (a.2.2.2.1 = Spec.encs ([kind, from_, to_, term, index, logterm, commit, 0, (es.length : Int)].take a.1)) ∧ (a.2.2.2.1.length ≤ 10 * a.1) ∧ (My H96 a.2.2.2.2 a.2.1 a.2.2.1 1 (a.2.2.2.1.map u8c)) ∧ (Ext H96 a.2.2.2.2)) (0, none, 0, ([] : List Int), H96) ⟨(show 0 ≤ 9 from Nat.zero_le _), (show ([] : List Int) = Spec.encs ([kind, from_, to_, term, index, logterm, commit, 0, (es.length : Int)].take 0) from rfl), (show ([] : List Int).length ≤ 10 * 0 from Nat.le_refl _), (show My H96 H96 none 0 1 (([] : List Int).map u8c) from hm102), (show Ext H96 H96 from (Ext.refl H96))⟩ ?_
  rintro ⟨i, A, cp, b, Hl101⟩ ⟨hi, hb, hbl, hm103, hxl104⟩ ih105
  replace hi : i ≤ 9 := hi
  replace hb : b = Spec.encs ([kind, from_, to_, term, index, logterm, commit, 0, (es.length : Int)].take i) := hb
  replace hbl : b.length ≤ 10 * i := hbl
  replace hm103 : My H96 Hl101 A cp 1 (b.map u8c) := hm103
  replace hxl104 : Ext H96 Hl101 := hxl104
  show aw _ _ _ (RL _ (.cons 1 (.pointer (some ⟨b1, 0, none⟩)) (.cons 3 (.slice A b.length cp) (.cons 29 (.slice (some ⟨b95, 0, none⟩) 9 9) (.cons 30 (.int .i64 9) (.cons 31 (.int .i64 (i : Int)) .nil)))))) Hl101 _
  have Hl101n : H96.next ≤ Hl101.next := hxl104.1
  refine aw_seq ?_
  refine aw_reg ?_
  refine st_op (ev_int rfl rfl rfl) rfl rfl rfl ?_
  try show aw _ _ _ _ _ _
  refine aw_seq ?_
  by_cases hc106 : (decide ((i : Int) < 9)) = true
  ·
   refine aw_condT hc106 rfl ?_
   try show aw _ _ _ _ _ _
   have hc106 := of_decide_eq_true hc106
   refine aw_skip ?_
   try show aw _ _ _ _ _ _
   refine aw_seq ?_
   refine aw_block ?_
   refine aw_seq ?_
   refine aw_reg ?_
   have h107 := My.ext hm99 hxl104
   have hi108 : 0 ≤ ((i : Int) : Int) := by omega
   have hi109 : ((i : Int) : Int) < ((9 : Nat) : Int) := by first | omega | (simp only [List.length_append, List.length_cons, List.length_nil, List.length_map, List.length_set, List.length_replicate, Spec.bytesOf_length]; omega) | (simp; omega)
   obtain ⟨x110, hx111⟩ : ∃ e, ([kind, from_, to_, term, index, logterm, commit, 0, (es.length : Int)])[i]? = some e := ⟨_, List.getElem?_eq_getElem (by first | omega | (simp only [List.length_append, List.length_cons, List.length_nil, List.length_map, List.length_set, List.length_replicate, Spec.bytesOf_length]; omega) | (simp; omega))⟩
   have x110b := hns _ (List.mem_of_getElem? hx111)
   refine st_op (ev_at rfl rfl (My.row h107) (getMap i64c hx111) (by first | rfl | omega | simp) hi108 hi109 el77) rfl rfl rfl ?_
   refine st_op (ev_atL rfl (My.row h107) (getMap i64c hx111) one2 rfl) rfl rfl rfl ?_
   refine st_op (ev_assign rfl) rfl rfl rfl ?_
   try show aw _ _ _ _ _ _
   refine aw_reg ?_
   iterate 2 refine st_op (ev_move rfl) rfl rfl rfl ?_
   refine st_call rfl rfl rfl ent26 rfl rfl rfl ?_
   obtain ⟨_, H113, hs112, A115, c116, hs112v, hm117, hq118, hx114⟩ := num_Put_spec Hl101 H96 A b cp hm103 (by omega) (by first | omega | (simp only [List.length_append, List.length_cons, List.length_nil, List.length_map, List.length_set, List.length_replicate, Spec.bytesOf_length]; omega) | (simp; omega)) x110 ⟨by omega, by omega⟩
   rw [hs112v] at hs112; clear hs112v
   refine ⟨_, H113, hs112, ?_⟩
   have H113n : Hl101.next ≤ H113.next := hx114.1
   refine st_op (ev_assign rfl) rfl rfl rfl ?_
   try show aw _ _ _ _ _ _
   refine aw_reg ?_
   refine st_op (ev_int64 (c := (i : Int) + 1) rfl rfl rfl (by omega) (by omega)) rfl rfl rfl ?_
   refine st_op (ev_move rfl) rfl rfl rfl ?_
   try show aw _ _ _ _ _ _
   have hx119 : Ext H96 H113 := (Ext.then hxl104 hx114 (fun q hq e => by omega))
   refine aw_keep [1, 3, 29, 30, 31] (l' := (.cons 1 (.pointer (some ⟨b1, 0, none⟩)) (.cons 3 (.slice A115 ((b ++ Spec.enc (Spec.zig x110)).length) c116) (.cons 29 (.slice (some ⟨b95, 0, none⟩) 9 9) (.cons 30 (.int .i64 9) (.cons 31 (.int .i64 ((i : Int) + 1)) .nil)))))) (by repeat (first | exact Up.done | refine Up.then ?_ | refine Up.inBlock ?_)) rfl ?_
   exact ih105 (i + 1, A115, c116, (b ++ Spec.enc (Spec.zig x110)), H113) ⟨(show (i + 1) ≤ 9 from (by omega)), (show (b ++ Spec.enc (Spec.zig x110)) = Spec.encs ([kind, from_, to_, term, index, logterm, commit, 0, (es.length : Int)].take (i + 1)) from (by rw [Spec.encs_snoc hx111, ← hb])), (show (b ++ Spec.enc (Spec.zig x110)).length ≤ 10 * (i + 1) from (by rw [List.length_append]; omega)), (show My H96 H113 A115 c116 1 ((b ++ Spec.enc (Spec.zig x110)).map u8c) from hm117), (show Ext H96 H113 from hx119)⟩ (by simp only; omega)
  ·
   rw [Bool.not_eq_true] at hc106; refine aw_condF hc106 rfl ?_
   try show aw _ _ _ _ _ _
   have hc106 := of_decide_eq_false hc106
   refine aw_exit ?_
   try show aw _ _ _ _ _ _
   iterate 2 refine aw_seq ?_
   refine aw_reg ?_
   refine st_op (ev_fieldAddr rfl fa26_8 (o' := 8) rfl) rfl rfl rfl ?_
   have hx121 : Ext H2 Hl101 := (Ext.trans hx100 hxl104)
   have h120 := Ext.blk hx121 (by omega) hB5
   refine st_op (ev_load rfl (lvar_one one22 h120 rfl)) rfl rfl rfl ?_
   refine st_op (ev_lenSl rfl Try.underlying22) rfl rfl rfl ?_
   refine st_op (ev_move rfl) rfl rfl rfl ?_
   try show aw _ _ _ _ _ _
   refine aw_block ?_
   refine aw_keep [1, 3, 40, 41, 42] (l' := (.cons 1 (.pointer (some ⟨b1, 0, none⟩)) (.cons 3 (.slice A b.length cp) (.cons 40 (.slice esA es.length esc) (.cons 41 (.int .i64 (es.length : Int)) (.cons 42 (.int .i64 0) .nil)))))) (by repeat (first | exact Up.done | refine Up.then ?_ | refine Up.inBlock ?_)) rfl ?_
   refine aw_iter (α := Nat × Option Addr × Nat × List Int × Heap) (fun a => es.length - a.1) (fun a => (.cons 1 (.pointer (some ⟨b1, 0, none⟩)) (.cons 3 (.slice a.2.1 a.2.2.2.1.length a.2.2.1) (.cons 40 (.slice esA es.length esc) (.cons 41 (.int .i64 (es.length : Int)) (.cons 42 (.int .i64 (a.1 : Int)) .nil)))))) (fun a => a.2.2.2.2) (fun a => (a.1 ≤ es.length) ∧ (a.2.2.2.1 = b ++ ((es.take a.1).map Spec.encE).flatten) ∧ (a.2.2.2.1.length ≤ 90 + 2550 * a.1) ∧ (My H96 a.2.2.2.2 a.2.1 a.2.2.1 1 (a.2.2.2.1.map u8c)) ∧ (Fr (fun q => (H96.next ≤ q ∧ q < Hl101.next ∧ ZB Hl101 q 1)) Hl101 a.2.2.2.2)) (0, A, cp, b, Hl101) ⟨(show 0 ≤ es.length from Nat.zero_le _), (show b = b ++ ((es.take 0).map Spec.encE).flatten from (by simp)), (show b.length ≤ 90 + 2550 * 0 from (by omega)), (show My H96 Hl101 A cp 1 (b.map u8c) from hm103), (show Fr (fun q => (H96.next ≤ q ∧ q < Hl101.next ∧ ZB Hl101 q 1)) Hl101 Hl101 from (Fr.refl _ Hl101))⟩ ?_
   rintro ⟨j, A2, cp2, b2, Hl122⟩ ⟨hj, hb2, hbl2, hm123, hxl124⟩ ih125
   replace hj : j ≤ es.length := hj
   replace hb2 : b2 = b ++ ((es.take j).map Spec.encE).flatten := hb2
   replace hbl2 : b2.length ≤ 90 + 2550 * j := hbl2
   replace hm123 : My H96 Hl122 A2 cp2 1 (b2.map u8c) := hm123
   replace hxl124 : Fr (fun q => (H96.next ≤ q ∧ q < Hl101.next ∧ ZB Hl101 q 1)) Hl101 Hl122 := hxl124
   show aw _ _ _ (RL _ (.cons 1 (.pointer (some ⟨b1, 0, none⟩)) (.cons 3 (.slice A2 b2.length cp2) (.cons 40 (.slice esA es.length esc) (.cons 41 (.int .i64 (es.length : Int)) (.cons 42 (.int .i64 (j : Int)) .nil)))))) Hl122 _
   have Hl122n : Hl101.next ≤ Hl122.next := hxl124.1
   refine aw_seq ?_
   refine aw_reg ?_
   refine st_op (ev_int rfl rfl rfl) rfl rfl rfl ?_
   try show aw _ _ _ _ _ _
   refine aw_seq ?_
   by_cases hc126 : (decide ((j : Int) < (es.length : Int))) = true
   ·
    refine aw_condT hc126 rfl ?_
    try show aw _ _ _ _ _ _
    have hc126 := of_decide_eq_true hc126
    refine aw_skip ?_
    try show aw _ _ _ _ _ _
    refine aw_seq ?_
    refine aw_block ?_
    refine aw_seq ?_
    refine aw_reg ?_
    have hx128 : Ext H Hl122 := (Ext.then (Ext.trans (Ext.trans hx6 hx100) hxl104) hxl124 (fun q hq e => by omega))
    have h127 := Row.ext hes hx128
    have hi129 : 0 ≤ ((j : Int) : Int) := by omega
    have hi130 : ((j : Int) : Int) < ((es.length : Nat) : Int) := by first | omega | (simp only [List.length_append, List.length_cons, List.length_nil, List.length_map, List.length_set, List.length_replicate, Spec.bytesOf_length]; omega) | (simp; omega)
    obtain ⟨x131, hx132⟩ : ∃ e, es[j]? = some e := ⟨_, List.getElem?_eq_getElem (by first | omega | (simp only [List.length_append, List.length_cons, List.length_nil, List.length_map, List.length_set, List.length_replicate, Spec.bytesOf_length]; omega) | (simp; omega))⟩
    refine st_op (ev_at rfl rfl h127 (getMap Entry.cells hx132) (by first | rfl | omega | simp) hi129 hi130 el22) rfl rfl rfl ?_
    refine st_op (ev_atN (cs := [.int .i64 x131.index, .int .i64 x131.term, .int .i64 x131.kind, .string x131.data]) rfl h127 (getMap Entry.cells hx132) many45 rfl rfl (by decide)) rfl rfl rfl ?_
    obtain ⟨b133, H134, he135, b133e, H134n_, hB137, f136⟩ := mem_alloc Hl122 zero45
    refine st_op (he135 _ _ _ _ _ _ _) rfl rfl rfl ?_
    have hx138 : Ext Hl122 H134 := Ext.new (by omega) H134n_ f136
    have H134n : Hl122.next ≤ H134.next := hx138.1
    obtain ⟨H139, he140, H139n_, hB141, f142⟩ := mem_store (v := .agg #[.int .i64 x131.index, .int .i64 x131.term, .int .i64 x131.kind, .string x131.data]) (o := 0) (cs' := [.int .i64 x131.index, .int .i64 x131.term, .int .i64 x131.kind, .string x131.data]) 4 rfl rfl size45 hB137 rfl rfl rfl
    refine st_op0 (he140 _ _ _ _ _ _ _ _ _ rfl rfl) rfl rfl ?_
    have hf143 : Fr (fun q => q = b133) H134 H139 := Fr.write H139n_ f142
    have H139n : H134.next ≤ H139.next := hf143.1
    try show aw _ _ _ _ _ _
    refine aw_reg ?_
    refine st_op (ev_move rfl) rfl rfl rfl ?_
    refine st_op (ev_load rfl (lvar_part (l := [.int .i64 x131.index, .int .i64 x131.term, .int .i64 x131.kind, .string x131.data]) many45 hB141 rfl rfl (by decide))) rfl rfl rfl ?_
    refine st_op (ev_build zero82 pl82 (parts := [(2, .agg #[.int .i64 x131.index, .int .i64 x131.term, .int .i64 x131.kind, .string x131.data])]) rfl (cs := [.bool false, .int .i64 0, .int .i64 0, .int .i64 x131.index, .int .i64 x131.term, .int .i64 x131.kind, .string x131.data]) rfl) rfl rfl rfl ?_
    refine st_call rfl rfl rfl ent45 rfl rfl rfl ?_
    obtain ⟨_, H145, hs144, A147, c148, hs144v, hm149, hq150, hx146⟩ := wal_Encode_spec H139 false (0 : Int) (0 : Int) x131.index x131.term x131.kind x131.data
    rw [hs144v] at hs144; clear hs144v
    refine ⟨_, H145, hs144, ?_⟩
    have H145n : H139.next ≤ H145.next := hx146.1
    have hx152 : Ext Hl122 H145 := (Ext.trans (Ext.then hx138 hf143 (fun q hq e => by omega)) hx146)
    have h151 := My.ext hm123 hx152
    obtain ⟨A153, c154, H155, W156, he157, hm158, hf159⟩ := mem_append (f := u8c) (old := b2) (new := (Spec.encodeF false (0 : Int) (0 : Int) x131.index x131.term x131.kind x131.data)) (m := b2.length) (mx := (Spec.encodeF false (0 : Int) (0 : Int) x131.index x131.term x131.kind x131.data).length) (c := cp2) (by first | rfl | simp) (by first | rfl | simp) eok29 (by decide) hm123 h151 (by omega) (((My.row hm149)).srcF (by decide) (by first | rfl | simp)) rfl u8c_len u8c_one (by first | omega | (simp only [List.length_append, List.length_cons, List.length_nil, List.length_map, List.length_set, List.length_replicate, Spec.bytesOf_length]; omega) | (simp; omega)) (by first | omega | (simp only [List.length_append, List.length_cons, List.length_nil, List.length_map, List.length_set, List.length_replicate, Spec.bytesOf_length]; omega) | (simp; omega))
    refine st_op (he157 _ _ _ _ _ _ _ _ _ _ rfl rfl isrow29) rfl rfl rfl ?_
    have H155n : H145.next ≤ H155.next := hf159.1
    refine st_op (ev_assign rfl) rfl rfl rfl ?_
    try show aw _ _ _ _ _ _
    refine aw_reg ?_
    refine st_op (ev_int64 (c := (j : Int) + 1) rfl rfl rfl (by omega) (by omega)) rfl rfl rfl ?_
    refine st_op (ev_move rfl) rfl rfl rfl ?_
    try show aw _ _ _ _ _ _
    refine aw_keep [1, 3, 40, 41, 42] (l' := (.cons 1 (.pointer (some ⟨b1, 0, none⟩)) (.cons 3 (.slice A153 ((b2 ++ (Spec.encodeF false (0 : Int) (0 : Int) x131.index x131.term x131.kind x131.data)).length) c154) (.cons 40 (.slice esA es.length esc) (.cons 41 (.int .i64 (es.length : Int)) (.cons 42 (.int .i64 ((j : Int) + 1)) .nil)))))) (by repeat (first | exact Up.done | refine Up.then ?_ | refine Up.inBlock ?_)) rfl ?_
    exact ih125 (j + 1, A153, c154, (b2 ++ (Spec.encodeF false (0 : Int) (0 : Int) x131.index x131.term x131.kind x131.data)), H155) ⟨(show (j + 1) ≤ es.length from (by omega)), (show (b2 ++ (Spec.encodeF false (0 : Int) (0 : Int) x131.index x131.term x131.kind x131.data)) = b ++ ((es.take (j + 1)).map Spec.encE).flatten from (by rw [List.take_add_one, hx132, List.map_append, List.flatten_append, hb2, List.append_assoc]; simp [Spec.encE])), (show (b2 ++ (Spec.encodeF false (0 : Int) (0 : Int) x131.index x131.term x131.kind x131.data)).length ≤ 90 + 2550 * (j + 1) from (by rw [List.length_append]; have := @Spec.encodeF_len false 0 0 x131.index x131.term x131.kind x131.data; omega)), (show My H96 H155 A153 c154 1 ((b2 ++ (Spec.encodeF false (0 : Int) (0 : Int) x131.index x131.term x131.kind x131.data)).map u8c) from hm158), (show Fr (fun q => (H96.next ≤ q ∧ q < Hl101.next ∧ ZB Hl101 q 1)) Hl101 H155 from (Fr.transG (Fr.trans (Fr.transG (Fr.trans (Fr.transG (Fr.refl (fun q => (H96.next ≤ q ∧ q < Hl101.next ∧ ZB Hl101 q 1)) Hl101) hxl124 (fun q hq hE e => (⟨by omega, by omega, ZB.back hE e.2.2⟩))) (hx138.fr fun _ => False) (fun q hq (e : False) => e.elim)) hf143 (fun q hq hE e => absurd hq (by omega))) (hx146.fr fun _ => False) (fun q hq (e : False) => e.elim)) hf159 (fun q hq hE e => (⟨by omega, by omega, ZB.back hE e.2.2⟩))))⟩ (by simp only; omega)
   ·
    rw [Bool.not_eq_true] at hc126; refine aw_condF hc126 rfl ?_
    try show aw _ _ _ _ _ _
    have hc126 := of_decide_eq_false hc126
    refine aw_exit ?_
    try show aw _ _ _ _ _ _
    iterate 2 refine aw_seq ?_
    refine aw_reg ?_
    refine st_op (ev_fieldAddr rfl fa26_0 (o' := 0) rfl) rfl rfl rfl ?_
    have hx161 : Ext H2 Hl122 := (Ext.then hx121 hxl124 (fun q hq e => by omega))
    have h160 := Ext.blk hx161 (by omega) hB5
    refine st_op (ev_load rfl (lvar_one one3 h160 rfl)) rfl rfl rfl ?_
    refine st_op (ev_int rfl rfl rfl) rfl rfl rfl ?_
    try show aw _ _ _ _ _ _
    by_cases hc162 : (kind == 5) = true
    ·
     refine aw_condT hc162 rfl ?_
     try show aw _ _ _ _ _ _
     have hc162 := eq_of_beq hc162
     refine aw_reg ?_
     refine st_op (ev_move rfl) rfl rfl rfl ?_
     refine st_op (ev_fieldAddr rfl fa26_9 (o' := 9) rfl) rfl rfl rfl ?_
     refine st_op (ev_load rfl (lvar_part (l := [.int .i64 s_index, .int .i64 s_term, .string s_conf, .string s_data]) many24 h160 rfl rfl (by decide))) rfl rfl rfl ?_
     refine st_call rfl rfl rfl ent44 rfl rfl rfl ?_
     obtain ⟨_, H164, hs163, A166, c167, hs163v, hm168, hq169, hq170, hq171, hx165⟩ := wal_PutSnap_spec Hl122 s_index s_term s_conf s_data
     rw [hs163v] at hs163; clear hs163v
     refine ⟨_, H164, hs163, ?_⟩
     have H164n : Hl122.next ≤ H164.next := hx165.1
     have h172 := My.ext hm123 hx165
     obtain ⟨A173, c174, H175, W176, he177, hm178, hf179⟩ := mem_append (f := u8c) (old := b2) (new := (Spec.snapF s_index s_term s_conf s_data)) (m := b2.length) (mx := (Spec.snapF s_index s_term s_conf s_data).length) (c := cp2) (by first | rfl | simp) (by first | rfl | simp) eok29 (by decide) hm123 h172 (by omega) (((My.row hm168)).srcF (by decide) (by first | rfl | simp)) rfl u8c_len u8c_one (by first | omega | (simp only [List.length_append, List.length_cons, List.length_nil, List.length_map, List.length_set, List.length_replicate, Spec.bytesOf_length]; omega) | (simp; omega)) (by first | omega | (simp only [List.length_append, List.length_cons, List.length_nil, List.length_map, List.length_set, List.length_replicate, Spec.bytesOf_length]; omega) | (simp; omega))
     refine st_op (he177 _ _ _ _ _ _ _ _ _ _ rfl rfl isrow29) rfl rfl rfl ?_
     have H175n : H164.next ≤ H175.next := hf179.1
     refine st_op (ev_assign rfl) rfl rfl rfl ?_
     try show aw _ _ _ _ _ _
     refine aw_seq ?_
     refine aw_reg ?_
     refine st_op (ev_move rfl) rfl rfl rfl ?_
     refine st_op (ev_assign rfl) rfl rfl rfl ?_
     try show aw _ _ _ _ _ _
     refine aw_ret ?_
     have hx180 : Ext H H175 := (Ext.then (Ext.trans (Ext.then (Ext.trans (Ext.trans hx6 hx100) hxl104) hxl124 (fun q hq e => by omega)) hx165) hf179 (fun q hq e => by omega))
     have hres : (Spec.textF (⟨kind, from_, to_, term, index, logterm, commit, yes, es, ⟨s_index, s_term, s_conf, s_data⟩⟩ : Msg)) = (b2 ++ (Spec.snapF s_index s_term s_conf s_data)) := by show Spec.encs [kind, from_, to_, term, index, logterm, commit, (if yes = true then 1 else 0), (es.length : Int)] ++ (es.map Spec.encE).flatten ++ (if kind = 5 then Spec.snapF s_index s_term s_conf s_data else []) = _; have e1 : b = Spec.encs [kind, from_, to_, term, index, logterm, commit, 0, (es.length : Int)] := (by rw [hb, List.take_of_length_le (by simp; omega)]); have e2 : b2 = b ++ (es.map Spec.encE).flatten := (by rw [hb2, List.take_of_length_le (by omega)]); rw [e2, e1]; (first | rw [if_pos (show yes = true by assumption)] | rw [if_neg (show ¬ yes = true from fun h => Bool.noConfusion (h.symm.trans (show yes = false by assumption)))]); (first | rw [if_pos (show kind = 5 by assumption)] | rw [if_neg (show ¬ kind = 5 by assumption), List.append_nil])
     exact ⟨.slice A173 ((b2 ++ (Spec.snapF s_index s_term s_conf s_data)).length) c174, rfl, A173, c174, by first | (rw [hres]; first | done | rfl | simp; done) | rfl, (by rw [hres]; exact (My.older hm178 (by omega))), (by exact Spec.textF_len (m := (⟨kind, from_, to_, term, index, logterm, commit, yes, es, ⟨s_index, s_term, s_conf, s_data⟩⟩ : Msg)) um), hx180⟩
    ·
     rw [Bool.not_eq_true] at hc162; refine aw_condF hc162 rfl ?_
     try show aw _ _ _ _ _ _
     have hc162 := ne_of_beq_false hc162
     refine aw_skip ?_
     try show aw _ _ _ _ _ _
     refine aw_seq ?_
     refine aw_reg ?_
     refine st_op (ev_move rfl) rfl rfl rfl ?_
     refine st_op (ev_assign rfl) rfl rfl rfl ?_
     try show aw _ _ _ _ _ _
     refine aw_ret ?_
     have hx181 : Ext H Hl122 := (Ext.then (Ext.trans (Ext.trans hx6 hx100) hxl104) hxl124 (fun q hq e => by omega))
     have hres : (Spec.textF (⟨kind, from_, to_, term, index, logterm, commit, yes, es, ⟨s_index, s_term, s_conf, s_data⟩⟩ : Msg)) = b2 := by show Spec.encs [kind, from_, to_, term, index, logterm, commit, (if yes = true then 1 else 0), (es.length : Int)] ++ (es.map Spec.encE).flatten ++ (if kind = 5 then Spec.snapF s_index s_term s_conf s_data else []) = _; have e1 : b = Spec.encs [kind, from_, to_, term, index, logterm, commit, 0, (es.length : Int)] := (by rw [hb, List.take_of_length_le (by simp; omega)]); have e2 : b2 = b ++ (es.map Spec.encE).flatten := (by rw [hb2, List.take_of_length_le (by omega)]); rw [e2, e1]; (first | rw [if_pos (show yes = true by assumption)] | rw [if_neg (show ¬ yes = true from fun h => Bool.noConfusion (h.symm.trans (show yes = false by assumption)))]); (first | rw [if_pos (show kind = 5 by assumption)] | rw [if_neg (show ¬ kind = 5 by assumption), List.append_nil])
     exact ⟨.slice A2 b2.length cp2, rfl, A2, cp2, by first | (rw [hres]; first | done | rfl | simp; done) | rfl, (by rw [hres]; exact (My.older hm123 (by omega))), (by exact Spec.textF_len (m := (⟨kind, from_, to_, term, index, logterm, commit, yes, es, ⟨s_index, s_term, s_conf, s_data⟩⟩ : Msg)) um), hx181⟩
theorem msg_Encode_spec (H : Heap) (kind : Int) (from_ : Int) (to_ : Int) (term : Int) (index : Int) (logterm : Int) (commit : Int) (yes : Bool) (esA : Option Addr) (es : List Entry) (esc : Nat) (hes : Row H esA esc 4 (es.map Entry.cells)) (ces : es.length ≤ esc) (les : es.length ≤ 1048576) (s_index : Int) (s_term : Int) (s_conf : ByteArray) (hs_conf : s_conf.size ≤ 1073741824) (s_data : ByteArray) (hs_data : s_data.size ≤ 1073741824) : ∃ v H', Spec Try.prog 11 [.agg #[.int .i64 kind, .int .i64 from_, .int .i64 to_, .int .i64 term, .int .i64 index, .int .i64 logterm, .int .i64 commit, .bool yes, .slice esA es.length esc, .int .i64 s_index, .int .i64 s_term, .string s_conf, .string s_data]] H v H' ∧ (∃ rA0 rc0, (v = .slice rA0 ((Spec.encM (⟨kind, from_, to_, term, index, logterm, commit, yes, es, ⟨s_index, s_term, s_conf, s_data⟩⟩ : Msg)).length) rc0) ∧ (My H H' rA0 rc0 1 ((Spec.encM (⟨kind, from_, to_, term, index, logterm, commit, yes, es, ⟨s_index, s_term, s_conf, s_data⟩⟩ : Msg)).map u8c)) ∧ (Spec.Bytes (Spec.encM (⟨kind, from_, to_, term, index, logterm, commit, yes, es, ⟨s_index, s_term, s_conf, s_data⟩⟩ : Msg))) ∧ (((Spec.encM (⟨kind, from_, to_, term, index, logterm, commit, yes, es, ⟨s_index, s_term, s_conf, s_data⟩⟩ : Msg))).length ≤ 15000000) ∧ (rA0 = none ↔ Spec.mayMsg kind from_ to_ term index logterm commit yes es s_index s_term s_conf s_data = false) ∧ (Ext H H')) := by
 refine spec_go1 E0_ok 31 (f := 11) Try.func11 rfl rfl rfl ?_
 refine aw_seq ?_
 refine aw_reg ?_
 obtain ⟨b1, H2, he3, b1e, H2n_, hB5, f4⟩ := mem_box (P := Try.prog) H (v := .agg #[.int .i64 kind, .int .i64 from_, .int .i64 to_, .int .i64 term, .int .i64 index, .int .i64 logterm, .int .i64 commit, .bool yes, .slice esA es.length esc, .int .i64 s_index, .int .i64 s_term, .string s_conf, .string s_data]) (cs := [.int .i64 kind, .int .i64 from_, .int .i64 to_, .int .i64 term, .int .i64 index, .int .i64 logterm, .int .i64 commit, .bool yes, .slice esA es.length esc, .int .i64 s_index, .int .i64 s_term, .string s_conf, .string s_data]) rfl rfl
 refine st_op (he3 _ _ _ _ _ _ _ _ _ rfl) rfl rfl rfl ?_
 have hx6 : Ext H H2 := Ext.new (by omega) H2n_ f4
 have H2n : H.next ≤ H2.next := hx6.1
 refine st_op (ev_assign rfl) rfl rfl rfl ?_
 try show aw _ _ _ _ _ _
 iterate 2 refine aw_seq ?_
 refine aw_reg ?_
 refine st_op (ev_load rfl (lvar_part (l := [.int .i64 kind, .int .i64 from_, .int .i64 to_, .int .i64 term, .int .i64 index, .int .i64 logterm, .int .i64 commit, .bool yes, .slice esA es.length esc, .int .i64 s_index, .int .i64 s_term, .string s_conf, .string s_data]) many26 hB5 rfl rfl (by decide))) rfl rfl rfl ?_
 refine st_call rfl rfl rfl ent23 rfl rfl rfl ?_
 have h7 := Row.ext hes hx6
 obtain ⟨_, H9, hs8, hs8v, hx10⟩ := raft_May_spec H2 kind from_ to_ term index logterm commit yes esA es esc h7 ces (by omega) s_index s_term s_conf (by omega) s_data (by omega)
 rw [hs8v] at hs8; clear hs8v
 refine ⟨_, H9, hs8, ?_⟩
 have H9n : H2.next ≤ H9.next := hx10.1
 refine st_op (ev_not rfl) rfl rfl rfl ?_
 try show aw _ _ _ _ _ _
 by_cases hc11 : (!(Spec.mayMsg kind from_ to_ term index logterm commit yes es s_index s_term s_conf s_data)) = true
 ·
  refine aw_condT hc11 rfl ?_
  try show aw _ _ _ _ _ _
  replace hc11 : (Spec.mayMsg kind from_ to_ term index logterm commit yes es s_index s_term s_conf s_data) = false := by rw [Bool.not_eq_true'] at hc11; exact hc11
  refine aw_seq ?_
  refine aw_reg ?_
  refine st_op (ev_assign rfl) rfl rfl rfl ?_
  try show aw _ _ _ _ _ _
  refine aw_ret ?_
  have hm12 : My H9 H9 none 0 1 (([] : List Int).map u8c) := .nil
  have hx13 : Ext H H9 := (Ext.trans hx6 hx10)
  have hres : (Spec.encM (⟨kind, from_, to_, term, index, logterm, commit, yes, es, ⟨s_index, s_term, s_conf, s_data⟩⟩ : Msg)) = ([] : List Int) := by unfold Spec.encM; rw [if_neg (by simp_all [Spec.mayM])]
  exact ⟨.slice none 0 0, rfl, none, 0, by first | (rw [hres]; first | done | rfl | simp; done) | rfl, (by rw [hres]; exact (My.older hm12 (by omega))), (by exact Spec.encM_bytes _), (by exact Spec.encM_len _), (by exact ⟨fun _ => by simp_all, fun _ => rfl⟩), hx13⟩
 ·
  rw [Bool.not_eq_true] at hc11; refine aw_condF hc11 rfl ?_
  try show aw _ _ _ _ _ _
  replace hc11 : (Spec.mayMsg kind from_ to_ term index logterm commit yes es s_index s_term s_conf s_data) = true := by rw [Bool.not_eq_false'] at hc11; exact hc11
  refine aw_skip ?_
  try show aw _ _ _ _ _ _
  refine aw_seq ?_
  refine aw_reg ?_
  have h14 := Ext.blk hx10 (by omega) hB5
  refine st_op (ev_load rfl (lvar_part (l := [.int .i64 kind, .int .i64 from_, .int .i64 to_, .int .i64 term, .int .i64 index, .int .i64 logterm, .int .i64 commit, .bool yes, .slice esA es.length esc, .int .i64 s_index, .int .i64 s_term, .string s_conf, .string s_data]) many26 h14 rfl rfl (by decide))) rfl rfl rfl ?_
  refine st_call rfl rfl rfl ent24 rfl rfl rfl ?_
  have h15 := Row.ext h7 hx10
  obtain ⟨_, H17, hs16, A19, c20, hs16v, hm21, hq22, hx18⟩ := msg_text_spec H9 kind from_ to_ term index logterm commit yes esA es esc h15 ces (by omega) s_index s_term s_conf (by omega) s_data (by omega) (by assumption)
  rw [hs16v] at hs16; clear hs16v
  refine ⟨_, H17, hs16, ?_⟩
  have H17n : H9.next ≤ H17.next := hx18.1
  refine st_op (ev_assign rfl) rfl rfl rfl ?_
  try show aw _ _ _ _ _ _
  refine aw_seq ?_
  refine aw_reg ?_
  refine st_op (ev_move rfl) rfl rfl rfl ?_
  refine st_op (ev_lenSl rfl Try.underlying29) rfl rfl rfl ?_
  refine st_call rfl rfl rfl ent26 rfl rfl rfl ?_
  have hm23 : My H17 H17 none 0 1 (([] : List Int).map u8c) := .nil
  obtain ⟨_, H25, hs24, A27, c28, hs24v, hm29, hq30, hx26⟩ := num_Put_spec H17 H17 none ([] : List Int) 0 hm23 (by omega) (by first | omega | (simp only [List.length_append, List.length_cons, List.length_nil, List.length_map, List.length_set, List.length_replicate, Spec.bytesOf_length]; omega) | (simp; omega)) ((Spec.textF (⟨kind, from_, to_, term, index, logterm, commit, yes, es, ⟨s_index, s_term, s_conf, s_data⟩⟩ : Msg)).length : Int) ⟨by omega, by omega⟩
  rw [hs24v] at hs24; clear hs24v
  refine ⟨_, H25, hs24, ?_⟩
  have H25n : H17.next ≤ H25.next := hx26.1
  refine st_call rfl rfl rfl ent25 rfl rfl rfl ?_
  obtain ⟨_, H32, hs31, A34, c35, hs31v, hm36, hq37, hq38, hx33⟩ := frame_Seal_spec H25 7 (by decide) A27 (([] : List Int) ++ Spec.enc (Spec.zig ((Spec.textF (⟨kind, from_, to_, term, index, logterm, commit, yes, es, ⟨s_index, s_term, s_conf, s_data⟩⟩ : Msg)).length : Int))) c28 (My.row hm29) (My.capF hm29 (by first | omega | (simp only [List.length_append, List.length_cons, List.length_nil, List.length_map, List.length_set, List.length_replicate, Spec.bytesOf_length]; omega) | (simp; omega))) (by first | omega | (simp only [List.length_append, List.length_cons, List.length_nil, List.length_map, List.length_set, List.length_replicate, Spec.bytesOf_length]; omega) | (simp; omega)) (by first | assumption | exact Spec.Bytes.nil | exact Spec.encM_bytes _ | exact Spec.textF_bytes _ | exact Spec.bytes_of _ | (repeat' first | assumption | exact Spec.Bytes.nil | exact Spec.bytes_of _ | exact Spec.enc_bytes _ | exact Spec.four_bytes _ | exact Spec.sealF_bytes (by assumption) | apply Spec.Bytes.append | apply Spec.Bytes.cons (by omega) | apply Spec.Bytes.take | apply Spec.Bytes.drop))
  rw [hs31v] at hs31; clear hs31v
  refine ⟨_, H32, hs31, ?_⟩
  have H32n : H25.next ≤ H32.next := hx33.1
  refine st_op (ev_assign rfl) rfl rfl rfl ?_
  try show aw _ _ _ _ _ _
  refine aw_seq ?_
  refine aw_block ?_
  have hlen := Spec.framesK_max 8 (Spec.textF (⟨kind, from_, to_, term, index, logterm, commit, yes, es, ⟨s_index, s_term, s_conf, s_data⟩⟩ : Msg))
  have hll := Spec.lenE_len (⟨kind, from_, to_, term, index, logterm, commit, yes, es, ⟨s_index, s_term, s_conf, s_data⟩⟩ : Msg) (by assumption)
  have hx43 : Ext H17 H32 := (Ext.trans (Ext.then (Ext.refl H17) hx26 (fun q hq e => by omega)) hx33)
  have h42 := My.ext hm21 hx43
  refine aw_keep [3, 4] (l' := (.cons 3 (.slice A19 ((Spec.textF (⟨kind, from_, to_, term, index, logterm, commit, yes, es, ⟨s_index, s_term, s_conf, s_data⟩⟩ : Msg)).length) c20) (.cons 4 (.slice A34 ((Spec.sealF (7 : Int) (([] : List Int) ++ Spec.enc (Spec.zig ((Spec.textF (⟨kind, from_, to_, term, index, logterm, commit, yes, es, ⟨s_index, s_term, s_conf, s_data⟩⟩ : Msg)).length : Int)))).length) c35) .nil))) (by repeat (first | exact Up.done | refine Up.then ?_ | refine Up.inBlock ?_)) rfl ?_
  refine aw_iter (α := Option Addr × Nat × List Int × Option Addr × Nat × List Int × Heap) (fun a => a.2.2.1.length) (fun a => (.cons 3 (.slice a.1 a.2.2.1.length a.2.1) (.cons 4 (.slice a.2.2.2.1 a.2.2.2.2.2.1.length a.2.2.2.2.1) .nil))) (fun a => a.2.2.2.2.2.2) (fun a => (Spec.encM (⟨kind, from_, to_, term, index, logterm, commit, yes, es, ⟨s_index, s_term, s_conf, s_data⟩⟩ : Msg) = a.2.2.2.2.2.1 ++ Spec.flat (Spec.framesK 8 a.2.2.1)) ∧ (Spec.Bytes a.2.2.1) ∧ (a.2.2.1.length ≤ 1800000) ∧ (a.2.2.2.2.2.1.length + 8 * a.2.2.1.length ≤ 30000000) ∧ (Row H17 a.1 a.2.1 1 (a.2.2.1.map u8c)) ∧ (a.2.2.1.length ≤ a.2.1) ∧ (My H25 a.2.2.2.2.2.2 a.2.2.2.1 a.2.2.2.2.1 1 (a.2.2.2.2.2.1.map u8c)) ∧ (Fr (fun q => (H25.next ≤ q ∧ q < H32.next ∧ ZB H32 q 1)) H32 a.2.2.2.2.2.2)) (A19, c20, (Spec.textF (⟨kind, from_, to_, term, index, logterm, commit, yes, es, ⟨s_index, s_term, s_conf, s_data⟩⟩ : Msg)), A34, c35, (Spec.sealF (7 : Int) (([] : List Int) ++ Spec.enc (Spec.zig ((Spec.textF (⟨kind, from_, to_, term, index, logterm, commit, yes, es, ⟨s_index, s_term, s_conf, s_data⟩⟩ : Msg)).length : Int)))), H32) ⟨(show Spec.encM (⟨kind, from_, to_, term, index, logterm, commit, yes, es, ⟨s_index, s_term, s_conf, s_data⟩⟩ : Msg) = (Spec.sealF (7 : Int) (([] : List Int) ++ Spec.enc (Spec.zig ((Spec.textF (⟨kind, from_, to_, term, index, logterm, commit, yes, es, ⟨s_index, s_term, s_conf, s_data⟩⟩ : Msg)).length : Int)))) ++ Spec.flat (Spec.framesK 8 (Spec.textF (⟨kind, from_, to_, term, index, logterm, commit, yes, es, ⟨s_index, s_term, s_conf, s_data⟩⟩ : Msg))) from (by rw [Spec.encM, if_pos (by assumption)]; unfold Spec.lenE Spec.sealF; rw [if_neg (by simp only [List.nil_append]; omega)]; rfl)), (show Spec.Bytes (Spec.textF (⟨kind, from_, to_, term, index, logterm, commit, yes, es, ⟨s_index, s_term, s_conf, s_data⟩⟩ : Msg)) from (Spec.textF_bytes _)), (show (Spec.textF (⟨kind, from_, to_, term, index, logterm, commit, yes, es, ⟨s_index, s_term, s_conf, s_data⟩⟩ : Msg)).length ≤ 1800000 from (Spec.textF_len (by assumption))), (show (Spec.sealF (7 : Int) (([] : List Int) ++ Spec.enc (Spec.zig ((Spec.textF (⟨kind, from_, to_, term, index, logterm, commit, yes, es, ⟨s_index, s_term, s_conf, s_data⟩⟩ : Msg)).length : Int)))).length + 8 * (Spec.textF (⟨kind, from_, to_, term, index, logterm, commit, yes, es, ⟨s_index, s_term, s_conf, s_data⟩⟩ : Msg)).length ≤ 30000000 from (by have h1 : (Spec.sealF (7 : Int) (([] : List Int) ++ Spec.enc (Spec.zig ((Spec.textF (⟨kind, from_, to_, term, index, logterm, commit, yes, es, ⟨s_index, s_term, s_conf, s_data⟩⟩ : Msg)).length : Int)))).length ≤ 4007 := Spec.sealF_len; have h2 := Spec.textF_len (m := (⟨kind, from_, to_, term, index, logterm, commit, yes, es, ⟨s_index, s_term, s_conf, s_data⟩⟩ : Msg)) (by assumption); omega)), (show Row H17 A19 c20 1 ((Spec.textF (⟨kind, from_, to_, term, index, logterm, commit, yes, es, ⟨s_index, s_term, s_conf, s_data⟩⟩ : Msg)).map u8c) from (My.row hm21)), (show (Spec.textF (⟨kind, from_, to_, term, index, logterm, commit, yes, es, ⟨s_index, s_term, s_conf, s_data⟩⟩ : Msg)).length ≤ c20 from (My.capF h42 (by first | omega | (simp only [List.length_append, List.length_cons, List.length_nil, List.length_map, List.length_set, List.length_replicate, Spec.bytesOf_length]; omega) | (simp; omega)))), (show My H25 H32 A34 c35 1 ((Spec.sealF (7 : Int) (([] : List Int) ++ Spec.enc (Spec.zig ((Spec.textF (⟨kind, from_, to_, term, index, logterm, commit, yes, es, ⟨s_index, s_term, s_conf, s_data⟩⟩ : Msg)).length : Int)))).map u8c) from hm36), (show Fr (fun q => (H25.next ≤ q ∧ q < H32.next ∧ ZB H32 q 1)) H32 H32 from (Fr.refl _ H32))⟩ ?_
  rintro ⟨bA, bc, b, A, cp, out, Hl39⟩ ⟨hS, hbb, hbl, hol, hr40, hr41, hm44, hxl45⟩ ih46
  replace hS : Spec.encM (⟨kind, from_, to_, term, index, logterm, commit, yes, es, ⟨s_index, s_term, s_conf, s_data⟩⟩ : Msg) = out ++ Spec.flat (Spec.framesK 8 b) := hS
  replace hbb : Spec.Bytes b := hbb
  replace hbl : b.length ≤ 1800000 := hbl
  replace hol : out.length + 8 * b.length ≤ 30000000 := hol
  replace hr40 : Row H17 bA bc 1 (b.map u8c) := hr40
  replace hr41 : b.length ≤ bc := hr41
  replace hm44 : My H25 Hl39 A cp 1 (out.map u8c) := hm44
  replace hxl45 : Fr (fun q => (H25.next ≤ q ∧ q < H32.next ∧ ZB H32 q 1)) H32 Hl39 := hxl45
  show aw _ _ _ (RL _ (.cons 3 (.slice bA b.length bc) (.cons 4 (.slice A out.length cp) .nil))) Hl39 _
  have Hl39n : H32.next ≤ Hl39.next := hxl45.1
  iterate 2 refine aw_seq ?_
  refine aw_reg ?_
  refine st_op (ev_move rfl) rfl rfl rfl ?_
  refine st_op (ev_lenSl rfl Try.underlying29) rfl rfl rfl ?_
  refine st_op (ev_int rfl rfl rfl) rfl rfl rfl ?_
  try show aw _ _ _ _ _ _
  by_cases hc47 : (decide ((b.length : Int) > 0)) = true
  ·
   refine aw_condT hc47 rfl ?_
   try show aw _ _ _ _ _ _
   have hc47 := of_decide_eq_true hc47
   refine aw_skip ?_
   try show aw _ _ _ _ _ _
   refine aw_block ?_
   refine aw_seq ?_
   refine aw_reg ?_
   refine st_op (ev_move rfl) rfl rfl rfl ?_
   refine st_op (ev_lenSl rfl Try.underlying29) rfl rfl rfl ?_
   obtain ⟨z48, hz49, hz50⟩ : ∃ z, (if 3000 < (b.length : Int) then 3000 else (b.length : Int)) = z ∧ ((b.length : Int) ≥ z ∧ 3000 ≥ z ∧ (z = (b.length : Int) ∨ z = 3000)) := ⟨_, rfl, by split <;> omega⟩
   refine st_op (ev_minE hz49 rfl rfl) rfl rfl rfl ?_
   refine st_op (ev_assign rfl) rfl rfl rfl ?_
   try show aw _ _ _ _ _ _
   refine aw_seq ?_
   refine aw_reg ?_
   iterate 3 refine st_op (ev_move rfl) rfl rfl rfl ?_
   have hx60 : Ext H17 Hl39 := (Ext.then hx43 hxl45 (fun q hq e => by omega))
   have h59 := Row.ext hr40 hx60
   obtain ⟨A51, c52, L53, hL54, hl55, hs56, hr57, hc58⟩ := sliceA_typed u8c el29 (by decide) h59 hr41 (lo := none) (hi := some (.int .i64 z48)) (l := 0) (h := (z48).toNat) (by rw [Option.isSome_some, if_pos rfl]; exact bound_int (by first | omega | (simp only [List.length_append, List.length_cons, List.length_nil, List.length_map, List.length_set, List.length_replicate, Spec.bytesOf_length]; omega) | (simp; omega)) (by first | omega | (simp only [List.length_append, List.length_cons, List.length_nil, List.length_map, List.length_set, List.length_replicate, Spec.bytesOf_length]; omega) | (simp; omega)) (by first | rfl | omega)) rfl (by first | omega | (simp only [List.length_append, List.length_cons, List.length_nil, List.length_map, List.length_set, List.length_replicate, Spec.bytesOf_length]; omega) | (simp; omega)) (by first | omega | (simp only [List.length_append, List.length_cons, List.length_nil, List.length_map, List.length_set, List.length_replicate, Spec.bytesOf_length]; omega) | (simp; omega))
   have hs61 := hs56
   refine st_op (ev_slice rfl rfl rfl rfl hs56) rfl rfl rfl ?_
   have hv62 := fun H0 k => sliceA_via u8c el29 (by decide) hr41 (lo := none) (hi := some (.int .i64 z48)) (l := 0) (h := (z48).toNat) (by rw [Option.isSome_some, if_pos rfl]; exact bound_int (by first | omega | (simp only [List.length_append, List.length_cons, List.length_nil, List.length_map, List.length_set, List.length_replicate, Spec.bytesOf_length]; omega) | (simp; omega)) (by first | omega | (simp only [List.length_append, List.length_cons, List.length_nil, List.length_map, List.length_set, List.length_replicate, Spec.bytesOf_length]; omega) | (simp; omega)) (by first | rfl | omega)) rfl (by first | omega | (simp only [List.length_append, List.length_cons, List.length_nil, List.length_map, List.length_set, List.length_replicate, Spec.bytesOf_length]; omega) | (simp; omega)) (by first | omega | (simp only [List.length_append, List.length_cons, List.length_nil, List.length_map, List.length_set, List.length_replicate, Spec.bytesOf_length]; omega) | (simp; omega)) hL54 hs61 ((fun (H0 : Heap) (h : Row H0 bA bc 1 (b.map u8c)) => h) H0 k)
   have hL54b : Spec.Bytes L53 := by rw [hL54]; exact Spec.Bytes.take (Spec.Bytes.drop (by assumption) _) _
   refine st_call rfl rfl rfl ent25 rfl rfl rfl ?_
   obtain ⟨_, H64, hs63, A66, c67, hs63v, hm68, hq69, hq70, hx65⟩ := frame_Seal_spec Hl39 8 (by decide) A51 L53 c52 hr57 hc58 (by first | omega | (simp only [List.length_append, List.length_cons, List.length_nil, List.length_map, List.length_set, List.length_replicate, Spec.bytesOf_length]; omega) | (simp; omega)) (by assumption)
   rw [hs63v] at hs63; clear hs63v
   refine ⟨_, H64, hs63, ?_⟩
   have H64n : Hl39.next ≤ H64.next := hx65.1
   have h71 := My.ext hm44 hx65
   obtain ⟨A72, c73, H74, W75, he76, hm77, hf78⟩ := mem_append (f := u8c) (old := out) (new := (Spec.sealF (8 : Int) L53)) (m := out.length) (mx := (Spec.sealF (8 : Int) L53).length) (c := cp) (by first | rfl | simp) (by first | rfl | simp) eok29 (by decide) hm44 h71 (by omega) (((My.row hm68)).srcF (by decide) (by first | rfl | simp)) rfl u8c_len u8c_one (by first | omega | (simp only [List.length_append, List.length_cons, List.length_nil, List.length_map, List.length_set, List.length_replicate, Spec.bytesOf_length]; omega) | (simp; omega)) (by first | omega | (simp only [List.length_append, List.length_cons, List.length_nil, List.length_map, List.length_set, List.length_replicate, Spec.bytesOf_length]; omega) | (simp; omega))
   refine st_op (he76 _ _ _ _ _ _ _ _ _ _ rfl rfl isrow29) rfl rfl rfl ?_
   have H74n : H64.next ≤ H74.next := hf78.1
   refine st_op (ev_assign rfl) rfl rfl rfl ?_
   try show aw _ _ _ _ _ _
   refine aw_reg ?_
   iterate 2 refine st_op (ev_move rfl) rfl rfl rfl ?_
   have hx88 : Ext H17 H74 := (Ext.then (Ext.trans hx60 hx65) hf78 (fun q hq e => by omega))
   have h87 := Row.ext hr40 hx88
   obtain ⟨A79, c80, L81, hL82, hl83, hs84, hr85, hc86⟩ := sliceA_typed u8c el29 (by decide) h87 hr41 (lo := some (.int .i64 z48)) (hi := none) (l := (z48).toNat) (h := b.length) rfl (bound_int (by first | omega | (simp only [List.length_append, List.length_cons, List.length_nil, List.length_map, List.length_set, List.length_replicate, Spec.bytesOf_length]; omega) | (simp; omega)) (by first | omega | (simp only [List.length_append, List.length_cons, List.length_nil, List.length_map, List.length_set, List.length_replicate, Spec.bytesOf_length]; omega) | (simp; omega)) (by first | rfl | omega)) (by first | omega | (simp only [List.length_append, List.length_cons, List.length_nil, List.length_map, List.length_set, List.length_replicate, Spec.bytesOf_length]; omega) | (simp; omega)) (by first | omega | (simp only [List.length_append, List.length_cons, List.length_nil, List.length_map, List.length_set, List.length_replicate, Spec.bytesOf_length]; omega) | (simp; omega))
   have hs89 := hs84
   refine st_op (ev_slice rfl rfl rfl rfl hs84) rfl rfl rfl ?_
   have hv90 := fun H0 k => sliceA_via u8c el29 (by decide) hr41 (lo := some (.int .i64 z48)) (hi := none) (l := (z48).toNat) (h := b.length) rfl (bound_int (by first | omega | (simp only [List.length_append, List.length_cons, List.length_nil, List.length_map, List.length_set, List.length_replicate, Spec.bytesOf_length]; omega) | (simp; omega)) (by first | omega | (simp only [List.length_append, List.length_cons, List.length_nil, List.length_map, List.length_set, List.length_replicate, Spec.bytesOf_length]; omega) | (simp; omega)) (by first | rfl | omega)) (by first | omega | (simp only [List.length_append, List.length_cons, List.length_nil, List.length_map, List.length_set, List.length_replicate, Spec.bytesOf_length]; omega) | (simp; omega)) (by first | omega | (simp only [List.length_append, List.length_cons, List.length_nil, List.length_map, List.length_set, List.length_replicate, Spec.bytesOf_length]; omega) | (simp; omega)) hL82 hs89 ((fun (H0 : Heap) (h : Row H0 bA bc 1 (b.map u8c)) => h) H0 k)
   have hL82b : Spec.Bytes L81 := by rw [hL82]; exact Spec.Bytes.take (Spec.Bytes.drop (by assumption) _) _
   refine st_op (ev_assign rfl) rfl rfl rfl ?_
   try show aw _ _ _ _ _ _
   refine aw_keep [3, 4] (l' := (.cons 3 (.slice A79 L81.length c80) (.cons 4 (.slice A72 ((out ++ (Spec.sealF (8 : Int) L53)).length) c73) .nil))) (by repeat (first | exact Up.done | refine Up.then ?_ | refine Up.inBlock ?_)) rfl ?_
   exact ih46 (A79, c80, L81, A72, c73, (out ++ (Spec.sealF (8 : Int) L53)), H74) ⟨(show Spec.encM (⟨kind, from_, to_, term, index, logterm, commit, yes, es, ⟨s_index, s_term, s_conf, s_data⟩⟩ : Msg) = (out ++ (Spec.sealF (8 : Int) L53)) ++ Spec.flat (Spec.framesK 8 L81) from (by rw [hS]; exact Spec.enc_next (by omega) hz49 hL54 hL82)), (show Spec.Bytes L81 from (by assumption)), (show L81.length ≤ 1800000 from (by omega)), (show (out ++ (Spec.sealF (8 : Int) L53)).length + 8 * L81.length ≤ 30000000 from (by rw [List.length_append]; have := @Spec.sealF_max 8 L53; omega)), (show Row H17 A79 c80 1 (L81.map u8c) from (hv90 _ hr40)), (show L81.length ≤ c80 from hc86), (show My H25 H74 A72 c73 1 ((out ++ (Spec.sealF (8 : Int) L53)).map u8c) from hm77), (show Fr (fun q => (H25.next ≤ q ∧ q < H32.next ∧ ZB H32 q 1)) H32 H74 from (Fr.transG (Fr.trans (Fr.transG (Fr.refl (fun q => (H25.next ≤ q ∧ q < H32.next ∧ ZB H32 q 1)) H32) hxl45 (fun q hq hE e => (⟨by omega, by omega, ZB.back hE e.2.2⟩))) (hx65.fr fun _ => False) (fun q hq (e : False) => e.elim)) hf78 (fun q hq hE e => (⟨by omega, by omega, ZB.back hE e.2.2⟩))))⟩ (by simp only; omega)
  ·
   rw [Bool.not_eq_true] at hc47; refine aw_condF hc47 rfl ?_
   try show aw _ _ _ _ _ _
   have hc47 := of_decide_eq_false hc47
   refine aw_exit ?_
   try show aw _ _ _ _ _ _
   refine aw_seq ?_
   refine aw_reg ?_
   refine st_op (ev_move rfl) rfl rfl rfl ?_
   refine st_op (ev_assign rfl) rfl rfl rfl ?_
   try show aw _ _ _ _ _ _
   refine aw_ret ?_
   have hx91 : Ext H Hl39 := (Ext.then (Ext.trans (Ext.then (Ext.trans (Ext.trans hx6 hx10) hx18) hx26 (fun q hq e => by omega)) hx33) hxl45 (fun q hq e => by omega))
   have hres : (Spec.encM (⟨kind, from_, to_, term, index, logterm, commit, yes, es, ⟨s_index, s_term, s_conf, s_data⟩⟩ : Msg)) = out := by rw [hS, show b = [] from List.eq_nil_of_length_eq_zero (by omega), Spec.framesK_nil]; simp [Spec.flat_nil]
   exact ⟨.slice A out.length cp, rfl, A, cp, by first | (rw [hres]; first | done | rfl | simp; done) | rfl, (by rw [hres]; exact (My.older hm44 (by omega))), (by exact Spec.encM_bytes _), (by exact Spec.encM_len _), (by exact ⟨fun h => absurd h (My.neF hm44 (by have := Spec.encM_pos (m := (⟨kind, from_, to_, term, index, logterm, commit, yes, es, ⟨s_index, s_term, s_conf, s_data⟩⟩ : Msg)) hc11; rw [hres] at this; omega)), fun h => Bool.noConfusion (h.symm.trans hc11)⟩), hx91⟩
theorem bytes_Equal_spec (H : Heap) (uaA : Option Addr) (ua : List Int) (uac : Nat) (hua : Row H uaA uac 1 (ua.map u8c)) (cua : ua.length ≤ uac) (lua : ua.length ≤ 1099511627776) (aua : uaA = none → uac = 0) (bua : Spec.Bytes ua) (vaA : Option Addr) (va : List Int) (vac : Nat) (hva : Row H vaA vac 1 (va.map u8c)) (cva : va.length ≤ vac) (lva : va.length ≤ 1099511627776) (ava : vaA = none → vac = 0) (bva : Spec.Bytes va) : ∃ v H', Spec Try.prog 35 [.slice uaA ua.length uac, .slice vaA va.length vac] H v H' ∧ ((v = .bool (decide (ua = va))) ∧ (Ext H H')) := by
 refine spec_go2 E0_ok 10 (f := 35) Try.func35 rfl rfl rfl ?_
 refine aw_seq ?_
 refine aw_reg ?_
 refine st_op (ev_assign rfl) rfl rfl rfl ?_
 try show aw _ _ _ _ _ _
 refine aw_seq ?_
 refine aw_reg ?_
 refine st_op (ev_move rfl) rfl rfl rfl ?_
 refine st_op (ev_strOf (l := ua) (A := uaA) (c := uac) slu8_29 isstr_9 rfl aua hua) rfl rfl rfl ?_
 refine st_op (ev_move rfl) rfl rfl rfl ?_
 refine st_op (ev_strOf (l := va) (A := vaA) (c := vac) slu8_29 isstr_9 rfl ava hva) rfl rfl rfl ?_
 refine st_op (ev_str rfl rfl rfl) rfl rfl rfl ?_
 refine st_op (ev_assign rfl) rfl rfl rfl ?_
 try show aw _ _ _ _ _ _
 refine aw_ret ?_
 have hres : (decide (ua = va)) = (((strOfNums ua)).toList == ((strOfNums va)).toList) := by exact Spec.equal_is bua bva
 exact ⟨.bool (((strOfNums ua)).toList == ((strOfNums va)).toList), rfl, by first | (rw [hres]; done) | rw [← hres], (Ext.refl H)⟩
theorem msg_Decode_spec (H : Heap) (bA : Option Addr) (b : List Int) (bc : Nat) (hb : Row H bA bc 1 (b.map u8c)) (cb : b.length ≤ bc) (lb : b.length ≤ 1073741824) (ab : bA = none → bc = 0) (bb : Spec.Bytes b) : ∃ v H', Spec Try.prog 13 [.slice bA b.length bc] H v H' ∧ (∃ rA8 rc8, (v = .tuple #[.agg #[.int .i64 ((Spec.decM b).1), .int .i64 ((Spec.decM b).2.1), .int .i64 ((Spec.decM b).2.2.1), .int .i64 ((Spec.decM b).2.2.2.1), .int .i64 ((Spec.decM b).2.2.2.2.1), .int .i64 ((Spec.decM b).2.2.2.2.2.1), .int .i64 ((Spec.decM b).2.2.2.2.2.2.1), .bool ((Spec.decM b).2.2.2.2.2.2.2.1), .slice rA8 (((Spec.decM b).2.2.2.2.2.2.2.2.1).length) rc8, .int .i64 ((Spec.decM b).2.2.2.2.2.2.2.2.2.1), .int .i64 ((Spec.decM b).2.2.2.2.2.2.2.2.2.2.1), .string ((Spec.decM b).2.2.2.2.2.2.2.2.2.2.2.1), .string ((Spec.decM b).2.2.2.2.2.2.2.2.2.2.2.2.1)], .int .i64 ((Spec.decM b).2.2.2.2.2.2.2.2.2.2.2.2.2)]) ∧ (My H H' rA8 rc8 4 (((Spec.decM b).2.2.2.2.2.2.2.2.1).map Entry.cells)) ∧ (0 ≤ ((Spec.decM b)).2.2.2.2.2.2.2.2.2.2.2.2.2 ∧ ((Spec.decM b)).2.2.2.2.2.2.2.2.2.2.2.2.2 ≤ 1) ∧ (((Spec.decM b)).2.2.2.2.2.2.2.2.1.length ≤ 8) ∧ (((Spec.decM b)).2.2.2.2.2.2.2.2.2.2.2.1.size ≤ 1048576) ∧ (((Spec.decM b)).2.2.2.2.2.2.2.2.2.2.2.2.1.size ≤ 1048576) ∧ (Ext H H')) := by
 refine spec_go1 E0_ok 54 (f := 13) Try.func13 rfl rfl rfl ?_
 refine aw_seq ?_
 refine aw_reg ?_
 obtain ⟨b1, H2, he3, b1e, H2n_, hB5, f4⟩ := mem_alloc H zero26
 refine st_op (he3 _ _ _ _ _ _ _) rfl rfl rfl ?_
 have hx6 : Ext H H2 := Ext.new (by omega) H2n_ f4
 have H2n : H.next ≤ H2.next := hx6.1
 refine st_op (ev_assign rfl) rfl rfl rfl ?_
 try show aw _ _ _ _ _ _
 refine aw_seq ?_
 refine aw_reg ?_
 refine st_op (ev_move rfl) rfl rfl rfl ?_
 refine st_call rfl rfl rfl ent33 rfl rfl rfl ?_
 have h7 := Row.ext hb hx6
 obtain ⟨_, H9, hs8, A11, c12, rl14, hs8v, hl15, hm13, hE18, hq16, hq17, hx10⟩ := frame_All_spec H2 bA b bc h7 cb (by omega) (by assumption)
 rw [hs8v] at hs8; clear hs8v
 generalize hR20 : (Spec.allN b) = r19 at hs8 hl15 hm13 hE18 hq16 hq17
 obtain ⟨z21, z22⟩ := r19
 dsimp only at hs8 hl15 hm13 hE18 hq16 hq17
 refine ⟨_, H9, hs8, ?_⟩
 have H9n : H2.next ≤ H9.next := hx10.1
 have hl15n := congrArg List.length hl15; rw [List.length_map] at hl15n
 refine st_op (ev_move rfl) rfl rfl rfl ?_
 iterate 2 refine st_op (ev_extract rfl rfl) rfl rfl rfl ?_
 iterate 2 refine st_op (ev_assign rfl) rfl rfl rfl ?_
 try show aw _ _ _ _ _ _
 refine aw_seq ?_
 refine aw_reg ?_
 refine st_op (ev_assign rfl) rfl rfl rfl ?_
 try show aw _ _ _ _ _ _
 iterate 2 refine aw_seq ?_
 refine aw_reg ?_
 refine st_op (ev_move rfl) rfl rfl rfl ?_
 refine st_op (ev_lenSl rfl Try.underlying60) rfl rfl rfl ?_
 refine st_op (ev_move rfl) rfl rfl rfl ?_
 try show aw _ _ _ _ _ _
 refine aw_block ?_
 have hm24 : My H9 H9 none 0 1 (([] : List Int).map u8c) := .nil
 refine aw_keep [0, 2, 6, 17, 18, 19] (l' := (.cons 0 (.slice bA b.length bc) (.cons 2 (.pointer (some ⟨b1, 0, none⟩)) (.cons 6 (.slice none 0 0) (.cons 17 (.slice A11 rl14.length c12) (.cons 18 (.int .i64 (rl14.length : Int)) (.cons 19 (.int .i64 0) .nil))))))) (by repeat (first | exact Up.done | refine Up.then ?_ | refine Up.inBlock ?_)) rfl ?_
 refine aw_iter (α := Nat × Option Addr × Nat × List Int × Heap) (fun a => rl14.length - a.1) (fun a => (.cons 0 (.slice bA b.length bc) (.cons 2 (.pointer (some ⟨b1, 0, none⟩)) (.cons 6 (.slice a.2.1 a.2.2.2.1.length a.2.2.1) (.cons 17 (.slice A11 rl14.length c12) (.cons 18 (.int .i64 (rl14.length : Int)) (.cons 19 (.int .i64 (a.1 : Int)) .nil))))))) (fun a => a.2.2.2.2) (fun a => (a.1 ≤ rl14.length) ∧ (a.2.2.2.1 = ((((z21).take a.1).drop 1).map (·.2)).flatten) ∧ (Spec.Bytes a.2.2.2.1) ∧ (a.2.2.2.1.length ≤ b.length) ∧ (My H9 a.2.2.2.2 a.2.1 a.2.2.1 1 (a.2.2.2.1.map u8c)) ∧ (Ext H9 a.2.2.2.2)) (0, none, 0, ([] : List Int), H9) ⟨(show 0 ≤ rl14.length from Nat.zero_le _), (show ([] : List Int) = ((((z21).take 0).drop 1).map (·.2)).flatten from (by simp)), (show Spec.Bytes ([] : List Int) from Spec.Bytes.nil), (show ([] : List Int).length ≤ b.length from Nat.zero_le _), (show My H9 H9 none 0 1 (([] : List Int).map u8c) from hm24), (show Ext H9 H9 from (Ext.refl H9))⟩ ?_
 rintro ⟨i, A, cp, all, Hl23⟩ ⟨hi, hall, hby, hal, hm25, hxl26⟩ ih27
 replace hi : i ≤ rl14.length := hi
 replace hall : all = ((((z21).take i).drop 1).map (·.2)).flatten := hall
 replace hby : Spec.Bytes all := hby
 replace hal : all.length ≤ b.length := hal
 replace hm25 : My H9 Hl23 A cp 1 (all.map u8c) := hm25
 replace hxl26 : Ext H9 Hl23 := hxl26
 show aw _ _ _ (RL _ (.cons 0 (.slice bA b.length bc) (.cons 2 (.pointer (some ⟨b1, 0, none⟩)) (.cons 6 (.slice A all.length cp) (.cons 17 (.slice A11 rl14.length c12) (.cons 18 (.int .i64 (rl14.length : Int)) (.cons 19 (.int .i64 (i : Int)) .nil))))))) Hl23 _
 have Hl23n : H9.next ≤ Hl23.next := hxl26.1
 refine aw_seq ?_
 refine aw_reg ?_
 refine st_op (ev_int rfl rfl rfl) rfl rfl rfl ?_
 try show aw _ _ _ _ _ _
 refine aw_seq ?_
 by_cases hc28 : (decide ((i : Int) < (rl14.length : Int))) = true
 ·
  refine aw_condT hc28 rfl ?_
  try show aw _ _ _ _ _ _
  have hc28 := of_decide_eq_true hc28
  refine aw_skip ?_
  try show aw _ _ _ _ _ _
  refine aw_seq ?_
  refine aw_block ?_
  refine aw_seq ?_
  refine aw_reg ?_
  refine st_op (ev_move rfl) rfl rfl rfl ?_
  have h29 := My.ext hm13 hxl26
  have hi30 : 0 ≤ ((i : Int) : Int) := by omega
  have hi31 : ((i : Int) : Int) < ((rl14.length : Nat) : Int) := by omega
  obtain ⟨x32, hx33⟩ : ∃ e, rl14[i]? = some e := ⟨_, List.getElem?_eq_getElem (by omega)⟩
  have h35 := Each.ext hE18 hxl26
  have hm34 : My H2 Hl23 x32.bodyA x32.bodyc 1 (x32.body.map u8c) := Each.get h35 hx33
  have x32y : Spec.Bytes x32.body := Spec.all_bytes hl15 hx33 hq16
  have x32z := Spec.all_one bb hl15 hx33 hR20
  refine st_op (ev_at rfl rfl (My.row h29) (getMap Found.cells hx33) (by first | rfl | omega | simp) hi30 hi31 el60) rfl rfl rfl ?_
  refine st_op (ev_atN (cs := [.int .i64 x32.kind, .slice x32.bodyA x32.body.length x32.bodyc]) rfl (My.row h29) (getMap Found.cells hx33) many64 rfl rfl (by decide)) rfl rfl rfl ?_
  obtain ⟨b36, H37, he38, b36e, H37n_, hB40, f39⟩ := mem_alloc Hl23 zero64
  refine st_op (he38 _ _ _ _ _ _ _) rfl rfl rfl ?_
  have hx41 : Ext Hl23 H37 := Ext.new (by omega) H37n_ f39
  have H37n : Hl23.next ≤ H37.next := hx41.1
  refine st_op (ev_assign rfl) rfl rfl rfl ?_
  obtain ⟨H42, he43, H42n_, hB44, f45⟩ := mem_store (v := .agg #[.int .i64 x32.kind, .slice x32.bodyA x32.body.length x32.bodyc]) (o := 0) (cs' := [.int .i64 x32.kind, .slice x32.bodyA x32.body.length x32.bodyc]) 2 rfl rfl size64 hB40 rfl rfl rfl
  refine st_op0 (he43 _ _ _ _ _ _ _ _ _ rfl rfl) rfl rfl ?_
  have hf46 : Fr (fun q => q = b36) H37 H42 := Fr.write H42n_ f45
  have H42n : H37.next ≤ H42.next := hf46.1
  try show aw _ _ _ _ _ _
  refine aw_seq ?_
  refine aw_reg ?_
  refine st_op (ev_move rfl) rfl rfl rfl ?_
  refine st_op (ev_int rfl rfl rfl) rfl rfl rfl ?_
  try show aw _ _ _ _ _ _
  by_cases hc47 : (decide ((i : Int) > 0)) = true
  ·
   refine aw_condT hc47 rfl ?_
   try show aw _ _ _ _ _ _
   have hc47 := of_decide_eq_true hc47
   refine aw_reg ?_
   refine st_op (ev_move rfl) rfl rfl rfl ?_
   refine st_op (ev_fieldAddr rfl fa64_1 (o' := 1) rfl) rfl rfl rfl ?_
   refine st_op (ev_load rfl (lvar_one one29 hB44 rfl)) rfl rfl rfl ?_
   have hx49 : Ext Hl23 H42 := (Ext.then hx41 hf46 (fun q hq e => by omega))
   have h48 := My.ext hm25 hx49
   have h50 := My.ext hm34 hx49
   obtain ⟨A51, c52, H53, W54, he55, hm56, hf57⟩ := mem_append (f := u8c) (old := all) (new := x32.body) (m := all.length) (mx := x32.body.length) (c := cp) (by first | rfl | simp) (by first | rfl | simp) eok29 (by decide) hm25 h48 (by omega) (((My.row h50)).srcF (by decide) (by first | rfl | simp)) rfl u8c_len u8c_one (by omega) (by omega)
   refine st_op (he55 _ _ _ _ _ _ _ _ _ _ rfl rfl isrow29) rfl rfl rfl ?_
   have H53n : H42.next ≤ H53.next := hf57.1
   refine st_op (ev_assign rfl) rfl rfl rfl ?_
   try show aw _ _ _ _ _ _
   refine aw_reg ?_
   refine st_op (ev_int64 (c := (i : Int) + 1) rfl rfl rfl (by omega) (by omega)) rfl rfl rfl ?_
   refine st_op (ev_move rfl) rfl rfl rfl ?_
   try show aw _ _ _ _ _ _
   have hx58 : Ext H9 H53 := (Ext.then (Ext.then (Ext.trans hxl26 hx41) hf46 (fun q hq e => by omega)) hf57 (fun q hq e => by omega))
   refine aw_keep [0, 2, 6, 17, 18, 19] (l' := (.cons 0 (.slice bA b.length bc) (.cons 2 (.pointer (some ⟨b1, 0, none⟩)) (.cons 6 (.slice A51 ((all ++ x32.body).length) c52) (.cons 17 (.slice A11 rl14.length c12) (.cons 18 (.int .i64 (rl14.length : Int)) (.cons 19 (.int .i64 ((i : Int) + 1)) .nil))))))) (by repeat (first | exact Up.done | refine Up.then ?_ | refine Up.inBlock ?_)) rfl ?_
   exact ih27 (i + 1, A51, c52, (all ++ x32.body), H53) ⟨(show (i + 1) ≤ rl14.length from (by omega)), (show (all ++ x32.body) = ((((z21).take (i + 1)).drop 1).map (·.2)).flatten from (by first | exact Spec.all_next hl15 hx33 (by omega) hall | exact Spec.all_skip hl15 hx33 (by omega) hall)), (show Spec.Bytes (all ++ x32.body) from (by first | assumption | exact Spec.Bytes.append hby (by assumption))), (show (all ++ x32.body).length ≤ b.length from (by first | exact Spec.all_len bb hl15 hx33 (by omega) hall hR20 | assumption)), (show My H9 H53 A51 c52 1 ((all ++ x32.body).map u8c) from hm56), (show Ext H9 H53 from hx58)⟩ (by simp only; omega)
  ·
   rw [Bool.not_eq_true] at hc47; refine aw_condF hc47 rfl ?_
   try show aw _ _ _ _ _ _
   have hc47 := of_decide_eq_false hc47
   refine aw_skip ?_
   try show aw _ _ _ _ _ _
   refine aw_reg ?_
   refine st_op (ev_int64 (c := (i : Int) + 1) rfl rfl rfl (by omega) (by omega)) rfl rfl rfl ?_
   refine st_op (ev_move rfl) rfl rfl rfl ?_
   try show aw _ _ _ _ _ _
   have hx60 : Ext Hl23 H42 := (Ext.then hx41 hf46 (fun q hq e => by omega))
   have h59 := My.ext hm25 hx60
   have hx61 : Ext H9 H42 := (Ext.then (Ext.trans hxl26 hx41) hf46 (fun q hq e => by omega))
   refine aw_keep [0, 2, 6, 17, 18, 19] (l' := (.cons 0 (.slice bA b.length bc) (.cons 2 (.pointer (some ⟨b1, 0, none⟩)) (.cons 6 (.slice A all.length cp) (.cons 17 (.slice A11 rl14.length c12) (.cons 18 (.int .i64 (rl14.length : Int)) (.cons 19 (.int .i64 ((i : Int) + 1)) .nil))))))) (by repeat (first | exact Up.done | refine Up.then ?_ | refine Up.inBlock ?_)) rfl ?_
   exact ih27 (i + 1, A, cp, all, H42) ⟨(show (i + 1) ≤ rl14.length from (by omega)), (show all = ((((z21).take (i + 1)).drop 1).map (·.2)).flatten from (by first | exact Spec.all_next hl15 hx33 (by omega) hall | exact Spec.all_skip hl15 hx33 (by omega) hall)), (show Spec.Bytes all from (by first | assumption | exact Spec.Bytes.append hby (by assumption))), (show all.length ≤ b.length from (by first | exact Spec.all_len bb hl15 hx33 (by omega) hall hR20 | assumption)), (show My H9 H42 A cp 1 (all.map u8c) from h59), (show Ext H9 H42 from hx61)⟩ (by simp only; omega)
 ·
  rw [Bool.not_eq_true] at hc28; refine aw_condF hc28 rfl ?_
  try show aw _ _ _ _ _ _
  have hc28 := of_decide_eq_false hc28
  refine aw_exit ?_
  try show aw _ _ _ _ _ _
  refine aw_seq ?_
  refine aw_reg ?_
  refine st_op (ev_move rfl) rfl rfl rfl ?_
  refine st_op (ev_build zero67 pl67 (parts := [(0, .slice A all.length cp)]) rfl (cs := [.slice A all.length cp, .bool false]) rfl) rfl rfl rfl ?_
  obtain ⟨b62, H63, he64, b62e, H63n_, hB66, f65⟩ := mem_box (P := Try.prog) Hl23 (v := .agg #[.slice A all.length cp, .bool false]) (cs := [.slice A all.length cp, .bool false]) rfl rfl
  refine st_op (he64 _ _ _ _ _ _ _ _ _ rfl) rfl rfl rfl ?_
  have hx67 : Ext Hl23 H63 := Ext.new (by omega) H63n_ f65
  have H63n : Hl23.next ≤ H63.next := hx67.1
  refine st_op (ev_assign rfl) rfl rfl rfl ?_
  try show aw _ _ _ _ _ _
  refine aw_seq ?_
  refine aw_reg ?_
  refine st_op (ev_move rfl) rfl rfl rfl ?_
  refine st_call rfl rfl rfl ent34 rfl rfl rfl ?_
  have h68 := My.ext hm25 hx67
  obtain ⟨_, H70, hs69, A72, c73, A75, c76, hs69v, hm74, hm77, hk81, hB82, hq78, hq79, hq80, hx71⟩ := msg_message_spec H63 A all cp (My.row h68) (My.capF h68 (by omega)) (by omega) (by assumption) false b62 (by omega) hB66
  rw [hs69v] at hs69; clear hs69v
  generalize hR84 : (Spec.readT all false) = r83 at hs69 hm74 hm77 hk81 hB82 hq78 hq79 hq80
  obtain ⟨z85, z86, z87, z88, z89, z90, z91, z92, z93, z94, z95, z96, z97, z98, z99⟩ := r83
  dsimp only at hs69 hm74 hm77 hk81 hB82 hq78 hq79 hq80
  refine ⟨_, H70, hs69, ?_⟩
  have H70n : H63.next ≤ H70.next := hx71.1
  obtain ⟨b100, H101, he102, b100e, H101n_, hB104, f103⟩ := mem_alloc H70 zero26
  refine st_op (he102 _ _ _ _ _ _ _) rfl rfl rfl ?_
  have hx105 : Ext H70 H101 := Ext.new (by omega) H101n_ f103
  have H101n : H70.next ≤ H101.next := hx105.1
  obtain ⟨H106, he107, H106n_, hB108, f109⟩ := mem_store (v := .agg #[.int .i64 z85, .int .i64 z86, .int .i64 z87, .int .i64 z88, .int .i64 z89, .int .i64 z90, .int .i64 z91, .bool z92, .slice A72 z93.length c73, .int .i64 z94, .int .i64 z95, .string z96, .string z97]) (o := 0) (cs' := [.int .i64 z85, .int .i64 z86, .int .i64 z87, .int .i64 z88, .int .i64 z89, .int .i64 z90, .int .i64 z91, .bool z92, .slice A72 z93.length c73, .int .i64 z94, .int .i64 z95, .string z96, .string z97]) 13 rfl rfl size26 hB104 rfl rfl rfl
  refine st_op0 (he107 _ _ _ _ _ _ _ _ _ rfl rfl) rfl rfl ?_
  have hf110 : Fr (fun q => q = b100) H101 H106 := Fr.write H106n_ f109
  have H106n : H101.next ≤ H106.next := hf110.1
  try show aw _ _ _ _ _ _
  iterate 2 refine aw_seq ?_
  refine aw_reg ?_
  refine st_op (ev_load rfl (lvar_part (l := [.int .i64 z85, .int .i64 z86, .int .i64 z87, .int .i64 z88, .int .i64 z89, .int .i64 z90, .int .i64 z91, .bool z92, .slice A72 z93.length c73, .int .i64 z94, .int .i64 z95, .string z96, .string z97]) many26 hB108 rfl rfl (by decide))) rfl rfl rfl ?_
  refine st_call rfl rfl rfl ent11 rfl rfl rfl ?_
  have hx112 : Ext H70 H106 := (Ext.then hx105 hf110 (fun q hq e => by omega))
  have h111 := My.ext hm74 hx112
  obtain ⟨_, H114, hs113, A116, c117, hs113v, hm118, hq119, hq120, hq121, hx115⟩ := msg_Encode_spec H106 z85 z86 z87 z88 z89 z90 z91 z92 A72 z93 c73 (My.row h111) (My.capF h111 (by omega)) (by omega) z94 z95 z96 (by omega) z97 (by omega)
  rw [hs113v] at hs113; clear hs113v
  refine ⟨_, H114, hs113, ?_⟩
  have H114n : H106.next ≤ H114.next := hx115.1
  refine st_op (ev_assign rfl) rfl rfl rfl ?_
  try show aw _ _ _ _ _ _
  refine aw_seq ?_
  refine aw_reg ?_
  refine st_op (ev_move rfl) rfl rfl rfl ?_
  refine st_op (ev_nilCheck rfl) rfl rfl rfl ?_
  refine st_op (ev_fieldAddr rfl fa67_1 (o' := 1) rfl) rfl rfl rfl ?_
  have hx123 : Ext H70 H114 := (Ext.trans hx112 hx115)
  have h122 := Ext.blk hx123 (by omega) hB82
  refine st_op (ev_load rfl (lvar_one one4 h122 rfl)) rfl rfl rfl ?_
  refine st_op (ev_move rfl) rfl rfl rfl ?_
  refine st_bool 42 rfl (fun hb124 => ?_) (fun hb124 => ?_)
  ·
   iterate 2 refine st_skip rfl rfl rfl ?_
   refine st_op (ev_pickT rfl rfl) rfl rfl rfl ?_
   refine st_op (ev_move rfl) rfl rfl rfl ?_
   iterate 4 refine st_skip rfl rfl rfl ?_
   refine st_op (ev_pickT rfl rfl) rfl rfl rfl ?_
   try show aw _ _ _ _ _ _
   refine aw_cond (t := true) rfl ?_
   try show aw _ _ _ _ _ _
   refine aw_seq ?_
   refine aw_reg ?_
   refine st_op (ev_build zero26 pl26 (parts := []) rfl (cs := [.int .i64 0, .int .i64 0, .int .i64 0, .int .i64 0, .int .i64 0, .int .i64 0, .int .i64 0, .bool false, .slice none 0 0, .int .i64 0, .int .i64 0, .string (⟨#[]⟩), .string (⟨#[]⟩)]) rfl) rfl rfl rfl ?_
   have hx126 : Ext H2 H114 := (Ext.trans (Ext.then (Ext.trans (Ext.then (Ext.trans (Ext.trans hx10 hxl26) hx67) hx71 (fun q hq e => by omega)) hx105) hf110 (fun q hq e => by omega)) hx115)
   have h125 := Ext.blk hx126 (by omega) hB5
   obtain ⟨H127, he128, H127n_, hB129, f130⟩ := mem_store (v := .agg #[.int .i64 0, .int .i64 0, .int .i64 0, .int .i64 0, .int .i64 0, .int .i64 0, .int .i64 0, .bool false, .slice none 0 0, .int .i64 0, .int .i64 0, .string (⟨#[]⟩), .string (⟨#[]⟩)]) (o := 0) (cs' := [.int .i64 0, .int .i64 0, .int .i64 0, .int .i64 0, .int .i64 0, .int .i64 0, .int .i64 0, .bool false, .slice none 0 0, .int .i64 0, .int .i64 0, .string (⟨#[]⟩), .string (⟨#[]⟩)]) 13 rfl rfl size26 h125 rfl rfl rfl
   refine st_op0 (he128 _ _ _ _ _ _ _ _ _ rfl rfl) rfl rfl ?_
   have hf131 : Fr (fun q => q = b1) H114 H127 := Fr.write H127n_ f130
   have H127n : H114.next ≤ H127.next := hf131.1
   refine st_op (ev_assign rfl) rfl rfl rfl ?_
   try show aw _ _ _ _ _ _
   refine aw_ret ?_
   have hm132 : My H127 H127 none 0 4 (([] : List Entry).map Entry.cells) := .nil
   have hx133 : Ext H H127 := (Ext.then (Ext.trans (Ext.then (Ext.trans (Ext.then (Ext.trans (Ext.trans (Ext.trans hx6 hx10) hxl26) hx67) hx71 (fun q hq e => by omega)) hx105) hf110 (fun q hq e => by omega)) hx115) hf131 (fun q hq e => by omega))
   have hres : (Spec.decM b) = (0, 0, 0, 0, 0, 0, 0, false, ([] : List Entry), 0, 0, (⟨#[]⟩ : ByteArray), (⟨#[]⟩ : ByteArray), 1) := by have hA : Spec.bodiesF b = all := (by unfold Spec.bodiesF; rw [hR20, hall, List.take_of_length_le (by rw [← hl15, List.length_map]; omega)]); exact Spec.dec_no hA hR84 hq121 (by first | exact .inl (by assumption) | exact .inr (.inl (by assumption)) | exact .inr (.inr (by assumption)))
   exact ⟨.tuple #[.agg #[.int .i64 0, .int .i64 0, .int .i64 0, .int .i64 0, .int .i64 0, .int .i64 0, .int .i64 0, .bool false, .slice none 0 0, .int .i64 0, .int .i64 0, .string (⟨#[]⟩), .string (⟨#[]⟩)], .int .i64 1], (resA_of (resL_cell rfl (lvar_part (l := [.int .i64 0, .int .i64 0, .int .i64 0, .int .i64 0, .int .i64 0, .int .i64 0, .int .i64 0, .bool false, .slice none 0 0, .int .i64 0, .int .i64 0, .string (⟨#[]⟩), .string (⟨#[]⟩)]) many26 hB129 rfl rfl (by decide)) (resL_tmp rfl resL_nil)) rfl), none, 0, by first | (rw [hres]; first | done | rfl | simp; done) | rfl, (by first | exact (My.older hm132 (by omega)) | (rw [hres]; exact (My.older hm132 (by omega)))), (by exact Spec.dec_bd.1), (by exact Spec.dec_bd.2.1), (by exact Spec.dec_bd.2.2.1), (by exact Spec.dec_bd.2.2.2), hx133⟩
  ·
   refine st_op (ev_move rfl) rfl rfl rfl ?_
   refine st_op (ev_nilSl rfl rfl Try.underlying29) rfl rfl rfl ?_
   refine st_op (ev_pickF rfl rfl) rfl rfl rfl ?_
   refine st_op (ev_move rfl) rfl rfl rfl ?_
   refine st_bool 46 rfl (fun hb134 => ?_) (fun hb134 => ?_)
   ·
    iterate 4 refine st_skip rfl rfl rfl ?_
    refine st_op (ev_pickT rfl rfl) rfl rfl rfl ?_
    try show aw _ _ _ _ _ _
    refine aw_cond (t := true) rfl ?_
    try show aw _ _ _ _ _ _
    refine aw_seq ?_
    refine aw_reg ?_
    refine st_op (ev_build zero26 pl26 (parts := []) rfl (cs := [.int .i64 0, .int .i64 0, .int .i64 0, .int .i64 0, .int .i64 0, .int .i64 0, .int .i64 0, .bool false, .slice none 0 0, .int .i64 0, .int .i64 0, .string (⟨#[]⟩), .string (⟨#[]⟩)]) rfl) rfl rfl rfl ?_
    have hx136 : Ext H2 H114 := (Ext.trans (Ext.then (Ext.trans (Ext.then (Ext.trans (Ext.trans hx10 hxl26) hx67) hx71 (fun q hq e => by omega)) hx105) hf110 (fun q hq e => by omega)) hx115)
    have h135 := Ext.blk hx136 (by omega) hB5
    obtain ⟨H137, he138, H137n_, hB139, f140⟩ := mem_store (v := .agg #[.int .i64 0, .int .i64 0, .int .i64 0, .int .i64 0, .int .i64 0, .int .i64 0, .int .i64 0, .bool false, .slice none 0 0, .int .i64 0, .int .i64 0, .string (⟨#[]⟩), .string (⟨#[]⟩)]) (o := 0) (cs' := [.int .i64 0, .int .i64 0, .int .i64 0, .int .i64 0, .int .i64 0, .int .i64 0, .int .i64 0, .bool false, .slice none 0 0, .int .i64 0, .int .i64 0, .string (⟨#[]⟩), .string (⟨#[]⟩)]) 13 rfl rfl size26 h135 rfl rfl rfl
    refine st_op0 (he138 _ _ _ _ _ _ _ _ _ rfl rfl) rfl rfl ?_
    have hf141 : Fr (fun q => q = b1) H114 H137 := Fr.write H137n_ f140
    have H137n : H114.next ≤ H137.next := hf141.1
    refine st_op (ev_assign rfl) rfl rfl rfl ?_
    try show aw _ _ _ _ _ _
    refine aw_ret ?_
    have hm142 : My H137 H137 none 0 4 (([] : List Entry).map Entry.cells) := .nil
    have hx143 : Ext H H137 := (Ext.then (Ext.trans (Ext.then (Ext.trans (Ext.then (Ext.trans (Ext.trans (Ext.trans hx6 hx10) hxl26) hx67) hx71 (fun q hq e => by omega)) hx105) hf110 (fun q hq e => by omega)) hx115) hf141 (fun q hq e => by omega))
    have hres : (Spec.decM b) = (0, 0, 0, 0, 0, 0, 0, false, ([] : List Entry), 0, 0, (⟨#[]⟩ : ByteArray), (⟨#[]⟩ : ByteArray), 1) := by have hA : Spec.bodiesF b = all := (by unfold Spec.bodiesF; rw [hR20, hall, List.take_of_length_le (by rw [← hl15, List.length_map]; omega)]); exact Spec.dec_no hA hR84 hq121 (by first | exact .inl (by assumption) | exact .inr (.inl (by assumption)) | exact .inr (.inr (by assumption)))
    exact ⟨.tuple #[.agg #[.int .i64 0, .int .i64 0, .int .i64 0, .int .i64 0, .int .i64 0, .int .i64 0, .int .i64 0, .bool false, .slice none 0 0, .int .i64 0, .int .i64 0, .string (⟨#[]⟩), .string (⟨#[]⟩)], .int .i64 1], (resA_of (resL_cell rfl (lvar_part (l := [.int .i64 0, .int .i64 0, .int .i64 0, .int .i64 0, .int .i64 0, .int .i64 0, .int .i64 0, .bool false, .slice none 0 0, .int .i64 0, .int .i64 0, .string (⟨#[]⟩), .string (⟨#[]⟩)]) many26 hB139 rfl rfl (by decide)) (resL_tmp rfl resL_nil)) rfl), none, 0, by first | (rw [hres]; first | done | rfl | simp; done) | rfl, (by first | exact (My.older hm142 (by omega)) | (rw [hres]; exact (My.older hm142 (by omega)))), (by exact Spec.dec_bd.1), (by exact Spec.dec_bd.2.1), (by exact Spec.dec_bd.2.2.1), (by exact Spec.dec_bd.2.2.2), hx143⟩
   ·
    iterate 2 refine st_op (ev_move rfl) rfl rfl rfl ?_
    refine st_call rfl rfl rfl ent35 rfl rfl rfl ?_
    have hx145 : Ext H2 H114 := (Ext.trans (Ext.then (Ext.trans (Ext.then (Ext.trans (Ext.trans hx10 hxl26) hx67) hx71 (fun q hq e => by omega)) hx105) hf110 (fun q hq e => by omega)) hx115)
    have h144 := Row.ext h7 hx145
    obtain ⟨_, H147, hs146, hs146v, hx148⟩ := bytes_Equal_spec H114 A116 (Spec.encM (⟨z85, z86, z87, z88, z89, z90, z91, z92, z93, ⟨z94, z95, z96, z97⟩⟩ : Msg)) c117 (My.row hm118) (My.capF hm118 (by first | omega | (simp only [List.length_append, List.length_cons, List.length_nil, List.length_map, List.length_set, List.length_replicate, Spec.bytesOf_length]; omega) | (simp; omega))) (by first | omega | (simp only [List.length_append, List.length_cons, List.length_nil, List.length_map, List.length_set, List.length_replicate, Spec.bytesOf_length]; omega) | (simp; omega)) (My.anil hm118) (Spec.encM_bytes _) bA b bc h144 cb (by first | omega | (simp only [List.length_append, List.length_cons, List.length_nil, List.length_map, List.length_set, List.length_replicate, Spec.bytesOf_length]; omega) | (simp; omega)) ab (by assumption)
    rw [hs146v] at hs146; clear hs146v
    refine ⟨_, H147, hs146, ?_⟩
    have H147n : H114.next ≤ H147.next := hx148.1
    refine st_op (ev_not rfl) rfl rfl rfl ?_
    refine st_op (ev_pickF rfl rfl) rfl rfl rfl ?_
    try show aw _ _ _ _ _ _
    by_cases hc149 : (!(decide ((Spec.encM (⟨z85, z86, z87, z88, z89, z90, z91, z92, z93, ⟨z94, z95, z96, z97⟩⟩ : Msg)) = b))) = true
    ·
     refine aw_condT hc149 rfl ?_
     try show aw _ _ _ _ _ _
     replace hc149 : (decide ((Spec.encM (⟨z85, z86, z87, z88, z89, z90, z91, z92, z93, ⟨z94, z95, z96, z97⟩⟩ : Msg)) = b)) = false := by rw [Bool.not_eq_true'] at hc149; exact hc149
     have hc149 := of_decide_eq_false hc149
     refine aw_seq ?_
     refine aw_reg ?_
     refine st_op (ev_build zero26 pl26 (parts := []) rfl (cs := [.int .i64 0, .int .i64 0, .int .i64 0, .int .i64 0, .int .i64 0, .int .i64 0, .int .i64 0, .bool false, .slice none 0 0, .int .i64 0, .int .i64 0, .string (⟨#[]⟩), .string (⟨#[]⟩)]) rfl) rfl rfl rfl ?_
     have hx151 : Ext H2 H147 := (Ext.trans hx145 hx148)
     have h150 := Ext.blk hx151 (by omega) hB5
     obtain ⟨H152, he153, H152n_, hB154, f155⟩ := mem_store (v := .agg #[.int .i64 0, .int .i64 0, .int .i64 0, .int .i64 0, .int .i64 0, .int .i64 0, .int .i64 0, .bool false, .slice none 0 0, .int .i64 0, .int .i64 0, .string (⟨#[]⟩), .string (⟨#[]⟩)]) (o := 0) (cs' := [.int .i64 0, .int .i64 0, .int .i64 0, .int .i64 0, .int .i64 0, .int .i64 0, .int .i64 0, .bool false, .slice none 0 0, .int .i64 0, .int .i64 0, .string (⟨#[]⟩), .string (⟨#[]⟩)]) 13 rfl rfl size26 h150 rfl rfl rfl
     refine st_op0 (he153 _ _ _ _ _ _ _ _ _ rfl rfl) rfl rfl ?_
     have hf156 : Fr (fun q => q = b1) H147 H152 := Fr.write H152n_ f155
     have H152n : H147.next ≤ H152.next := hf156.1
     refine st_op (ev_assign rfl) rfl rfl rfl ?_
     try show aw _ _ _ _ _ _
     refine aw_ret ?_
     have hm157 : My H152 H152 none 0 4 (([] : List Entry).map Entry.cells) := .nil
     have hx158 : Ext H H152 := (Ext.then (Ext.trans (Ext.trans (Ext.then (Ext.trans (Ext.then (Ext.trans (Ext.trans (Ext.trans hx6 hx10) hxl26) hx67) hx71 (fun q hq e => by omega)) hx105) hf110 (fun q hq e => by omega)) hx115) hx148) hf156 (fun q hq e => by omega))
     have hres : (Spec.decM b) = (0, 0, 0, 0, 0, 0, 0, false, ([] : List Entry), 0, 0, (⟨#[]⟩ : ByteArray), (⟨#[]⟩ : ByteArray), 1) := by have hA : Spec.bodiesF b = all := (by unfold Spec.bodiesF; rw [hR20, hall, List.take_of_length_le (by rw [← hl15, List.length_map]; omega)]); exact Spec.dec_no hA hR84 hq121 (by first | exact .inl (by assumption) | exact .inr (.inl (by assumption)) | exact .inr (.inr (by assumption)))
     exact ⟨.tuple #[.agg #[.int .i64 0, .int .i64 0, .int .i64 0, .int .i64 0, .int .i64 0, .int .i64 0, .int .i64 0, .bool false, .slice none 0 0, .int .i64 0, .int .i64 0, .string (⟨#[]⟩), .string (⟨#[]⟩)], .int .i64 1], (resA_of (resL_cell rfl (lvar_part (l := [.int .i64 0, .int .i64 0, .int .i64 0, .int .i64 0, .int .i64 0, .int .i64 0, .int .i64 0, .bool false, .slice none 0 0, .int .i64 0, .int .i64 0, .string (⟨#[]⟩), .string (⟨#[]⟩)]) many26 hB154 rfl rfl (by decide)) (resL_tmp rfl resL_nil)) rfl), none, 0, by first | (rw [hres]; first | done | rfl | simp; done) | rfl, (by first | exact (My.older hm157 (by omega)) | (rw [hres]; exact (My.older hm157 (by omega)))), (by exact Spec.dec_bd.1), (by exact Spec.dec_bd.2.1), (by exact Spec.dec_bd.2.2.1), (by exact Spec.dec_bd.2.2.2), hx158⟩
    ·
     rw [Bool.not_eq_true] at hc149; refine aw_condF hc149 rfl ?_
     try show aw _ _ _ _ _ _
     replace hc149 : (decide ((Spec.encM (⟨z85, z86, z87, z88, z89, z90, z91, z92, z93, ⟨z94, z95, z96, z97⟩⟩ : Msg)) = b)) = true := by rw [Bool.not_eq_false'] at hc149; exact hc149
     have hc149 := of_decide_eq_true hc149
     refine aw_skip ?_
     try show aw _ _ _ _ _ _
     refine aw_seq ?_
     refine aw_reg ?_
     have hx160 : Ext H106 H147 := (Ext.trans hx115 hx148)
     have h159 := Ext.blk hx160 (by omega) hB108
     refine st_op (ev_load rfl (lvar_part (l := [.int .i64 z85, .int .i64 z86, .int .i64 z87, .int .i64 z88, .int .i64 z89, .int .i64 z90, .int .i64 z91, .bool z92, .slice A72 z93.length c73, .int .i64 z94, .int .i64 z95, .string z96, .string z97]) many26 h159 rfl rfl (by decide))) rfl rfl rfl ?_
     have hx162 : Ext H2 H147 := (Ext.trans hx145 hx148)
     have h161 := Ext.blk hx162 (by omega) hB5
     obtain ⟨H163, he164, H163n_, hB165, f166⟩ := mem_store (v := .agg #[.int .i64 z85, .int .i64 z86, .int .i64 z87, .int .i64 z88, .int .i64 z89, .int .i64 z90, .int .i64 z91, .bool z92, .slice A72 z93.length c73, .int .i64 z94, .int .i64 z95, .string z96, .string z97]) (o := 0) (cs' := [.int .i64 z85, .int .i64 z86, .int .i64 z87, .int .i64 z88, .int .i64 z89, .int .i64 z90, .int .i64 z91, .bool z92, .slice A72 z93.length c73, .int .i64 z94, .int .i64 z95, .string z96, .string z97]) 13 rfl rfl size26 h161 rfl rfl rfl
     refine st_op0 (he164 _ _ _ _ _ _ _ _ _ rfl rfl) rfl rfl ?_
     have hf167 : Fr (fun q => q = b1) H147 H163 := Fr.write H163n_ f166
     have H163n : H147.next ≤ H163.next := hf167.1
     refine st_op (ev_assign rfl) rfl rfl rfl ?_
     try show aw _ _ _ _ _ _
     refine aw_ret ?_
     have h168 := My.ext h111 hx160
     have h169 := My.frS h168 hf167 (fun q hq e => ⟨_, e ▸ h161, show (0 : Nat) ≠ 4 by decide⟩)
     have hx170 : Ext H H163 := (Ext.then (Ext.trans (Ext.trans (Ext.then (Ext.trans (Ext.then (Ext.trans (Ext.trans (Ext.trans hx6 hx10) hxl26) hx67) hx71 (fun q hq e => by omega)) hx105) hf110 (fun q hq e => by omega)) hx115) hx148) hf167 (fun q hq e => by omega))
     have hres : (Spec.decM b) = (z85, z86, z87, z88, z89, z90, z91, z92, z93, z94, z95, z96, z97, 0) := by have hA : Spec.bodiesF b = all := (by unfold Spec.bodiesF; rw [hR20, hall, List.take_of_length_le (by rw [← hl15, List.length_map]; omega)]); exact Spec.dec_ok hA hR84 hq121 (by assumption) (by assumption) (by assumption)
     exact ⟨.tuple #[.agg #[.int .i64 z85, .int .i64 z86, .int .i64 z87, .int .i64 z88, .int .i64 z89, .int .i64 z90, .int .i64 z91, .bool z92, .slice A72 z93.length c73, .int .i64 z94, .int .i64 z95, .string z96, .string z97], .int .i64 0], (resA_of (resL_cell rfl (lvar_part (l := [.int .i64 z85, .int .i64 z86, .int .i64 z87, .int .i64 z88, .int .i64 z89, .int .i64 z90, .int .i64 z91, .bool z92, .slice A72 z93.length c73, .int .i64 z94, .int .i64 z95, .string z96, .string z97]) many26 hB165 rfl rfl (by decide)) (resL_tmp rfl resL_nil)) rfl), A72, c73, by first | (rw [hres]; first | done | rfl | simp; done) | rfl, (by first | exact (My.older h169 (by omega)) | (rw [hres]; exact (My.older h169 (by omega)))), (by exact Spec.dec_bd.1), (by exact Spec.dec_bd.2.1), (by exact Spec.dec_bd.2.2.1), (by exact Spec.dec_bd.2.2.2), hx170⟩
theorem ref17_EqEntry_spec (H : Heap) (a_index : Int) (a_term : Int) (a_kind : Int) (a_data : ByteArray) (b_index : Int) (b_term : Int) (b_kind : Int) (b_data : ByteArray) : ∃ v H', Spec Try.prog 55 [.agg #[.int .i64 a_index, .int .i64 a_term, .int .i64 a_kind, .string a_data], .agg #[.int .i64 b_index, .int .i64 b_term, .int .i64 b_kind, .string b_data]] H v H' ∧ ((v = .bool (decide (a_index = b_index ∧ a_term = b_term ∧ a_kind = b_kind ∧ a_data = b_data))) ∧ (Ext H H')) := by
 refine spec_go2 E0_ok 31 (f := 55) Try.func55 rfl rfl rfl ?_
 refine aw_seq ?_
 refine aw_reg ?_
 obtain ⟨b1, H2, he3, b1e, H2n_, hB5, f4⟩ := mem_box (P := Try.prog) H (v := .agg #[.int .i64 a_index, .int .i64 a_term, .int .i64 a_kind, .string a_data]) (cs := [.int .i64 a_index, .int .i64 a_term, .int .i64 a_kind, .string a_data]) rfl rfl
 refine st_op (he3 _ _ _ _ _ _ _ _ _ rfl) rfl rfl rfl ?_
 have hx6 : Ext H H2 := Ext.new (by omega) H2n_ f4
 have H2n : H.next ≤ H2.next := hx6.1
 obtain ⟨b7, H8, he9, b7e, H8n_, hB11, f10⟩ := mem_box (P := Try.prog) H2 (v := .agg #[.int .i64 b_index, .int .i64 b_term, .int .i64 b_kind, .string b_data]) (cs := [.int .i64 b_index, .int .i64 b_term, .int .i64 b_kind, .string b_data]) rfl rfl
 refine st_op (he9 _ _ _ _ _ _ _ _ _ rfl) rfl rfl rfl ?_
 have hx12 : Ext H2 H8 := Ext.new (by omega) H8n_ f10
 have H8n : H2.next ≤ H8.next := hx12.1
 refine st_op (ev_assign rfl) rfl rfl rfl ?_
 try show aw _ _ _ _ _ _
 refine aw_seq ?_
 refine aw_reg ?_
 refine st_op (ev_fieldAddr rfl fa45_0 (o' := 0) rfl) rfl rfl rfl ?_
 have h13 := Ext.blk hx12 (by omega) hB5
 refine st_op (ev_load rfl (lvar_one one2 h13 rfl)) rfl rfl rfl ?_
 refine st_op (ev_fieldAddr rfl fa45_0 (o' := 0) rfl) rfl rfl rfl ?_
 refine st_op (ev_load rfl (lvar_one one2 hB11 rfl)) rfl rfl rfl ?_
 refine st_op (ev_int rfl rfl rfl) rfl rfl rfl ?_
 refine st_op (ev_move rfl) rfl rfl rfl ?_
 refine st_bool 10 rfl (fun hb14 => ?_) (fun hb14 => ?_)
 ·
  have hb14 := eq_of_beq hb14
  refine st_op (ev_fieldAddr rfl fa45_1 (o' := 1) rfl) rfl rfl rfl ?_
  refine st_op (ev_load rfl (lvar_one one2 h13 rfl)) rfl rfl rfl ?_
  refine st_op (ev_fieldAddr rfl fa45_1 (o' := 1) rfl) rfl rfl rfl ?_
  refine st_op (ev_load rfl (lvar_one one2 hB11 rfl)) rfl rfl rfl ?_
  refine st_op (ev_int rfl rfl rfl) rfl rfl rfl ?_
  refine st_op (ev_pickT rfl rfl) rfl rfl rfl ?_
  refine st_op (ev_move rfl) rfl rfl rfl ?_
  refine st_bool 17 rfl (fun hb15 => ?_) (fun hb15 => ?_)
  ·
   have hb15 := eq_of_beq hb15
   refine st_op (ev_fieldAddr rfl fa45_2 (o' := 2) rfl) rfl rfl rfl ?_
   refine st_op (ev_load rfl (lvar_one one3 h13 rfl)) rfl rfl rfl ?_
   refine st_op (ev_fieldAddr rfl fa45_2 (o' := 2) rfl) rfl rfl rfl ?_
   refine st_op (ev_load rfl (lvar_one one3 hB11 rfl)) rfl rfl rfl ?_
   refine st_op (ev_int rfl rfl rfl) rfl rfl rfl ?_
   refine st_op (ev_pickT rfl rfl) rfl rfl rfl ?_
   refine st_op (ev_move rfl) rfl rfl rfl ?_
   refine st_bool 24 rfl (fun hb16 => ?_) (fun hb16 => ?_)
   ·
    have hb16 := eq_of_beq hb16
    refine st_op (ev_fieldAddr rfl fa45_3 (o' := 3) rfl) rfl rfl rfl ?_
    refine st_op (ev_load rfl (lvar_one one9 h13 rfl)) rfl rfl rfl ?_
    refine st_op (ev_fieldAddr rfl fa45_3 (o' := 3) rfl) rfl rfl rfl ?_
    refine st_op (ev_load rfl (lvar_one one9 hB11 rfl)) rfl rfl rfl ?_
    refine st_op (ev_str rfl rfl rfl) rfl rfl rfl ?_
    refine st_op (ev_pickT rfl rfl) rfl rfl rfl ?_
    refine st_op (ev_assign rfl) rfl rfl rfl ?_
    try show aw _ _ _ _ _ _
    refine aw_ret ?_
    have hx17 : Ext H H8 := (Ext.trans hx6 hx12)
    have hres : (decide (a_index = b_index ∧ a_term = b_term ∧ a_kind = b_kind ∧ a_data = b_data)) = ((a_data).toList == (b_data).toList) := by rw [Bool.eq_iff_iff]; simp_all [Spec.ba_iff]
    exact ⟨.bool ((a_data).toList == (b_data).toList), rfl, by first | (rw [hres]; done) | rw [← hres], hx17⟩
   ·
    have hb16 := ne_of_beq_false hb16
    iterate 5 refine st_skip rfl rfl rfl ?_
    refine st_op (ev_pickF rfl rfl) rfl rfl rfl ?_
    refine st_op (ev_assign rfl) rfl rfl rfl ?_
    try show aw _ _ _ _ _ _
    refine aw_ret ?_
    have hx18 : Ext H H8 := (Ext.trans hx6 hx12)
    have hres : (decide (a_index = b_index ∧ a_term = b_term ∧ a_kind = b_kind ∧ a_data = b_data)) = false := by rw [Bool.eq_iff_iff]; simp_all [Spec.ba_iff]
    exact ⟨.bool false, rfl, by first | (rw [hres]; done) | rw [← hres], hx18⟩
  ·
   have hb15 := ne_of_beq_false hb15
   iterate 5 refine st_skip rfl rfl rfl ?_
   refine st_op (ev_pickF rfl rfl) rfl rfl rfl ?_
   refine st_op (ev_move rfl) rfl rfl rfl ?_
   iterate 5 refine st_skip rfl rfl rfl ?_
   refine st_op (ev_pickF rfl rfl) rfl rfl rfl ?_
   refine st_op (ev_assign rfl) rfl rfl rfl ?_
   try show aw _ _ _ _ _ _
   refine aw_ret ?_
   have hx19 : Ext H H8 := (Ext.trans hx6 hx12)
   have hres : (decide (a_index = b_index ∧ a_term = b_term ∧ a_kind = b_kind ∧ a_data = b_data)) = false := by rw [Bool.eq_iff_iff]; simp_all [Spec.ba_iff]
   exact ⟨.bool false, rfl, by first | (rw [hres]; done) | rw [← hres], hx19⟩
 ·
  have hb14 := ne_of_beq_false hb14
  iterate 5 refine st_skip rfl rfl rfl ?_
  refine st_op (ev_pickF rfl rfl) rfl rfl rfl ?_
  refine st_op (ev_move rfl) rfl rfl rfl ?_
  iterate 5 refine st_skip rfl rfl rfl ?_
  refine st_op (ev_pickF rfl rfl) rfl rfl rfl ?_
  refine st_op (ev_move rfl) rfl rfl rfl ?_
  iterate 5 refine st_skip rfl rfl rfl ?_
  refine st_op (ev_pickF rfl rfl) rfl rfl rfl ?_
  refine st_op (ev_assign rfl) rfl rfl rfl ?_
  try show aw _ _ _ _ _ _
  refine aw_ret ?_
  have hx20 : Ext H H8 := (Ext.trans hx6 hx12)
  have hres : (decide (a_index = b_index ∧ a_term = b_term ∧ a_kind = b_kind ∧ a_data = b_data)) = false := by rw [Bool.eq_iff_iff]; simp_all [Spec.ba_iff]
  exact ⟨.bool false, rfl, by first | (rw [hres]; done) | rw [← hres], hx20⟩
theorem ref17_EqEntries_spec (H : Heap) (uaA : Option Addr) (ua : List Entry) (uac : Nat) (hua : Row H uaA uac 4 (ua.map Entry.cells)) (cua : ua.length ≤ uac) (lua : ua.length ≤ 140737488355328) (vaA : Option Addr) (va : List Entry) (vac : Nat) (hva : Row H vaA vac 4 (va.map Entry.cells)) (cva : va.length ≤ vac) (lva : va.length ≤ 140737488355328) : ∃ v H', Spec Try.prog 36 [.slice uaA ua.length uac, .slice vaA va.length vac] H v H' ∧ ((v = .bool (Spec.eqEs ua va)) ∧ (Ext H H')) := by
 refine spec_go2 E0_ok 27 (f := 36) Try.func36 rfl rfl rfl ?_
 refine aw_seq ?_
 refine aw_reg ?_
 refine st_op (ev_assign rfl) rfl rfl rfl ?_
 try show aw _ _ _ _ _ _
 iterate 2 refine aw_seq ?_
 refine aw_reg ?_
 refine st_op (ev_move rfl) rfl rfl rfl ?_
 refine st_op (ev_lenSl rfl Try.underlying22) rfl rfl rfl ?_
 refine st_op (ev_move rfl) rfl rfl rfl ?_
 refine st_op (ev_lenSl rfl Try.underlying22) rfl rfl rfl ?_
 refine st_op (ev_int rfl rfl rfl) rfl rfl rfl ?_
 try show aw _ _ _ _ _ _
 by_cases hc1 : ((ua.length : Int) != (va.length : Int)) = true
 ·
  refine aw_condT hc1 rfl ?_
  try show aw _ _ _ _ _ _
  have hc1 : ¬ ((ua.length : Int) = (va.length : Int)) := by simpa using hc1
  refine aw_seq ?_
  refine aw_reg ?_
  refine st_op (ev_assign rfl) rfl rfl rfl ?_
  try show aw _ _ _ _ _ _
  refine aw_ret ?_
  have hres : (Spec.eqEs ua va) = false := by exact Spec.eqEs_len (by omega)
  exact ⟨.bool false, rfl, by first | (rw [hres]; done) | rw [← hres], (Ext.refl H)⟩
 ·
  rw [Bool.not_eq_true] at hc1; refine aw_condF hc1 rfl ?_
  try show aw _ _ _ _ _ _
  have hc1 : ((ua.length : Int) = (va.length : Int)) := by simpa using hc1
  refine aw_skip ?_
  try show aw _ _ _ _ _ _
  iterate 2 refine aw_seq ?_
  refine aw_reg ?_
  refine st_op (ev_assign rfl) rfl rfl rfl ?_
  try show aw _ _ _ _ _ _
  refine aw_block ?_
  refine aw_keep [0, 1, 5] (l' := (.cons 0 (.slice uaA ua.length uac) (.cons 1 (.slice vaA va.length vac) (.cons 5 (.int .i64 0) .nil)))) (by repeat (first | exact Up.done | refine Up.then ?_ | refine Up.inBlock ?_)) rfl ?_
  refine aw_iter (α := Nat × Heap) (fun a => ua.length - a.1) (fun a => (.cons 0 (.slice uaA ua.length uac) (.cons 1 (.slice vaA va.length vac) (.cons 5 (.int .i64 (a.1 : Int)) .nil)))) (fun a => a.2) (fun a => (a.1 ≤ ua.length) ∧ (Spec.eqEs ua va = Spec.eqEs (ua.drop a.1) (va.drop a.1)) ∧ (Ext H a.2)) (0, H) ⟨(show 0 ≤ ua.length from Nat.zero_le _), (show Spec.eqEs ua va = Spec.eqEs (ua.drop 0) (va.drop 0) from rfl), (show Ext H H from (Ext.refl H))⟩ ?_
  rintro ⟨i, Hl2⟩ ⟨hi, hv, hxl3⟩ ih4
  replace hi : i ≤ ua.length := hi
  replace hv : Spec.eqEs ua va = Spec.eqEs (ua.drop i) (va.drop i) := hv
  replace hxl3 : Ext H Hl2 := hxl3
  show aw _ _ _ (RL _ (.cons 0 (.slice uaA ua.length uac) (.cons 1 (.slice vaA va.length vac) (.cons 5 (.int .i64 (i : Int)) .nil)))) Hl2 _
  have Hl2n : H.next ≤ Hl2.next := hxl3.1
  iterate 2 refine aw_seq ?_
  refine aw_reg ?_
  iterate 2 refine st_op (ev_move rfl) rfl rfl rfl ?_
  refine st_op (ev_lenSl rfl Try.underlying22) rfl rfl rfl ?_
  refine st_op (ev_int rfl rfl rfl) rfl rfl rfl ?_
  try show aw _ _ _ _ _ _
  by_cases hc5 : (decide ((i : Int) < (ua.length : Int))) = true
  ·
   refine aw_condT hc5 rfl ?_
   try show aw _ _ _ _ _ _
   have hc5 := of_decide_eq_true hc5
   refine aw_skip ?_
   try show aw _ _ _ _ _ _
   refine aw_seq ?_
   refine aw_block ?_
   refine aw_seq ?_
   refine aw_marks (fun b => b < Hl2.next) [(false, false), (false, false), (false, false), (false, false), (false, false), (false, false), (false, false), (false, false), (false, false), (false, false)] mixed (by kernel_rfl) (by kernel_rfl) ?_
   iterate 2 refine sm_op (ev_move rfl) rfl rfl rfl ?_
   have h6 := Row.ext hua hxl3
   have hi7 : 0 ≤ ((i : Int) : Int) := by omega
   have hi8 : ((i : Int) : Int) < ((ua.length : Nat) : Int) := by omega
   obtain ⟨x9, hx10⟩ : ∃ e, ua[i]? = some e := ⟨_, List.getElem?_eq_getElem (by omega)⟩
   refine sm_op (ev_at rfl rfl h6 (getMap Entry.cells hx10) (by first | rfl | omega | simp) hi7 hi8 el22) rfl rfl rfl ?_
   refine sm_op (ev_atN (cs := [.int .i64 x9.index, .int .i64 x9.term, .int .i64 x9.kind, .string x9.data]) rfl h6 (getMap Entry.cells hx10) many45 rfl rfl (by decide)) rfl rfl rfl ?_
   iterate 2 refine sm_op (ev_move rfl) rfl rfl rfl ?_
   have h11 := Row.ext hva hxl3
   have hi12 : 0 ≤ ((i : Int) : Int) := by omega
   have hi13 : ((i : Int) : Int) < ((va.length : Nat) : Int) := by omega
   obtain ⟨x14, hx15⟩ : ∃ e, va[i]? = some e := ⟨_, List.getElem?_eq_getElem (by omega)⟩
   refine sm_op (ev_at rfl rfl h11 (getMap Entry.cells hx15) (by first | rfl | omega | simp) hi12 hi13 el22) rfl rfl rfl ?_
   refine sm_op (ev_atN (cs := [.int .i64 x14.index, .int .i64 x14.term, .int .i64 x14.kind, .string x14.data]) rfl h11 (getMap Entry.cells hx15) many45 rfl rfl (by decide)) rfl rfl rfl ?_
   refine sm_call rfl rfl rfl ent55 rfl rfl rfl ?_
   obtain ⟨_, H17, hs16, hs16v, hx18⟩ := ref17_EqEntry_spec Hl2 x9.index x9.term x9.kind x9.data x14.index x14.term x14.kind x14.data
   rw [hs16v] at hs16; clear hs16v
   refine ⟨_, H17, hs16, (fun _ b hb => hx18.2 b (by omega)), ?_⟩
   have H17n : Hl2.next ≤ H17.next := hx18.1
   refine sm_op (ev_not rfl) rfl rfl rfl ?_
   try show aw _ _ _ _ _ _
   by_cases hc19 : (!(decide (x9.index = x14.index ∧ x9.term = x14.term ∧ x9.kind = x14.kind ∧ x9.data = x14.data))) = true
   ·
    refine aw_condT hc19 rfl ?_
    try show aw _ _ _ _ _ _
    replace hc19 : (decide (x9.index = x14.index ∧ x9.term = x14.term ∧ x9.kind = x14.kind ∧ x9.data = x14.data)) = false := by rw [Bool.not_eq_true'] at hc19; exact hc19
    have hc19 := of_decide_eq_false hc19
    refine aw_seq ?_
    refine aw_reg ?_
    refine st_op (ev_assign rfl) rfl rfl rfl ?_
    try show aw _ _ _ _ _ _
    refine aw_ret ?_
    have hx20 : Ext H H17 := (Ext.trans hxl3 hx18)
    have hres : (Spec.eqEs ua va) = false := by rw [hv]; exact Spec.eqEs_fail hx10 hx15 (by assumption)
    exact ⟨.bool false, rfl, by first | (rw [hres]; done) | rw [← hres], hx20⟩
   ·
    rw [Bool.not_eq_true] at hc19; refine aw_condF hc19 rfl ?_
    try show aw _ _ _ _ _ _
    replace hc19 : (decide (x9.index = x14.index ∧ x9.term = x14.term ∧ x9.kind = x14.kind ∧ x9.data = x14.data)) = true := by rw [Bool.not_eq_false'] at hc19; exact hc19
    have hc19 := of_decide_eq_true hc19
    refine aw_skip ?_
    try show aw _ _ _ _ _ _
    refine aw_reg ?_
    refine st_op (ev_move rfl) rfl rfl rfl ?_
    refine st_op (ev_int64 (c := (i : Int) + 1) rfl rfl rfl (by omega) (by omega)) rfl rfl rfl ?_
    refine st_op (ev_assign rfl) rfl rfl rfl ?_
    try show aw _ _ _ _ _ _
    have hx21 : Ext H H17 := (Ext.trans hxl3 hx18)
    refine aw_keep [0, 1, 5] (l' := (.cons 0 (.slice uaA ua.length uac) (.cons 1 (.slice vaA va.length vac) (.cons 5 (.int .i64 ((i : Int) + 1)) .nil)))) (by repeat (first | exact Up.done | refine Up.then ?_ | refine Up.inBlock ?_)) rfl ?_
    exact ih4 (i + 1, H17) ⟨(show (i + 1) ≤ ua.length from (by omega)), (show Spec.eqEs ua va = Spec.eqEs (ua.drop (i + 1)) (va.drop (i + 1)) from (by rw [hv]; exact Spec.eqEs_step hx10 hx15 (by assumption))), (show Ext H H17 from hx21)⟩ (by simp only; omega)
  ·
   rw [Bool.not_eq_true] at hc5; refine aw_condF hc5 rfl ?_
   try show aw _ _ _ _ _ _
   have hc5 := of_decide_eq_false hc5
   refine aw_exit ?_
   try show aw _ _ _ _ _ _
   refine aw_seq ?_
   refine aw_reg ?_
   refine st_op (ev_assign rfl) rfl rfl rfl ?_
   try show aw _ _ _ _ _ _
   refine aw_ret ?_
   have hres : (Spec.eqEs ua va) = true := by rw [hv, List.drop_eq_nil_of_le (by omega), List.drop_eq_nil_of_le (by omega)]; rfl
   exact ⟨.bool true, rfl, by first | (rw [hres]; done) | rw [← hres], hxl3⟩
theorem ref17_EqSnap_spec (H : Heap) (a_index : Int) (a_term : Int) (a_conf : ByteArray) (a_data : ByteArray) (b_index : Int) (b_term : Int) (b_conf : ByteArray) (b_data : ByteArray) : ∃ v H', Spec Try.prog 30 [.agg #[.int .i64 a_index, .int .i64 a_term, .string a_conf, .string a_data], .agg #[.int .i64 b_index, .int .i64 b_term, .string b_conf, .string b_data]] H v H' ∧ ((v = .bool (Spec.eqSn a_index a_term a_conf a_data b_index b_term b_conf b_data)) ∧ (Ext H H')) := by
 refine spec_go2 E0_ok 31 (f := 30) Try.func30 rfl rfl rfl ?_
 refine aw_seq ?_
 refine aw_reg ?_
 obtain ⟨b1, H2, he3, b1e, H2n_, hB5, f4⟩ := mem_box (P := Try.prog) H (v := .agg #[.int .i64 a_index, .int .i64 a_term, .string a_conf, .string a_data]) (cs := [.int .i64 a_index, .int .i64 a_term, .string a_conf, .string a_data]) rfl rfl
 refine st_op (he3 _ _ _ _ _ _ _ _ _ rfl) rfl rfl rfl ?_
 have hx6 : Ext H H2 := Ext.new (by omega) H2n_ f4
 have H2n : H.next ≤ H2.next := hx6.1
 obtain ⟨b7, H8, he9, b7e, H8n_, hB11, f10⟩ := mem_box (P := Try.prog) H2 (v := .agg #[.int .i64 b_index, .int .i64 b_term, .string b_conf, .string b_data]) (cs := [.int .i64 b_index, .int .i64 b_term, .string b_conf, .string b_data]) rfl rfl
 refine st_op (he9 _ _ _ _ _ _ _ _ _ rfl) rfl rfl rfl ?_
 have hx12 : Ext H2 H8 := Ext.new (by omega) H8n_ f10
 have H8n : H2.next ≤ H8.next := hx12.1
 refine st_op (ev_assign rfl) rfl rfl rfl ?_
 try show aw _ _ _ _ _ _
 refine aw_seq ?_
 refine aw_reg ?_
 refine st_op (ev_fieldAddr rfl fa24_0 (o' := 0) rfl) rfl rfl rfl ?_
 have h13 := Ext.blk hx12 (by omega) hB5
 refine st_op (ev_load rfl (lvar_one one2 h13 rfl)) rfl rfl rfl ?_
 refine st_op (ev_fieldAddr rfl fa24_0 (o' := 0) rfl) rfl rfl rfl ?_
 refine st_op (ev_load rfl (lvar_one one2 hB11 rfl)) rfl rfl rfl ?_
 refine st_op (ev_int rfl rfl rfl) rfl rfl rfl ?_
 refine st_op (ev_move rfl) rfl rfl rfl ?_
 refine st_bool 10 rfl (fun hb14 => ?_) (fun hb14 => ?_)
 ·
  have hb14 := eq_of_beq hb14
  refine st_op (ev_fieldAddr rfl fa24_1 (o' := 1) rfl) rfl rfl rfl ?_
  refine st_op (ev_load rfl (lvar_one one2 h13 rfl)) rfl rfl rfl ?_
  refine st_op (ev_fieldAddr rfl fa24_1 (o' := 1) rfl) rfl rfl rfl ?_
  refine st_op (ev_load rfl (lvar_one one2 hB11 rfl)) rfl rfl rfl ?_
  refine st_op (ev_int rfl rfl rfl) rfl rfl rfl ?_
  refine st_op (ev_pickT rfl rfl) rfl rfl rfl ?_
  refine st_op (ev_move rfl) rfl rfl rfl ?_
  refine st_bool 17 rfl (fun hb15 => ?_) (fun hb15 => ?_)
  ·
   have hb15 := eq_of_beq hb15
   refine st_op (ev_fieldAddr rfl fa24_2 (o' := 2) rfl) rfl rfl rfl ?_
   refine st_op (ev_load rfl (lvar_one one9 h13 rfl)) rfl rfl rfl ?_
   refine st_op (ev_fieldAddr rfl fa24_2 (o' := 2) rfl) rfl rfl rfl ?_
   refine st_op (ev_load rfl (lvar_one one9 hB11 rfl)) rfl rfl rfl ?_
   refine st_op (ev_str rfl rfl rfl) rfl rfl rfl ?_
   refine st_op (ev_pickT rfl rfl) rfl rfl rfl ?_
   refine st_op (ev_move rfl) rfl rfl rfl ?_
   refine st_bool 24 rfl (fun hb16 => ?_) (fun hb16 => ?_)
   ·
    have hb16 := eq_of_beq hb16
    refine st_op (ev_fieldAddr rfl fa24_3 (o' := 3) rfl) rfl rfl rfl ?_
    refine st_op (ev_load rfl (lvar_one one9 h13 rfl)) rfl rfl rfl ?_
    refine st_op (ev_fieldAddr rfl fa24_3 (o' := 3) rfl) rfl rfl rfl ?_
    refine st_op (ev_load rfl (lvar_one one9 hB11 rfl)) rfl rfl rfl ?_
    refine st_op (ev_str rfl rfl rfl) rfl rfl rfl ?_
    refine st_op (ev_pickT rfl rfl) rfl rfl rfl ?_
    refine st_op (ev_assign rfl) rfl rfl rfl ?_
    try show aw _ _ _ _ _ _
    refine aw_ret ?_
    have hx17 : Ext H H8 := (Ext.trans hx6 hx12)
    have hres : (Spec.eqSn a_index a_term a_conf a_data b_index b_term b_conf b_data) = ((a_data).toList == (b_data).toList) := by simp only [Spec.eqSn]; simp_all
    exact ⟨.bool ((a_data).toList == (b_data).toList), rfl, by first | (rw [hres]; done) | rw [← hres], hx17⟩
   ·
    have hb16 := ne_of_beq_false hb16
    iterate 5 refine st_skip rfl rfl rfl ?_
    refine st_op (ev_pickF rfl rfl) rfl rfl rfl ?_
    refine st_op (ev_assign rfl) rfl rfl rfl ?_
    try show aw _ _ _ _ _ _
    refine aw_ret ?_
    have hx18 : Ext H H8 := (Ext.trans hx6 hx12)
    have hres : (Spec.eqSn a_index a_term a_conf a_data b_index b_term b_conf b_data) = false := by simp only [Spec.eqSn]; simp_all
    exact ⟨.bool false, rfl, by first | (rw [hres]; done) | rw [← hres], hx18⟩
  ·
   have hb15 := ne_of_beq_false hb15
   iterate 5 refine st_skip rfl rfl rfl ?_
   refine st_op (ev_pickF rfl rfl) rfl rfl rfl ?_
   refine st_op (ev_move rfl) rfl rfl rfl ?_
   iterate 5 refine st_skip rfl rfl rfl ?_
   refine st_op (ev_pickF rfl rfl) rfl rfl rfl ?_
   refine st_op (ev_assign rfl) rfl rfl rfl ?_
   try show aw _ _ _ _ _ _
   refine aw_ret ?_
   have hx19 : Ext H H8 := (Ext.trans hx6 hx12)
   have hres : (Spec.eqSn a_index a_term a_conf a_data b_index b_term b_conf b_data) = false := by simp only [Spec.eqSn]; simp_all
   exact ⟨.bool false, rfl, by first | (rw [hres]; done) | rw [← hres], hx19⟩
 ·
  have hb14 := ne_of_beq_false hb14
  iterate 5 refine st_skip rfl rfl rfl ?_
  refine st_op (ev_pickF rfl rfl) rfl rfl rfl ?_
  refine st_op (ev_move rfl) rfl rfl rfl ?_
  iterate 5 refine st_skip rfl rfl rfl ?_
  refine st_op (ev_pickF rfl rfl) rfl rfl rfl ?_
  refine st_op (ev_move rfl) rfl rfl rfl ?_
  iterate 5 refine st_skip rfl rfl rfl ?_
  refine st_op (ev_pickF rfl rfl) rfl rfl rfl ?_
  refine st_op (ev_assign rfl) rfl rfl rfl ?_
  try show aw _ _ _ _ _ _
  refine aw_ret ?_
  have hx20 : Ext H H8 := (Ext.trans hx6 hx12)
  have hres : (Spec.eqSn a_index a_term a_conf a_data b_index b_term b_conf b_data) = false := by simp only [Spec.eqSn]; simp_all
  exact ⟨.bool false, rfl, by first | (rw [hres]; done) | rw [← hres], hx20⟩
theorem law24_EqMsg_spec (H : Heap) (a_kind : Int) (a_from_ : Int) (a_to_ : Int) (a_term : Int) (a_index : Int) (a_logterm : Int) (a_commit : Int) (a_yes : Bool) (a_esA : Option Addr) (a_es : List Entry) (a_esc : Nat) (ha_es : Row H a_esA a_esc 4 (a_es.map Entry.cells)) (ca_es : a_es.length ≤ a_esc) (la_es : a_es.length ≤ 140737488355328) (a_s_index : Int) (a_s_term : Int) (a_s_conf : ByteArray) (a_s_data : ByteArray) (b_kind : Int) (b_from_ : Int) (b_to_ : Int) (b_term : Int) (b_index : Int) (b_logterm : Int) (b_commit : Int) (b_yes : Bool) (b_esA : Option Addr) (b_es : List Entry) (b_esc : Nat) (hb_es : Row H b_esA b_esc 4 (b_es.map Entry.cells)) (cb_es : b_es.length ≤ b_esc) (lb_es : b_es.length ≤ 140737488355328) (b_s_index : Int) (b_s_term : Int) (b_s_conf : ByteArray) (b_s_data : ByteArray) : ∃ v H', Spec Try.prog 14 [.agg #[.int .i64 a_kind, .int .i64 a_from_, .int .i64 a_to_, .int .i64 a_term, .int .i64 a_index, .int .i64 a_logterm, .int .i64 a_commit, .bool a_yes, .slice a_esA a_es.length a_esc, .int .i64 a_s_index, .int .i64 a_s_term, .string a_s_conf, .string a_s_data], .agg #[.int .i64 b_kind, .int .i64 b_from_, .int .i64 b_to_, .int .i64 b_term, .int .i64 b_index, .int .i64 b_logterm, .int .i64 b_commit, .bool b_yes, .slice b_esA b_es.length b_esc, .int .i64 b_s_index, .int .i64 b_s_term, .string b_s_conf, .string b_s_data]] H v H' ∧ ((v = .bool (decide (a_kind = b_kind ∧ a_from_ = b_from_ ∧ a_to_ = b_to_ ∧ a_term = b_term ∧ a_index = b_index ∧ a_logterm = b_logterm ∧ a_commit = b_commit ∧ a_yes = b_yes ∧ Spec.eqEs a_es b_es = true ∧ Spec.eqSn a_s_index a_s_term a_s_conf a_s_data b_s_index b_s_term b_s_conf b_s_data = true))) ∧ (Ext H H')) := by
 refine spec_go2 E0_ok 73 (f := 14) Try.func14 rfl rfl rfl ?_
 refine aw_seq ?_
 refine aw_reg ?_
 obtain ⟨b1, H2, he3, b1e, H2n_, hB5, f4⟩ := mem_box (P := Try.prog) H (v := .agg #[.int .i64 a_kind, .int .i64 a_from_, .int .i64 a_to_, .int .i64 a_term, .int .i64 a_index, .int .i64 a_logterm, .int .i64 a_commit, .bool a_yes, .slice a_esA a_es.length a_esc, .int .i64 a_s_index, .int .i64 a_s_term, .string a_s_conf, .string a_s_data]) (cs := [.int .i64 a_kind, .int .i64 a_from_, .int .i64 a_to_, .int .i64 a_term, .int .i64 a_index, .int .i64 a_logterm, .int .i64 a_commit, .bool a_yes, .slice a_esA a_es.length a_esc, .int .i64 a_s_index, .int .i64 a_s_term, .string a_s_conf, .string a_s_data]) rfl rfl
 refine st_op (he3 _ _ _ _ _ _ _ _ _ rfl) rfl rfl rfl ?_
 have hx6 : Ext H H2 := Ext.new (by omega) H2n_ f4
 have H2n : H.next ≤ H2.next := hx6.1
 obtain ⟨b7, H8, he9, b7e, H8n_, hB11, f10⟩ := mem_box (P := Try.prog) H2 (v := .agg #[.int .i64 b_kind, .int .i64 b_from_, .int .i64 b_to_, .int .i64 b_term, .int .i64 b_index, .int .i64 b_logterm, .int .i64 b_commit, .bool b_yes, .slice b_esA b_es.length b_esc, .int .i64 b_s_index, .int .i64 b_s_term, .string b_s_conf, .string b_s_data]) (cs := [.int .i64 b_kind, .int .i64 b_from_, .int .i64 b_to_, .int .i64 b_term, .int .i64 b_index, .int .i64 b_logterm, .int .i64 b_commit, .bool b_yes, .slice b_esA b_es.length b_esc, .int .i64 b_s_index, .int .i64 b_s_term, .string b_s_conf, .string b_s_data]) rfl rfl
 refine st_op (he9 _ _ _ _ _ _ _ _ _ rfl) rfl rfl rfl ?_
 have hx12 : Ext H2 H8 := Ext.new (by omega) H8n_ f10
 have H8n : H2.next ≤ H8.next := hx12.1
 refine st_op (ev_assign rfl) rfl rfl rfl ?_
 try show aw _ _ _ _ _ _
 refine aw_seq ?_
 refine aw_reg ?_
 refine st_op (ev_fieldAddr rfl fa26_0 (o' := 0) rfl) rfl rfl rfl ?_
 have h13 := Ext.blk hx12 (by omega) hB5
 refine st_op (ev_load rfl (lvar_one one3 h13 rfl)) rfl rfl rfl ?_
 refine st_op (ev_fieldAddr rfl fa26_0 (o' := 0) rfl) rfl rfl rfl ?_
 refine st_op (ev_load rfl (lvar_one one3 hB11 rfl)) rfl rfl rfl ?_
 refine st_op (ev_int rfl rfl rfl) rfl rfl rfl ?_
 refine st_op (ev_move rfl) rfl rfl rfl ?_
 refine st_bool 10 rfl (fun hb14 => ?_) (fun hb14 => ?_)
 ·
  have hb14 := eq_of_beq hb14
  refine st_op (ev_fieldAddr rfl fa26_1 (o' := 1) rfl) rfl rfl rfl ?_
  refine st_op (ev_load rfl (lvar_one one3 h13 rfl)) rfl rfl rfl ?_
  refine st_op (ev_fieldAddr rfl fa26_1 (o' := 1) rfl) rfl rfl rfl ?_
  refine st_op (ev_load rfl (lvar_one one3 hB11 rfl)) rfl rfl rfl ?_
  refine st_op (ev_int rfl rfl rfl) rfl rfl rfl ?_
  refine st_op (ev_pickT rfl rfl) rfl rfl rfl ?_
  refine st_op (ev_move rfl) rfl rfl rfl ?_
  refine st_bool 17 rfl (fun hb15 => ?_) (fun hb15 => ?_)
  ·
   have hb15 := eq_of_beq hb15
   refine st_op (ev_fieldAddr rfl fa26_2 (o' := 2) rfl) rfl rfl rfl ?_
   refine st_op (ev_load rfl (lvar_one one3 h13 rfl)) rfl rfl rfl ?_
   refine st_op (ev_fieldAddr rfl fa26_2 (o' := 2) rfl) rfl rfl rfl ?_
   refine st_op (ev_load rfl (lvar_one one3 hB11 rfl)) rfl rfl rfl ?_
   refine st_op (ev_int rfl rfl rfl) rfl rfl rfl ?_
   refine st_op (ev_pickT rfl rfl) rfl rfl rfl ?_
   refine st_op (ev_move rfl) rfl rfl rfl ?_
   refine st_bool 24 rfl (fun hb16 => ?_) (fun hb16 => ?_)
   ·
    have hb16 := eq_of_beq hb16
    refine st_op (ev_fieldAddr rfl fa26_3 (o' := 3) rfl) rfl rfl rfl ?_
    refine st_op (ev_load rfl (lvar_one one2 h13 rfl)) rfl rfl rfl ?_
    refine st_op (ev_fieldAddr rfl fa26_3 (o' := 3) rfl) rfl rfl rfl ?_
    refine st_op (ev_load rfl (lvar_one one2 hB11 rfl)) rfl rfl rfl ?_
    refine st_op (ev_int rfl rfl rfl) rfl rfl rfl ?_
    refine st_op (ev_pickT rfl rfl) rfl rfl rfl ?_
    refine st_op (ev_move rfl) rfl rfl rfl ?_
    refine st_bool 31 rfl (fun hb17 => ?_) (fun hb17 => ?_)
    ·
     have hb17 := eq_of_beq hb17
     refine st_op (ev_fieldAddr rfl fa26_4 (o' := 4) rfl) rfl rfl rfl ?_
     refine st_op (ev_load rfl (lvar_one one2 h13 rfl)) rfl rfl rfl ?_
     refine st_op (ev_fieldAddr rfl fa26_4 (o' := 4) rfl) rfl rfl rfl ?_
     refine st_op (ev_load rfl (lvar_one one2 hB11 rfl)) rfl rfl rfl ?_
     refine st_op (ev_int rfl rfl rfl) rfl rfl rfl ?_
     refine st_op (ev_pickT rfl rfl) rfl rfl rfl ?_
     refine st_op (ev_move rfl) rfl rfl rfl ?_
     refine st_bool 38 rfl (fun hb18 => ?_) (fun hb18 => ?_)
     ·
      have hb18 := eq_of_beq hb18
      refine st_op (ev_fieldAddr rfl fa26_5 (o' := 5) rfl) rfl rfl rfl ?_
      refine st_op (ev_load rfl (lvar_one one2 h13 rfl)) rfl rfl rfl ?_
      refine st_op (ev_fieldAddr rfl fa26_5 (o' := 5) rfl) rfl rfl rfl ?_
      refine st_op (ev_load rfl (lvar_one one2 hB11 rfl)) rfl rfl rfl ?_
      refine st_op (ev_int rfl rfl rfl) rfl rfl rfl ?_
      refine st_op (ev_pickT rfl rfl) rfl rfl rfl ?_
      refine st_op (ev_move rfl) rfl rfl rfl ?_
      refine st_bool 45 rfl (fun hb19 => ?_) (fun hb19 => ?_)
      ·
       have hb19 := eq_of_beq hb19
       refine st_op (ev_fieldAddr rfl fa26_6 (o' := 6) rfl) rfl rfl rfl ?_
       refine st_op (ev_load rfl (lvar_one one2 h13 rfl)) rfl rfl rfl ?_
       refine st_op (ev_fieldAddr rfl fa26_6 (o' := 6) rfl) rfl rfl rfl ?_
       refine st_op (ev_load rfl (lvar_one one2 hB11 rfl)) rfl rfl rfl ?_
       refine st_op (ev_int rfl rfl rfl) rfl rfl rfl ?_
       refine st_op (ev_pickT rfl rfl) rfl rfl rfl ?_
       refine st_op (ev_move rfl) rfl rfl rfl ?_
       refine st_bool 52 rfl (fun hb20 => ?_) (fun hb20 => ?_)
       ·
        have hb20 := eq_of_beq hb20
        refine st_op (ev_fieldAddr rfl fa26_7 (o' := 7) rfl) rfl rfl rfl ?_
        refine st_op (ev_load rfl (lvar_one one4 h13 rfl)) rfl rfl rfl ?_
        refine st_op (ev_fieldAddr rfl fa26_7 (o' := 7) rfl) rfl rfl rfl ?_
        refine st_op (ev_load rfl (lvar_one one4 hB11 rfl)) rfl rfl rfl ?_
        refine st_op (ev_eqBool isbool4 rfl rfl) rfl rfl rfl ?_
        refine st_op (ev_pickT rfl rfl) rfl rfl rfl ?_
        refine st_op (ev_move rfl) rfl rfl rfl ?_
        refine st_bool 59 rfl (fun hb21 => ?_) (fun hb21 => ?_)
        ·
         have hb21 := eq_of_beq hb21
         refine st_op (ev_fieldAddr rfl fa26_8 (o' := 8) rfl) rfl rfl rfl ?_
         refine st_op (ev_load rfl (lvar_one one22 h13 rfl)) rfl rfl rfl ?_
         refine st_op (ev_fieldAddr rfl fa26_8 (o' := 8) rfl) rfl rfl rfl ?_
         refine st_op (ev_load rfl (lvar_one one22 hB11 rfl)) rfl rfl rfl ?_
         refine st_call rfl rfl rfl ent36 rfl rfl rfl ?_
         have hx23 : Ext H H8 := (Ext.trans hx6 hx12)
         have h22 := Row.ext ha_es hx23
         have h24 := Row.ext hb_es hx23
         obtain ⟨_, H26, hs25, hs25v, hx27⟩ := ref17_EqEntries_spec H8 a_esA a_es a_esc h22 ca_es (by omega) b_esA b_es b_esc h24 cb_es (by omega)
         rw [hs25v] at hs25; clear hs25v
         refine ⟨_, H26, hs25, ?_⟩
         have H26n : H8.next ≤ H26.next := hx27.1
         refine st_op (ev_pickT rfl rfl) rfl rfl rfl ?_
         refine st_op (ev_move rfl) rfl rfl rfl ?_
         refine st_bool 66 rfl (fun hb28 => ?_) (fun hb28 => ?_)
         ·
          refine st_op (ev_fieldAddr rfl fa26_9 (o' := 9) rfl) rfl rfl rfl ?_
          have h29 := Ext.blk hx27 (by omega) h13
          refine st_op (ev_load rfl (lvar_part (l := [.int .i64 a_s_index, .int .i64 a_s_term, .string a_s_conf, .string a_s_data]) many24 h29 rfl rfl (by decide))) rfl rfl rfl ?_
          refine st_op (ev_fieldAddr rfl fa26_9 (o' := 9) rfl) rfl rfl rfl ?_
          have h30 := Ext.blk hx27 (by omega) hB11
          refine st_op (ev_load rfl (lvar_part (l := [.int .i64 b_s_index, .int .i64 b_s_term, .string b_s_conf, .string b_s_data]) many24 h30 rfl rfl (by decide))) rfl rfl rfl ?_
          refine st_call rfl rfl rfl ent30 rfl rfl rfl ?_
          obtain ⟨_, H32, hs31, hs31v, hx33⟩ := ref17_EqSnap_spec H26 a_s_index a_s_term a_s_conf a_s_data b_s_index b_s_term b_s_conf b_s_data
          rw [hs31v] at hs31; clear hs31v
          refine ⟨_, H32, hs31, ?_⟩
          have H32n : H26.next ≤ H32.next := hx33.1
          refine st_op (ev_pickT rfl rfl) rfl rfl rfl ?_
          refine st_op (ev_assign rfl) rfl rfl rfl ?_
          try show aw _ _ _ _ _ _
          refine aw_ret ?_
          have hx34 : Ext H H32 := (Ext.trans (Ext.trans hx23 hx27) hx33)
          have hres : (decide (a_kind = b_kind ∧ a_from_ = b_from_ ∧ a_to_ = b_to_ ∧ a_term = b_term ∧ a_index = b_index ∧ a_logterm = b_logterm ∧ a_commit = b_commit ∧ a_yes = b_yes ∧ Spec.eqEs a_es b_es = true ∧ Spec.eqSn a_s_index a_s_term a_s_conf a_s_data b_s_index b_s_term b_s_conf b_s_data = true)) = (Spec.eqSn a_s_index a_s_term a_s_conf a_s_data b_s_index b_s_term b_s_conf b_s_data) := by rw [Bool.eq_iff_iff]; simp_all
          exact ⟨.bool (Spec.eqSn a_s_index a_s_term a_s_conf a_s_data b_s_index b_s_term b_s_conf b_s_data), rfl, by first | (rw [hres]; done) | rw [← hres], hx34⟩
         ·
          iterate 5 refine st_skip rfl rfl rfl ?_
          refine st_op (ev_pickF rfl rfl) rfl rfl rfl ?_
          refine st_op (ev_assign rfl) rfl rfl rfl ?_
          try show aw _ _ _ _ _ _
          refine aw_ret ?_
          have hx35 : Ext H H26 := (Ext.trans hx23 hx27)
          have hres : (decide (a_kind = b_kind ∧ a_from_ = b_from_ ∧ a_to_ = b_to_ ∧ a_term = b_term ∧ a_index = b_index ∧ a_logterm = b_logterm ∧ a_commit = b_commit ∧ a_yes = b_yes ∧ Spec.eqEs a_es b_es = true ∧ Spec.eqSn a_s_index a_s_term a_s_conf a_s_data b_s_index b_s_term b_s_conf b_s_data = true)) = false := by rw [Bool.eq_iff_iff]; simp_all
          exact ⟨.bool false, rfl, by first | (rw [hres]; done) | rw [← hres], hx35⟩
        ·
         have hb21 := ne_of_beq_false hb21
         iterate 5 refine st_skip rfl rfl rfl ?_
         refine st_op (ev_pickF rfl rfl) rfl rfl rfl ?_
         refine st_op (ev_move rfl) rfl rfl rfl ?_
         iterate 5 refine st_skip rfl rfl rfl ?_
         refine st_op (ev_pickF rfl rfl) rfl rfl rfl ?_
         refine st_op (ev_assign rfl) rfl rfl rfl ?_
         try show aw _ _ _ _ _ _
         refine aw_ret ?_
         have hx36 : Ext H H8 := (Ext.trans hx6 hx12)
         have hres : (decide (a_kind = b_kind ∧ a_from_ = b_from_ ∧ a_to_ = b_to_ ∧ a_term = b_term ∧ a_index = b_index ∧ a_logterm = b_logterm ∧ a_commit = b_commit ∧ a_yes = b_yes ∧ Spec.eqEs a_es b_es = true ∧ Spec.eqSn a_s_index a_s_term a_s_conf a_s_data b_s_index b_s_term b_s_conf b_s_data = true)) = false := by rw [Bool.eq_iff_iff]; simp_all
         exact ⟨.bool false, rfl, by first | (rw [hres]; done) | rw [← hres], hx36⟩
       ·
        have hb20 := ne_of_beq_false hb20
        iterate 5 refine st_skip rfl rfl rfl ?_
        refine st_op (ev_pickF rfl rfl) rfl rfl rfl ?_
        refine st_op (ev_move rfl) rfl rfl rfl ?_
        iterate 5 refine st_skip rfl rfl rfl ?_
        refine st_op (ev_pickF rfl rfl) rfl rfl rfl ?_
        refine st_op (ev_move rfl) rfl rfl rfl ?_
        iterate 5 refine st_skip rfl rfl rfl ?_
        refine st_op (ev_pickF rfl rfl) rfl rfl rfl ?_
        refine st_op (ev_assign rfl) rfl rfl rfl ?_
        try show aw _ _ _ _ _ _
        refine aw_ret ?_
        have hx37 : Ext H H8 := (Ext.trans hx6 hx12)
        have hres : (decide (a_kind = b_kind ∧ a_from_ = b_from_ ∧ a_to_ = b_to_ ∧ a_term = b_term ∧ a_index = b_index ∧ a_logterm = b_logterm ∧ a_commit = b_commit ∧ a_yes = b_yes ∧ Spec.eqEs a_es b_es = true ∧ Spec.eqSn a_s_index a_s_term a_s_conf a_s_data b_s_index b_s_term b_s_conf b_s_data = true)) = false := by rw [Bool.eq_iff_iff]; simp_all
        exact ⟨.bool false, rfl, by first | (rw [hres]; done) | rw [← hres], hx37⟩
      ·
       have hb19 := ne_of_beq_false hb19
       iterate 5 refine st_skip rfl rfl rfl ?_
       refine st_op (ev_pickF rfl rfl) rfl rfl rfl ?_
       refine st_op (ev_move rfl) rfl rfl rfl ?_
       iterate 5 refine st_skip rfl rfl rfl ?_
       refine st_op (ev_pickF rfl rfl) rfl rfl rfl ?_
       refine st_op (ev_move rfl) rfl rfl rfl ?_
       iterate 5 refine st_skip rfl rfl rfl ?_
       refine st_op (ev_pickF rfl rfl) rfl rfl rfl ?_
       refine st_op (ev_move rfl) rfl rfl rfl ?_
       iterate 5 refine st_skip rfl rfl rfl ?_
       refine st_op (ev_pickF rfl rfl) rfl rfl rfl ?_
       refine st_op (ev_assign rfl) rfl rfl rfl ?_
       try show aw _ _ _ _ _ _
       refine aw_ret ?_
       have hx38 : Ext H H8 := (Ext.trans hx6 hx12)
       have hres : (decide (a_kind = b_kind ∧ a_from_ = b_from_ ∧ a_to_ = b_to_ ∧ a_term = b_term ∧ a_index = b_index ∧ a_logterm = b_logterm ∧ a_commit = b_commit ∧ a_yes = b_yes ∧ Spec.eqEs a_es b_es = true ∧ Spec.eqSn a_s_index a_s_term a_s_conf a_s_data b_s_index b_s_term b_s_conf b_s_data = true)) = false := by rw [Bool.eq_iff_iff]; simp_all
       exact ⟨.bool false, rfl, by first | (rw [hres]; done) | rw [← hres], hx38⟩
     ·
      have hb18 := ne_of_beq_false hb18
      iterate 5 refine st_skip rfl rfl rfl ?_
      refine st_op (ev_pickF rfl rfl) rfl rfl rfl ?_
      refine st_op (ev_move rfl) rfl rfl rfl ?_
      iterate 5 refine st_skip rfl rfl rfl ?_
      refine st_op (ev_pickF rfl rfl) rfl rfl rfl ?_
      refine st_op (ev_move rfl) rfl rfl rfl ?_
      iterate 5 refine st_skip rfl rfl rfl ?_
      refine st_op (ev_pickF rfl rfl) rfl rfl rfl ?_
      refine st_op (ev_move rfl) rfl rfl rfl ?_
      iterate 5 refine st_skip rfl rfl rfl ?_
      refine st_op (ev_pickF rfl rfl) rfl rfl rfl ?_
      refine st_op (ev_move rfl) rfl rfl rfl ?_
      iterate 5 refine st_skip rfl rfl rfl ?_
      refine st_op (ev_pickF rfl rfl) rfl rfl rfl ?_
      refine st_op (ev_assign rfl) rfl rfl rfl ?_
      try show aw _ _ _ _ _ _
      refine aw_ret ?_
      have hx39 : Ext H H8 := (Ext.trans hx6 hx12)
      have hres : (decide (a_kind = b_kind ∧ a_from_ = b_from_ ∧ a_to_ = b_to_ ∧ a_term = b_term ∧ a_index = b_index ∧ a_logterm = b_logterm ∧ a_commit = b_commit ∧ a_yes = b_yes ∧ Spec.eqEs a_es b_es = true ∧ Spec.eqSn a_s_index a_s_term a_s_conf a_s_data b_s_index b_s_term b_s_conf b_s_data = true)) = false := by rw [Bool.eq_iff_iff]; simp_all
      exact ⟨.bool false, rfl, by first | (rw [hres]; done) | rw [← hres], hx39⟩
    ·
     have hb17 := ne_of_beq_false hb17
     iterate 5 refine st_skip rfl rfl rfl ?_
     refine st_op (ev_pickF rfl rfl) rfl rfl rfl ?_
     refine st_op (ev_move rfl) rfl rfl rfl ?_
     iterate 5 refine st_skip rfl rfl rfl ?_
     refine st_op (ev_pickF rfl rfl) rfl rfl rfl ?_
     refine st_op (ev_move rfl) rfl rfl rfl ?_
     iterate 5 refine st_skip rfl rfl rfl ?_
     refine st_op (ev_pickF rfl rfl) rfl rfl rfl ?_
     refine st_op (ev_move rfl) rfl rfl rfl ?_
     iterate 5 refine st_skip rfl rfl rfl ?_
     refine st_op (ev_pickF rfl rfl) rfl rfl rfl ?_
     refine st_op (ev_move rfl) rfl rfl rfl ?_
     iterate 5 refine st_skip rfl rfl rfl ?_
     refine st_op (ev_pickF rfl rfl) rfl rfl rfl ?_
     refine st_op (ev_move rfl) rfl rfl rfl ?_
     iterate 5 refine st_skip rfl rfl rfl ?_
     refine st_op (ev_pickF rfl rfl) rfl rfl rfl ?_
     refine st_op (ev_assign rfl) rfl rfl rfl ?_
     try show aw _ _ _ _ _ _
     refine aw_ret ?_
     have hx40 : Ext H H8 := (Ext.trans hx6 hx12)
     have hres : (decide (a_kind = b_kind ∧ a_from_ = b_from_ ∧ a_to_ = b_to_ ∧ a_term = b_term ∧ a_index = b_index ∧ a_logterm = b_logterm ∧ a_commit = b_commit ∧ a_yes = b_yes ∧ Spec.eqEs a_es b_es = true ∧ Spec.eqSn a_s_index a_s_term a_s_conf a_s_data b_s_index b_s_term b_s_conf b_s_data = true)) = false := by rw [Bool.eq_iff_iff]; simp_all
     exact ⟨.bool false, rfl, by first | (rw [hres]; done) | rw [← hres], hx40⟩
   ·
    have hb16 := ne_of_beq_false hb16
    iterate 5 refine st_skip rfl rfl rfl ?_
    refine st_op (ev_pickF rfl rfl) rfl rfl rfl ?_
    refine st_op (ev_move rfl) rfl rfl rfl ?_
    iterate 5 refine st_skip rfl rfl rfl ?_
    refine st_op (ev_pickF rfl rfl) rfl rfl rfl ?_
    refine st_op (ev_move rfl) rfl rfl rfl ?_
    iterate 5 refine st_skip rfl rfl rfl ?_
    refine st_op (ev_pickF rfl rfl) rfl rfl rfl ?_
    refine st_op (ev_move rfl) rfl rfl rfl ?_
    iterate 5 refine st_skip rfl rfl rfl ?_
    refine st_op (ev_pickF rfl rfl) rfl rfl rfl ?_
    refine st_op (ev_move rfl) rfl rfl rfl ?_
    iterate 5 refine st_skip rfl rfl rfl ?_
    refine st_op (ev_pickF rfl rfl) rfl rfl rfl ?_
    refine st_op (ev_move rfl) rfl rfl rfl ?_
    iterate 5 refine st_skip rfl rfl rfl ?_
    refine st_op (ev_pickF rfl rfl) rfl rfl rfl ?_
    refine st_op (ev_move rfl) rfl rfl rfl ?_
    iterate 5 refine st_skip rfl rfl rfl ?_
    refine st_op (ev_pickF rfl rfl) rfl rfl rfl ?_
    refine st_op (ev_assign rfl) rfl rfl rfl ?_
    try show aw _ _ _ _ _ _
    refine aw_ret ?_
    have hx41 : Ext H H8 := (Ext.trans hx6 hx12)
    have hres : (decide (a_kind = b_kind ∧ a_from_ = b_from_ ∧ a_to_ = b_to_ ∧ a_term = b_term ∧ a_index = b_index ∧ a_logterm = b_logterm ∧ a_commit = b_commit ∧ a_yes = b_yes ∧ Spec.eqEs a_es b_es = true ∧ Spec.eqSn a_s_index a_s_term a_s_conf a_s_data b_s_index b_s_term b_s_conf b_s_data = true)) = false := by rw [Bool.eq_iff_iff]; simp_all
    exact ⟨.bool false, rfl, by first | (rw [hres]; done) | rw [← hres], hx41⟩
  ·
   have hb15 := ne_of_beq_false hb15
   iterate 5 refine st_skip rfl rfl rfl ?_
   refine st_op (ev_pickF rfl rfl) rfl rfl rfl ?_
   refine st_op (ev_move rfl) rfl rfl rfl ?_
   iterate 5 refine st_skip rfl rfl rfl ?_
   refine st_op (ev_pickF rfl rfl) rfl rfl rfl ?_
   refine st_op (ev_move rfl) rfl rfl rfl ?_
   iterate 5 refine st_skip rfl rfl rfl ?_
   refine st_op (ev_pickF rfl rfl) rfl rfl rfl ?_
   refine st_op (ev_move rfl) rfl rfl rfl ?_
   iterate 5 refine st_skip rfl rfl rfl ?_
   refine st_op (ev_pickF rfl rfl) rfl rfl rfl ?_
   refine st_op (ev_move rfl) rfl rfl rfl ?_
   iterate 5 refine st_skip rfl rfl rfl ?_
   refine st_op (ev_pickF rfl rfl) rfl rfl rfl ?_
   refine st_op (ev_move rfl) rfl rfl rfl ?_
   iterate 5 refine st_skip rfl rfl rfl ?_
   refine st_op (ev_pickF rfl rfl) rfl rfl rfl ?_
   refine st_op (ev_move rfl) rfl rfl rfl ?_
   iterate 5 refine st_skip rfl rfl rfl ?_
   refine st_op (ev_pickF rfl rfl) rfl rfl rfl ?_
   refine st_op (ev_move rfl) rfl rfl rfl ?_
   iterate 5 refine st_skip rfl rfl rfl ?_
   refine st_op (ev_pickF rfl rfl) rfl rfl rfl ?_
   refine st_op (ev_assign rfl) rfl rfl rfl ?_
   try show aw _ _ _ _ _ _
   refine aw_ret ?_
   have hx42 : Ext H H8 := (Ext.trans hx6 hx12)
   have hres : (decide (a_kind = b_kind ∧ a_from_ = b_from_ ∧ a_to_ = b_to_ ∧ a_term = b_term ∧ a_index = b_index ∧ a_logterm = b_logterm ∧ a_commit = b_commit ∧ a_yes = b_yes ∧ Spec.eqEs a_es b_es = true ∧ Spec.eqSn a_s_index a_s_term a_s_conf a_s_data b_s_index b_s_term b_s_conf b_s_data = true)) = false := by rw [Bool.eq_iff_iff]; simp_all
   exact ⟨.bool false, rfl, by first | (rw [hres]; done) | rw [← hres], hx42⟩
 ·
  have hb14 := ne_of_beq_false hb14
  iterate 5 refine st_skip rfl rfl rfl ?_
  refine st_op (ev_pickF rfl rfl) rfl rfl rfl ?_
  refine st_op (ev_move rfl) rfl rfl rfl ?_
  iterate 5 refine st_skip rfl rfl rfl ?_
  refine st_op (ev_pickF rfl rfl) rfl rfl rfl ?_
  refine st_op (ev_move rfl) rfl rfl rfl ?_
  iterate 5 refine st_skip rfl rfl rfl ?_
  refine st_op (ev_pickF rfl rfl) rfl rfl rfl ?_
  refine st_op (ev_move rfl) rfl rfl rfl ?_
  iterate 5 refine st_skip rfl rfl rfl ?_
  refine st_op (ev_pickF rfl rfl) rfl rfl rfl ?_
  refine st_op (ev_move rfl) rfl rfl rfl ?_
  iterate 5 refine st_skip rfl rfl rfl ?_
  refine st_op (ev_pickF rfl rfl) rfl rfl rfl ?_
  refine st_op (ev_move rfl) rfl rfl rfl ?_
  iterate 5 refine st_skip rfl rfl rfl ?_
  refine st_op (ev_pickF rfl rfl) rfl rfl rfl ?_
  refine st_op (ev_move rfl) rfl rfl rfl ?_
  iterate 5 refine st_skip rfl rfl rfl ?_
  refine st_op (ev_pickF rfl rfl) rfl rfl rfl ?_
  refine st_op (ev_move rfl) rfl rfl rfl ?_
  iterate 5 refine st_skip rfl rfl rfl ?_
  refine st_op (ev_pickF rfl rfl) rfl rfl rfl ?_
  refine st_op (ev_move rfl) rfl rfl rfl ?_
  iterate 5 refine st_skip rfl rfl rfl ?_
  refine st_op (ev_pickF rfl rfl) rfl rfl rfl ?_
  refine st_op (ev_assign rfl) rfl rfl rfl ?_
  try show aw _ _ _ _ _ _
  refine aw_ret ?_
  have hx43 : Ext H H8 := (Ext.trans hx6 hx12)
  have hres : (decide (a_kind = b_kind ∧ a_from_ = b_from_ ∧ a_to_ = b_to_ ∧ a_term = b_term ∧ a_index = b_index ∧ a_logterm = b_logterm ∧ a_commit = b_commit ∧ a_yes = b_yes ∧ Spec.eqEs a_es b_es = true ∧ Spec.eqSn a_s_index a_s_term a_s_conf a_s_data b_s_index b_s_term b_s_conf b_s_data = true)) = false := by rw [Bool.eq_iff_iff]; simp_all
  exact ⟨.bool false, rfl, by first | (rw [hres]; done) | rw [← hres], hx43⟩
theorem ref21_id_spec (H : Heap) (n : Int) : ∃ v H', Spec Try.prog 27 [.int .i64 n] H v H' ∧ ((v = .bool (decide (1 ≤ n ∧ n ≤ 7))) ∧ (Ext H H')) := by
 refine spec_go1 E0_ok 9 (f := 27) Try.func27 rfl rfl rfl ?_
 refine aw_seq ?_
 refine aw_reg ?_
 refine st_op (ev_assign rfl) rfl rfl rfl ?_
 try show aw _ _ _ _ _ _
 refine aw_seq ?_
 refine aw_reg ?_
 refine st_op (ev_move rfl) rfl rfl rfl ?_
 refine st_op (ev_int rfl rfl rfl) rfl rfl rfl ?_
 refine st_op (ev_move rfl) rfl rfl rfl ?_
 refine st_bool 5 rfl (fun hb1 => ?_) (fun hb1 => ?_)
 ·
  have hb1 := of_decide_eq_true hb1
  refine st_op (ev_move rfl) rfl rfl rfl ?_
  refine st_op (ev_int rfl rfl rfl) rfl rfl rfl ?_
  refine st_op (ev_pickT rfl rfl) rfl rfl rfl ?_
  refine st_op (ev_assign rfl) rfl rfl rfl ?_
  try show aw _ _ _ _ _ _
  refine aw_ret ?_
  have hres : (decide (1 ≤ n ∧ n ≤ 7)) = (decide (n ≤ 7)) := by rw [Bool.eq_iff_iff]; simp only [decide_eq_true_eq, Bool.false_eq_true, iff_false]; omega
  exact ⟨.bool (decide (n ≤ 7)), rfl, by first | (rw [hres]; done) | rw [← hres], (Ext.refl H)⟩
 ·
  have hb1 := of_decide_eq_false hb1
  iterate 2 refine st_skip rfl rfl rfl ?_
  refine st_op (ev_pickF rfl rfl) rfl rfl rfl ?_
  refine st_op (ev_assign rfl) rfl rfl rfl ?_
  try show aw _ _ _ _ _ _
  refine aw_ret ?_
  have hres : (decide (1 ≤ n ∧ n ≤ 7)) = false := by rw [Bool.eq_iff_iff]; simp only [decide_eq_true_eq, Bool.false_eq_true, iff_false]; omega
  exact ⟨.bool false, rfl, by first | (rw [hres]; done) | rw [← hres], (Ext.refl H)⟩
theorem ref21_num_spec (H : Heap) (n : Int) : ∃ v H', Spec Try.prog 28 [.int .i64 n] H v H' ∧ ((v = .bool (decide (0 ≤ n ∧ n ≤ 1099511627776))) ∧ (Ext H H')) := by
 refine spec_go1 E0_ok 9 (f := 28) Try.func28 rfl rfl rfl ?_
 refine aw_seq ?_
 refine aw_reg ?_
 refine st_op (ev_assign rfl) rfl rfl rfl ?_
 try show aw _ _ _ _ _ _
 refine aw_seq ?_
 refine aw_reg ?_
 refine st_op (ev_move rfl) rfl rfl rfl ?_
 refine st_op (ev_int rfl rfl rfl) rfl rfl rfl ?_
 refine st_op (ev_move rfl) rfl rfl rfl ?_
 refine st_bool 5 rfl (fun hb1 => ?_) (fun hb1 => ?_)
 ·
  have hb1 := of_decide_eq_true hb1
  refine st_op (ev_move rfl) rfl rfl rfl ?_
  refine st_op (ev_int rfl rfl rfl) rfl rfl rfl ?_
  refine st_op (ev_pickT rfl rfl) rfl rfl rfl ?_
  refine st_op (ev_assign rfl) rfl rfl rfl ?_
  try show aw _ _ _ _ _ _
  refine aw_ret ?_
  have hres : (decide (0 ≤ n ∧ n ≤ 1099511627776)) = (decide (n ≤ 1099511627776)) := by rw [Bool.eq_iff_iff]; simp only [decide_eq_true_eq, Bool.false_eq_true, iff_false]; omega
  exact ⟨.bool (decide (n ≤ 1099511627776)), rfl, by first | (rw [hres]; done) | rw [← hres], (Ext.refl H)⟩
 ·
  have hb1 := of_decide_eq_false hb1
  iterate 2 refine st_skip rfl rfl rfl ?_
  refine st_op (ev_pickF rfl rfl) rfl rfl rfl ?_
  refine st_op (ev_assign rfl) rfl rfl rfl ?_
  try show aw _ _ _ _ _ _
  refine aw_ret ?_
  have hres : (decide (0 ≤ n ∧ n ≤ 1099511627776)) = false := by rw [Bool.eq_iff_iff]; simp only [decide_eq_true_eq, Bool.false_eq_true, iff_false]; omega
  exact ⟨.bool false, rfl, by first | (rw [hres]; done) | rw [← hres], (Ext.refl H)⟩
theorem ref17_MayEntry_spec (H : Heap) (e_index : Int) (e_term : Int) (e_kind : Int) (e_data : ByteArray) : ∃ v H', Spec Try.prog 29 [.agg #[.int .i64 e_index, .int .i64 e_term, .int .i64 e_kind, .string e_data]] H v H' ∧ ((v = .bool (Spec.mayF false 0 0 e_index e_term e_kind e_data)) ∧ (Ext H H')) := by
 refine spec_go1 E0_ok 37 (f := 29) Try.func29 rfl rfl rfl ?_
 refine aw_seq ?_
 refine aw_reg ?_
 obtain ⟨b1, H2, he3, b1e, H2n_, hB5, f4⟩ := mem_box (P := Try.prog) H (v := .agg #[.int .i64 e_index, .int .i64 e_term, .int .i64 e_kind, .string e_data]) (cs := [.int .i64 e_index, .int .i64 e_term, .int .i64 e_kind, .string e_data]) rfl rfl
 refine st_op (he3 _ _ _ _ _ _ _ _ _ rfl) rfl rfl rfl ?_
 have hx6 : Ext H H2 := Ext.new (by omega) H2n_ f4
 have H2n : H.next ≤ H2.next := hx6.1
 refine st_op (ev_assign rfl) rfl rfl rfl ?_
 try show aw _ _ _ _ _ _
 refine aw_seq ?_
 refine aw_reg ?_
 refine st_op (ev_fieldAddr rfl fa45_0 (o' := 0) rfl) rfl rfl rfl ?_
 refine st_op (ev_load rfl (lvar_one one2 hB5 rfl)) rfl rfl rfl ?_
 refine st_op (ev_int rfl rfl rfl) rfl rfl rfl ?_
 refine st_op (ev_move rfl) rfl rfl rfl ?_
 refine st_bool 6 rfl (fun hb7 => ?_) (fun hb7 => ?_)
 ·
  have hb7 := of_decide_eq_true hb7
  refine st_op (ev_fieldAddr rfl fa45_0 (o' := 0) rfl) rfl rfl rfl ?_
  refine st_op (ev_load rfl (lvar_one one2 hB5 rfl)) rfl rfl rfl ?_
  refine st_op (ev_int rfl rfl rfl) rfl rfl rfl ?_
  refine st_op (ev_pickT rfl rfl) rfl rfl rfl ?_
  refine st_op (ev_move rfl) rfl rfl rfl ?_
  refine st_bool 11 rfl (fun hb8 => ?_) (fun hb8 => ?_)
  ·
   have hb8 := of_decide_eq_true hb8
   refine st_op (ev_fieldAddr rfl fa45_1 (o' := 1) rfl) rfl rfl rfl ?_
   refine st_op (ev_load rfl (lvar_one one2 hB5 rfl)) rfl rfl rfl ?_
   refine st_op (ev_int rfl rfl rfl) rfl rfl rfl ?_
   refine st_op (ev_pickT rfl rfl) rfl rfl rfl ?_
   refine st_op (ev_move rfl) rfl rfl rfl ?_
   refine st_bool 16 rfl (fun hb9 => ?_) (fun hb9 => ?_)
   ·
    have hb9 := of_decide_eq_true hb9
    refine st_op (ev_fieldAddr rfl fa45_1 (o' := 1) rfl) rfl rfl rfl ?_
    refine st_op (ev_load rfl (lvar_one one2 hB5 rfl)) rfl rfl rfl ?_
    refine st_op (ev_int rfl rfl rfl) rfl rfl rfl ?_
    refine st_op (ev_pickT rfl rfl) rfl rfl rfl ?_
    refine st_op (ev_move rfl) rfl rfl rfl ?_
    refine st_bool 21 rfl (fun hb10 => ?_) (fun hb10 => ?_)
    ·
     have hb10 := of_decide_eq_true hb10
     refine st_op (ev_fieldAddr rfl fa45_2 (o' := 2) rfl) rfl rfl rfl ?_
     refine st_op (ev_load rfl (lvar_one one3 hB5 rfl)) rfl rfl rfl ?_
     refine st_op (ev_int rfl rfl rfl) rfl rfl rfl ?_
     refine st_op (ev_pickT rfl rfl) rfl rfl rfl ?_
     refine st_op (ev_move rfl) rfl rfl rfl ?_
     refine st_bool 26 rfl (fun hb11 => ?_) (fun hb11 => ?_)
     ·
      have hb11 := of_decide_eq_true hb11
      refine st_op (ev_fieldAddr rfl fa45_2 (o' := 2) rfl) rfl rfl rfl ?_
      refine st_op (ev_load rfl (lvar_one one3 hB5 rfl)) rfl rfl rfl ?_
      refine st_op (ev_int rfl rfl rfl) rfl rfl rfl ?_
      refine st_op (ev_pickT rfl rfl) rfl rfl rfl ?_
      refine st_op (ev_move rfl) rfl rfl rfl ?_
      refine st_bool 31 rfl (fun hb12 => ?_) (fun hb12 => ?_)
      ·
       have hb12 := of_decide_eq_true hb12
       refine st_op (ev_fieldAddr rfl fa45_3 (o' := 3) rfl) rfl rfl rfl ?_
       refine st_op (ev_load rfl (lvar_one one9 hB5 rfl)) rfl rfl rfl ?_
       refine st_op (ev_lenStr rfl Try.underlying9) rfl rfl rfl ?_
       refine st_op (ev_int rfl rfl rfl) rfl rfl rfl ?_
       refine st_op (ev_pickT rfl rfl) rfl rfl rfl ?_
       refine st_op (ev_assign rfl) rfl rfl rfl ?_
       try show aw _ _ _ _ _ _
       refine aw_ret ?_
       have hres : (Spec.mayF false 0 0 e_index e_term e_kind e_data) = (decide (((e_data).size : Int) ≤ 2500)) := by rw [Spec.mayE_eq, Bool.eq_iff_iff]; simp only [decide_eq_true_eq, Bool.false_eq_true, iff_false]; omega
       exact ⟨.bool (decide (((e_data).size : Int) ≤ 2500)), rfl, by first | (rw [hres]; done) | rw [← hres], hx6⟩
      ·
       have hb12 := of_decide_eq_false hb12
       iterate 4 refine st_skip rfl rfl rfl ?_
       refine st_op (ev_pickF rfl rfl) rfl rfl rfl ?_
       refine st_op (ev_assign rfl) rfl rfl rfl ?_
       try show aw _ _ _ _ _ _
       refine aw_ret ?_
       have hres : (Spec.mayF false 0 0 e_index e_term e_kind e_data) = false := by rw [Spec.mayE_eq, Bool.eq_iff_iff]; simp only [decide_eq_true_eq, Bool.false_eq_true, iff_false]; omega
       exact ⟨.bool false, rfl, by first | (rw [hres]; done) | rw [← hres], hx6⟩
     ·
      have hb11 := of_decide_eq_false hb11
      iterate 3 refine st_skip rfl rfl rfl ?_
      refine st_op (ev_pickF rfl rfl) rfl rfl rfl ?_
      refine st_op (ev_move rfl) rfl rfl rfl ?_
      iterate 4 refine st_skip rfl rfl rfl ?_
      refine st_op (ev_pickF rfl rfl) rfl rfl rfl ?_
      refine st_op (ev_assign rfl) rfl rfl rfl ?_
      try show aw _ _ _ _ _ _
      refine aw_ret ?_
      have hres : (Spec.mayF false 0 0 e_index e_term e_kind e_data) = false := by rw [Spec.mayE_eq, Bool.eq_iff_iff]; simp only [decide_eq_true_eq, Bool.false_eq_true, iff_false]; omega
      exact ⟨.bool false, rfl, by first | (rw [hres]; done) | rw [← hres], hx6⟩
    ·
     have hb10 := of_decide_eq_false hb10
     iterate 3 refine st_skip rfl rfl rfl ?_
     refine st_op (ev_pickF rfl rfl) rfl rfl rfl ?_
     refine st_op (ev_move rfl) rfl rfl rfl ?_
     iterate 3 refine st_skip rfl rfl rfl ?_
     refine st_op (ev_pickF rfl rfl) rfl rfl rfl ?_
     refine st_op (ev_move rfl) rfl rfl rfl ?_
     iterate 4 refine st_skip rfl rfl rfl ?_
     refine st_op (ev_pickF rfl rfl) rfl rfl rfl ?_
     refine st_op (ev_assign rfl) rfl rfl rfl ?_
     try show aw _ _ _ _ _ _
     refine aw_ret ?_
     have hres : (Spec.mayF false 0 0 e_index e_term e_kind e_data) = false := by rw [Spec.mayE_eq, Bool.eq_iff_iff]; simp only [decide_eq_true_eq, Bool.false_eq_true, iff_false]; omega
     exact ⟨.bool false, rfl, by first | (rw [hres]; done) | rw [← hres], hx6⟩
   ·
    have hb9 := of_decide_eq_false hb9
    iterate 3 refine st_skip rfl rfl rfl ?_
    refine st_op (ev_pickF rfl rfl) rfl rfl rfl ?_
    refine st_op (ev_move rfl) rfl rfl rfl ?_
    iterate 3 refine st_skip rfl rfl rfl ?_
    refine st_op (ev_pickF rfl rfl) rfl rfl rfl ?_
    refine st_op (ev_move rfl) rfl rfl rfl ?_
    iterate 3 refine st_skip rfl rfl rfl ?_
    refine st_op (ev_pickF rfl rfl) rfl rfl rfl ?_
    refine st_op (ev_move rfl) rfl rfl rfl ?_
    iterate 4 refine st_skip rfl rfl rfl ?_
    refine st_op (ev_pickF rfl rfl) rfl rfl rfl ?_
    refine st_op (ev_assign rfl) rfl rfl rfl ?_
    try show aw _ _ _ _ _ _
    refine aw_ret ?_
    have hres : (Spec.mayF false 0 0 e_index e_term e_kind e_data) = false := by rw [Spec.mayE_eq, Bool.eq_iff_iff]; simp only [decide_eq_true_eq, Bool.false_eq_true, iff_false]; omega
    exact ⟨.bool false, rfl, by first | (rw [hres]; done) | rw [← hres], hx6⟩
  ·
   have hb8 := of_decide_eq_false hb8
   iterate 3 refine st_skip rfl rfl rfl ?_
   refine st_op (ev_pickF rfl rfl) rfl rfl rfl ?_
   refine st_op (ev_move rfl) rfl rfl rfl ?_
   iterate 3 refine st_skip rfl rfl rfl ?_
   refine st_op (ev_pickF rfl rfl) rfl rfl rfl ?_
   refine st_op (ev_move rfl) rfl rfl rfl ?_
   iterate 3 refine st_skip rfl rfl rfl ?_
   refine st_op (ev_pickF rfl rfl) rfl rfl rfl ?_
   refine st_op (ev_move rfl) rfl rfl rfl ?_
   iterate 3 refine st_skip rfl rfl rfl ?_
   refine st_op (ev_pickF rfl rfl) rfl rfl rfl ?_
   refine st_op (ev_move rfl) rfl rfl rfl ?_
   iterate 4 refine st_skip rfl rfl rfl ?_
   refine st_op (ev_pickF rfl rfl) rfl rfl rfl ?_
   refine st_op (ev_assign rfl) rfl rfl rfl ?_
   try show aw _ _ _ _ _ _
   refine aw_ret ?_
   have hres : (Spec.mayF false 0 0 e_index e_term e_kind e_data) = false := by rw [Spec.mayE_eq, Bool.eq_iff_iff]; simp only [decide_eq_true_eq, Bool.false_eq_true, iff_false]; omega
   exact ⟨.bool false, rfl, by first | (rw [hres]; done) | rw [← hres], hx6⟩
 ·
  have hb7 := of_decide_eq_false hb7
  iterate 3 refine st_skip rfl rfl rfl ?_
  refine st_op (ev_pickF rfl rfl) rfl rfl rfl ?_
  refine st_op (ev_move rfl) rfl rfl rfl ?_
  iterate 3 refine st_skip rfl rfl rfl ?_
  refine st_op (ev_pickF rfl rfl) rfl rfl rfl ?_
  refine st_op (ev_move rfl) rfl rfl rfl ?_
  iterate 3 refine st_skip rfl rfl rfl ?_
  refine st_op (ev_pickF rfl rfl) rfl rfl rfl ?_
  refine st_op (ev_move rfl) rfl rfl rfl ?_
  iterate 3 refine st_skip rfl rfl rfl ?_
  refine st_op (ev_pickF rfl rfl) rfl rfl rfl ?_
  refine st_op (ev_move rfl) rfl rfl rfl ?_
  iterate 3 refine st_skip rfl rfl rfl ?_
  refine st_op (ev_pickF rfl rfl) rfl rfl rfl ?_
  refine st_op (ev_move rfl) rfl rfl rfl ?_
  iterate 4 refine st_skip rfl rfl rfl ?_
  refine st_op (ev_pickF rfl rfl) rfl rfl rfl ?_
  refine st_op (ev_assign rfl) rfl rfl rfl ?_
  try show aw _ _ _ _ _ _
  refine aw_ret ?_
  have hres : (Spec.mayF false 0 0 e_index e_term e_kind e_data) = false := by rw [Spec.mayE_eq, Bool.eq_iff_iff]; simp only [decide_eq_true_eq, Bool.false_eq_true, iff_false]; omega
  exact ⟨.bool false, rfl, by first | (rw [hres]; done) | rw [← hres], hx6⟩
theorem ref21_MayConf_spec (H : Heap) (lA : Option Addr) (l : List Int) (lc : Nat) (hl : Row H lA lc 1 (l.map i64c)) (cl : l.length ≤ lc) (ll : l.length ≤ 274877906944) : ∃ v H', Spec Try.prog 49 [.slice lA l.length lc] H v H' ∧ ((v = .bool (Spec.mayC l)) ∧ (Ext H H')) := by
 refine spec_go1 E0_ok 41 (f := 49) Try.func49 rfl rfl rfl ?_
 refine aw_seq ?_
 refine aw_reg ?_
 refine st_op (ev_assign rfl) rfl rfl rfl ?_
 try show aw _ _ _ _ _ _
 iterate 2 refine aw_seq ?_
 refine aw_reg ?_
 refine st_op (ev_assign rfl) rfl rfl rfl ?_
 try show aw _ _ _ _ _ _
 refine aw_block ?_
 refine aw_keep [0, 3] (l' := (.cons 0 (.slice lA l.length lc) (.cons 3 (.int .i64 0) .nil))) (by repeat (first | exact Up.done | refine Up.then ?_ | refine Up.inBlock ?_)) rfl ?_
 refine aw_iter (α := Nat × Int × Heap) (fun a => l.length - a.1) (fun a => (.cons 0 (.slice lA l.length lc) (.cons 3 (.int .i64 (a.1 : Int)) .nil))) (fun a => a.2.2) (fun a => (a.1 ≤ l.length) ∧ (Spec.upF 0 l = Spec.upF a.2.1 (l.drop a.1)) ∧ ((a.1 = 0 → a.2.1 = 0) ∧ (0 < a.1 → l[a.1 - 1]? = some a.2.1)) ∧ (Ext H a.2.2)) (0, (0 : Int), H) ⟨(show 0 ≤ l.length from Nat.zero_le _), (show Spec.upF 0 l = Spec.upF (0 : Int) (l.drop 0) from rfl), (show (0 = 0 → (0 : Int) = 0) ∧ (0 < 0 → l[0 - 1]? = some (0 : Int)) from ⟨fun _ => rfl, fun h => absurd h (by decide)⟩), (show Ext H H from (Ext.refl H))⟩ ?_
 rintro ⟨i, pv, Hl1⟩ ⟨hi, hv, hpv, hxl2⟩ ih3
 replace hi : i ≤ l.length := hi
 replace hv : Spec.upF 0 l = Spec.upF pv (l.drop i) := hv
 replace hpv : (i = 0 → pv = 0) ∧ (0 < i → l[i - 1]? = some pv) := hpv
 replace hxl2 : Ext H Hl1 := hxl2
 show aw _ _ _ (RL _ (.cons 0 (.slice lA l.length lc) (.cons 3 (.int .i64 (i : Int)) .nil))) Hl1 _
 have Hl1n : H.next ≤ Hl1.next := hxl2.1
 iterate 2 refine aw_seq ?_
 refine aw_reg ?_
 iterate 2 refine st_op (ev_move rfl) rfl rfl rfl ?_
 refine st_op (ev_lenSl rfl Try.underlying56) rfl rfl rfl ?_
 refine st_op (ev_int rfl rfl rfl) rfl rfl rfl ?_
 try show aw _ _ _ _ _ _
 by_cases hc4 : (decide ((i : Int) < (l.length : Int))) = true
 ·
  refine aw_condT hc4 rfl ?_
  try show aw _ _ _ _ _ _
  have hc4 := of_decide_eq_true hc4
  refine aw_skip ?_
  try show aw _ _ _ _ _ _
  refine aw_seq ?_
  refine aw_block ?_
  refine aw_seq ?_
  refine aw_marks (fun b => b < Hl1.next) [(false, false), (false, false), (false, false), (false, false), (false, false), (false, false), (false, false), (false, false), (false, false), (false, false), (false, false), (false, false), (false, false), (false, false), (false, false), (false, false), (false, false), (false, false), (false, false), (false, false), (false, false), (false, false), (false, false), (false, false), (false, false), (false, false), (false, false), (false, false)] mixed (by kernel_rfl) (by kernel_rfl) ?_
  iterate 2 refine sm_op (ev_move rfl) rfl rfl rfl ?_
  have h5 := Row.ext hl hxl2
  have hi6 : 0 ≤ ((i : Int) : Int) := by omega
  have hi7 : ((i : Int) : Int) < ((l.length : Nat) : Int) := by omega
  obtain ⟨x8, hx9⟩ : ∃ e, l[i]? = some e := ⟨_, List.getElem?_eq_getElem (by omega)⟩
  refine sm_op (ev_at rfl rfl h5 (getMap i64c hx9) (by first | rfl | omega | simp) hi6 hi7 el56) rfl rfl rfl ?_
  refine sm_op (ev_atL rfl h5 (getMap i64c hx9) one3 rfl) rfl rfl rfl ?_
  refine sm_op (ev_int rfl rfl rfl) rfl rfl rfl ?_
  refine sm_op (ev_move rfl) rfl rfl rfl ?_
  refine sm_bool 15 rfl (fun hb10 => ?_) (fun hb10 => ?_)
  ·
   have hb10 := of_decide_eq_true hb10
   iterate 5 refine sm_skip rfl rfl rfl ?_
   refine sm_op (ev_pickT rfl rfl) rfl rfl rfl ?_
   refine sm_op (ev_move rfl) rfl rfl rfl ?_
   iterate 14 refine sm_skip rfl rfl rfl ?_
   refine sm_op (ev_pickT rfl rfl) rfl rfl rfl ?_
   try show aw _ _ _ _ _ _
   refine aw_cond (t := true) rfl ?_
   try show aw _ _ _ _ _ _
   refine aw_seq ?_
   refine aw_reg ?_
   refine st_op (ev_assign rfl) rfl rfl rfl ?_
   try show aw _ _ _ _ _ _
   refine aw_ret ?_
   have hres : (Spec.mayC l) = false := by unfold Spec.mayC; rw [hv, drop_at hx9, Spec.upF, if_pos (by omega)]; rfl
   exact ⟨.bool false, rfl, by first | (rw [hres]; done) | rw [← hres], hxl2⟩
  ·
   have hb10 := of_decide_eq_false hb10
   iterate 2 refine sm_op (ev_move rfl) rfl rfl rfl ?_
   have hi11 : 0 ≤ ((i : Int) : Int) := by omega
   have hi12 : ((i : Int) : Int) < ((l.length : Nat) : Int) := by omega
   refine sm_op (ev_at rfl rfl h5 (getMap i64c hx9) (by first | rfl | omega | simp) hi11 hi12 el56) rfl rfl rfl ?_
   refine sm_op (ev_atL rfl h5 (getMap i64c hx9) one3 rfl) rfl rfl rfl ?_
   refine sm_op (ev_int rfl rfl rfl) rfl rfl rfl ?_
   refine sm_op (ev_pickF rfl rfl) rfl rfl rfl ?_
   refine sm_op (ev_move rfl) rfl rfl rfl ?_
   refine sm_bool 22 rfl (fun hb13 => ?_) (fun hb13 => ?_)
   ·
    have hb13 := of_decide_eq_true hb13
    iterate 14 refine sm_skip rfl rfl rfl ?_
    refine sm_op (ev_pickT rfl rfl) rfl rfl rfl ?_
    try show aw _ _ _ _ _ _
    refine aw_cond (t := true) rfl ?_
    try show aw _ _ _ _ _ _
    refine aw_seq ?_
    refine aw_reg ?_
    refine st_op (ev_assign rfl) rfl rfl rfl ?_
    try show aw _ _ _ _ _ _
    refine aw_ret ?_
    have hres : (Spec.mayC l) = false := by unfold Spec.mayC; rw [hv, drop_at hx9, Spec.upF, if_pos (by omega)]; rfl
    exact ⟨.bool false, rfl, by first | (rw [hres]; done) | rw [← hres], hxl2⟩
   ·
    have hb13 := of_decide_eq_false hb13
    refine sm_op (ev_move rfl) rfl rfl rfl ?_
    refine sm_op (ev_int rfl rfl rfl) rfl rfl rfl ?_
    refine sm_op (ev_move rfl) rfl rfl rfl ?_
    refine sm_bool 25 rfl (fun hb14 => ?_) (fun hb14 => ?_)
    ·
     have hb14 := of_decide_eq_true hb14
     iterate 2 refine sm_op (ev_move rfl) rfl rfl rfl ?_
     have hi15 : 0 ≤ ((i : Int) : Int) := by omega
     have hi16 : ((i : Int) : Int) < ((l.length : Nat) : Int) := by omega
     refine sm_op (ev_at rfl rfl h5 (getMap i64c hx9) (by first | rfl | omega | simp) hi15 hi16 el56) rfl rfl rfl ?_
     refine sm_op (ev_atL rfl h5 (getMap i64c hx9) one3 rfl) rfl rfl rfl ?_
     iterate 2 refine sm_op (ev_move rfl) rfl rfl rfl ?_
     refine sm_op (ev_int64 (c := (i : Int) - 1) rfl rfl rfl (by omega) (by omega)) rfl rfl rfl ?_
     have hi17 : 0 ≤ ((i : Int) - 1 : Int) := by omega
     have hi18 : ((i : Int) - 1 : Int) < ((l.length : Nat) : Int) := by omega
     obtain ⟨x19, hx20⟩ : ∃ e, l[(((i : Int) - 1)).toNat]? = some e := ⟨_, List.getElem?_eq_getElem (by omega)⟩
     have x19p : x19 = pv := by have q := hpv.2 (by omega); rw [show (((((i : Int) - 1)).toNat) : Nat) = i - 1 by omega] at hx20; rw [hx20] at q; cases q; rfl
     refine sm_op (ev_at rfl rfl h5 (getMap i64c hx20) (by first | rfl | omega | simp) hi17 hi18 el56) rfl rfl rfl ?_
     refine sm_op (ev_atL rfl h5 (getMap i64c hx20) one3 rfl) rfl rfl rfl ?_
     refine sm_op (ev_int rfl rfl rfl) rfl rfl rfl ?_
     refine sm_op (ev_pickT rfl rfl) rfl rfl rfl ?_
     refine sm_op (ev_pickF rfl rfl) rfl rfl rfl ?_
     try show aw _ _ _ _ _ _
     by_cases hc21 : (decide (x8 ≤ x19)) = true
     ·
      refine aw_condT hc21 rfl ?_
      try show aw _ _ _ _ _ _
      have hc21 := of_decide_eq_true hc21
      refine aw_seq ?_
      refine aw_reg ?_
      refine st_op (ev_assign rfl) rfl rfl rfl ?_
      try show aw _ _ _ _ _ _
      refine aw_ret ?_
      have hres : (Spec.mayC l) = false := by unfold Spec.mayC; rw [hv, drop_at hx9, Spec.upF, if_pos (by omega)]; rfl
      exact ⟨.bool false, rfl, by first | (rw [hres]; done) | rw [← hres], hxl2⟩
     ·
      rw [Bool.not_eq_true] at hc21; refine aw_condF hc21 rfl ?_
      try show aw _ _ _ _ _ _
      have hc21 := of_decide_eq_false hc21
      refine aw_skip ?_
      try show aw _ _ _ _ _ _
      refine aw_reg ?_
      refine st_op (ev_move rfl) rfl rfl rfl ?_
      refine st_op (ev_int64 (c := (i : Int) + 1) rfl rfl rfl (by omega) (by omega)) rfl rfl rfl ?_
      refine st_op (ev_assign rfl) rfl rfl rfl ?_
      try show aw _ _ _ _ _ _
      refine aw_keep [0, 3] (l' := (.cons 0 (.slice lA l.length lc) (.cons 3 (.int .i64 ((i : Int) + 1)) .nil))) (by repeat (first | exact Up.done | refine Up.then ?_ | refine Up.inBlock ?_)) rfl ?_
      exact ih3 (i + 1, x8, Hl1) ⟨(show (i + 1) ≤ l.length from (by omega)), (show Spec.upF 0 l = Spec.upF x8 (l.drop (i + 1)) from (by rw [hv, drop_at hx9, Spec.upF, if_neg (by omega)])), (show ((i + 1) = 0 → x8 = 0) ∧ (0 < (i + 1) → l[(i + 1) - 1]? = some x8) from ⟨fun h => absurd h (by omega), fun _ => by rw [Nat.add_sub_cancel]; exact hx9⟩), (show Ext H Hl1 from hxl2)⟩ (by simp only; omega)
    ·
     have hb14 := of_decide_eq_false hb14
     iterate 10 refine sm_skip rfl rfl rfl ?_
     iterate 2 refine sm_op (ev_pickF rfl rfl) rfl rfl rfl ?_
     try show aw _ _ _ _ _ _
     refine aw_cond (t := false) rfl ?_
     try show aw _ _ _ _ _ _
     refine aw_skip ?_
     try show aw _ _ _ _ _ _
     refine aw_reg ?_
     refine st_op (ev_move rfl) rfl rfl rfl ?_
     refine st_op (ev_int64 (c := (i : Int) + 1) rfl rfl rfl (by omega) (by omega)) rfl rfl rfl ?_
     refine st_op (ev_assign rfl) rfl rfl rfl ?_
     try show aw _ _ _ _ _ _
     refine aw_keep [0, 3] (l' := (.cons 0 (.slice lA l.length lc) (.cons 3 (.int .i64 ((i : Int) + 1)) .nil))) (by repeat (first | exact Up.done | refine Up.then ?_ | refine Up.inBlock ?_)) rfl ?_
     exact ih3 (i + 1, x8, Hl1) ⟨(show (i + 1) ≤ l.length from (by omega)), (show Spec.upF 0 l = Spec.upF x8 (l.drop (i + 1)) from (by rw [hv, drop_at hx9, Spec.upF, if_neg (by have := hpv.1 (by omega); omega)])), (show ((i + 1) = 0 → x8 = 0) ∧ (0 < (i + 1) → l[(i + 1) - 1]? = some x8) from ⟨fun h => absurd h (by omega), fun _ => by rw [Nat.add_sub_cancel]; exact hx9⟩), (show Ext H Hl1 from hxl2)⟩ (by simp only; omega)
 ·
  rw [Bool.not_eq_true] at hc4; refine aw_condF hc4 rfl ?_
  try show aw _ _ _ _ _ _
  have hc4 := of_decide_eq_false hc4
  refine aw_exit ?_
  try show aw _ _ _ _ _ _
  refine aw_seq ?_
  refine aw_reg ?_
  refine st_op (ev_move rfl) rfl rfl rfl ?_
  refine st_op (ev_lenSl rfl Try.underlying56) rfl rfl rfl ?_
  refine st_op (ev_int rfl rfl rfl) rfl rfl rfl ?_
  refine st_op (ev_assign rfl) rfl rfl rfl ?_
  try show aw _ _ _ _ _ _
  refine aw_ret ?_
  have hres : (Spec.mayC l) = (decide ((l.length : Int) > 0)) := by unfold Spec.mayC; rw [hv, List.drop_eq_nil_of_le (by omega)]; simp [Spec.upF]
  exact ⟨.bool (decide ((l.length : Int) > 0)), rfl, by first | (rw [hres]; done) | rw [← hres], hxl2⟩
theorem ref21_DecodeConf_spec (H : Heap) (s : ByteArray) (hs : s.size ≤ 1073741824) : ∃ v H', Spec Try.prog 31 [.string s] H v H' ∧ (∃ rA0 rc0, (v = .tuple #[.slice rA0 (((Spec.decC s).1).length) rc0, .bool ((Spec.decC s).2)]) ∧ (My H H' rA0 rc0 1 (((Spec.decC s).1).map i64c)) ∧ (Ext H H')) := by
 refine spec_go1 E0_ok 24 (f := 31) Try.func31 rfl rfl rfl ?_
 refine aw_seq ?_
 refine aw_reg ?_
 iterate 2 refine st_op (ev_assign rfl) rfl rfl rfl ?_
 try show aw _ _ _ _ _ _
 refine aw_seq ?_
 refine aw_reg ?_
 refine st_op (ev_assign rfl) rfl rfl rfl ?_
 try show aw _ _ _ _ _ _
 iterate 2 refine aw_seq ?_
 refine aw_reg ?_
 refine st_op (ev_assign rfl) rfl rfl rfl ?_
 try show aw _ _ _ _ _ _
 refine aw_block ?_
 have hm2 : My H H none 0 1 (([] : List Int).map i64c) := .nil
 refine aw_keep [0, 4, 5] (l' := (.cons 0 (.string s) (.cons 4 (.slice none 0 0) (.cons 5 (.int .i64 0) .nil)))) (by repeat (first | exact Up.done | refine Up.then ?_ | refine Up.inBlock ?_)) rfl ?_
 refine aw_iter (α := Nat × Option Addr × Nat × List Int × Heap) (fun a => s.size - a.1) (fun a => (.cons 0 (.string s) (.cons 4 (.slice a.2.1 a.2.2.2.1.length a.2.2.1) (.cons 5 (.int .i64 (a.1 : Int)) .nil)))) (fun a => a.2.2.2.2) (fun a => (a.1 ≤ s.size) ∧ (a.2.2.2.1 = (Spec.digits s).take a.1) ∧ (My H a.2.2.2.2 a.2.1 a.2.2.1 1 (a.2.2.2.1.map i64c)) ∧ (Ext H a.2.2.2.2)) (0, none, 0, ([] : List Int), H) ⟨(show 0 ≤ s.size from Nat.zero_le _), (show ([] : List Int) = (Spec.digits s).take 0 from rfl), (show My H H none 0 1 (([] : List Int).map i64c) from hm2), (show Ext H H from (Ext.refl H))⟩ ?_
 rintro ⟨i, A, cp, l, Hl1⟩ ⟨hi, hl, hm3, hxl4⟩ ih5
 replace hi : i ≤ s.size := hi
 replace hl : l = (Spec.digits s).take i := hl
 replace hm3 : My H Hl1 A cp 1 (l.map i64c) := hm3
 replace hxl4 : Ext H Hl1 := hxl4
 show aw _ _ _ (RL _ (.cons 0 (.string s) (.cons 4 (.slice A l.length cp) (.cons 5 (.int .i64 (i : Int)) .nil)))) Hl1 _
 have Hl1n : H.next ≤ Hl1.next := hxl4.1
 have hll : l.length = i := by rw [hl, List.length_take, Spec.digits_len]; omega
 iterate 2 refine aw_seq ?_
 refine aw_reg ?_
 iterate 2 refine st_op (ev_move rfl) rfl rfl rfl ?_
 refine st_op (ev_lenStr rfl Try.underlying9) rfl rfl rfl ?_
 refine st_op (ev_int rfl rfl rfl) rfl rfl rfl ?_
 try show aw _ _ _ _ _ _
 by_cases hc6 : (decide ((i : Int) < ((s).size : Int))) = true
 ·
  refine aw_condT hc6 rfl ?_
  try show aw _ _ _ _ _ _
  have hc6 := of_decide_eq_true hc6
  refine aw_skip ?_
  try show aw _ _ _ _ _ _
  refine aw_seq ?_
  refine aw_block ?_
  refine aw_reg ?_
  iterate 3 refine st_op (ev_move rfl) rfl rfl rfl ?_
  obtain ⟨y7, hy8⟩ : ∃ y, (s).data.toList[i]? = some y := ⟨_, List.getElem?_eq_getElem (by simp; omega)⟩
  have y7t := y7.toNat_lt
  refine st_op (ev_ixStr Try.underlying9 rfl rfl (ba_get hy8)) rfl rfl rfl ?_
  refine st_op (ev_convI Try.underlying5 Try.underlying3 rfl (wrI64 (by omega) (by omega))) rfl rfl rfl ?_
  refine st_op (ev_int64 (c := (y7.toNat : Int) - 48) rfl rfl rfl (by omega) (by omega)) rfl rfl rfl ?_
  obtain ⟨b9, H10, he11, b9e, H10n_, hm13, f12⟩ := mem_lit Hl1 (xs := ([.int .i64 ((y7.toNat : Int) - 48)] : List Value)) (m := 1) (rows := [[.int .i64 ((y7.toNat : Int) - 48)]]) rfl eok56 (by decide) (by decide) zf3 rfl (allLen rfl) rfl
  replace hm13 : My Hl1 H10 (some ⟨b9, 0, none⟩) 1 1 ([(y7.toNat : Int) - 48].map i64c) := hm13
  refine st_op (he11 _ _ _ _ _ _ _ _ rfl) rfl rfl rfl ?_
  have hx14 : Ext Hl1 H10 := Ext.new (by omega) H10n_ f12
  have H10n : Hl1.next ≤ H10.next := hx14.1
  have h15 := My.ext hm3 hx14
  obtain ⟨A16, c17, H18, W19, he20, hm21, hf22⟩ := mem_append (f := i64c) (old := l) (new := [(y7.toNat : Int) - 48]) (m := l.length) (mx := 1) (c := cp) (by first | rfl | simp) (by first | rfl | simp) eok56 (by decide) hm3 h15 (by omega) (((My.row hm13)).srcF (by decide) (by first | rfl | simp)) rfl i64c_len i64c_one (by first | omega | (simp only [List.length_append, List.length_cons, List.length_nil, List.length_map, List.length_set, List.length_replicate, Spec.bytesOf_length]; omega) | (simp; omega)) (by first | omega | (simp only [List.length_append, List.length_cons, List.length_nil, List.length_map, List.length_set, List.length_replicate, Spec.bytesOf_length]; omega) | (simp; omega))
  refine st_op (he20 _ _ _ _ _ _ _ _ _ _ rfl rfl isrow56) rfl rfl rfl ?_
  have H18n : H10.next ≤ H18.next := hf22.1
  refine st_op (ev_assign rfl) rfl rfl rfl ?_
  try show aw _ _ _ _ _ _
  refine aw_reg ?_
  refine st_op (ev_move rfl) rfl rfl rfl ?_
  refine st_op (ev_int64 (c := (i : Int) + 1) rfl rfl rfl (by omega) (by omega)) rfl rfl rfl ?_
  refine st_op (ev_assign rfl) rfl rfl rfl ?_
  try show aw _ _ _ _ _ _
  have hx23 : Ext H H18 := (Ext.then (Ext.trans hxl4 hx14) hf22 (fun q hq e => by omega))
  refine aw_keep [0, 4, 5] (l' := (.cons 0 (.string s) (.cons 4 (.slice A16 ((l ++ [(y7.toNat : Int) - 48]).length) c17) (.cons 5 (.int .i64 ((i : Int) + 1)) .nil)))) (by repeat (first | exact Up.done | refine Up.then ?_ | refine Up.inBlock ?_)) rfl ?_
  exact ih5 (i + 1, A16, c17, (l ++ [(y7.toNat : Int) - 48]), H18) ⟨(show (i + 1) ≤ s.size from (by omega)), (show (l ++ [(y7.toNat : Int) - 48]) = (Spec.digits s).take (i + 1) from (by rw [List.take_add_one, ← hl, Spec.digits_at hy8]; rfl)), (show My H H18 A16 c17 1 ((l ++ [(y7.toNat : Int) - 48]).map i64c) from hm21), (show Ext H H18 from hx23)⟩ (by simp only; omega)
 ·
  rw [Bool.not_eq_true] at hc6; refine aw_condF hc6 rfl ?_
  try show aw _ _ _ _ _ _
  have hc6 := of_decide_eq_false hc6
  refine aw_exit ?_
  try show aw _ _ _ _ _ _
  iterate 2 refine aw_seq ?_
  refine aw_reg ?_
  refine st_op (ev_move rfl) rfl rfl rfl ?_
  refine st_call rfl rfl rfl ent49 rfl rfl rfl ?_
  obtain ⟨_, H25, hs24, hs24v, hx26⟩ := ref21_MayConf_spec Hl1 A l cp (My.row hm3) (My.capF hm3 (by omega)) (by omega)
  rw [hs24v] at hs24; clear hs24v
  refine ⟨_, H25, hs24, ?_⟩
  have H25n : Hl1.next ≤ H25.next := hx26.1
  refine st_op (ev_not rfl) rfl rfl rfl ?_
  try show aw _ _ _ _ _ _
  by_cases hc27 : (!(Spec.mayC l)) = true
  ·
   refine aw_condT hc27 rfl ?_
   try show aw _ _ _ _ _ _
   replace hc27 : (Spec.mayC l) = false := by rw [Bool.not_eq_true'] at hc27; exact hc27
   refine aw_seq ?_
   refine aw_reg ?_
   iterate 2 refine st_op (ev_assign rfl) rfl rfl rfl ?_
   try show aw _ _ _ _ _ _
   refine aw_ret ?_
   have hm28 : My H25 H25 none 0 1 (([] : List Int).map i64c) := .nil
   have hx29 : Ext H H25 := (Ext.trans hxl4 hx26)
   have hres : (Spec.decC s) = (([] : List Int), false) := by (have hd : l = Spec.digits s := by rw [hl, List.take_of_length_le (by rw [Spec.digits_len]; omega)]); unfold Spec.decC; rw [← hd]; first | (rw [if_pos (by assumption)]; done) | (rw [if_neg (fun h => Bool.noConfusion (h.symm.trans (show _ = false by assumption)))]; done)
   exact ⟨.tuple #[.slice none 0 0, .bool false], rfl, none, 0, by first | (rw [hres]; first | done | rfl | simp; done) | rfl, (by rw [hres]; exact (My.older hm28 (by omega))), hx29⟩
  ·
   rw [Bool.not_eq_true] at hc27; refine aw_condF hc27 rfl ?_
   try show aw _ _ _ _ _ _
   replace hc27 : (Spec.mayC l) = true := by rw [Bool.not_eq_false'] at hc27; exact hc27
   refine aw_skip ?_
   try show aw _ _ _ _ _ _
   refine aw_seq ?_
   refine aw_reg ?_
   refine st_op (ev_move rfl) rfl rfl rfl ?_
   iterate 2 refine st_op (ev_assign rfl) rfl rfl rfl ?_
   try show aw _ _ _ _ _ _
   refine aw_ret ?_
   have h30 := My.ext hm3 hx26
   have hx31 : Ext H H25 := (Ext.trans hxl4 hx26)
   have hres : (Spec.decC s) = (l, true) := by (have hd : l = Spec.digits s := by rw [hl, List.take_of_length_le (by rw [Spec.digits_len]; omega)]); unfold Spec.decC; rw [← hd]; first | (rw [if_pos (by assumption)]; done) | (rw [if_neg (fun h => Bool.noConfusion (h.symm.trans (show _ = false by assumption)))]; done)
   exact ⟨.tuple #[.slice A l.length cp, .bool true], rfl, A, cp, by first | (rw [hres]; first | done | rfl | simp; done) | rfl, (by rw [hres]; exact h30), hx31⟩
theorem ref17_MaySnap_spec (H : Heap) (s_index : Int) (s_term : Int) (s_conf : ByteArray) (s_data : ByteArray) : ∃ v H', Spec Try.prog 32 [.agg #[.int .i64 s_index, .int .i64 s_term, .string s_conf, .string s_data]] H v H' ∧ ((v = .bool (Spec.mayS s_index s_term s_conf s_data)) ∧ (Ext H H')) := by
 refine spec_go1 E0_ok 33 (f := 32) Try.func32 rfl rfl rfl ?_
 refine aw_seq ?_
 refine aw_reg ?_
 obtain ⟨b1, H2, he3, b1e, H2n_, hB5, f4⟩ := mem_box (P := Try.prog) H (v := .agg #[.int .i64 s_index, .int .i64 s_term, .string s_conf, .string s_data]) (cs := [.int .i64 s_index, .int .i64 s_term, .string s_conf, .string s_data]) rfl rfl
 refine st_op (he3 _ _ _ _ _ _ _ _ _ rfl) rfl rfl rfl ?_
 have hx6 : Ext H H2 := Ext.new (by omega) H2n_ f4
 have H2n : H.next ≤ H2.next := hx6.1
 refine st_op (ev_assign rfl) rfl rfl rfl ?_
 try show aw _ _ _ _ _ _
 refine aw_seq ?_
 refine aw_reg ?_
 refine st_op (ev_fieldAddr rfl fa24_0 (o' := 0) rfl) rfl rfl rfl ?_
 refine st_op (ev_load rfl (lvar_one one2 hB5 rfl)) rfl rfl rfl ?_
 refine st_op (ev_int rfl rfl rfl) rfl rfl rfl ?_
 refine st_op (ev_move rfl) rfl rfl rfl ?_
 refine st_bool 6 rfl (fun hb7 => ?_) (fun hb7 => ?_)
 ·
  have hb7 := of_decide_eq_true hb7
  refine st_op (ev_fieldAddr rfl fa24_0 (o' := 0) rfl) rfl rfl rfl ?_
  refine st_op (ev_load rfl (lvar_one one2 hB5 rfl)) rfl rfl rfl ?_
  refine st_op (ev_int rfl rfl rfl) rfl rfl rfl ?_
  refine st_op (ev_pickT rfl rfl) rfl rfl rfl ?_
  refine st_op (ev_move rfl) rfl rfl rfl ?_
  refine st_bool 11 rfl (fun hb8 => ?_) (fun hb8 => ?_)
  ·
   have hb8 := of_decide_eq_true hb8
   refine st_op (ev_fieldAddr rfl fa24_1 (o' := 1) rfl) rfl rfl rfl ?_
   refine st_op (ev_load rfl (lvar_one one2 hB5 rfl)) rfl rfl rfl ?_
   refine st_op (ev_int rfl rfl rfl) rfl rfl rfl ?_
   refine st_op (ev_pickT rfl rfl) rfl rfl rfl ?_
   refine st_op (ev_move rfl) rfl rfl rfl ?_
   refine st_bool 16 rfl (fun hb9 => ?_) (fun hb9 => ?_)
   ·
    have hb9 := of_decide_eq_true hb9
    refine st_op (ev_fieldAddr rfl fa24_1 (o' := 1) rfl) rfl rfl rfl ?_
    refine st_op (ev_load rfl (lvar_one one2 hB5 rfl)) rfl rfl rfl ?_
    refine st_op (ev_int rfl rfl rfl) rfl rfl rfl ?_
    refine st_op (ev_pickT rfl rfl) rfl rfl rfl ?_
    refine st_op (ev_move rfl) rfl rfl rfl ?_
    refine st_bool 21 rfl (fun hb10 => ?_) (fun hb10 => ?_)
    ·
     have hb10 := of_decide_eq_true hb10
     refine st_op (ev_fieldAddr rfl fa24_2 (o' := 2) rfl) rfl rfl rfl ?_
     refine st_op (ev_load rfl (lvar_one one9 hB5 rfl)) rfl rfl rfl ?_
     refine st_op (ev_lenStr rfl Try.underlying9) rfl rfl rfl ?_
     refine st_op (ev_int rfl rfl rfl) rfl rfl rfl ?_
     refine st_op (ev_pickT rfl rfl) rfl rfl rfl ?_
     refine st_op (ev_move rfl) rfl rfl rfl ?_
     refine st_bool 27 rfl (fun hb11 => ?_) (fun hb11 => ?_)
     ·
      have hb11 := of_decide_eq_true hb11
      refine st_op (ev_fieldAddr rfl fa24_3 (o' := 3) rfl) rfl rfl rfl ?_
      refine st_op (ev_load rfl (lvar_one one9 hB5 rfl)) rfl rfl rfl ?_
      refine st_op (ev_lenStr rfl Try.underlying9) rfl rfl rfl ?_
      refine st_op (ev_int rfl rfl rfl) rfl rfl rfl ?_
      refine st_op (ev_pickT rfl rfl) rfl rfl rfl ?_
      refine st_op (ev_assign rfl) rfl rfl rfl ?_
      try show aw _ _ _ _ _ _
      refine aw_ret ?_
      have hres : (Spec.mayS s_index s_term s_conf s_data) = (decide (((s_data).size : Int) ≤ 200000)) := by rw [Spec.mayS_eq, Bool.eq_iff_iff]; simp only [decide_eq_true_eq, Bool.false_eq_true, iff_false]; omega
      exact ⟨.bool (decide (((s_data).size : Int) ≤ 200000)), rfl, by first | (rw [hres]; done) | rw [← hres], hx6⟩
     ·
      have hb11 := of_decide_eq_false hb11
      iterate 4 refine st_skip rfl rfl rfl ?_
      refine st_op (ev_pickF rfl rfl) rfl rfl rfl ?_
      refine st_op (ev_assign rfl) rfl rfl rfl ?_
      try show aw _ _ _ _ _ _
      refine aw_ret ?_
      have hres : (Spec.mayS s_index s_term s_conf s_data) = false := by rw [Spec.mayS_eq, Bool.eq_iff_iff]; simp only [decide_eq_true_eq, Bool.false_eq_true, iff_false]; omega
      exact ⟨.bool false, rfl, by first | (rw [hres]; done) | rw [← hres], hx6⟩
    ·
     have hb10 := of_decide_eq_false hb10
     iterate 4 refine st_skip rfl rfl rfl ?_
     refine st_op (ev_pickF rfl rfl) rfl rfl rfl ?_
     refine st_op (ev_move rfl) rfl rfl rfl ?_
     iterate 4 refine st_skip rfl rfl rfl ?_
     refine st_op (ev_pickF rfl rfl) rfl rfl rfl ?_
     refine st_op (ev_assign rfl) rfl rfl rfl ?_
     try show aw _ _ _ _ _ _
     refine aw_ret ?_
     have hres : (Spec.mayS s_index s_term s_conf s_data) = false := by rw [Spec.mayS_eq, Bool.eq_iff_iff]; simp only [decide_eq_true_eq, Bool.false_eq_true, iff_false]; omega
     exact ⟨.bool false, rfl, by first | (rw [hres]; done) | rw [← hres], hx6⟩
   ·
    have hb9 := of_decide_eq_false hb9
    iterate 3 refine st_skip rfl rfl rfl ?_
    refine st_op (ev_pickF rfl rfl) rfl rfl rfl ?_
    refine st_op (ev_move rfl) rfl rfl rfl ?_
    iterate 4 refine st_skip rfl rfl rfl ?_
    refine st_op (ev_pickF rfl rfl) rfl rfl rfl ?_
    refine st_op (ev_move rfl) rfl rfl rfl ?_
    iterate 4 refine st_skip rfl rfl rfl ?_
    refine st_op (ev_pickF rfl rfl) rfl rfl rfl ?_
    refine st_op (ev_assign rfl) rfl rfl rfl ?_
    try show aw _ _ _ _ _ _
    refine aw_ret ?_
    have hres : (Spec.mayS s_index s_term s_conf s_data) = false := by rw [Spec.mayS_eq, Bool.eq_iff_iff]; simp only [decide_eq_true_eq, Bool.false_eq_true, iff_false]; omega
    exact ⟨.bool false, rfl, by first | (rw [hres]; done) | rw [← hres], hx6⟩
  ·
   have hb8 := of_decide_eq_false hb8
   iterate 3 refine st_skip rfl rfl rfl ?_
   refine st_op (ev_pickF rfl rfl) rfl rfl rfl ?_
   refine st_op (ev_move rfl) rfl rfl rfl ?_
   iterate 3 refine st_skip rfl rfl rfl ?_
   refine st_op (ev_pickF rfl rfl) rfl rfl rfl ?_
   refine st_op (ev_move rfl) rfl rfl rfl ?_
   iterate 4 refine st_skip rfl rfl rfl ?_
   refine st_op (ev_pickF rfl rfl) rfl rfl rfl ?_
   refine st_op (ev_move rfl) rfl rfl rfl ?_
   iterate 4 refine st_skip rfl rfl rfl ?_
   refine st_op (ev_pickF rfl rfl) rfl rfl rfl ?_
   refine st_op (ev_assign rfl) rfl rfl rfl ?_
   try show aw _ _ _ _ _ _
   refine aw_ret ?_
   have hres : (Spec.mayS s_index s_term s_conf s_data) = false := by rw [Spec.mayS_eq, Bool.eq_iff_iff]; simp only [decide_eq_true_eq, Bool.false_eq_true, iff_false]; omega
   exact ⟨.bool false, rfl, by first | (rw [hres]; done) | rw [← hres], hx6⟩
 ·
  have hb7 := of_decide_eq_false hb7
  iterate 3 refine st_skip rfl rfl rfl ?_
  refine st_op (ev_pickF rfl rfl) rfl rfl rfl ?_
  refine st_op (ev_move rfl) rfl rfl rfl ?_
  iterate 3 refine st_skip rfl rfl rfl ?_
  refine st_op (ev_pickF rfl rfl) rfl rfl rfl ?_
  refine st_op (ev_move rfl) rfl rfl rfl ?_
  iterate 3 refine st_skip rfl rfl rfl ?_
  refine st_op (ev_pickF rfl rfl) rfl rfl rfl ?_
  refine st_op (ev_move rfl) rfl rfl rfl ?_
  iterate 4 refine st_skip rfl rfl rfl ?_
  refine st_op (ev_pickF rfl rfl) rfl rfl rfl ?_
  refine st_op (ev_move rfl) rfl rfl rfl ?_
  iterate 4 refine st_skip rfl rfl rfl ?_
  refine st_op (ev_pickF rfl rfl) rfl rfl rfl ?_
  refine st_op (ev_assign rfl) rfl rfl rfl ?_
  try show aw _ _ _ _ _ _
  refine aw_ret ?_
  have hres : (Spec.mayS s_index s_term s_conf s_data) = false := by rw [Spec.mayS_eq, Bool.eq_iff_iff]; simp only [decide_eq_true_eq, Bool.false_eq_true, iff_false]; omega
  exact ⟨.bool false, rfl, by first | (rw [hres]; done) | rw [← hres], hx6⟩
theorem ref21_May_spec (H : Heap) (kind : Int) (from_ : Int) (to_ : Int) (term : Int) (index : Int) (logterm : Int) (commit : Int) (yes : Bool) (esA : Option Addr) (es : List Entry) (esc : Nat) (hes : Row H esA esc 4 (es.map Entry.cells)) (ces : es.length ≤ esc) (les : es.length ≤ 1048576) (s_index : Int) (s_term : Int) (s_conf : ByteArray) (hs_conf : s_conf.size ≤ 1073741824) (s_data : ByteArray) (hs_data : s_data.size ≤ 1073741824) : ∃ v H', Spec Try.prog 12 [.agg #[.int .i64 kind, .int .i64 from_, .int .i64 to_, .int .i64 term, .int .i64 index, .int .i64 logterm, .int .i64 commit, .bool yes, .slice esA es.length esc, .int .i64 s_index, .int .i64 s_term, .string s_conf, .string s_data]] H v H' ∧ ((v = .bool (Spec.mayMsg kind from_ to_ term index logterm commit yes es s_index s_term s_conf s_data)) ∧ (Ext H H')) := by
 refine spec_go1 E0_ok 147 (f := 12) Try.func12 rfl rfl rfl ?_
 refine aw_seq ?_
 refine aw_reg ?_
 obtain ⟨b1, H2, he3, b1e, H2n_, hB5, f4⟩ := mem_box (P := Try.prog) H (v := .agg #[.int .i64 kind, .int .i64 from_, .int .i64 to_, .int .i64 term, .int .i64 index, .int .i64 logterm, .int .i64 commit, .bool yes, .slice esA es.length esc, .int .i64 s_index, .int .i64 s_term, .string s_conf, .string s_data]) (cs := [.int .i64 kind, .int .i64 from_, .int .i64 to_, .int .i64 term, .int .i64 index, .int .i64 logterm, .int .i64 commit, .bool yes, .slice esA es.length esc, .int .i64 s_index, .int .i64 s_term, .string s_conf, .string s_data]) rfl rfl
 refine st_op (he3 _ _ _ _ _ _ _ _ _ rfl) rfl rfl rfl ?_
 have hx6 : Ext H H2 := Ext.new (by omega) H2n_ f4
 have H2n : H.next ≤ H2.next := hx6.1
 refine st_op (ev_assign rfl) rfl rfl rfl ?_
 try show aw _ _ _ _ _ _
 iterate 2 refine aw_seq ?_
 refine aw_reg ?_
 refine st_op (ev_fieldAddr rfl fa26_0 (o' := 0) rfl) rfl rfl rfl ?_
 refine st_op (ev_load rfl (lvar_one one3 hB5 rfl)) rfl rfl rfl ?_
 refine st_op (ev_int rfl rfl rfl) rfl rfl rfl ?_
 refine st_op (ev_move rfl) rfl rfl rfl ?_
 refine st_bool 11 rfl (fun hb7 => ?_) (fun hb7 => ?_)
 ·
  have hb7 := of_decide_eq_true hb7
  iterate 3 refine st_skip rfl rfl rfl ?_
  refine st_op (ev_pickT rfl rfl) rfl rfl rfl ?_
  refine st_op (ev_move rfl) rfl rfl rfl ?_
  iterate 4 refine st_skip rfl rfl rfl ?_
  refine st_op (ev_pickT rfl rfl) rfl rfl rfl ?_
  refine st_op (ev_move rfl) rfl rfl rfl ?_
  iterate 4 refine st_skip rfl rfl rfl ?_
  refine st_op (ev_pickT rfl rfl) rfl rfl rfl ?_
  refine st_op (ev_move rfl) rfl rfl rfl ?_
  iterate 3 refine st_skip rfl rfl rfl ?_
  refine st_op (ev_pickT rfl rfl) rfl rfl rfl ?_
  refine st_op (ev_move rfl) rfl rfl rfl ?_
  iterate 3 refine st_skip rfl rfl rfl ?_
  refine st_op (ev_pickT rfl rfl) rfl rfl rfl ?_
  refine st_op (ev_move rfl) rfl rfl rfl ?_
  iterate 4 refine st_skip rfl rfl rfl ?_
  refine st_op (ev_pickT rfl rfl) rfl rfl rfl ?_
  refine st_op (ev_move rfl) rfl rfl rfl ?_
  iterate 4 refine st_skip rfl rfl rfl ?_
  refine st_op (ev_pickT rfl rfl) rfl rfl rfl ?_
  refine st_op (ev_move rfl) rfl rfl rfl ?_
  iterate 4 refine st_skip rfl rfl rfl ?_
  refine st_op (ev_pickT rfl rfl) rfl rfl rfl ?_
  refine st_op (ev_move rfl) rfl rfl rfl ?_
  iterate 4 refine st_skip rfl rfl rfl ?_
  refine st_op (ev_pickT rfl rfl) rfl rfl rfl ?_
  try show aw _ _ _ _ _ _
  refine aw_cond (t := true) rfl ?_
  try show aw _ _ _ _ _ _
  refine aw_seq ?_
  refine aw_reg ?_
  refine st_op (ev_assign rfl) rfl rfl rfl ?_
  try show aw _ _ _ _ _ _
  refine aw_ret ?_
  have hres : (Spec.mayMsg kind from_ to_ term index logterm commit yes es s_index s_term s_conf s_data) = false := by first | exact Spec.mayMsg_f1 (by omega) | exact Spec.mayMsg_f5 (by omega) | exact Spec.mayMsg_f4 (by omega) (by omega) | exact Spec.mayMsg_f3 (by assumption) (by omega) (by omega)
  exact ⟨.bool false, rfl, by first | (rw [hres]; done) | rw [← hres], hx6⟩
 ·
  have hb7 := of_decide_eq_false hb7
  refine st_op (ev_fieldAddr rfl fa26_0 (o' := 0) rfl) rfl rfl rfl ?_
  refine st_op (ev_load rfl (lvar_one one3 hB5 rfl)) rfl rfl rfl ?_
  refine st_op (ev_int rfl rfl rfl) rfl rfl rfl ?_
  refine st_op (ev_pickF rfl rfl) rfl rfl rfl ?_
  refine st_op (ev_move rfl) rfl rfl rfl ?_
  refine st_bool 16 rfl (fun hb8 => ?_) (fun hb8 => ?_)
  ·
   have hb8 := of_decide_eq_true hb8
   iterate 4 refine st_skip rfl rfl rfl ?_
   refine st_op (ev_pickT rfl rfl) rfl rfl rfl ?_
   refine st_op (ev_move rfl) rfl rfl rfl ?_
   iterate 4 refine st_skip rfl rfl rfl ?_
   refine st_op (ev_pickT rfl rfl) rfl rfl rfl ?_
   refine st_op (ev_move rfl) rfl rfl rfl ?_
   iterate 3 refine st_skip rfl rfl rfl ?_
   refine st_op (ev_pickT rfl rfl) rfl rfl rfl ?_
   refine st_op (ev_move rfl) rfl rfl rfl ?_
   iterate 3 refine st_skip rfl rfl rfl ?_
   refine st_op (ev_pickT rfl rfl) rfl rfl rfl ?_
   refine st_op (ev_move rfl) rfl rfl rfl ?_
   iterate 4 refine st_skip rfl rfl rfl ?_
   refine st_op (ev_pickT rfl rfl) rfl rfl rfl ?_
   refine st_op (ev_move rfl) rfl rfl rfl ?_
   iterate 4 refine st_skip rfl rfl rfl ?_
   refine st_op (ev_pickT rfl rfl) rfl rfl rfl ?_
   refine st_op (ev_move rfl) rfl rfl rfl ?_
   iterate 4 refine st_skip rfl rfl rfl ?_
   refine st_op (ev_pickT rfl rfl) rfl rfl rfl ?_
   refine st_op (ev_move rfl) rfl rfl rfl ?_
   iterate 4 refine st_skip rfl rfl rfl ?_
   refine st_op (ev_pickT rfl rfl) rfl rfl rfl ?_
   try show aw _ _ _ _ _ _
   refine aw_cond (t := true) rfl ?_
   try show aw _ _ _ _ _ _
   refine aw_seq ?_
   refine aw_reg ?_
   refine st_op (ev_assign rfl) rfl rfl rfl ?_
   try show aw _ _ _ _ _ _
   refine aw_ret ?_
   have hres : (Spec.mayMsg kind from_ to_ term index logterm commit yes es s_index s_term s_conf s_data) = false := by first | exact Spec.mayMsg_f1 (by omega) | exact Spec.mayMsg_f5 (by omega) | exact Spec.mayMsg_f4 (by omega) (by omega) | exact Spec.mayMsg_f3 (by assumption) (by omega) (by omega)
   exact ⟨.bool false, rfl, by first | (rw [hres]; done) | rw [← hres], hx6⟩
  ·
   have hb8 := of_decide_eq_false hb8
   refine st_op (ev_fieldAddr rfl fa26_1 (o' := 1) rfl) rfl rfl rfl ?_
   refine st_op (ev_load rfl (lvar_one one3 hB5 rfl)) rfl rfl rfl ?_
   refine st_call rfl rfl rfl ent27 rfl rfl rfl ?_
   obtain ⟨_, H10, hs9, hs9v, hx11⟩ := ref21_id_spec H2 from_
   rw [hs9v] at hs9; clear hs9v
   refine ⟨_, H10, hs9, ?_⟩
   have H10n : H2.next ≤ H10.next := hx11.1
   refine st_op (ev_not rfl) rfl rfl rfl ?_
   refine st_op (ev_pickF rfl rfl) rfl rfl rfl ?_
   refine st_op (ev_move rfl) rfl rfl rfl ?_
   refine st_bool 22 rfl (fun hb12 => ?_) (fun hb12 => ?_)
   ·
    replace hb12 : (decide (1 ≤ from_ ∧ from_ ≤ 7)) = false := by rw [Bool.not_eq_true'] at hb12; exact hb12
    have hb12 := of_decide_eq_false hb12
    iterate 4 refine st_skip rfl rfl rfl ?_
    refine st_op (ev_pickT rfl rfl) rfl rfl rfl ?_
    refine st_op (ev_move rfl) rfl rfl rfl ?_
    iterate 3 refine st_skip rfl rfl rfl ?_
    refine st_op (ev_pickT rfl rfl) rfl rfl rfl ?_
    refine st_op (ev_move rfl) rfl rfl rfl ?_
    iterate 3 refine st_skip rfl rfl rfl ?_
    refine st_op (ev_pickT rfl rfl) rfl rfl rfl ?_
    refine st_op (ev_move rfl) rfl rfl rfl ?_
    iterate 4 refine st_skip rfl rfl rfl ?_
    refine st_op (ev_pickT rfl rfl) rfl rfl rfl ?_
    refine st_op (ev_move rfl) rfl rfl rfl ?_
    iterate 4 refine st_skip rfl rfl rfl ?_
    refine st_op (ev_pickT rfl rfl) rfl rfl rfl ?_
    refine st_op (ev_move rfl) rfl rfl rfl ?_
    iterate 4 refine st_skip rfl rfl rfl ?_
    refine st_op (ev_pickT rfl rfl) rfl rfl rfl ?_
    refine st_op (ev_move rfl) rfl rfl rfl ?_
    iterate 4 refine st_skip rfl rfl rfl ?_
    refine st_op (ev_pickT rfl rfl) rfl rfl rfl ?_
    try show aw _ _ _ _ _ _
    refine aw_cond (t := true) rfl ?_
    try show aw _ _ _ _ _ _
    refine aw_seq ?_
    refine aw_reg ?_
    refine st_op (ev_assign rfl) rfl rfl rfl ?_
    try show aw _ _ _ _ _ _
    refine aw_ret ?_
    have hx13 : Ext H H10 := (Ext.trans hx6 hx11)
    have hres : (Spec.mayMsg kind from_ to_ term index logterm commit yes es s_index s_term s_conf s_data) = false := by first | exact Spec.mayMsg_f1 (by omega) | exact Spec.mayMsg_f5 (by omega) | exact Spec.mayMsg_f4 (by omega) (by omega) | exact Spec.mayMsg_f3 (by assumption) (by omega) (by omega)
    exact ⟨.bool false, rfl, by first | (rw [hres]; done) | rw [← hres], hx13⟩
   ·
    replace hb12 : (decide (1 ≤ from_ ∧ from_ ≤ 7)) = true := by rw [Bool.not_eq_false'] at hb12; exact hb12
    have hb12 := of_decide_eq_true hb12
    refine st_op (ev_fieldAddr rfl fa26_2 (o' := 2) rfl) rfl rfl rfl ?_
    have h14 := Ext.blk hx11 (by omega) hB5
    refine st_op (ev_load rfl (lvar_one one3 h14 rfl)) rfl rfl rfl ?_
    refine st_call rfl rfl rfl ent27 rfl rfl rfl ?_
    obtain ⟨_, H16, hs15, hs15v, hx17⟩ := ref21_id_spec H10 to_
    rw [hs15v] at hs15; clear hs15v
    refine ⟨_, H16, hs15, ?_⟩
    have H16n : H10.next ≤ H16.next := hx17.1
    refine st_op (ev_not rfl) rfl rfl rfl ?_
    refine st_op (ev_pickF rfl rfl) rfl rfl rfl ?_
    refine st_op (ev_move rfl) rfl rfl rfl ?_
    refine st_bool 28 rfl (fun hb18 => ?_) (fun hb18 => ?_)
    ·
     replace hb18 : (decide (1 ≤ to_ ∧ to_ ≤ 7)) = false := by rw [Bool.not_eq_true'] at hb18; exact hb18
     have hb18 := of_decide_eq_false hb18
     iterate 3 refine st_skip rfl rfl rfl ?_
     refine st_op (ev_pickT rfl rfl) rfl rfl rfl ?_
     refine st_op (ev_move rfl) rfl rfl rfl ?_
     iterate 3 refine st_skip rfl rfl rfl ?_
     refine st_op (ev_pickT rfl rfl) rfl rfl rfl ?_
     refine st_op (ev_move rfl) rfl rfl rfl ?_
     iterate 4 refine st_skip rfl rfl rfl ?_
     refine st_op (ev_pickT rfl rfl) rfl rfl rfl ?_
     refine st_op (ev_move rfl) rfl rfl rfl ?_
     iterate 4 refine st_skip rfl rfl rfl ?_
     refine st_op (ev_pickT rfl rfl) rfl rfl rfl ?_
     refine st_op (ev_move rfl) rfl rfl rfl ?_
     iterate 4 refine st_skip rfl rfl rfl ?_
     refine st_op (ev_pickT rfl rfl) rfl rfl rfl ?_
     refine st_op (ev_move rfl) rfl rfl rfl ?_
     iterate 4 refine st_skip rfl rfl rfl ?_
     refine st_op (ev_pickT rfl rfl) rfl rfl rfl ?_
     try show aw _ _ _ _ _ _
     refine aw_cond (t := true) rfl ?_
     try show aw _ _ _ _ _ _
     refine aw_seq ?_
     refine aw_reg ?_
     refine st_op (ev_assign rfl) rfl rfl rfl ?_
     try show aw _ _ _ _ _ _
     refine aw_ret ?_
     have hx19 : Ext H H16 := (Ext.trans (Ext.trans hx6 hx11) hx17)
     have hres : (Spec.mayMsg kind from_ to_ term index logterm commit yes es s_index s_term s_conf s_data) = false := by first | exact Spec.mayMsg_f1 (by omega) | exact Spec.mayMsg_f5 (by omega) | exact Spec.mayMsg_f4 (by omega) (by omega) | exact Spec.mayMsg_f3 (by assumption) (by omega) (by omega)
     exact ⟨.bool false, rfl, by first | (rw [hres]; done) | rw [← hres], hx19⟩
    ·
     replace hb18 : (decide (1 ≤ to_ ∧ to_ ≤ 7)) = true := by rw [Bool.not_eq_false'] at hb18; exact hb18
     have hb18 := of_decide_eq_true hb18
     refine st_op (ev_fieldAddr rfl fa26_3 (o' := 3) rfl) rfl rfl rfl ?_
     have h20 := Ext.blk hx17 (by omega) h14
     refine st_op (ev_load rfl (lvar_one one2 h20 rfl)) rfl rfl rfl ?_
     refine st_op (ev_int rfl rfl rfl) rfl rfl rfl ?_
     refine st_op (ev_pickF rfl rfl) rfl rfl rfl ?_
     refine st_op (ev_move rfl) rfl rfl rfl ?_
     refine st_bool 33 rfl (fun hb21 => ?_) (fun hb21 => ?_)
     ·
      have hb21 := of_decide_eq_true hb21
      iterate 3 refine st_skip rfl rfl rfl ?_
      refine st_op (ev_pickT rfl rfl) rfl rfl rfl ?_
      refine st_op (ev_move rfl) rfl rfl rfl ?_
      iterate 4 refine st_skip rfl rfl rfl ?_
      refine st_op (ev_pickT rfl rfl) rfl rfl rfl ?_
      refine st_op (ev_move rfl) rfl rfl rfl ?_
      iterate 4 refine st_skip rfl rfl rfl ?_
      refine st_op (ev_pickT rfl rfl) rfl rfl rfl ?_
      refine st_op (ev_move rfl) rfl rfl rfl ?_
      iterate 4 refine st_skip rfl rfl rfl ?_
      refine st_op (ev_pickT rfl rfl) rfl rfl rfl ?_
      refine st_op (ev_move rfl) rfl rfl rfl ?_
      iterate 4 refine st_skip rfl rfl rfl ?_
      refine st_op (ev_pickT rfl rfl) rfl rfl rfl ?_
      try show aw _ _ _ _ _ _
      refine aw_cond (t := true) rfl ?_
      try show aw _ _ _ _ _ _
      refine aw_seq ?_
      refine aw_reg ?_
      refine st_op (ev_assign rfl) rfl rfl rfl ?_
      try show aw _ _ _ _ _ _
      refine aw_ret ?_
      have hx22 : Ext H H16 := (Ext.trans (Ext.trans hx6 hx11) hx17)
      have hres : (Spec.mayMsg kind from_ to_ term index logterm commit yes es s_index s_term s_conf s_data) = false := by first | exact Spec.mayMsg_f1 (by omega) | exact Spec.mayMsg_f5 (by omega) | exact Spec.mayMsg_f4 (by omega) (by omega) | exact Spec.mayMsg_f3 (by assumption) (by omega) (by omega)
      exact ⟨.bool false, rfl, by first | (rw [hres]; done) | rw [← hres], hx22⟩
     ·
      have hb21 := of_decide_eq_false hb21
      refine st_op (ev_fieldAddr rfl fa26_3 (o' := 3) rfl) rfl rfl rfl ?_
      refine st_op (ev_load rfl (lvar_one one2 h20 rfl)) rfl rfl rfl ?_
      refine st_op (ev_int rfl rfl rfl) rfl rfl rfl ?_
      refine st_op (ev_pickF rfl rfl) rfl rfl rfl ?_
      refine st_op (ev_move rfl) rfl rfl rfl ?_
      refine st_bool 38 rfl (fun hb23 => ?_) (fun hb23 => ?_)
      ·
       have hb23 := of_decide_eq_true hb23
       iterate 4 refine st_skip rfl rfl rfl ?_
       refine st_op (ev_pickT rfl rfl) rfl rfl rfl ?_
       refine st_op (ev_move rfl) rfl rfl rfl ?_
       iterate 4 refine st_skip rfl rfl rfl ?_
       refine st_op (ev_pickT rfl rfl) rfl rfl rfl ?_
       refine st_op (ev_move rfl) rfl rfl rfl ?_
       iterate 4 refine st_skip rfl rfl rfl ?_
       refine st_op (ev_pickT rfl rfl) rfl rfl rfl ?_
       refine st_op (ev_move rfl) rfl rfl rfl ?_
       iterate 4 refine st_skip rfl rfl rfl ?_
       refine st_op (ev_pickT rfl rfl) rfl rfl rfl ?_
       try show aw _ _ _ _ _ _
       refine aw_cond (t := true) rfl ?_
       try show aw _ _ _ _ _ _
       refine aw_seq ?_
       refine aw_reg ?_
       refine st_op (ev_assign rfl) rfl rfl rfl ?_
       try show aw _ _ _ _ _ _
       refine aw_ret ?_
       have hx24 : Ext H H16 := (Ext.trans (Ext.trans hx6 hx11) hx17)
       have hres : (Spec.mayMsg kind from_ to_ term index logterm commit yes es s_index s_term s_conf s_data) = false := by first | exact Spec.mayMsg_f1 (by omega) | exact Spec.mayMsg_f5 (by omega) | exact Spec.mayMsg_f4 (by omega) (by omega) | exact Spec.mayMsg_f3 (by assumption) (by omega) (by omega)
       exact ⟨.bool false, rfl, by first | (rw [hres]; done) | rw [← hres], hx24⟩
      ·
       have hb23 := of_decide_eq_false hb23
       refine st_op (ev_fieldAddr rfl fa26_4 (o' := 4) rfl) rfl rfl rfl ?_
       refine st_op (ev_load rfl (lvar_one one2 h20 rfl)) rfl rfl rfl ?_
       refine st_call rfl rfl rfl ent28 rfl rfl rfl ?_
       obtain ⟨_, H26, hs25, hs25v, hx27⟩ := ref21_num_spec H16 index
       rw [hs25v] at hs25; clear hs25v
       refine ⟨_, H26, hs25, ?_⟩
       have H26n : H16.next ≤ H26.next := hx27.1
       refine st_op (ev_not rfl) rfl rfl rfl ?_
       refine st_op (ev_pickF rfl rfl) rfl rfl rfl ?_
       refine st_op (ev_move rfl) rfl rfl rfl ?_
       refine st_bool 44 rfl (fun hb28 => ?_) (fun hb28 => ?_)
       ·
        replace hb28 : (decide (0 ≤ index ∧ index ≤ 1099511627776)) = false := by rw [Bool.not_eq_true'] at hb28; exact hb28
        have hb28 := of_decide_eq_false hb28
        iterate 4 refine st_skip rfl rfl rfl ?_
        refine st_op (ev_pickT rfl rfl) rfl rfl rfl ?_
        refine st_op (ev_move rfl) rfl rfl rfl ?_
        iterate 4 refine st_skip rfl rfl rfl ?_
        refine st_op (ev_pickT rfl rfl) rfl rfl rfl ?_
        refine st_op (ev_move rfl) rfl rfl rfl ?_
        iterate 4 refine st_skip rfl rfl rfl ?_
        refine st_op (ev_pickT rfl rfl) rfl rfl rfl ?_
        try show aw _ _ _ _ _ _
        refine aw_cond (t := true) rfl ?_
        try show aw _ _ _ _ _ _
        refine aw_seq ?_
        refine aw_reg ?_
        refine st_op (ev_assign rfl) rfl rfl rfl ?_
        try show aw _ _ _ _ _ _
        refine aw_ret ?_
        have hx29 : Ext H H26 := (Ext.trans (Ext.trans (Ext.trans hx6 hx11) hx17) hx27)
        have hres : (Spec.mayMsg kind from_ to_ term index logterm commit yes es s_index s_term s_conf s_data) = false := by first | exact Spec.mayMsg_f1 (by omega) | exact Spec.mayMsg_f5 (by omega) | exact Spec.mayMsg_f4 (by omega) (by omega) | exact Spec.mayMsg_f3 (by assumption) (by omega) (by omega)
        exact ⟨.bool false, rfl, by first | (rw [hres]; done) | rw [← hres], hx29⟩
       ·
        replace hb28 : (decide (0 ≤ index ∧ index ≤ 1099511627776)) = true := by rw [Bool.not_eq_false'] at hb28; exact hb28
        have hb28 := of_decide_eq_true hb28
        refine st_op (ev_fieldAddr rfl fa26_5 (o' := 5) rfl) rfl rfl rfl ?_
        have h30 := Ext.blk hx27 (by omega) h20
        refine st_op (ev_load rfl (lvar_one one2 h30 rfl)) rfl rfl rfl ?_
        refine st_call rfl rfl rfl ent28 rfl rfl rfl ?_
        obtain ⟨_, H32, hs31, hs31v, hx33⟩ := ref21_num_spec H26 logterm
        rw [hs31v] at hs31; clear hs31v
        refine ⟨_, H32, hs31, ?_⟩
        have H32n : H26.next ≤ H32.next := hx33.1
        refine st_op (ev_not rfl) rfl rfl rfl ?_
        refine st_op (ev_pickF rfl rfl) rfl rfl rfl ?_
        refine st_op (ev_move rfl) rfl rfl rfl ?_
        refine st_bool 50 rfl (fun hb34 => ?_) (fun hb34 => ?_)
        ·
         replace hb34 : (decide (0 ≤ logterm ∧ logterm ≤ 1099511627776)) = false := by rw [Bool.not_eq_true'] at hb34; exact hb34
         have hb34 := of_decide_eq_false hb34
         iterate 4 refine st_skip rfl rfl rfl ?_
         refine st_op (ev_pickT rfl rfl) rfl rfl rfl ?_
         refine st_op (ev_move rfl) rfl rfl rfl ?_
         iterate 4 refine st_skip rfl rfl rfl ?_
         refine st_op (ev_pickT rfl rfl) rfl rfl rfl ?_
         try show aw _ _ _ _ _ _
         refine aw_cond (t := true) rfl ?_
         try show aw _ _ _ _ _ _
         refine aw_seq ?_
         refine aw_reg ?_
         refine st_op (ev_assign rfl) rfl rfl rfl ?_
         try show aw _ _ _ _ _ _
         refine aw_ret ?_
         have hx35 : Ext H H32 := (Ext.trans (Ext.trans (Ext.trans (Ext.trans hx6 hx11) hx17) hx27) hx33)
         have hres : (Spec.mayMsg kind from_ to_ term index logterm commit yes es s_index s_term s_conf s_data) = false := by first | exact Spec.mayMsg_f1 (by omega) | exact Spec.mayMsg_f5 (by omega) | exact Spec.mayMsg_f4 (by omega) (by omega) | exact Spec.mayMsg_f3 (by assumption) (by omega) (by omega)
         exact ⟨.bool false, rfl, by first | (rw [hres]; done) | rw [← hres], hx35⟩
        ·
         replace hb34 : (decide (0 ≤ logterm ∧ logterm ≤ 1099511627776)) = true := by rw [Bool.not_eq_false'] at hb34; exact hb34
         have hb34 := of_decide_eq_true hb34
         refine st_op (ev_fieldAddr rfl fa26_6 (o' := 6) rfl) rfl rfl rfl ?_
         have h36 := Ext.blk hx33 (by omega) h30
         refine st_op (ev_load rfl (lvar_one one2 h36 rfl)) rfl rfl rfl ?_
         refine st_call rfl rfl rfl ent28 rfl rfl rfl ?_
         obtain ⟨_, H38, hs37, hs37v, hx39⟩ := ref21_num_spec H32 commit
         rw [hs37v] at hs37; clear hs37v
         refine ⟨_, H38, hs37, ?_⟩
         have H38n : H32.next ≤ H38.next := hx39.1
         refine st_op (ev_not rfl) rfl rfl rfl ?_
         refine st_op (ev_pickF rfl rfl) rfl rfl rfl ?_
         refine st_op (ev_move rfl) rfl rfl rfl ?_
         refine st_bool 56 rfl (fun hb40 => ?_) (fun hb40 => ?_)
         ·
          replace hb40 : (decide (0 ≤ commit ∧ commit ≤ 1099511627776)) = false := by rw [Bool.not_eq_true'] at hb40; exact hb40
          have hb40 := of_decide_eq_false hb40
          iterate 4 refine st_skip rfl rfl rfl ?_
          refine st_op (ev_pickT rfl rfl) rfl rfl rfl ?_
          try show aw _ _ _ _ _ _
          refine aw_cond (t := true) rfl ?_
          try show aw _ _ _ _ _ _
          refine aw_seq ?_
          refine aw_reg ?_
          refine st_op (ev_assign rfl) rfl rfl rfl ?_
          try show aw _ _ _ _ _ _
          refine aw_ret ?_
          have hx41 : Ext H H38 := (Ext.trans (Ext.trans (Ext.trans (Ext.trans (Ext.trans hx6 hx11) hx17) hx27) hx33) hx39)
          have hres : (Spec.mayMsg kind from_ to_ term index logterm commit yes es s_index s_term s_conf s_data) = false := by first | exact Spec.mayMsg_f1 (by omega) | exact Spec.mayMsg_f5 (by omega) | exact Spec.mayMsg_f4 (by omega) (by omega) | exact Spec.mayMsg_f3 (by assumption) (by omega) (by omega)
          exact ⟨.bool false, rfl, by first | (rw [hres]; done) | rw [← hres], hx41⟩
         ·
          replace hb40 : (decide (0 ≤ commit ∧ commit ≤ 1099511627776)) = true := by rw [Bool.not_eq_false'] at hb40; exact hb40
          have hb40 := of_decide_eq_true hb40
          refine st_op (ev_fieldAddr rfl fa26_8 (o' := 8) rfl) rfl rfl rfl ?_
          have h42 := Ext.blk hx39 (by omega) h36
          refine st_op (ev_load rfl (lvar_one one22 h42 rfl)) rfl rfl rfl ?_
          refine st_op (ev_lenSl rfl Try.underlying22) rfl rfl rfl ?_
          refine st_op (ev_int rfl rfl rfl) rfl rfl rfl ?_
          refine st_op (ev_pickF rfl rfl) rfl rfl rfl ?_
          try show aw _ _ _ _ _ _
          by_cases hc43 : (decide ((es.length : Int) > 8)) = true
          ·
           refine aw_condT hc43 rfl ?_
           try show aw _ _ _ _ _ _
           have hc43 := of_decide_eq_true hc43
           refine aw_seq ?_
           refine aw_reg ?_
           refine st_op (ev_assign rfl) rfl rfl rfl ?_
           try show aw _ _ _ _ _ _
           refine aw_ret ?_
           have hx44 : Ext H H38 := (Ext.trans (Ext.trans (Ext.trans (Ext.trans (Ext.trans hx6 hx11) hx17) hx27) hx33) hx39)
           have hres : (Spec.mayMsg kind from_ to_ term index logterm commit yes es s_index s_term s_conf s_data) = false := by first | exact Spec.mayMsg_f1 (by omega) | exact Spec.mayMsg_f5 (by omega) | exact Spec.mayMsg_f4 (by omega) (by omega) | exact Spec.mayMsg_f3 (by assumption) (by omega) (by omega)
           exact ⟨.bool false, rfl, by first | (rw [hres]; done) | rw [← hres], hx44⟩
          ·
           rw [Bool.not_eq_true] at hc43; refine aw_condF hc43 rfl ?_
           try show aw _ _ _ _ _ _
           have hc43 := of_decide_eq_false hc43
           refine aw_skip ?_
           try show aw _ _ _ _ _ _
           iterate 2 refine aw_seq ?_
           refine aw_reg ?_
           refine st_op (ev_fieldAddr rfl fa26_8 (o' := 8) rfl) rfl rfl rfl ?_
           refine st_op (ev_load rfl (lvar_one one22 h42 rfl)) rfl rfl rfl ?_
           refine st_op (ev_lenSl rfl Try.underlying22) rfl rfl rfl ?_
           refine st_op (ev_int rfl rfl rfl) rfl rfl rfl ?_
           refine st_op (ev_move rfl) rfl rfl rfl ?_
           refine st_bool 66 rfl (fun hb45 => ?_) (fun hb45 => ?_)
           ·
            have hb45 := of_decide_eq_true hb45
            refine st_op (ev_fieldAddr rfl fa26_0 (o' := 0) rfl) rfl rfl rfl ?_
            refine st_op (ev_load rfl (lvar_one one3 h42 rfl)) rfl rfl rfl ?_
            refine st_op (ev_int rfl rfl rfl) rfl rfl rfl ?_
            refine st_op (ev_pickT rfl rfl) rfl rfl rfl ?_
            refine st_op (ev_move rfl) rfl rfl rfl ?_
            refine st_bool 71 rfl (fun hb46 => ?_) (fun hb46 => ?_)
            ·
             have hb46 : ¬ (kind = 3) := by simpa using hb46
             iterate 12 refine st_skip rfl rfl rfl ?_
             refine st_op (ev_pickT rfl rfl) rfl rfl rfl ?_
             try show aw _ _ _ _ _ _
             refine aw_cond (t := true) rfl ?_
             try show aw _ _ _ _ _ _
             refine aw_seq ?_
             refine aw_reg ?_
             refine st_op (ev_assign rfl) rfl rfl rfl ?_
             try show aw _ _ _ _ _ _
             refine aw_ret ?_
             have hx47 : Ext H H38 := (Ext.trans (Ext.trans (Ext.trans (Ext.trans (Ext.trans hx6 hx11) hx17) hx27) hx33) hx39)
             have hres : (Spec.mayMsg kind from_ to_ term index logterm commit yes es s_index s_term s_conf s_data) = false := by first | exact Spec.mayMsg_f1 (by omega) | exact Spec.mayMsg_f5 (by omega) | exact Spec.mayMsg_f4 (by omega) (by omega) | exact Spec.mayMsg_f3 (by assumption) (by omega) (by omega)
             exact ⟨.bool false, rfl, by first | (rw [hres]; done) | rw [← hres], hx47⟩
            ·
             have hb46 : (kind = 3) := by simpa using hb46
             refine st_op (ev_fieldAddr rfl fa26_7 (o' := 7) rfl) rfl rfl rfl ?_
             refine st_op (ev_load rfl (lvar_one one4 h42 rfl)) rfl rfl rfl ?_
             refine st_op (ev_move rfl) rfl rfl rfl ?_
             refine st_bool 74 rfl (fun hb48 => ?_) (fun hb48 => ?_)
             ·
              refine st_op (ev_fieldAddr rfl fa26_0 (o' := 0) rfl) rfl rfl rfl ?_
              refine st_op (ev_load rfl (lvar_one one3 h42 rfl)) rfl rfl rfl ?_
              refine st_op (ev_int rfl rfl rfl) rfl rfl rfl ?_
              refine st_op (ev_pickT rfl rfl) rfl rfl rfl ?_
              refine st_op (ev_move rfl) rfl rfl rfl ?_
              refine st_bool 79 rfl (fun hb49 => ?_) (fun hb49 => ?_)
              ·
               have hb49 : ¬ (kind = 2) := by simpa using hb49
               refine st_op (ev_fieldAddr rfl fa26_0 (o' := 0) rfl) rfl rfl rfl ?_
               refine st_op (ev_load rfl (lvar_one one3 h42 rfl)) rfl rfl rfl ?_
               refine st_op (ev_int rfl rfl rfl) rfl rfl rfl ?_
               refine st_op (ev_pickT rfl rfl) rfl rfl rfl ?_
               refine st_op (ev_pickF rfl rfl) rfl rfl rfl ?_
               try show aw _ _ _ _ _ _
               by_cases hc50 : (kind != 4) = true
               ·
                refine aw_condT hc50 rfl ?_
                try show aw _ _ _ _ _ _
                have hc50 : ¬ (kind = 4) := by simpa using hc50
                refine aw_seq ?_
                refine aw_reg ?_
                refine st_op (ev_assign rfl) rfl rfl rfl ?_
                try show aw _ _ _ _ _ _
                refine aw_ret ?_
                have hx51 : Ext H H38 := (Ext.trans (Ext.trans (Ext.trans (Ext.trans (Ext.trans hx6 hx11) hx17) hx27) hx33) hx39)
                have hres : (Spec.mayMsg kind from_ to_ term index logterm commit yes es s_index s_term s_conf s_data) = false := by first | exact Spec.mayMsg_f1 (by omega) | exact Spec.mayMsg_f5 (by omega) | exact Spec.mayMsg_f4 (by omega) (by omega) | exact Spec.mayMsg_f3 (by assumption) (by omega) (by omega)
                exact ⟨.bool false, rfl, by first | (rw [hres]; done) | rw [← hres], hx51⟩
               ·
                rw [Bool.not_eq_true] at hc50; refine aw_condF hc50 rfl ?_
                try show aw _ _ _ _ _ _
                have hc50 : (kind = 4) := by simpa using hc50
                exfalso; omega
              ·
               have hb49 : (kind = 2) := by simpa using hb49
               exfalso; omega
             ·
              iterate 3 refine st_skip rfl rfl rfl ?_
              refine st_op (ev_pickF rfl rfl) rfl rfl rfl ?_
              refine st_op (ev_move rfl) rfl rfl rfl ?_
              iterate 3 refine st_skip rfl rfl rfl ?_
              iterate 2 refine st_op (ev_pickF rfl rfl) rfl rfl rfl ?_
              try show aw _ _ _ _ _ _
              refine aw_cond (t := false) rfl ?_
              try show aw _ _ _ _ _ _
              refine aw_skip ?_
              try show aw _ _ _ _ _ _
              refine aw_seq ?_
              refine aw_reg ?_
              refine st_op (ev_fieldAddr rfl fa26_5 (o' := 5) rfl) rfl rfl rfl ?_
              refine st_op (ev_load rfl (lvar_one one2 h42 rfl)) rfl rfl rfl ?_
              refine st_op (ev_assign rfl) rfl rfl rfl ?_
              try show aw _ _ _ _ _ _
              iterate 2 refine aw_seq ?_
              refine aw_reg ?_
              refine st_op (ev_assign rfl) rfl rfl rfl ?_
              try show aw _ _ _ _ _ _
              refine aw_block ?_
              refine aw_keep [1, 3, 4] (l' := (.cons 1 (.pointer (some ⟨b1, 0, none⟩)) (.cons 3 (.int .i64 logterm) (.cons 4 (.int .i64 0) .nil)))) (by repeat (first | exact Up.done | refine Up.then ?_ | refine Up.inBlock ?_)) rfl ?_
              refine aw_iter (α := Nat × Int × Heap) (fun a => es.length - a.1) (fun a => (.cons 1 (.pointer (some ⟨b1, 0, none⟩)) (.cons 3 (.int .i64 a.2.1) (.cons 4 (.int .i64 (a.1 : Int)) .nil)))) (fun a => a.2.2) (fun a => (a.1 ≤ es.length) ∧ (Spec.entR term index logterm es = Spec.entR term (index + (a.1 : Int)) a.2.1 (es.drop a.1)) ∧ (Ext H38 a.2.2)) (0, logterm, H38) ⟨(show 0 ≤ es.length from Nat.zero_le _), (show Spec.entR term index logterm es = Spec.entR term (index + (0 : Int)) logterm (es.drop 0) from (by simp)), (show Ext H38 H38 from (Ext.refl H38))⟩ ?_
              rintro ⟨i, tm, Hl52⟩ ⟨hi, hv, hxl53⟩ ih54
              replace hi : i ≤ es.length := hi
              replace hv : Spec.entR term index logterm es = Spec.entR term (index + (i : Int)) tm (es.drop i) := hv
              replace hxl53 : Ext H38 Hl52 := hxl53
              show aw _ _ _ (RL _ (.cons 1 (.pointer (some ⟨b1, 0, none⟩)) (.cons 3 (.int .i64 tm) (.cons 4 (.int .i64 (i : Int)) .nil)))) Hl52 _
              have Hl52n : H38.next ≤ Hl52.next := hxl53.1
              iterate 2 refine aw_seq ?_
              refine aw_reg ?_
              refine st_op (ev_move rfl) rfl rfl rfl ?_
              refine st_op (ev_fieldAddr rfl fa26_8 (o' := 8) rfl) rfl rfl rfl ?_
              have h55 := Ext.blk hxl53 (by omega) h42
              refine st_op (ev_load rfl (lvar_one one22 h55 rfl)) rfl rfl rfl ?_
              refine st_op (ev_lenSl rfl Try.underlying22) rfl rfl rfl ?_
              refine st_op (ev_int rfl rfl rfl) rfl rfl rfl ?_
              try show aw _ _ _ _ _ _
              by_cases hc56 : (decide ((i : Int) < (es.length : Int))) = true
              ·
               refine aw_condT hc56 rfl ?_
               try show aw _ _ _ _ _ _
               have hc56 := of_decide_eq_true hc56
               refine aw_skip ?_
               try show aw _ _ _ _ _ _
               refine aw_seq ?_
               refine aw_block ?_
               refine aw_seq ?_
               refine aw_reg ?_
               refine st_op (ev_fieldAddr rfl fa26_8 (o' := 8) rfl) rfl rfl rfl ?_
               refine st_op (ev_load rfl (lvar_one one22 h55 rfl)) rfl rfl rfl ?_
               refine st_op (ev_move rfl) rfl rfl rfl ?_
               have hx58 : Ext H Hl52 := (Ext.trans (Ext.trans (Ext.trans (Ext.trans (Ext.trans (Ext.trans hx6 hx11) hx17) hx27) hx33) hx39) hxl53)
               have h57 := Row.ext hes hx58
               have hi59 : 0 ≤ ((i : Int) : Int) := by omega
               have hi60 : ((i : Int) : Int) < ((es.length : Nat) : Int) := by omega
               obtain ⟨x61, hx62⟩ : ∃ e, es[i]? = some e := ⟨_, List.getElem?_eq_getElem (by omega)⟩
               refine st_op (ev_at rfl rfl h57 (getMap Entry.cells hx62) (by first | rfl | omega | simp) hi59 hi60 el22) rfl rfl rfl ?_
               refine st_op (ev_atN (cs := [.int .i64 x61.index, .int .i64 x61.term, .int .i64 x61.kind, .string x61.data]) rfl h57 (getMap Entry.cells hx62) many45 rfl rfl (by decide)) rfl rfl rfl ?_
               obtain ⟨b63, H64, he65, b63e, H64n_, hB67, f66⟩ := mem_alloc Hl52 zero45
               refine st_op (he65 _ _ _ _ _ _ _) rfl rfl rfl ?_
               have hx68 : Ext Hl52 H64 := Ext.new (by omega) H64n_ f66
               have H64n : Hl52.next ≤ H64.next := hx68.1
               obtain ⟨H69, he70, H69n_, hB71, f72⟩ := mem_store (v := .agg #[.int .i64 x61.index, .int .i64 x61.term, .int .i64 x61.kind, .string x61.data]) (o := 0) (cs' := [.int .i64 x61.index, .int .i64 x61.term, .int .i64 x61.kind, .string x61.data]) 4 rfl rfl size45 hB67 rfl rfl rfl
               refine st_op0 (he70 _ _ _ _ _ _ _ _ _ rfl rfl) rfl rfl ?_
               have hf73 : Fr (fun q => q = b63) H64 H69 := Fr.write H69n_ f72
               have H69n : H64.next ≤ H69.next := hf73.1
               try show aw _ _ _ _ _ _
               iterate 2 refine aw_seq ?_
               refine aw_reg ?_
               refine st_op (ev_fieldAddr rfl fa45_0 (o' := 0) rfl) rfl rfl rfl ?_
               refine st_op (ev_load rfl (lvar_one one2 hB71 rfl)) rfl rfl rfl ?_
               refine st_op (ev_fieldAddr rfl fa26_4 (o' := 4) rfl) rfl rfl rfl ?_
               have hx75 : Ext Hl52 H69 := (Ext.then hx68 hf73 (fun q hq e => by omega))
               have h74 := Ext.blk hx75 (by omega) h55
               refine st_op (ev_load rfl (lvar_one one2 h74 rfl)) rfl rfl rfl ?_
               refine st_op (ev_int64 (c := index + 1) rfl rfl rfl (by omega) (by omega)) rfl rfl rfl ?_
               refine st_op (ev_move rfl) rfl rfl rfl ?_
               refine st_op (ev_int64 (c := (index + 1) + (i : Int)) rfl rfl rfl (by omega) (by omega)) rfl rfl rfl ?_
               refine st_op (ev_int rfl rfl rfl) rfl rfl rfl ?_
               refine st_op (ev_move rfl) rfl rfl rfl ?_
               refine st_bool 107 rfl (fun hb76 => ?_) (fun hb76 => ?_)
               ·
                have hb76 : ¬ (x61.index = (index + 1) + (i : Int)) := by simpa using hb76
                iterate 4 refine st_skip rfl rfl rfl ?_
                refine st_op (ev_pickT rfl rfl) rfl rfl rfl ?_
                refine st_op (ev_move rfl) rfl rfl rfl ?_
                iterate 5 refine st_skip rfl rfl rfl ?_
                refine st_op (ev_pickT rfl rfl) rfl rfl rfl ?_
                refine st_op (ev_move rfl) rfl rfl rfl ?_
                iterate 3 refine st_skip rfl rfl rfl ?_
                refine st_op (ev_pickT rfl rfl) rfl rfl rfl ?_
                try show aw _ _ _ _ _ _
                refine aw_cond (t := true) rfl ?_
                try show aw _ _ _ _ _ _
                refine aw_seq ?_
                refine aw_reg ?_
                refine st_op (ev_assign rfl) rfl rfl rfl ?_
                try show aw _ _ _ _ _ _
                refine aw_ret ?_
                have hx77 : Ext H H69 := (Ext.then (Ext.trans hx58 hx68) hf73 (fun q hq e => by omega))
                have hres : (Spec.mayMsg kind from_ to_ term index logterm commit yes es s_index s_term s_conf s_data) = false := by exact Spec.mayMsg_f6 (by rw [hv, drop_at hx62, Spec.entR, if_pos (by first | exact .inl (by omega) | exact .inr (.inl (by omega)) | exact .inr (.inr (.inl (by omega))) | exact .inr (.inr (.inr (by assumption))))])
                exact ⟨.bool false, rfl, by first | (rw [hres]; done) | rw [← hres], hx77⟩
               ·
                have hb76 : (x61.index = (index + 1) + (i : Int)) := by simpa using hb76
                refine st_op (ev_fieldAddr rfl fa45_1 (o' := 1) rfl) rfl rfl rfl ?_
                refine st_op (ev_load rfl (lvar_one one2 hB71 rfl)) rfl rfl rfl ?_
                refine st_op (ev_move rfl) rfl rfl rfl ?_
                refine st_op (ev_int rfl rfl rfl) rfl rfl rfl ?_
                refine st_op (ev_pickF rfl rfl) rfl rfl rfl ?_
                refine st_op (ev_move rfl) rfl rfl rfl ?_
                refine st_bool 113 rfl (fun hb78 => ?_) (fun hb78 => ?_)
                ·
                 have hb78 := of_decide_eq_true hb78
                 iterate 5 refine st_skip rfl rfl rfl ?_
                 refine st_op (ev_pickT rfl rfl) rfl rfl rfl ?_
                 refine st_op (ev_move rfl) rfl rfl rfl ?_
                 iterate 3 refine st_skip rfl rfl rfl ?_
                 refine st_op (ev_pickT rfl rfl) rfl rfl rfl ?_
                 try show aw _ _ _ _ _ _
                 refine aw_cond (t := true) rfl ?_
                 try show aw _ _ _ _ _ _
                 refine aw_seq ?_
                 refine aw_reg ?_
                 refine st_op (ev_assign rfl) rfl rfl rfl ?_
                 try show aw _ _ _ _ _ _
                 refine aw_ret ?_
                 have hx79 : Ext H H69 := (Ext.then (Ext.trans hx58 hx68) hf73 (fun q hq e => by omega))
                 have hres : (Spec.mayMsg kind from_ to_ term index logterm commit yes es s_index s_term s_conf s_data) = false := by exact Spec.mayMsg_f6 (by rw [hv, drop_at hx62, Spec.entR, if_pos (by first | exact .inl (by omega) | exact .inr (.inl (by omega)) | exact .inr (.inr (.inl (by omega))) | exact .inr (.inr (.inr (by assumption))))])
                 exact ⟨.bool false, rfl, by first | (rw [hres]; done) | rw [← hres], hx79⟩
                ·
                 have hb78 := of_decide_eq_false hb78
                 refine st_op (ev_fieldAddr rfl fa45_1 (o' := 1) rfl) rfl rfl rfl ?_
                 refine st_op (ev_load rfl (lvar_one one2 hB71 rfl)) rfl rfl rfl ?_
                 refine st_op (ev_fieldAddr rfl fa26_3 (o' := 3) rfl) rfl rfl rfl ?_
                 refine st_op (ev_load rfl (lvar_one one2 h74 rfl)) rfl rfl rfl ?_
                 refine st_op (ev_int rfl rfl rfl) rfl rfl rfl ?_
                 refine st_op (ev_pickF rfl rfl) rfl rfl rfl ?_
                 refine st_op (ev_move rfl) rfl rfl rfl ?_
                 refine st_bool 120 rfl (fun hb80 => ?_) (fun hb80 => ?_)
                 ·
                  have hb80 := of_decide_eq_true hb80
                  iterate 3 refine st_skip rfl rfl rfl ?_
                  refine st_op (ev_pickT rfl rfl) rfl rfl rfl ?_
                  try show aw _ _ _ _ _ _
                  refine aw_cond (t := true) rfl ?_
                  try show aw _ _ _ _ _ _
                  refine aw_seq ?_
                  refine aw_reg ?_
                  refine st_op (ev_assign rfl) rfl rfl rfl ?_
                  try show aw _ _ _ _ _ _
                  refine aw_ret ?_
                  have hx81 : Ext H H69 := (Ext.then (Ext.trans hx58 hx68) hf73 (fun q hq e => by omega))
                  have hres : (Spec.mayMsg kind from_ to_ term index logterm commit yes es s_index s_term s_conf s_data) = false := by exact Spec.mayMsg_f6 (by rw [hv, drop_at hx62, Spec.entR, if_pos (by first | exact .inl (by omega) | exact .inr (.inl (by omega)) | exact .inr (.inr (.inl (by omega))) | exact .inr (.inr (.inr (by assumption))))])
                  exact ⟨.bool false, rfl, by first | (rw [hres]; done) | rw [← hres], hx81⟩
                 ·
                  have hb80 := of_decide_eq_false hb80
                  refine st_op (ev_load rfl (lvar_part (l := [.int .i64 x61.index, .int .i64 x61.term, .int .i64 x61.kind, .string x61.data]) many45 hB71 rfl rfl (by decide))) rfl rfl rfl ?_
                  refine st_call rfl rfl rfl ent29 rfl rfl rfl ?_
                  obtain ⟨_, H83, hs82, hs82v, hx84⟩ := ref17_MayEntry_spec H69 x61.index x61.term x61.kind x61.data
                  rw [hs82v] at hs82; clear hs82v
                  refine ⟨_, H83, hs82, ?_⟩
                  have H83n : H69.next ≤ H83.next := hx84.1
                  refine st_op (ev_not rfl) rfl rfl rfl ?_
                  refine st_op (ev_pickF rfl rfl) rfl rfl rfl ?_
                  try show aw _ _ _ _ _ _
                  by_cases hc85 : (!(Spec.mayF false 0 0 x61.index x61.term x61.kind x61.data)) = true
                  ·
                   refine aw_condT hc85 rfl ?_
                   try show aw _ _ _ _ _ _
                   replace hc85 : (Spec.mayF false 0 0 x61.index x61.term x61.kind x61.data) = false := by rw [Bool.not_eq_true'] at hc85; exact hc85
                   refine aw_seq ?_
                   refine aw_reg ?_
                   refine st_op (ev_assign rfl) rfl rfl rfl ?_
                   try show aw _ _ _ _ _ _
                   refine aw_ret ?_
                   have hx86 : Ext H H83 := (Ext.trans (Ext.then (Ext.trans hx58 hx68) hf73 (fun q hq e => by omega)) hx84)
                   have hres : (Spec.mayMsg kind from_ to_ term index logterm commit yes es s_index s_term s_conf s_data) = false := by exact Spec.mayMsg_f6 (by rw [hv, drop_at hx62, Spec.entR, if_pos (by first | exact .inl (by omega) | exact .inr (.inl (by omega)) | exact .inr (.inr (.inl (by omega))) | exact .inr (.inr (.inr (by assumption))))])
                   exact ⟨.bool false, rfl, by first | (rw [hres]; done) | rw [← hres], hx86⟩
                  ·
                   rw [Bool.not_eq_true] at hc85; refine aw_condF hc85 rfl ?_
                   try show aw _ _ _ _ _ _
                   replace hc85 : (Spec.mayF false 0 0 x61.index x61.term x61.kind x61.data) = true := by rw [Bool.not_eq_false'] at hc85; exact hc85
                   have hc85m := Spec.may_says hc85
                   refine aw_skip ?_
                   try show aw _ _ _ _ _ _
                   refine aw_reg ?_
                   refine st_op (ev_fieldAddr rfl fa45_1 (o' := 1) rfl) rfl rfl rfl ?_
                   have h87 := Ext.blk hx84 (by omega) hB71
                   refine st_op (ev_load rfl (lvar_one one2 h87 rfl)) rfl rfl rfl ?_
                   refine st_op (ev_assign rfl) rfl rfl rfl ?_
                   try show aw _ _ _ _ _ _
                   refine aw_reg ?_
                   refine st_op (ev_move rfl) rfl rfl rfl ?_
                   refine st_op (ev_int64 (c := (i : Int) + 1) rfl rfl rfl (by omega) (by omega)) rfl rfl rfl ?_
                   refine st_op (ev_assign rfl) rfl rfl rfl ?_
                   try show aw _ _ _ _ _ _
                   have hx88 : Ext H38 H83 := (Ext.trans (Ext.then (Ext.trans hxl53 hx68) hf73 (fun q hq e => by omega)) hx84)
                   refine aw_keep [1, 3, 4] (l' := (.cons 1 (.pointer (some ⟨b1, 0, none⟩)) (.cons 3 (.int .i64 x61.term) (.cons 4 (.int .i64 ((i : Int) + 1)) .nil)))) (by repeat (first | exact Up.done | refine Up.then ?_ | refine Up.inBlock ?_)) rfl ?_
                   exact ih54 (i + 1, x61.term, H83) ⟨(show (i + 1) ≤ es.length from (by omega)), (show Spec.entR term index logterm es = Spec.entR term (index + ((i + 1) : Int)) x61.term (es.drop (i + 1)) from (by rw [hv]; exact Spec.entR_step hx62 (by omega) (by omega) (by omega) (by assumption))), (show Ext H38 H83 from hx88)⟩ (by simp only; omega)
              ·
               rw [Bool.not_eq_true] at hc56; refine aw_condF hc56 rfl ?_
               try show aw _ _ _ _ _ _
               have hc56 := of_decide_eq_false hc56
               refine aw_exit ?_
               try show aw _ _ _ _ _ _
               iterate 2 refine aw_seq ?_
               refine aw_reg ?_
               refine st_op (ev_fieldAddr rfl fa26_0 (o' := 0) rfl) rfl rfl rfl ?_
               refine st_op (ev_load rfl (lvar_one one3 h55 rfl)) rfl rfl rfl ?_
               refine st_op (ev_int rfl rfl rfl) rfl rfl rfl ?_
               try show aw _ _ _ _ _ _
               by_cases hc89 : (kind != 5) = true
               ·
                refine aw_condT hc89 rfl ?_
                try show aw _ _ _ _ _ _
                have hc89 : ¬ (kind = 5) := by simpa using hc89
                refine aw_seq ?_
                refine aw_reg ?_
                refine st_op (ev_fieldAddr rfl fa26_9 (o' := 9) rfl) rfl rfl rfl ?_
                refine st_op (ev_load rfl (lvar_part (l := [.int .i64 s_index, .int .i64 s_term, .string s_conf, .string s_data]) many24 h55 rfl rfl (by decide))) rfl rfl rfl ?_
                refine st_op (ev_build zero24 pl24 (parts := []) rfl (cs := [.int .i64 0, .int .i64 0, .string (⟨#[]⟩), .string (⟨#[]⟩)]) rfl) rfl rfl rfl ?_
                refine st_call rfl rfl rfl ent30 rfl rfl rfl ?_
                obtain ⟨_, H91, hs90, hs90v, hx92⟩ := ref17_EqSnap_spec Hl52 s_index s_term s_conf s_data (0 : Int) (0 : Int) (⟨#[]⟩ : ByteArray) (⟨#[]⟩ : ByteArray)
                rw [hs90v] at hs90; clear hs90v
                refine ⟨_, H91, hs90, ?_⟩
                have H91n : Hl52.next ≤ H91.next := hx92.1
                refine st_op (ev_assign rfl) rfl rfl rfl ?_
                try show aw _ _ _ _ _ _
                refine aw_ret ?_
                have hx93 : Ext H H91 := (Ext.trans (Ext.trans (Ext.trans (Ext.trans (Ext.trans (Ext.trans (Ext.trans hx6 hx11) hx17) hx27) hx33) hx39) hxl53) hx92)
                have hres : (Spec.mayMsg kind from_ to_ term index logterm commit yes es s_index s_term s_conf s_data) = (Spec.eqSn s_index s_term s_conf s_data (0 : Int) (0 : Int) (⟨#[]⟩ : ByteArray) (⟨#[]⟩ : ByteArray)) := by rw [Spec.mayMsg_last (by omega) (by rw [hv, List.drop_eq_nil_of_le (by omega), Spec.entR, Bool.true_and]; exact decide_eq_true (by omega)) (fun h => by first | omega | exact Bool.noConfusion (h.symm.trans (show yes = false by assumption)))]; rw [if_neg (by omega)]; exact Spec.eqSn_zero
                exact ⟨.bool (Spec.eqSn s_index s_term s_conf s_data (0 : Int) (0 : Int) (⟨#[]⟩ : ByteArray) (⟨#[]⟩ : ByteArray)), rfl, by first | (rw [hres]; done) | rw [← hres], hx93⟩
               ·
                rw [Bool.not_eq_true] at hc89; refine aw_condF hc89 rfl ?_
                try show aw _ _ _ _ _ _
                have hc89 : (kind = 5) := by simpa using hc89
                exfalso; omega
           ·
            have hb45 := of_decide_eq_false hb45
            iterate 3 refine st_skip rfl rfl rfl ?_
            refine st_op (ev_pickF rfl rfl) rfl rfl rfl ?_
            refine st_op (ev_move rfl) rfl rfl rfl ?_
            refine st_op (ev_fieldAddr rfl fa26_7 (o' := 7) rfl) rfl rfl rfl ?_
            refine st_op (ev_load rfl (lvar_one one4 h42 rfl)) rfl rfl rfl ?_
            refine st_op (ev_move rfl) rfl rfl rfl ?_
            refine st_bool 74 rfl (fun hb94 => ?_) (fun hb94 => ?_)
            ·
             refine st_op (ev_fieldAddr rfl fa26_0 (o' := 0) rfl) rfl rfl rfl ?_
             refine st_op (ev_load rfl (lvar_one one3 h42 rfl)) rfl rfl rfl ?_
             refine st_op (ev_int rfl rfl rfl) rfl rfl rfl ?_
             refine st_op (ev_pickT rfl rfl) rfl rfl rfl ?_
             refine st_op (ev_move rfl) rfl rfl rfl ?_
             refine st_bool 79 rfl (fun hb95 => ?_) (fun hb95 => ?_)
             ·
              have hb95 : ¬ (kind = 2) := by simpa using hb95
              refine st_op (ev_fieldAddr rfl fa26_0 (o' := 0) rfl) rfl rfl rfl ?_
              refine st_op (ev_load rfl (lvar_one one3 h42 rfl)) rfl rfl rfl ?_
              refine st_op (ev_int rfl rfl rfl) rfl rfl rfl ?_
              refine st_op (ev_pickT rfl rfl) rfl rfl rfl ?_
              refine st_op (ev_pickF rfl rfl) rfl rfl rfl ?_
              try show aw _ _ _ _ _ _
              by_cases hc96 : (kind != 4) = true
              ·
               refine aw_condT hc96 rfl ?_
               try show aw _ _ _ _ _ _
               have hc96 : ¬ (kind = 4) := by simpa using hc96
               refine aw_seq ?_
               refine aw_reg ?_
               refine st_op (ev_assign rfl) rfl rfl rfl ?_
               try show aw _ _ _ _ _ _
               refine aw_ret ?_
               have hx97 : Ext H H38 := (Ext.trans (Ext.trans (Ext.trans (Ext.trans (Ext.trans hx6 hx11) hx17) hx27) hx33) hx39)
               have hres : (Spec.mayMsg kind from_ to_ term index logterm commit yes es s_index s_term s_conf s_data) = false := by first | exact Spec.mayMsg_f1 (by omega) | exact Spec.mayMsg_f5 (by omega) | exact Spec.mayMsg_f4 (by omega) (by omega) | exact Spec.mayMsg_f3 (by assumption) (by omega) (by omega)
               exact ⟨.bool false, rfl, by first | (rw [hres]; done) | rw [← hres], hx97⟩
              ·
               rw [Bool.not_eq_true] at hc96; refine aw_condF hc96 rfl ?_
               try show aw _ _ _ _ _ _
               have hc96 : (kind = 4) := by simpa using hc96
               refine aw_skip ?_
               try show aw _ _ _ _ _ _
               refine aw_seq ?_
               refine aw_reg ?_
               refine st_op (ev_fieldAddr rfl fa26_5 (o' := 5) rfl) rfl rfl rfl ?_
               refine st_op (ev_load rfl (lvar_one one2 h42 rfl)) rfl rfl rfl ?_
               refine st_op (ev_assign rfl) rfl rfl rfl ?_
               try show aw _ _ _ _ _ _
               iterate 2 refine aw_seq ?_
               refine aw_reg ?_
               refine st_op (ev_assign rfl) rfl rfl rfl ?_
               try show aw _ _ _ _ _ _
               refine aw_block ?_
               refine aw_keep [1, 3, 4] (l' := (.cons 1 (.pointer (some ⟨b1, 0, none⟩)) (.cons 3 (.int .i64 logterm) (.cons 4 (.int .i64 0) .nil)))) (by repeat (first | exact Up.done | refine Up.then ?_ | refine Up.inBlock ?_)) rfl ?_
               refine aw_iter (α := Nat × Int × Heap) (fun a => es.length - a.1) (fun a => (.cons 1 (.pointer (some ⟨b1, 0, none⟩)) (.cons 3 (.int .i64 a.2.1) (.cons 4 (.int .i64 (a.1 : Int)) .nil)))) (fun a => a.2.2) (fun a => (a.1 ≤ es.length) ∧ (Spec.entR term index logterm es = Spec.entR term (index + (a.1 : Int)) a.2.1 (es.drop a.1)) ∧ (Ext H38 a.2.2)) (0, logterm, H38) ⟨(show 0 ≤ es.length from Nat.zero_le _), (show Spec.entR term index logterm es = Spec.entR term (index + (0 : Int)) logterm (es.drop 0) from (by simp)), (show Ext H38 H38 from (Ext.refl H38))⟩ ?_
               rintro ⟨i, tm, Hl98⟩ ⟨hi, hv, hxl99⟩ ih100
               replace hi : i ≤ es.length := hi
               replace hv : Spec.entR term index logterm es = Spec.entR term (index + (i : Int)) tm (es.drop i) := hv
               replace hxl99 : Ext H38 Hl98 := hxl99
               show aw _ _ _ (RL _ (.cons 1 (.pointer (some ⟨b1, 0, none⟩)) (.cons 3 (.int .i64 tm) (.cons 4 (.int .i64 (i : Int)) .nil)))) Hl98 _
               have Hl98n : H38.next ≤ Hl98.next := hxl99.1
               iterate 2 refine aw_seq ?_
               refine aw_reg ?_
               refine st_op (ev_move rfl) rfl rfl rfl ?_
               refine st_op (ev_fieldAddr rfl fa26_8 (o' := 8) rfl) rfl rfl rfl ?_
               have h101 := Ext.blk hxl99 (by omega) h42
               refine st_op (ev_load rfl (lvar_one one22 h101 rfl)) rfl rfl rfl ?_
               refine st_op (ev_lenSl rfl Try.underlying22) rfl rfl rfl ?_
               refine st_op (ev_int rfl rfl rfl) rfl rfl rfl ?_
               try show aw _ _ _ _ _ _
               by_cases hc102 : (decide ((i : Int) < (es.length : Int))) = true
               ·
                refine aw_condT hc102 rfl ?_
                try show aw _ _ _ _ _ _
                have hc102 := of_decide_eq_true hc102
                exfalso; omega
               ·
                rw [Bool.not_eq_true] at hc102; refine aw_condF hc102 rfl ?_
                try show aw _ _ _ _ _ _
                have hc102 := of_decide_eq_false hc102
                refine aw_exit ?_
                try show aw _ _ _ _ _ _
                iterate 2 refine aw_seq ?_
                refine aw_reg ?_
                refine st_op (ev_fieldAddr rfl fa26_0 (o' := 0) rfl) rfl rfl rfl ?_
                refine st_op (ev_load rfl (lvar_one one3 h101 rfl)) rfl rfl rfl ?_
                refine st_op (ev_int rfl rfl rfl) rfl rfl rfl ?_
                try show aw _ _ _ _ _ _
                by_cases hc103 : (kind != 5) = true
                ·
                 refine aw_condT hc103 rfl ?_
                 try show aw _ _ _ _ _ _
                 have hc103 : ¬ (kind = 5) := by simpa using hc103
                 refine aw_seq ?_
                 refine aw_reg ?_
                 refine st_op (ev_fieldAddr rfl fa26_9 (o' := 9) rfl) rfl rfl rfl ?_
                 refine st_op (ev_load rfl (lvar_part (l := [.int .i64 s_index, .int .i64 s_term, .string s_conf, .string s_data]) many24 h101 rfl rfl (by decide))) rfl rfl rfl ?_
                 refine st_op (ev_build zero24 pl24 (parts := []) rfl (cs := [.int .i64 0, .int .i64 0, .string (⟨#[]⟩), .string (⟨#[]⟩)]) rfl) rfl rfl rfl ?_
                 refine st_call rfl rfl rfl ent30 rfl rfl rfl ?_
                 obtain ⟨_, H105, hs104, hs104v, hx106⟩ := ref17_EqSnap_spec Hl98 s_index s_term s_conf s_data (0 : Int) (0 : Int) (⟨#[]⟩ : ByteArray) (⟨#[]⟩ : ByteArray)
                 rw [hs104v] at hs104; clear hs104v
                 refine ⟨_, H105, hs104, ?_⟩
                 have H105n : Hl98.next ≤ H105.next := hx106.1
                 refine st_op (ev_assign rfl) rfl rfl rfl ?_
                 try show aw _ _ _ _ _ _
                 refine aw_ret ?_
                 have hx107 : Ext H H105 := (Ext.trans (Ext.trans (Ext.trans (Ext.trans (Ext.trans (Ext.trans (Ext.trans hx6 hx11) hx17) hx27) hx33) hx39) hxl99) hx106)
                 have hres : (Spec.mayMsg kind from_ to_ term index logterm commit yes es s_index s_term s_conf s_data) = (Spec.eqSn s_index s_term s_conf s_data (0 : Int) (0 : Int) (⟨#[]⟩ : ByteArray) (⟨#[]⟩ : ByteArray)) := by rw [Spec.mayMsg_last (by omega) (by rw [hv, List.drop_eq_nil_of_le (by omega), Spec.entR, Bool.true_and]; exact decide_eq_true (by omega)) (fun h => by first | omega | exact Bool.noConfusion (h.symm.trans (show yes = false by assumption)))]; rw [if_neg (by omega)]; exact Spec.eqSn_zero
                 exact ⟨.bool (Spec.eqSn s_index s_term s_conf s_data (0 : Int) (0 : Int) (⟨#[]⟩ : ByteArray) (⟨#[]⟩ : ByteArray)), rfl, by first | (rw [hres]; done) | rw [← hres], hx107⟩
                ·
                 rw [Bool.not_eq_true] at hc103; refine aw_condF hc103 rfl ?_
                 try show aw _ _ _ _ _ _
                 have hc103 : (kind = 5) := by simpa using hc103
                 exfalso; omega
             ·
              have hb95 : (kind = 2) := by simpa using hb95
              iterate 3 refine st_skip rfl rfl rfl ?_
              iterate 2 refine st_op (ev_pickF rfl rfl) rfl rfl rfl ?_
              try show aw _ _ _ _ _ _
              refine aw_cond (t := false) rfl ?_
              try show aw _ _ _ _ _ _
              refine aw_skip ?_
              try show aw _ _ _ _ _ _
              refine aw_seq ?_
              refine aw_reg ?_
              refine st_op (ev_fieldAddr rfl fa26_5 (o' := 5) rfl) rfl rfl rfl ?_
              refine st_op (ev_load rfl (lvar_one one2 h42 rfl)) rfl rfl rfl ?_
              refine st_op (ev_assign rfl) rfl rfl rfl ?_
              try show aw _ _ _ _ _ _
              iterate 2 refine aw_seq ?_
              refine aw_reg ?_
              refine st_op (ev_assign rfl) rfl rfl rfl ?_
              try show aw _ _ _ _ _ _
              refine aw_block ?_
              refine aw_keep [1, 3, 4] (l' := (.cons 1 (.pointer (some ⟨b1, 0, none⟩)) (.cons 3 (.int .i64 logterm) (.cons 4 (.int .i64 0) .nil)))) (by repeat (first | exact Up.done | refine Up.then ?_ | refine Up.inBlock ?_)) rfl ?_
              refine aw_iter (α := Nat × Int × Heap) (fun a => es.length - a.1) (fun a => (.cons 1 (.pointer (some ⟨b1, 0, none⟩)) (.cons 3 (.int .i64 a.2.1) (.cons 4 (.int .i64 (a.1 : Int)) .nil)))) (fun a => a.2.2) (fun a => (a.1 ≤ es.length) ∧ (Spec.entR term index logterm es = Spec.entR term (index + (a.1 : Int)) a.2.1 (es.drop a.1)) ∧ (Ext H38 a.2.2)) (0, logterm, H38) ⟨(show 0 ≤ es.length from Nat.zero_le _), (show Spec.entR term index logterm es = Spec.entR term (index + (0 : Int)) logterm (es.drop 0) from (by simp)), (show Ext H38 H38 from (Ext.refl H38))⟩ ?_
              rintro ⟨i, tm, Hl108⟩ ⟨hi, hv, hxl109⟩ ih110
              replace hi : i ≤ es.length := hi
              replace hv : Spec.entR term index logterm es = Spec.entR term (index + (i : Int)) tm (es.drop i) := hv
              replace hxl109 : Ext H38 Hl108 := hxl109
              show aw _ _ _ (RL _ (.cons 1 (.pointer (some ⟨b1, 0, none⟩)) (.cons 3 (.int .i64 tm) (.cons 4 (.int .i64 (i : Int)) .nil)))) Hl108 _
              have Hl108n : H38.next ≤ Hl108.next := hxl109.1
              iterate 2 refine aw_seq ?_
              refine aw_reg ?_
              refine st_op (ev_move rfl) rfl rfl rfl ?_
              refine st_op (ev_fieldAddr rfl fa26_8 (o' := 8) rfl) rfl rfl rfl ?_
              have h111 := Ext.blk hxl109 (by omega) h42
              refine st_op (ev_load rfl (lvar_one one22 h111 rfl)) rfl rfl rfl ?_
              refine st_op (ev_lenSl rfl Try.underlying22) rfl rfl rfl ?_
              refine st_op (ev_int rfl rfl rfl) rfl rfl rfl ?_
              try show aw _ _ _ _ _ _
              by_cases hc112 : (decide ((i : Int) < (es.length : Int))) = true
              ·
               refine aw_condT hc112 rfl ?_
               try show aw _ _ _ _ _ _
               have hc112 := of_decide_eq_true hc112
               exfalso; omega
              ·
               rw [Bool.not_eq_true] at hc112; refine aw_condF hc112 rfl ?_
               try show aw _ _ _ _ _ _
               have hc112 := of_decide_eq_false hc112
               refine aw_exit ?_
               try show aw _ _ _ _ _ _
               iterate 2 refine aw_seq ?_
               refine aw_reg ?_
               refine st_op (ev_fieldAddr rfl fa26_0 (o' := 0) rfl) rfl rfl rfl ?_
               refine st_op (ev_load rfl (lvar_one one3 h111 rfl)) rfl rfl rfl ?_
               refine st_op (ev_int rfl rfl rfl) rfl rfl rfl ?_
               try show aw _ _ _ _ _ _
               by_cases hc113 : (kind != 5) = true
               ·
                refine aw_condT hc113 rfl ?_
                try show aw _ _ _ _ _ _
                have hc113 : ¬ (kind = 5) := by simpa using hc113
                refine aw_seq ?_
                refine aw_reg ?_
                refine st_op (ev_fieldAddr rfl fa26_9 (o' := 9) rfl) rfl rfl rfl ?_
                refine st_op (ev_load rfl (lvar_part (l := [.int .i64 s_index, .int .i64 s_term, .string s_conf, .string s_data]) many24 h111 rfl rfl (by decide))) rfl rfl rfl ?_
                refine st_op (ev_build zero24 pl24 (parts := []) rfl (cs := [.int .i64 0, .int .i64 0, .string (⟨#[]⟩), .string (⟨#[]⟩)]) rfl) rfl rfl rfl ?_
                refine st_call rfl rfl rfl ent30 rfl rfl rfl ?_
                obtain ⟨_, H115, hs114, hs114v, hx116⟩ := ref17_EqSnap_spec Hl108 s_index s_term s_conf s_data (0 : Int) (0 : Int) (⟨#[]⟩ : ByteArray) (⟨#[]⟩ : ByteArray)
                rw [hs114v] at hs114; clear hs114v
                refine ⟨_, H115, hs114, ?_⟩
                have H115n : Hl108.next ≤ H115.next := hx116.1
                refine st_op (ev_assign rfl) rfl rfl rfl ?_
                try show aw _ _ _ _ _ _
                refine aw_ret ?_
                have hx117 : Ext H H115 := (Ext.trans (Ext.trans (Ext.trans (Ext.trans (Ext.trans (Ext.trans (Ext.trans hx6 hx11) hx17) hx27) hx33) hx39) hxl109) hx116)
                have hres : (Spec.mayMsg kind from_ to_ term index logterm commit yes es s_index s_term s_conf s_data) = (Spec.eqSn s_index s_term s_conf s_data (0 : Int) (0 : Int) (⟨#[]⟩ : ByteArray) (⟨#[]⟩ : ByteArray)) := by rw [Spec.mayMsg_last (by omega) (by rw [hv, List.drop_eq_nil_of_le (by omega), Spec.entR, Bool.true_and]; exact decide_eq_true (by omega)) (fun h => by first | omega | exact Bool.noConfusion (h.symm.trans (show yes = false by assumption)))]; rw [if_neg (by omega)]; exact Spec.eqSn_zero
                exact ⟨.bool (Spec.eqSn s_index s_term s_conf s_data (0 : Int) (0 : Int) (⟨#[]⟩ : ByteArray) (⟨#[]⟩ : ByteArray)), rfl, by first | (rw [hres]; done) | rw [← hres], hx117⟩
               ·
                rw [Bool.not_eq_true] at hc113; refine aw_condF hc113 rfl ?_
                try show aw _ _ _ _ _ _
                have hc113 : (kind = 5) := by simpa using hc113
                exfalso; omega
            ·
             iterate 3 refine st_skip rfl rfl rfl ?_
             refine st_op (ev_pickF rfl rfl) rfl rfl rfl ?_
             refine st_op (ev_move rfl) rfl rfl rfl ?_
             iterate 3 refine st_skip rfl rfl rfl ?_
             iterate 2 refine st_op (ev_pickF rfl rfl) rfl rfl rfl ?_
             try show aw _ _ _ _ _ _
             refine aw_cond (t := false) rfl ?_
             try show aw _ _ _ _ _ _
             refine aw_skip ?_
             try show aw _ _ _ _ _ _
             refine aw_seq ?_
             refine aw_reg ?_
             refine st_op (ev_fieldAddr rfl fa26_5 (o' := 5) rfl) rfl rfl rfl ?_
             refine st_op (ev_load rfl (lvar_one one2 h42 rfl)) rfl rfl rfl ?_
             refine st_op (ev_assign rfl) rfl rfl rfl ?_
             try show aw _ _ _ _ _ _
             iterate 2 refine aw_seq ?_
             refine aw_reg ?_
             refine st_op (ev_assign rfl) rfl rfl rfl ?_
             try show aw _ _ _ _ _ _
             refine aw_block ?_
             refine aw_keep [1, 3, 4] (l' := (.cons 1 (.pointer (some ⟨b1, 0, none⟩)) (.cons 3 (.int .i64 logterm) (.cons 4 (.int .i64 0) .nil)))) (by repeat (first | exact Up.done | refine Up.then ?_ | refine Up.inBlock ?_)) rfl ?_
             refine aw_iter (α := Nat × Int × Heap) (fun a => es.length - a.1) (fun a => (.cons 1 (.pointer (some ⟨b1, 0, none⟩)) (.cons 3 (.int .i64 a.2.1) (.cons 4 (.int .i64 (a.1 : Int)) .nil)))) (fun a => a.2.2) (fun a => (a.1 ≤ es.length) ∧ (Spec.entR term index logterm es = Spec.entR term (index + (a.1 : Int)) a.2.1 (es.drop a.1)) ∧ (Ext H38 a.2.2)) (0, logterm, H38) ⟨(show 0 ≤ es.length from Nat.zero_le _), (show Spec.entR term index logterm es = Spec.entR term (index + (0 : Int)) logterm (es.drop 0) from (by simp)), (show Ext H38 H38 from (Ext.refl H38))⟩ ?_
             rintro ⟨i, tm, Hl118⟩ ⟨hi, hv, hxl119⟩ ih120
             replace hi : i ≤ es.length := hi
             replace hv : Spec.entR term index logterm es = Spec.entR term (index + (i : Int)) tm (es.drop i) := hv
             replace hxl119 : Ext H38 Hl118 := hxl119
             show aw _ _ _ (RL _ (.cons 1 (.pointer (some ⟨b1, 0, none⟩)) (.cons 3 (.int .i64 tm) (.cons 4 (.int .i64 (i : Int)) .nil)))) Hl118 _
             have Hl118n : H38.next ≤ Hl118.next := hxl119.1
             iterate 2 refine aw_seq ?_
             refine aw_reg ?_
             refine st_op (ev_move rfl) rfl rfl rfl ?_
             refine st_op (ev_fieldAddr rfl fa26_8 (o' := 8) rfl) rfl rfl rfl ?_
             have h121 := Ext.blk hxl119 (by omega) h42
             refine st_op (ev_load rfl (lvar_one one22 h121 rfl)) rfl rfl rfl ?_
             refine st_op (ev_lenSl rfl Try.underlying22) rfl rfl rfl ?_
             refine st_op (ev_int rfl rfl rfl) rfl rfl rfl ?_
             try show aw _ _ _ _ _ _
             by_cases hc122 : (decide ((i : Int) < (es.length : Int))) = true
             ·
              refine aw_condT hc122 rfl ?_
              try show aw _ _ _ _ _ _
              have hc122 := of_decide_eq_true hc122
              exfalso; omega
             ·
              rw [Bool.not_eq_true] at hc122; refine aw_condF hc122 rfl ?_
              try show aw _ _ _ _ _ _
              have hc122 := of_decide_eq_false hc122
              refine aw_exit ?_
              try show aw _ _ _ _ _ _
              iterate 2 refine aw_seq ?_
              refine aw_reg ?_
              refine st_op (ev_fieldAddr rfl fa26_0 (o' := 0) rfl) rfl rfl rfl ?_
              refine st_op (ev_load rfl (lvar_one one3 h121 rfl)) rfl rfl rfl ?_
              refine st_op (ev_int rfl rfl rfl) rfl rfl rfl ?_
              try show aw _ _ _ _ _ _
              by_cases hc123 : (kind != 5) = true
              ·
               refine aw_condT hc123 rfl ?_
               try show aw _ _ _ _ _ _
               have hc123 : ¬ (kind = 5) := by simpa using hc123
               refine aw_seq ?_
               refine aw_reg ?_
               refine st_op (ev_fieldAddr rfl fa26_9 (o' := 9) rfl) rfl rfl rfl ?_
               refine st_op (ev_load rfl (lvar_part (l := [.int .i64 s_index, .int .i64 s_term, .string s_conf, .string s_data]) many24 h121 rfl rfl (by decide))) rfl rfl rfl ?_
               refine st_op (ev_build zero24 pl24 (parts := []) rfl (cs := [.int .i64 0, .int .i64 0, .string (⟨#[]⟩), .string (⟨#[]⟩)]) rfl) rfl rfl rfl ?_
               refine st_call rfl rfl rfl ent30 rfl rfl rfl ?_
               obtain ⟨_, H125, hs124, hs124v, hx126⟩ := ref17_EqSnap_spec Hl118 s_index s_term s_conf s_data (0 : Int) (0 : Int) (⟨#[]⟩ : ByteArray) (⟨#[]⟩ : ByteArray)
               rw [hs124v] at hs124; clear hs124v
               refine ⟨_, H125, hs124, ?_⟩
               have H125n : Hl118.next ≤ H125.next := hx126.1
               refine st_op (ev_assign rfl) rfl rfl rfl ?_
               try show aw _ _ _ _ _ _
               refine aw_ret ?_
               have hx127 : Ext H H125 := (Ext.trans (Ext.trans (Ext.trans (Ext.trans (Ext.trans (Ext.trans (Ext.trans hx6 hx11) hx17) hx27) hx33) hx39) hxl119) hx126)
               have hres : (Spec.mayMsg kind from_ to_ term index logterm commit yes es s_index s_term s_conf s_data) = (Spec.eqSn s_index s_term s_conf s_data (0 : Int) (0 : Int) (⟨#[]⟩ : ByteArray) (⟨#[]⟩ : ByteArray)) := by rw [Spec.mayMsg_last (by omega) (by rw [hv, List.drop_eq_nil_of_le (by omega), Spec.entR, Bool.true_and]; exact decide_eq_true (by omega)) (fun h => by first | omega | exact Bool.noConfusion (h.symm.trans (show yes = false by assumption)))]; rw [if_neg (by omega)]; exact Spec.eqSn_zero
               exact ⟨.bool (Spec.eqSn s_index s_term s_conf s_data (0 : Int) (0 : Int) (⟨#[]⟩ : ByteArray) (⟨#[]⟩ : ByteArray)), rfl, by first | (rw [hres]; done) | rw [← hres], hx127⟩
              ·
               rw [Bool.not_eq_true] at hc123; refine aw_condF hc123 rfl ?_
               try show aw _ _ _ _ _ _
               have hc123 : (kind = 5) := by simpa using hc123
               refine aw_skip ?_
               try show aw _ _ _ _ _ _
               refine aw_seq ?_
               refine aw_reg ?_
               refine st_op (ev_fieldAddr rfl fa26_9 (o' := 9) rfl) rfl rfl rfl ?_
               refine st_op (ev_fieldAddr rfl fa24_2 (o' := 11) rfl) rfl rfl rfl ?_
               refine st_op (ev_load rfl (lvar_one one9 h121 rfl)) rfl rfl rfl ?_
               refine st_call rfl rfl rfl ent31 rfl rfl rfl ?_
               obtain ⟨_, H129, hs128, A131, c132, hs128v, hm133, hx130⟩ := ref21_DecodeConf_spec Hl118 s_conf (by omega)
               rw [hs128v] at hs128; clear hs128v
               refine ⟨_, H129, hs128, ?_⟩
               have H129n : Hl118.next ≤ H129.next := hx130.1
               refine st_op (ev_move rfl) rfl rfl rfl ?_
               iterate 2 refine st_op (ev_extract rfl rfl) rfl rfl rfl ?_
               iterate 2 refine st_op (ev_assign rfl) rfl rfl rfl ?_
               try show aw _ _ _ _ _ _
               refine aw_seq ?_
               refine aw_reg ?_
               iterate 2 refine st_op (ev_move rfl) rfl rfl rfl ?_
               refine st_bool 142 rfl (fun hb134 => ?_) (fun hb134 => ?_)
               ·
                refine st_op (ev_fieldAddr rfl fa26_9 (o' := 9) rfl) rfl rfl rfl ?_
                have h135 := Ext.blk hx130 (by omega) h121
                refine st_op (ev_load rfl (lvar_part (l := [.int .i64 s_index, .int .i64 s_term, .string s_conf, .string s_data]) many24 h135 rfl rfl (by decide))) rfl rfl rfl ?_
                refine st_call rfl rfl rfl ent32 rfl rfl rfl ?_
                obtain ⟨_, H137, hs136, hs136v, hx138⟩ := ref17_MaySnap_spec H129 s_index s_term s_conf s_data
                rw [hs136v] at hs136; clear hs136v
                refine ⟨_, H137, hs136, ?_⟩
                have H137n : H129.next ≤ H137.next := hx138.1
                refine st_op (ev_pickT rfl rfl) rfl rfl rfl ?_
                refine st_op (ev_assign rfl) rfl rfl rfl ?_
                try show aw _ _ _ _ _ _
                refine aw_ret ?_
                have hx139 : Ext H H137 := (Ext.trans (Ext.trans (Ext.trans (Ext.trans (Ext.trans (Ext.trans (Ext.trans (Ext.trans hx6 hx11) hx17) hx27) hx33) hx39) hxl119) hx130) hx138)
                have hres : (Spec.mayMsg kind from_ to_ term index logterm commit yes es s_index s_term s_conf s_data) = (Spec.mayS s_index s_term s_conf s_data) := by rw [Spec.mayMsg_last (by omega) (by rw [hv, List.drop_eq_nil_of_le (by omega), Spec.entR, Bool.true_and]; exact decide_eq_true (by omega)) (fun h => by first | omega | exact Bool.noConfusion (h.symm.trans (show yes = false by assumption)))]; rw [if_pos (by omega), show (Spec.decC s_conf).2 = true by assumption, Bool.true_and]
                exact ⟨.bool (Spec.mayS s_index s_term s_conf s_data), rfl, by first | (rw [hres]; done) | rw [← hres], hx139⟩
               ·
                iterate 3 refine st_skip rfl rfl rfl ?_
                refine st_op (ev_pickF rfl rfl) rfl rfl rfl ?_
                refine st_op (ev_assign rfl) rfl rfl rfl ?_
                try show aw _ _ _ _ _ _
                refine aw_ret ?_
                have hx140 : Ext H H129 := (Ext.trans (Ext.trans (Ext.trans (Ext.trans (Ext.trans (Ext.trans (Ext.trans hx6 hx11) hx17) hx27) hx33) hx39) hxl119) hx130)
                have hres : (Spec.mayMsg kind from_ to_ term index logterm commit yes es s_index s_term s_conf s_data) = false := by rw [Spec.mayMsg_last (by omega) (by rw [hv, List.drop_eq_nil_of_le (by omega), Spec.entR, Bool.true_and]; exact decide_eq_true (by omega)) (fun h => by first | omega | exact Bool.noConfusion (h.symm.trans (show yes = false by assumption)))]; rw [if_pos (by omega), show (Spec.decC s_conf).2 = false by assumption]; rfl
                exact ⟨.bool false, rfl, by first | (rw [hres]; done) | rw [← hres], hx140⟩
theorem law1_Cut_spec (H : Heap) (s : ByteArray) (n : Int) (hn : 0 ≤ n ∧ n ≤ 1099511627776) : ∃ v H', Spec Try.prog 39 [.string s, .int .i64 n] H v H' ∧ ((v = .string (cutB s n)) ∧ ((((cutB s n)).size : Int) ≤ n) ∧ (Ext H H')) := by
 refine spec_go2 E0_ok 13 (f := 39) Try.func39 rfl rfl rfl ?_
 refine aw_seq ?_
 refine aw_reg ?_
 refine st_op (ev_assign rfl) rfl rfl rfl ?_
 try show aw _ _ _ _ _ _
 iterate 2 refine aw_seq ?_
 refine aw_reg ?_
 refine st_op (ev_move rfl) rfl rfl rfl ?_
 refine st_op (ev_lenStr rfl Try.underlying9) rfl rfl rfl ?_
 refine st_op (ev_move rfl) rfl rfl rfl ?_
 refine st_op (ev_int rfl rfl rfl) rfl rfl rfl ?_
 try show aw _ _ _ _ _ _
 by_cases hc1 : (decide (((s).size : Int) > n)) = true
 ·
  refine aw_condT hc1 rfl ?_
  try show aw _ _ _ _ _ _
  have hc1 := of_decide_eq_true hc1
  refine aw_seq ?_
  refine aw_reg ?_
  iterate 2 refine st_op (ev_move rfl) rfl rfl rfl ?_
  refine st_op (ev_slStr Try.underlying9 rfl rfl rfl (bound_int (by omega) (by omega) rfl) rfl) rfl rfl rfl ?_
  refine st_op (ev_assign rfl) rfl rfl rfl ?_
  try show aw _ _ _ _ _ _
  refine aw_ret ?_
  have hres : (cutB s n) = ((s).extract 0 ((n).toNat)) := by first | rw [cutB, if_pos (by omega)] | rw [cutB, if_neg (by omega)]
  exact ⟨.string ((s).extract 0 ((n).toNat)), rfl, by first | (rw [hres]; done) | rw [← hres], (by exact cutB_size hn.1), (Ext.refl H)⟩
 ·
  rw [Bool.not_eq_true] at hc1; refine aw_condF hc1 rfl ?_
  try show aw _ _ _ _ _ _
  have hc1 := of_decide_eq_false hc1
  refine aw_skip ?_
  try show aw _ _ _ _ _ _
  refine aw_seq ?_
  refine aw_reg ?_
  refine st_op (ev_move rfl) rfl rfl rfl ?_
  refine st_op (ev_assign rfl) rfl rfl rfl ?_
  try show aw _ _ _ _ _ _
  refine aw_ret ?_
  have hres : (cutB s n) = s := by first | rw [cutB, if_pos (by omega)] | rw [cutB, if_neg (by omega)]
  exact ⟨.string s, rfl, by first | (rw [hres]; done) | rw [← hres], (by exact cutB_size hn.1), (Ext.refl H)⟩
theorem law21_Entries_spec (H : Heap) (esA : Option Addr) (es : List Entry) (esc : Nat) (hes : Row H esA esc 4 (es.map Entry.cells)) (ces : es.length ≤ esc) (les : es.length ≤ 140737488355328) (n : Int) (hn : 0 ≤ n ∧ n ≤ 1000) : ∃ v H', Spec Try.prog 21 [.slice esA es.length esc, .int .i64 n] H v H' ∧ (∃ rA0 rc0, (v = .slice rA0 (((es.take n.toNat).map Entry.cut).length) rc0) ∧ (My H H' rA0 rc0 4 (((es.take n.toNat).map Entry.cut).map Entry.cells)) ∧ ((((((es.take n.toNat).map Entry.cut)).length : Nat) : Int) ≤ n) ∧ (Ext H H')) := by
 refine spec_go2 E0_ok 32 (f := 21) Try.func21 rfl rfl rfl ?_
 refine aw_seq ?_
 refine aw_reg ?_
 refine st_op (ev_assign rfl) rfl rfl rfl ?_
 try show aw _ _ _ _ _ _
 refine aw_seq ?_
 refine aw_reg ?_
 refine st_op (ev_assign rfl) rfl rfl rfl ?_
 try show aw _ _ _ _ _ _
 iterate 2 refine aw_seq ?_
 refine aw_reg ?_
 refine st_op (ev_assign rfl) rfl rfl rfl ?_
 try show aw _ _ _ _ _ _
 refine aw_block ?_
 have hm2 : My H H none 0 4 (([] : List Entry).map Entry.cells) := .nil
 refine aw_keep [0, 1, 5, 6] (l' := (.cons 0 (.slice esA es.length esc) (.cons 1 (.int .i64 n) (.cons 5 (.slice none 0 0) (.cons 6 (.int .i64 0) .nil))))) (by repeat (first | exact Up.done | refine Up.then ?_ | refine Up.inBlock ?_)) rfl ?_
 refine aw_iter (α := Nat × Option Addr × Nat × List Entry × Heap) (fun a => es.length - a.1) (fun a => (.cons 0 (.slice esA es.length esc) (.cons 1 (.int .i64 n) (.cons 5 (.slice a.2.1 a.2.2.2.1.length a.2.2.1) (.cons 6 (.int .i64 (a.1 : Int)) .nil))))) (fun a => a.2.2.2.2) (fun a => (a.1 ≤ es.length) ∧ ((a.1 : Int) ≤ n) ∧ (a.2.2.2.1 = (es.take a.1).map Entry.cut) ∧ (My H a.2.2.2.2 a.2.1 a.2.2.1 4 (a.2.2.2.1.map Entry.cells)) ∧ (Ext H a.2.2.2.2)) (0, none, 0, ([] : List Entry), H) ⟨(show 0 ≤ es.length from Nat.zero_le _), (show (0 : Int) ≤ n from (by omega)), (show ([] : List Entry) = (es.take 0).map Entry.cut from rfl), (show My H H none 0 4 (([] : List Entry).map Entry.cells) from hm2), (show Ext H H from (Ext.refl H))⟩ ?_
 rintro ⟨i, A, cp, l, Hl1⟩ ⟨hi, hin, hl, hm3, hxl4⟩ ih5
 replace hi : i ≤ es.length := hi
 replace hin : (i : Int) ≤ n := hin
 replace hl : l = (es.take i).map Entry.cut := hl
 replace hm3 : My H Hl1 A cp 4 (l.map Entry.cells) := hm3
 replace hxl4 : Ext H Hl1 := hxl4
 show aw _ _ _ (RL _ (.cons 0 (.slice esA es.length esc) (.cons 1 (.int .i64 n) (.cons 5 (.slice A l.length cp) (.cons 6 (.int .i64 (i : Int)) .nil))))) Hl1 _
 have Hl1n : H.next ≤ Hl1.next := hxl4.1
 have hll : l.length = i := by rw [hl, List.length_map, List.length_take]; omega
 iterate 2 refine aw_seq ?_
 refine aw_reg ?_
 iterate 2 refine st_op (ev_move rfl) rfl rfl rfl ?_
 refine st_op (ev_lenSl rfl Try.underlying22) rfl rfl rfl ?_
 refine st_op (ev_int rfl rfl rfl) rfl rfl rfl ?_
 refine st_op (ev_move rfl) rfl rfl rfl ?_
 refine st_bool 12 rfl (fun hb6 => ?_) (fun hb6 => ?_)
 ·
  have hb6 := of_decide_eq_true hb6
  iterate 2 refine st_op (ev_move rfl) rfl rfl rfl ?_
  refine st_op (ev_int rfl rfl rfl) rfl rfl rfl ?_
  refine st_op (ev_pickT rfl rfl) rfl rfl rfl ?_
  try show aw _ _ _ _ _ _
  by_cases hc7 : (decide ((i : Int) < n)) = true
  ·
   refine aw_condT hc7 rfl ?_
   try show aw _ _ _ _ _ _
   have hc7 := of_decide_eq_true hc7
   refine aw_skip ?_
   try show aw _ _ _ _ _ _
   refine aw_seq ?_
   refine aw_block ?_
   refine aw_seq ?_
   refine aw_reg ?_
   iterate 2 refine st_op (ev_move rfl) rfl rfl rfl ?_
   have h8 := Row.ext hes hxl4
   have hi9 : 0 ≤ ((i : Int) : Int) := by omega
   have hi10 : ((i : Int) : Int) < ((es.length : Nat) : Int) := by omega
   obtain ⟨x11, hx12⟩ : ∃ e, es[i]? = some e := ⟨_, List.getElem?_eq_getElem (by omega)⟩
   refine st_op (ev_at rfl rfl h8 (getMap Entry.cells hx12) (by first | rfl | omega | simp) hi9 hi10 el22) rfl rfl rfl ?_
   refine st_op (ev_atN (cs := [.int .i64 x11.index, .int .i64 x11.term, .int .i64 x11.kind, .string x11.data]) rfl h8 (getMap Entry.cells hx12) many45 rfl rfl (by decide)) rfl rfl rfl ?_
   obtain ⟨b13, H14, he15, b13e, H14n_, hB17, f16⟩ := mem_alloc Hl1 zero45
   refine st_op (he15 _ _ _ _ _ _ _) rfl rfl rfl ?_
   have hx18 : Ext Hl1 H14 := Ext.new (by omega) H14n_ f16
   have H14n : Hl1.next ≤ H14.next := hx18.1
   obtain ⟨H19, he20, H19n_, hB21, f22⟩ := mem_store (v := .agg #[.int .i64 x11.index, .int .i64 x11.term, .int .i64 x11.kind, .string x11.data]) (o := 0) (cs' := [.int .i64 x11.index, .int .i64 x11.term, .int .i64 x11.kind, .string x11.data]) 4 rfl rfl size45 hB17 rfl rfl rfl
   refine st_op0 (he20 _ _ _ _ _ _ _ _ _ rfl rfl) rfl rfl ?_
   have hf23 : Fr (fun q => q = b13) H14 H19 := Fr.write H19n_ f22
   have H19n : H14.next ≤ H19.next := hf23.1
   try show aw _ _ _ _ _ _
   refine aw_seq ?_
   refine aw_reg ?_
   refine st_op (ev_fieldAddr rfl fa45_3 (o' := 3) rfl) rfl rfl rfl ?_
   refine st_op (ev_load rfl (lvar_one one9 hB21 rfl)) rfl rfl rfl ?_
   refine st_call rfl rfl rfl ent39 rfl rfl rfl ?_
   obtain ⟨_, H25, hs24, hs24v, hq27, hx26⟩ := law1_Cut_spec H19 x11.data 60 (by decide)
   rw [hs24v] at hs24; clear hs24v
   refine ⟨_, H25, hs24, ?_⟩
   have H25n : H19.next ≤ H25.next := hx26.1
   refine st_op (ev_fieldAddr rfl fa45_3 (o' := 3) rfl) rfl rfl rfl ?_
   have h28 := Ext.blk hx26 (by omega) hB21
   obtain ⟨H29, he30, H29n_, hB31, f32⟩ := mem_store (v := .string (cutB x11.data (60 : Int))) (o := 3) (cs' := [.int .i64 x11.index, .int .i64 x11.term, .int .i64 x11.kind, .string (cutB x11.data (60 : Int))]) 1 rfl rfl size9 h28 rfl rfl rfl
   refine st_op0 (he30 _ _ _ _ _ _ _ _ _ rfl rfl) rfl rfl ?_
   have hf33 : Fr (fun q => q = b13) H25 H29 := Fr.write H29n_ f32
   have H29n : H25.next ≤ H29.next := hf33.1
   try show aw _ _ _ _ _ _
   refine aw_reg ?_
   refine st_op (ev_move rfl) rfl rfl rfl ?_
   refine st_op (ev_load rfl (lvar_part (l := [.int .i64 x11.index, .int .i64 x11.term, .int .i64 x11.kind, .string (cutB x11.data (60 : Int))]) many45 hB31 rfl rfl (by decide))) rfl rfl rfl ?_
   obtain ⟨b34, H35, he36, b34e, H35n_, hm38, f37⟩ := mem_lit H29 (xs := ([.agg #[.int .i64 x11.index, .int .i64 x11.term, .int .i64 x11.kind, .string (cutB x11.data (60 : Int))]] : List Value)) (m := 1) (rows := [[.int .i64 x11.index, .int .i64 x11.term, .int .i64 x11.kind, .string (cutB x11.data (60 : Int))]]) rfl eok22 (by decide) (by decide) zf45 rfl (allLen rfl) rfl
   replace hm38 : My H29 H35 (some ⟨b34, 0, none⟩) 1 4 ([(⟨x11.index, x11.term, x11.kind, (cutB x11.data (60 : Int))⟩ : Entry)].map Entry.cells) := hm38
   refine st_op (he36 _ _ _ _ _ _ _ _ rfl) rfl rfl rfl ?_
   have hx39 : Ext H29 H35 := Ext.new (by omega) H35n_ f37
   have H35n : H29.next ≤ H35.next := hx39.1
   have hx41 : Ext Hl1 H35 := (Ext.trans (Ext.then (Ext.trans (Ext.then hx18 hf23 (fun q hq e => by omega)) hx26) hf33 (fun q hq e => by omega)) hx39)
   have h40 := My.ext hm3 hx41
   obtain ⟨A42, c43, H44, W45, he46, hm47, hf48⟩ := mem_append (f := Entry.cells) (old := l) (new := [(⟨x11.index, x11.term, x11.kind, (cutB x11.data (60 : Int))⟩ : Entry)]) (m := l.length) (mx := 1) (c := cp) (by first | rfl | simp) (by first | rfl | simp) eok22 (by decide) hm3 h40 (by omega) (((My.row hm38)).srcF (by decide) (by first | rfl | simp)) rfl Entry.cells_len Entry.cells_one (by first | omega | (simp only [List.length_append, List.length_cons, List.length_nil, List.length_map, List.length_set, List.length_replicate, Spec.bytesOf_length]; omega) | (simp; omega)) (by first | omega | (simp only [List.length_append, List.length_cons, List.length_nil, List.length_map, List.length_set, List.length_replicate, Spec.bytesOf_length]; omega) | (simp; omega))
   refine st_op (he46 _ _ _ _ _ _ _ _ _ _ rfl rfl isrow22) rfl rfl rfl ?_
   have H44n : H35.next ≤ H44.next := hf48.1
   refine st_op (ev_assign rfl) rfl rfl rfl ?_
   try show aw _ _ _ _ _ _
   refine aw_reg ?_
   refine st_op (ev_move rfl) rfl rfl rfl ?_
   refine st_op (ev_int64 (c := (i : Int) + 1) rfl rfl rfl (by omega) (by omega)) rfl rfl rfl ?_
   refine st_op (ev_assign rfl) rfl rfl rfl ?_
   try show aw _ _ _ _ _ _
   have hx49 : Ext H H44 := (Ext.then (Ext.trans (Ext.then (Ext.trans (Ext.then (Ext.trans hxl4 hx18) hf23 (fun q hq e => by omega)) hx26) hf33 (fun q hq e => by omega)) hx39) hf48 (fun q hq e => by omega))
   refine aw_keep [0, 1, 5, 6] (l' := (.cons 0 (.slice esA es.length esc) (.cons 1 (.int .i64 n) (.cons 5 (.slice A42 ((l ++ [(⟨x11.index, x11.term, x11.kind, (cutB x11.data (60 : Int))⟩ : Entry)]).length) c43) (.cons 6 (.int .i64 ((i : Int) + 1)) .nil))))) (by repeat (first | exact Up.done | refine Up.then ?_ | refine Up.inBlock ?_)) rfl ?_
   exact ih5 (i + 1, A42, c43, (l ++ [(⟨x11.index, x11.term, x11.kind, (cutB x11.data (60 : Int))⟩ : Entry)]), H44) ⟨(show (i + 1) ≤ es.length from (by omega)), (show ((i + 1) : Int) ≤ n from (by omega)), (show (l ++ [(⟨x11.index, x11.term, x11.kind, (cutB x11.data (60 : Int))⟩ : Entry)]) = (es.take (i + 1)).map Entry.cut from (by rw [List.take_add_one, List.map_append, ← hl, hx12]; rfl)), (show My H H44 A42 c43 4 ((l ++ [(⟨x11.index, x11.term, x11.kind, (cutB x11.data (60 : Int))⟩ : Entry)]).map Entry.cells) from hm47), (show Ext H H44 from hx49)⟩ (by simp only; omega)
  ·
   rw [Bool.not_eq_true] at hc7; refine aw_condF hc7 rfl ?_
   try show aw _ _ _ _ _ _
   have hc7 := of_decide_eq_false hc7
   refine aw_exit ?_
   try show aw _ _ _ _ _ _
   refine aw_seq ?_
   refine aw_reg ?_
   refine st_op (ev_move rfl) rfl rfl rfl ?_
   refine st_op (ev_assign rfl) rfl rfl rfl ?_
   try show aw _ _ _ _ _ _
   refine aw_ret ?_
   have hres : ((es.take n.toNat).map Entry.cut) = l := by rw [hl]; congr 1; rw [List.take_eq_take_iff]; omega
   exact ⟨.slice A l.length cp, rfl, A, cp, by first | (rw [hres]; first | done | rfl | simp; done) | rfl, (by rw [hres]; exact hm3), (by rw [List.length_map, List.length_take]; omega), hxl4⟩
 ·
  have hb6 := of_decide_eq_false hb6
  iterate 3 refine st_skip rfl rfl rfl ?_
  refine st_op (ev_pickF rfl rfl) rfl rfl rfl ?_
  try show aw _ _ _ _ _ _
  refine aw_cond (t := false) rfl ?_
  try show aw _ _ _ _ _ _
  refine aw_exit ?_
  try show aw _ _ _ _ _ _
  refine aw_seq ?_
  refine aw_reg ?_
  refine st_op (ev_move rfl) rfl rfl rfl ?_
  refine st_op (ev_assign rfl) rfl rfl rfl ?_
  try show aw _ _ _ _ _ _
  refine aw_ret ?_
  have hres : ((es.take n.toNat).map Entry.cut) = l := by rw [hl]; congr 1; rw [List.take_eq_take_iff]; omega
  exact ⟨.slice A l.length cp, rfl, A, cp, by first | (rw [hres]; first | done | rfl | simp; done) | rfl, (by rw [hres]; exact hm3), (by rw [List.length_map, List.length_take]; omega), hxl4⟩
theorem law21_Snap_spec (H : Heap) (s_index : Int) (s_term : Int) (s_conf : ByteArray) (s_data : ByteArray) : ∃ v H', Spec Try.prog 22 [.agg #[.int .i64 s_index, .int .i64 s_term, .string s_conf, .string s_data]] H v H' ∧ ((v = .agg #[.int .i64 s_index, .int .i64 s_term, .string ((cutB s_conf 60, cutB s_data 100).1), .string ((cutB s_conf 60, cutB s_data 100).2)]) ∧ (((((cutB s_conf 60, cutB s_data 100)).1.size : Nat) : Int) ≤ 60) ∧ (((((cutB s_conf 60, cutB s_data 100)).2.size : Nat) : Int) ≤ 100) ∧ (Ext H H')) := by
 refine spec_go1 E0_ok 12 (f := 22) Try.func22 rfl rfl rfl ?_
 refine aw_seq ?_
 refine aw_reg ?_
 obtain ⟨b1, H2, he3, b1e, H2n_, hB5, f4⟩ := mem_box (P := Try.prog) H (v := .agg #[.int .i64 s_index, .int .i64 s_term, .string s_conf, .string s_data]) (cs := [.int .i64 s_index, .int .i64 s_term, .string s_conf, .string s_data]) rfl rfl
 refine st_op (he3 _ _ _ _ _ _ _ _ _ rfl) rfl rfl rfl ?_
 have hx6 : Ext H H2 := Ext.new (by omega) H2n_ f4
 have H2n : H.next ≤ H2.next := hx6.1
 obtain ⟨b7, H8, he9, b7e, H8n_, hB11, f10⟩ := mem_alloc H2 zero24
 refine st_op (he9 _ _ _ _ _ _ _) rfl rfl rfl ?_
 have hx12 : Ext H2 H8 := Ext.new (by omega) H8n_ f10
 have H8n : H2.next ≤ H8.next := hx12.1
 try show aw _ _ _ _ _ _
 refine aw_seq ?_
 refine aw_marks (fun b => b < H8.next) [(false, false), (false, false), (false, true), (false, false), (true, false), (false, false), (false, false), (false, false), (false, false), (false, false)] mixed (by kernel_rfl) (by kernel_rfl) ?_
 refine sm_op (ev_fieldAddr rfl fa24_2 (o' := 2) rfl) rfl rfl rfl ?_
 have h13 := Ext.blk hx12 (by omega) hB5
 refine sm_op (ev_load rfl (lvar_one one9 h13 rfl)) rfl rfl rfl ?_
 refine sm_call rfl rfl rfl ent39 rfl rfl rfl ?_
 obtain ⟨_, H15, hs14, hs14v, hq17, hx16⟩ := law1_Cut_spec H8 s_conf 60 (by decide)
 rw [hs14v] at hs14; clear hs14v
 refine ⟨_, H15, hs14, (fun _ b hb => hx16.2 b (by omega)), ?_⟩
 have H15n : H8.next ≤ H15.next := hx16.1
 refine sm_op (ev_fieldAddr rfl fa24_3 (o' := 3) rfl) rfl rfl rfl ?_
 have h18 := Ext.blk hx16 (by omega) h13
 refine sm_read (ev_load rfl (lvar_one one9 h18 rfl)) rfl rfl rfl (fun b hb => by cases hb; dsimp only <;> omega) ?_
 refine sm_call rfl rfl rfl ent39 rfl rfl rfl ?_
 obtain ⟨_, H20, hs19, hs19v, hq22, hx21⟩ := law1_Cut_spec H15 s_data 100 (by decide)
 rw [hs19v] at hs19; clear hs19v
 refine ⟨_, H20, hs19, (fun _ b hb => hx21.2 b (by omega)), ?_⟩
 have H20n : H15.next ≤ H20.next := hx21.1
 refine sm_op (ev_fieldAddr rfl fa24_2 (o' := 2) rfl) rfl rfl rfl ?_
 have h23 := Ext.blk hx21 (by omega) h18
 obtain ⟨H24, he25, H24n_, hB26, f27⟩ := mem_store (v := .string (cutB s_conf (60 : Int))) (o := 2) (cs' := [.int .i64 s_index, .int .i64 s_term, .string (cutB s_conf (60 : Int)), .string s_data]) 1 rfl rfl size9 h23 rfl rfl rfl
 refine sm_op0 (he25 _ _ _ _ _ _ _ _ _ rfl rfl) rfl rfl ?_
 have hf28 : Fr (fun q => q = b1) H20 H24 := Fr.write H24n_ f27
 have H24n : H20.next ≤ H24.next := hf28.1
 refine sm_op (ev_fieldAddr rfl fa24_3 (o' := 3) rfl) rfl rfl rfl ?_
 obtain ⟨H29, he30, H29n_, hB31, f32⟩ := mem_store (v := .string (cutB s_data (100 : Int))) (o := 3) (cs' := [.int .i64 s_index, .int .i64 s_term, .string (cutB s_conf (60 : Int)), .string (cutB s_data (100 : Int))]) 1 rfl rfl size9 hB26 rfl rfl rfl
 refine sm_op0 (he30 _ _ _ _ _ _ _ _ _ rfl rfl) rfl rfl ?_
 have hf33 : Fr (fun q => q = b1) H24 H29 := Fr.write H29n_ f32
 have H29n : H24.next ≤ H29.next := hf33.1
 try show aw _ _ _ _ _ _
 refine aw_seq ?_
 refine aw_reg ?_
 refine st_op (ev_load rfl (lvar_part (l := [.int .i64 s_index, .int .i64 s_term, .string (cutB s_conf (60 : Int)), .string (cutB s_data (100 : Int))]) many24 hB31 rfl rfl (by decide))) rfl rfl rfl ?_
 have hx35 : Ext H8 H20 := (Ext.trans hx16 hx21)
 have h34 := Ext.blk hx35 (by omega) hB11
 have h36 := Fr.blk hf28 (by omega) (fun e => (by omega)) h34
 have h37 := Fr.blk hf33 (by omega) (fun e => (by omega)) h36
 obtain ⟨H38, he39, H38n_, hB40, f41⟩ := mem_store (v := .agg #[.int .i64 s_index, .int .i64 s_term, .string (cutB s_conf (60 : Int)), .string (cutB s_data (100 : Int))]) (o := 0) (cs' := [.int .i64 s_index, .int .i64 s_term, .string (cutB s_conf (60 : Int)), .string (cutB s_data (100 : Int))]) 4 rfl rfl size24 h37 rfl rfl rfl
 refine st_op0 (he39 _ _ _ _ _ _ _ _ _ rfl rfl) rfl rfl ?_
 have hf42 : Fr (fun q => q = b7) H29 H38 := Fr.write H38n_ f41
 have H38n : H29.next ≤ H38.next := hf42.1
 try show aw _ _ _ _ _ _
 refine aw_ret ?_
 have hx43 : Ext H H38 := (Ext.then (Ext.then (Ext.then (Ext.trans (Ext.trans (Ext.trans hx6 hx12) hx16) hx21) hf28 (fun q hq e => by omega)) hf33 (fun q hq e => by omega)) hf42 (fun q hq e => by omega))
 have hres : (cutB s_conf 60, cutB s_data 100) = ((cutB s_conf (60 : Int)), (cutB s_data (100 : Int))) := by rfl
 exact ⟨.agg #[.int .i64 s_index, .int .i64 s_term, .string (cutB s_conf (60 : Int)), .string (cutB s_data (100 : Int))], (resA_of (resL_cell rfl (lvar_part (l := [.int .i64 s_index, .int .i64 s_term, .string (cutB s_conf (60 : Int)), .string (cutB s_data (100 : Int))]) many24 hB40 rfl rfl (by decide)) resL_nil) rfl), by first | (rw [hres]; done) | rw [← hres], (by exact cutB_size (by decide)), (by exact cutB_size (by decide)), hx43⟩
theorem law24_Cut_spec (H : Heap) (kind : Int) (from_ : Int) (to_ : Int) (term : Int) (index : Int) (logterm : Int) (commit : Int) (yes : Bool) (esA : Option Addr) (es : List Entry) (esc : Nat) (hes : Row H esA esc 4 (es.map Entry.cells)) (ces : es.length ≤ esc) (les : es.length ≤ 140737488355328) (s_index : Int) (s_term : Int) (s_conf : ByteArray) (s_data : ByteArray) : ∃ v H', Spec Try.prog 10 [.agg #[.int .i64 kind, .int .i64 from_, .int .i64 to_, .int .i64 term, .int .i64 index, .int .i64 logterm, .int .i64 commit, .bool yes, .slice esA es.length esc, .int .i64 s_index, .int .i64 s_term, .string s_conf, .string s_data]] H v H' ∧ (∃ rA8 rc8, (v = .agg #[.int .i64 kind, .int .i64 from_, .int .i64 to_, .int .i64 term, .int .i64 index, .int .i64 logterm, .int .i64 commit, .bool yes, .slice rA8 (((((es.take 10).map Entry.cut), cutB s_conf 60, cutB s_data 100).1).length) rc8, .int .i64 s_index, .int .i64 s_term, .string ((((es.take 10).map Entry.cut), cutB s_conf 60, cutB s_data 100).2.1), .string ((((es.take 10).map Entry.cut), cutB s_conf 60, cutB s_data 100).2.2)]) ∧ (My H H' rA8 rc8 4 (((((es.take 10).map Entry.cut), cutB s_conf 60, cutB s_data 100).1).map Entry.cells)) ∧ (((((((es.take 10).map Entry.cut), cutB s_conf 60, cutB s_data 100)).1.length : Nat) : Int) ≤ 10) ∧ (((((((es.take 10).map Entry.cut), cutB s_conf 60, cutB s_data 100)).2.1.size : Nat) : Int) ≤ 60) ∧ (((((((es.take 10).map Entry.cut), cutB s_conf 60, cutB s_data 100)).2.2.size : Nat) : Int) ≤ 100) ∧ (Ext H H')) := by
 refine spec_go1 E0_ok 12 (f := 10) Try.func10 rfl rfl rfl ?_
 refine aw_seq ?_
 refine aw_reg ?_
 obtain ⟨b1, H2, he3, b1e, H2n_, hB5, f4⟩ := mem_box (P := Try.prog) H (v := .agg #[.int .i64 kind, .int .i64 from_, .int .i64 to_, .int .i64 term, .int .i64 index, .int .i64 logterm, .int .i64 commit, .bool yes, .slice esA es.length esc, .int .i64 s_index, .int .i64 s_term, .string s_conf, .string s_data]) (cs := [.int .i64 kind, .int .i64 from_, .int .i64 to_, .int .i64 term, .int .i64 index, .int .i64 logterm, .int .i64 commit, .bool yes, .slice esA es.length esc, .int .i64 s_index, .int .i64 s_term, .string s_conf, .string s_data]) rfl rfl
 refine st_op (he3 _ _ _ _ _ _ _ _ _ rfl) rfl rfl rfl ?_
 have hx6 : Ext H H2 := Ext.new (by omega) H2n_ f4
 have H2n : H.next ≤ H2.next := hx6.1
 obtain ⟨b7, H8, he9, b7e, H8n_, hB11, f10⟩ := mem_alloc H2 zero26
 refine st_op (he9 _ _ _ _ _ _ _) rfl rfl rfl ?_
 have hx12 : Ext H2 H8 := Ext.new (by omega) H8n_ f10
 have H8n : H2.next ≤ H8.next := hx12.1
 try show aw _ _ _ _ _ _
 refine aw_seq ?_
 refine aw_reg ?_
 refine st_op (ev_fieldAddr rfl fa26_8 (o' := 8) rfl) rfl rfl rfl ?_
 have h13 := Ext.blk hx12 (by omega) hB5
 refine st_op (ev_load rfl (lvar_one one22 h13 rfl)) rfl rfl rfl ?_
 refine st_call rfl rfl rfl ent21 rfl rfl rfl ?_
 have hx15 : Ext H H8 := (Ext.trans hx6 hx12)
 have h14 := Row.ext hes hx15
 obtain ⟨_, H17, hs16, A19, c20, hs16v, hm21, hq22, hx18⟩ := law21_Entries_spec H8 esA es esc h14 ces (by omega) 10 (by decide)
 rw [hs16v] at hs16; clear hs16v
 refine ⟨_, H17, hs16, ?_⟩
 have H17n : H8.next ≤ H17.next := hx18.1
 refine st_op (ev_fieldAddr rfl fa26_8 (o' := 8) rfl) rfl rfl rfl ?_
 have h23 := Ext.blk hx18 (by omega) h13
 obtain ⟨H24, he25, H24n_, hB26, f27⟩ := mem_store (v := .slice A19 (((es.take (10 : Int).toNat).map Entry.cut).length) c20) (o := 8) (cs' := [.int .i64 kind, .int .i64 from_, .int .i64 to_, .int .i64 term, .int .i64 index, .int .i64 logterm, .int .i64 commit, .bool yes, .slice A19 (((es.take (10 : Int).toNat).map Entry.cut).length) c20, .int .i64 s_index, .int .i64 s_term, .string s_conf, .string s_data]) 1 rfl rfl size22 h23 rfl rfl rfl
 refine st_op0 (he25 _ _ _ _ _ _ _ _ _ rfl rfl) rfl rfl ?_
 have hf28 : Fr (fun q => q = b1) H17 H24 := Fr.write H24n_ f27
 have H24n : H17.next ≤ H24.next := hf28.1
 try show aw _ _ _ _ _ _
 refine aw_seq ?_
 refine aw_reg ?_
 refine st_op (ev_fieldAddr rfl fa26_9 (o' := 9) rfl) rfl rfl rfl ?_
 refine st_op (ev_load rfl (lvar_part (l := [.int .i64 s_index, .int .i64 s_term, .string s_conf, .string s_data]) many24 hB26 rfl rfl (by decide))) rfl rfl rfl ?_
 refine st_call rfl rfl rfl ent22 rfl rfl rfl ?_
 obtain ⟨_, H30, hs29, hs29v, hq32, hq33, hx31⟩ := law21_Snap_spec H24 s_index s_term s_conf s_data
 rw [hs29v] at hs29; clear hs29v
 refine ⟨_, H30, hs29, ?_⟩
 have H30n : H24.next ≤ H30.next := hx31.1
 refine st_op (ev_fieldAddr rfl fa26_9 (o' := 9) rfl) rfl rfl rfl ?_
 have h34 := Ext.blk hx31 (by omega) hB26
 obtain ⟨H35, he36, H35n_, hB37, f38⟩ := mem_store (v := .agg #[.int .i64 s_index, .int .i64 s_term, .string ((cutB s_conf 60, cutB s_data 100).1), .string ((cutB s_conf 60, cutB s_data 100).2)]) (o := 9) (cs' := [.int .i64 kind, .int .i64 from_, .int .i64 to_, .int .i64 term, .int .i64 index, .int .i64 logterm, .int .i64 commit, .bool yes, .slice A19 (((es.take (10 : Int).toNat).map Entry.cut).length) c20, .int .i64 s_index, .int .i64 s_term, .string ((cutB s_conf 60, cutB s_data 100).1), .string ((cutB s_conf 60, cutB s_data 100).2)]) 4 rfl rfl size24 h34 rfl rfl rfl
 refine st_op0 (he36 _ _ _ _ _ _ _ _ _ rfl rfl) rfl rfl ?_
 have hf39 : Fr (fun q => q = b1) H30 H35 := Fr.write H35n_ f38
 have H35n : H30.next ≤ H35.next := hf39.1
 try show aw _ _ _ _ _ _
 refine aw_seq ?_
 refine aw_reg ?_
 refine st_op (ev_load rfl (lvar_part (l := [.int .i64 kind, .int .i64 from_, .int .i64 to_, .int .i64 term, .int .i64 index, .int .i64 logterm, .int .i64 commit, .bool yes, .slice A19 (((es.take (10 : Int).toNat).map Entry.cut).length) c20, .int .i64 s_index, .int .i64 s_term, .string ((cutB s_conf 60, cutB s_data 100).1), .string ((cutB s_conf 60, cutB s_data 100).2)]) many26 hB37 rfl rfl (by decide))) rfl rfl rfl ?_
 have h40 := Ext.blk hx18 (by omega) hB11
 have h41 := Fr.blk hf28 (by omega) (fun e => (by omega)) h40
 have h42 := Ext.blk hx31 (by omega) h41
 have h43 := Fr.blk hf39 (by omega) (fun e => (by omega)) h42
 obtain ⟨H44, he45, H44n_, hB46, f47⟩ := mem_store (v := .agg #[.int .i64 kind, .int .i64 from_, .int .i64 to_, .int .i64 term, .int .i64 index, .int .i64 logterm, .int .i64 commit, .bool yes, .slice A19 (((es.take (10 : Int).toNat).map Entry.cut).length) c20, .int .i64 s_index, .int .i64 s_term, .string ((cutB s_conf 60, cutB s_data 100).1), .string ((cutB s_conf 60, cutB s_data 100).2)]) (o := 0) (cs' := [.int .i64 kind, .int .i64 from_, .int .i64 to_, .int .i64 term, .int .i64 index, .int .i64 logterm, .int .i64 commit, .bool yes, .slice A19 (((es.take (10 : Int).toNat).map Entry.cut).length) c20, .int .i64 s_index, .int .i64 s_term, .string ((cutB s_conf 60, cutB s_data 100).1), .string ((cutB s_conf 60, cutB s_data 100).2)]) 13 rfl rfl size26 h43 rfl rfl rfl
 refine st_op0 (he45 _ _ _ _ _ _ _ _ _ rfl rfl) rfl rfl ?_
 have hf48 : Fr (fun q => q = b7) H35 H44 := Fr.write H44n_ f47
 have H44n : H35.next ≤ H44.next := hf48.1
 try show aw _ _ _ _ _ _
 refine aw_ret ?_
 have h49 := My.frS hm21 hf28 (fun q hq e => ⟨_, e ▸ h23, show (0 : Nat) ≠ 4 by decide⟩)
 have h50 := My.ext h49 hx31
 have h51 := My.frS h50 hf39 (fun q hq e => ⟨_, e ▸ h34, show (0 : Nat) ≠ 4 by decide⟩)
 have h52 := My.frS h51 hf48 (fun q hq e => ⟨_, e ▸ h43, show (0 : Nat) ≠ 4 by decide⟩)
 have hx53 : Ext H H44 := (Ext.then (Ext.then (Ext.trans (Ext.then (Ext.trans hx15 hx18) hf28 (fun q hq e => by omega)) hx31) hf39 (fun q hq e => by omega)) hf48 (fun q hq e => by omega))
 have hres : (((es.take 10).map Entry.cut), cutB s_conf 60, cutB s_data 100) = (((es.take (10 : Int).toNat).map Entry.cut), ((cutB s_conf 60, cutB s_data 100).1), ((cutB s_conf 60, cutB s_data 100).2)) := by rfl
 exact ⟨.agg #[.int .i64 kind, .int .i64 from_, .int .i64 to_, .int .i64 term, .int .i64 index, .int .i64 logterm, .int .i64 commit, .bool yes, .slice A19 (((es.take (10 : Int).toNat).map Entry.cut).length) c20, .int .i64 s_index, .int .i64 s_term, .string ((cutB s_conf 60, cutB s_data 100).1), .string ((cutB s_conf 60, cutB s_data 100).2)], (resA_of (resL_cell rfl (lvar_part (l := [.int .i64 kind, .int .i64 from_, .int .i64 to_, .int .i64 term, .int .i64 index, .int .i64 logterm, .int .i64 commit, .bool yes, .slice A19 (((es.take (10 : Int).toNat).map Entry.cut).length) c20, .int .i64 s_index, .int .i64 s_term, .string ((cutB s_conf 60, cutB s_data 100).1), .string ((cutB s_conf 60, cutB s_data 100).2)]) many26 hB46 rfl rfl (by decide)) resL_nil) rfl), A19, c20, by first | (rw [hres]; first | done | rfl | simp; done) | rfl, (by rw [hres]; exact (My.older h52 (by omega))), (by rw [List.length_map, List.length_take]; omega), (by exact cutB_size (by decide)), (by exact cutB_size (by decide)), hx53⟩

end Go.AM
