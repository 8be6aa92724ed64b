/- Part of a machine of its own for this claim: the program's code over memory without draws. -/
import Derived.Test.YtfodghhmglbapaaSAmXMsgB2
set_option linter.unusedVariables false
set_option linter.unusedSimpArgs false
set_option linter.unnecessarySimpa false
set_option linter.unusedVariables false
set_option linter.unusedSimpArgs false
set_option linter.unnecessarySimpa false
namespace Go.AM
open Go Go.Proofs
theorem msg_text_spec (H : Heap) (kind : Int) (from_ : Int) (to_ : Int) (term : Int) (index : Int) (logterm : Int) (commit : Int) (yes : Bool) (esA : Option Addr) (es : List Entry) (esc : Nat) (hes : Row H esA esc 4 (es.map Entry.cells)) (ces : es.length ≤ esc) (les : es.length ≤ 1048576) (s_index : Int) (s_term : Int) (s_conf : ByteArray) (hs_conf : s_conf.size ≤ 1073741824) (s_data : ByteArray) (hs_data : s_data.size ≤ 1073741824) (um : Spec.mayMsg kind from_ to_ term index logterm commit yes es s_index s_term s_conf s_data = true) : ∃ v H', Spec Try.prog 24 [.agg #[.int .i64 kind, .int .i64 from_, .int .i64 to_, .int .i64 term, .int .i64 index, .int .i64 logterm, .int .i64 commit, .bool yes, .slice esA es.length esc, .int .i64 s_index, .int .i64 s_term, .string s_conf, .string s_data]] H v H' ∧ (∃ rA0 rc0, (v = .slice rA0 ((Spec.textF (⟨kind, from_, to_, term, index, logterm, commit, yes, es, ⟨s_index, s_term, s_conf, s_data⟩⟩ : Msg)).length) rc0) ∧ (My H H' rA0 rc0 1 ((Spec.textF (⟨kind, from_, to_, term, index, logterm, commit, yes, es, ⟨s_index, s_term, s_conf, s_data⟩⟩ : Msg)).map u8c)) ∧ (((Spec.textF (⟨kind, from_, to_, term, index, logterm, commit, yes, es, ⟨s_index, s_term, s_conf, s_data⟩⟩ : Msg))).length ≤ 1800000) ∧ (Ext H H')) := by
 refine spec_go1 E0_ok 61 (f := 24) Try.func24 rfl rfl rfl ?_
 refine aw_seq ?_
 refine aw_reg ?_
 obtain ⟨b1, H2, he3, b1e, H2n_, hB5, f4⟩ := mem_box (P := Try.prog) H (v := .agg #[.int .i64 kind, .int .i64 from_, .int .i64 to_, .int .i64 term, .int .i64 index, .int .i64 logterm, .int .i64 commit, .bool yes, .slice esA es.length esc, .int .i64 s_index, .int .i64 s_term, .string s_conf, .string s_data]) (cs := [.int .i64 kind, .int .i64 from_, .int .i64 to_, .int .i64 term, .int .i64 index, .int .i64 logterm, .int .i64 commit, .bool yes, .slice esA es.length esc, .int .i64 s_index, .int .i64 s_term, .string s_conf, .string s_data]) rfl rfl
 refine st_op (he3 _ _ _ _ _ _ _ _ _ rfl) rfl rfl rfl ?_
 have hx6 : Ext H H2 := Ext.new (by omega) H2n_ f4
 have H2n : H.next ≤ H2.next := hx6.1
 refine st_op (ev_assign rfl) rfl rfl rfl ?_
 try show aw _ _ _ _ _ _
 refine aw_seq ?_
 refine aw_reg ?_
 refine st_op (ev_assign rfl) rfl rfl rfl ?_
 try show aw _ _ _ _ _ _
 refine aw_seq ?_
 refine aw_reg ?_
 refine st_op (ev_assign rfl) rfl rfl rfl ?_
 try show aw _ _ _ _ _ _
 iterate 2 refine aw_seq ?_
 refine aw_reg ?_
 refine st_op (ev_fieldAddr rfl fa26_7 (o' := 7) rfl) rfl rfl rfl ?_
 refine st_op (ev_load rfl (lvar_one one4 hB5 rfl)) rfl rfl rfl ?_
 try show aw _ _ _ _ _ _
 by_cases hc7 : yes = true
 ·
  refine aw_condT hc7 rfl ?_
  try show aw _ _ _ _ _ _
  refine aw_reg ?_
  refine st_op (ev_assign rfl) rfl rfl rfl ?_
  try show aw _ _ _ _ _ _
  iterate 2 refine aw_seq ?_
  refine aw_reg ?_
  refine st_op (ev_fieldAddr rfl fa26_0 (o' := 0) rfl) rfl rfl rfl ?_
  refine st_op (ev_load rfl (lvar_one one3 hB5 rfl)) rfl rfl rfl ?_
  refine st_op (ev_fieldAddr rfl fa26_1 (o' := 1) rfl) rfl rfl rfl ?_
  refine st_op (ev_load rfl (lvar_one one3 hB5 rfl)) rfl rfl rfl ?_
  refine st_op (ev_fieldAddr rfl fa26_2 (o' := 2) rfl) rfl rfl rfl ?_
  refine st_op (ev_load rfl (lvar_one one3 hB5 rfl)) rfl rfl rfl ?_
  refine st_op (ev_fieldAddr rfl fa26_3 (o' := 3) rfl) rfl rfl rfl ?_
  refine st_op (ev_load rfl (lvar_one one2 hB5 rfl)) rfl rfl rfl ?_
  refine st_op (ev_fieldAddr rfl fa26_4 (o' := 4) rfl) rfl rfl rfl ?_
  refine st_op (ev_load rfl (lvar_one one2 hB5 rfl)) rfl rfl rfl ?_
  refine st_op (ev_fieldAddr rfl fa26_5 (o' := 5) rfl) rfl rfl rfl ?_
  refine st_op (ev_load rfl (lvar_one one2 hB5 rfl)) rfl rfl rfl ?_
  refine st_op (ev_fieldAddr rfl fa26_6 (o' := 6) rfl) rfl rfl rfl ?_
  refine st_op (ev_load rfl (lvar_one one2 hB5 rfl)) rfl rfl rfl ?_
  refine st_op (ev_move rfl) rfl rfl rfl ?_
  refine st_op (ev_fieldAddr rfl fa26_8 (o' := 8) rfl) rfl rfl rfl ?_
  refine st_op (ev_load rfl (lvar_one one22 hB5 rfl)) rfl rfl rfl ?_
  refine st_op (ev_lenSl rfl Try.underlying22) rfl rfl rfl ?_
  obtain ⟨b8, H9, he10, b8e, H9n_, hm12, f11⟩ := mem_lit H2 (xs := ([.int .i64 kind, .int .i64 from_, .int .i64 to_, .int .i64 term, .int .i64 index, .int .i64 logterm, .int .i64 commit, .int .i64 1, .int .i64 (es.length : Int)] : List Value)) (m := 9) (rows := [[.int .i64 kind], [.int .i64 from_], [.int .i64 to_], [.int .i64 term], [.int .i64 index], [.int .i64 logterm], [.int .i64 commit], [.int .i64 1], [.int .i64 (es.length : Int)]]) rfl eok77 (by decide) (by decide) zf2 rfl (allLen rfl) rfl
  replace hm12 : My H2 H9 (some ⟨b8, 0, none⟩) 9 1 ([kind, from_, to_, term, index, logterm, commit, 1, (es.length : Int)].map i64c) := hm12
  refine st_op (he10 _ _ _ _ _ _ _ _ rfl) rfl rfl rfl ?_
  have hx13 : Ext H2 H9 := Ext.new (by omega) H9n_ f11
  have H9n : H2.next ≤ H9.next := hx13.1
  refine st_op (ev_lenSl rfl Try.underlying77) rfl rfl rfl ?_
  refine st_op (ev_move rfl) rfl rfl rfl ?_
  try show aw _ _ _ _ _ _
  refine aw_block ?_
  have mB := (Spec.may_bnd (m := (⟨kind, from_, to_, term, index, logterm, commit, yes, es, ⟨s_index, s_term, s_conf, s_data⟩⟩ : Msg)) um)
  obtain ⟨⟨mB1, mB2, mB3, mB4, mB5, mB6, mB7⟩, mB8⟩ := mB
  simp only at mB1 mB2 mB3 mB4 mB5 mB6 mB7 mB8
  have hns : Spec.Ints [kind, from_, to_, term, index, logterm, commit, 1, (es.length : Int)] := by intro x hx; simp only [List.mem_cons, List.not_mem_nil, or_false] at hx; rcases hx with rfl | rfl | rfl | rfl | rfl | rfl | rfl | rfl | rfl <;> omega
  have hm15 : My H9 H9 none 0 1 (([] : List Int).map u8c) := .nil
  refine aw_keep [1, 3, 29, 30, 31] (l' := (.cons 1 (.pointer (some ⟨b1, 0, none⟩)) (.cons 3 (.slice none 0 0) (.cons 29 (.slice (some ⟨b8, 0, none⟩) 9 9) (.cons 30 (.int .i64 9) (.cons 31 (.int .i64 0) .nil)))))) (by repeat (first | exact Up.done | refine Up.then ?_ | refine Up.inBlock ?_)) rfl ?_
  refine aw_iter (α := Nat × Option Addr × Nat × List Int × Heap) (fun a => 9 - a.1) (fun a => (.cons 1 (.pointer (some ⟨b1, 0, none⟩)) (.cons 3 (.slice a.2.1 a.2.2.2.1.length a.2.2.1) (.cons 29 (.slice (some ⟨b8, 0, none⟩) 9 9) (.cons 30 (.int .i64 9) (.cons 31 (.int .i64 (a.1 : Int)) .nil)))))) (fun a => a.2.2.2.2) (fun a => (a.1 ≤ 9) ∧ (a.2.2.2.1 = Spec.encs ([kind, from_, to_, term, index, logterm, commit, 1, (es.length : Int)].take a.1)) ∧ (a.2.2.2.1.length ≤ 10 * a.1) ∧ (My H9 a.2.2.2.2 a.2.1 a.2.2.1 1 (a.2.2.2.1.map u8c)) ∧ (Ext H9 a.2.2.2.2)) (0, none, 0, ([] : List Int), H9) ⟨(show 0 ≤ 9 from Nat.zero_le _), (show ([] : List Int) = Spec.encs ([kind, from_, to_, term, index, logterm, commit, 1, (es.length : Int)].take 0) from rfl), (show ([] : List Int).length ≤ 10 * 0 from Nat.le_refl _), (show My H9 H9 none 0 1 (([] : List Int).map u8c) from hm15), (show Ext H9 H9 from (Ext.refl H9))⟩ ?_
  rintro ⟨i, A, cp, b, Hl14⟩ ⟨hi, hb, hbl, hm16, hxl17⟩ ih18
  replace hi : i ≤ 9 := hi
  replace hb : b = Spec.encs ([kind, from_, to_, term, index, logterm, commit, 1, (es.length : Int)].take i) := hb
  replace hbl : b.length ≤ 10 * i := hbl
  replace hm16 : My H9 Hl14 A cp 1 (b.map u8c) := hm16
  replace hxl17 : Ext H9 Hl14 := hxl17
  show aw _ _ _ (RL _ (.cons 1 (.pointer (some ⟨b1, 0, none⟩)) (.cons 3 (.slice A b.length cp) (.cons 29 (.slice (some ⟨b8, 0, none⟩) 9 9) (.cons 30 (.int .i64 9) (.cons 31 (.int .i64 (i : Int)) .nil)))))) Hl14 _
  have Hl14n : H9.next ≤ Hl14.next := hxl17.1
  refine aw_seq ?_
  refine aw_reg ?_
  refine st_op (ev_int rfl rfl rfl) rfl rfl rfl ?_
  try show aw _ _ _ _ _ _
  refine aw_seq ?_
  by_cases hc19 : (decide ((i : Int) < 9)) = true
  ·
   refine aw_condT hc19 rfl ?_
   try show aw _ _ _ _ _ _
   have hc19 := of_decide_eq_true hc19
   refine aw_skip ?_
   try show aw _ _ _ _ _ _
   refine aw_seq ?_
   refine aw_block ?_
   refine aw_seq ?_
   refine aw_reg ?_
   have h20 := My.ext hm12 hxl17
   have hi21 : 0 ≤ ((i : Int) : Int) := by omega
   have hi22 : ((i : Int) : Int) < ((9 : Nat) : Int) := by first | omega | (simp only [List.length_append, List.length_cons, List.length_nil, List.length_map, List.length_set, List.length_replicate, Spec.bytesOf_length]; omega) | (simp; omega)
   obtain ⟨x23, hx24⟩ : ∃ e, ([kind, from_, to_, term, index, logterm, commit, 1, (es.length : Int)])[i]? = some e := ⟨_, List.getElem?_eq_getElem (by first | omega | (simp only [List.length_append, List.length_cons, List.length_nil, List.length_map, List.length_set, List.length_replicate, Spec.bytesOf_length]; omega) | (simp; omega))⟩
   have x23b := hns _ (List.mem_of_getElem? hx24)
   refine st_op (ev_at rfl rfl (My.row h20) (getMap i64c hx24) (by first | rfl | omega | simp) hi21 hi22 el77) rfl rfl rfl ?_
   refine st_op (ev_atL rfl (My.row h20) (getMap i64c hx24) one2 rfl) rfl rfl rfl ?_
   refine st_op (ev_assign rfl) rfl rfl rfl ?_
   try show aw _ _ _ _ _ _
   refine aw_reg ?_
   iterate 2 refine st_op (ev_move rfl) rfl rfl rfl ?_
   refine st_call rfl rfl rfl ent26 rfl rfl rfl ?_
   obtain ⟨_, H26, hs25, A28, c29, hs25v, hm30, hq31, hx27⟩ := num_Put_spec Hl14 H9 A b cp hm16 (by omega) (by first | omega | (simp only [List.length_append, List.length_cons, List.length_nil, List.length_map, List.length_set, List.length_replicate, Spec.bytesOf_length]; omega) | (simp; omega)) x23 ⟨by omega, by omega⟩
   rw [hs25v] at hs25; clear hs25v
   refine ⟨_, H26, hs25, ?_⟩
   have H26n : Hl14.next ≤ H26.next := hx27.1
   refine st_op (ev_assign rfl) rfl rfl rfl ?_
   try show aw _ _ _ _ _ _
   refine aw_reg ?_
   refine st_op (ev_int64 (c := (i : Int) + 1) rfl rfl rfl (by omega) (by omega)) rfl rfl rfl ?_
   refine st_op (ev_move rfl) rfl rfl rfl ?_
   try show aw _ _ _ _ _ _
   have hx32 : Ext H9 H26 := (Ext.then hxl17 hx27 (fun q hq e => by omega))
   refine aw_keep [1, 3, 29, 30, 31] (l' := (.cons 1 (.pointer (some ⟨b1, 0, none⟩)) (.cons 3 (.slice A28 ((b ++ Spec.enc (Spec.zig x23)).length) c29) (.cons 29 (.slice (some ⟨b8, 0, none⟩) 9 9) (.cons 30 (.int .i64 9) (.cons 31 (.int .i64 ((i : Int) + 1)) .nil)))))) (by repeat (first | exact Up.done | refine Up.then ?_ | refine Up.inBlock ?_)) rfl ?_
   exact ih18 (i + 1, A28, c29, (b ++ Spec.enc (Spec.zig x23)), H26) ⟨(show (i + 1) ≤ 9 from (by omega)), (show (b ++ Spec.enc (Spec.zig x23)) = Spec.encs ([kind, from_, to_, term, index, logterm, commit, 1, (es.length : Int)].take (i + 1)) from (by rw [Spec.encs_snoc hx24, ← hb])), (show (b ++ Spec.enc (Spec.zig x23)).length ≤ 10 * (i + 1) from (by rw [List.length_append]; omega)), (show My H9 H26 A28 c29 1 ((b ++ Spec.enc (Spec.zig x23)).map u8c) from hm30), (show Ext H9 H26 from hx32)⟩ (by simp only; omega)
  ·
   rw [Bool.not_eq_true] at hc19; refine aw_condF hc19 rfl ?_
   try show aw _ _ _ _ _ _
   have hc19 := of_decide_eq_false hc19
   refine aw_exit ?_
   try show aw _ _ _ _ _ _
   iterate 2 refine aw_seq ?_
   refine aw_reg ?_
   refine st_op (ev_fieldAddr rfl fa26_8 (o' := 8) rfl) rfl rfl rfl ?_
   have hx34 : Ext H2 Hl14 := (Ext.trans hx13 hxl17)
   have h33 := Ext.blk hx34 (by omega) hB5
   refine st_op (ev_load rfl (lvar_one one22 h33 rfl)) rfl rfl rfl ?_
   refine st_op (ev_lenSl rfl Try.underlying22) rfl rfl rfl ?_
   refine st_op (ev_move rfl) rfl rfl rfl ?_
   try show aw _ _ _ _ _ _
   refine aw_block ?_
   refine aw_keep [1, 3, 40, 41, 42] (l' := (.cons 1 (.pointer (some ⟨b1, 0, none⟩)) (.cons 3 (.slice A b.length cp) (.cons 40 (.slice esA es.length esc) (.cons 41 (.int .i64 (es.length : Int)) (.cons 42 (.int .i64 0) .nil)))))) (by repeat (first | exact Up.done | refine Up.then ?_ | refine Up.inBlock ?_)) rfl ?_
   refine aw_iter (α := Nat × Option Addr × Nat × List Int × Heap) (fun a => es.length - a.1) (fun a => (.cons 1 (.pointer (some ⟨b1, 0, none⟩)) (.cons 3 (.slice a.2.1 a.2.2.2.1.length a.2.2.1) (.cons 40 (.slice esA es.length esc) (.cons 41 (.int .i64 (es.length : Int)) (.cons 42 (.int .i64 (a.1 : Int)) .nil)))))) (fun a => a.2.2.2.2) (fun a => (a.1 ≤ es.length) ∧ (a.2.2.2.1 = b ++ ((es.take a.1).map Spec.encE).flatten) ∧ (a.2.2.2.1.length ≤ 90 + 2550 * a.1) ∧ (My H9 a.2.2.2.2 a.2.1 a.2.2.1 1 (a.2.2.2.1.map u8c)) ∧ (Fr (fun q => (H9.next ≤ q ∧ q < Hl14.next ∧ ZB Hl14 q 1)) Hl14 a.2.2.2.2)) (0, A, cp, b, Hl14) ⟨(show 0 ≤ es.length from Nat.zero_le _), (show b = b ++ ((es.take 0).map Spec.encE).flatten from (by simp)), (show b.length ≤ 90 + 2550 * 0 from (by omega)), (show My H9 Hl14 A cp 1 (b.map u8c) from hm16), (show Fr (fun q => (H9.next ≤ q ∧ q < Hl14.next ∧ ZB Hl14 q 1)) Hl14 Hl14 from (Fr.refl _ Hl14))⟩ ?_
   rintro ⟨j, A2, cp2, b2, Hl35⟩ ⟨hj, hb2, hbl2, hm36, hxl37⟩ ih38
   replace hj : j ≤ es.length := hj
   replace hb2 : b2 = b ++ ((es.take j).map Spec.encE).flatten := hb2
   replace hbl2 : b2.length ≤ 90 + 2550 * j := hbl2
   replace hm36 : My H9 Hl35 A2 cp2 1 (b2.map u8c) := hm36
   replace hxl37 : Fr (fun q => (H9.next ≤ q ∧ q < Hl14.next ∧ ZB Hl14 q 1)) Hl14 Hl35 := hxl37
   show aw _ _ _ (RL _ (.cons 1 (.pointer (some ⟨b1, 0, none⟩)) (.cons 3 (.slice A2 b2.length cp2) (.cons 40 (.slice esA es.length esc) (.cons 41 (.int .i64 (es.length : Int)) (.cons 42 (.int .i64 (j : Int)) .nil)))))) Hl35 _
   have Hl35n : Hl14.next ≤ Hl35.next := hxl37.1
   refine aw_seq ?_
   refine aw_reg ?_
   refine st_op (ev_int rfl rfl rfl) rfl rfl rfl ?_
   try show aw _ _ _ _ _ _
   refine aw_seq ?_
   by_cases hc39 : (decide ((j : Int) < (es.length : Int))) = true
   ·
    refine aw_condT hc39 rfl ?_
    try show aw _ _ _ _ _ _
    have hc39 := of_decide_eq_true hc39
    refine aw_skip ?_
    try show aw _ _ _ _ _ _
    refine aw_seq ?_
    refine aw_block ?_
    refine aw_seq ?_
    refine aw_reg ?_
    have hx41 : Ext H Hl35 := (Ext.then (Ext.trans (Ext.trans hx6 hx13) hxl17) hxl37 (fun q hq e => by omega))
    have h40 := Row.ext hes hx41
    have hi42 : 0 ≤ ((j : Int) : Int) := by omega
    have hi43 : ((j : Int) : Int) < ((es.length : Nat) : Int) := by first | omega | (simp only [List.length_append, List.length_cons, List.length_nil, List.length_map, List.length_set, List.length_replicate, Spec.bytesOf_length]; omega) | (simp; omega)
    obtain ⟨x44, hx45⟩ : ∃ e, es[j]? = some e := ⟨_, List.getElem?_eq_getElem (by first | omega | (simp only [List.length_append, List.length_cons, List.length_nil, List.length_map, List.length_set, List.length_replicate, Spec.bytesOf_length]; omega) | (simp; omega))⟩
    refine st_op (ev_at rfl rfl h40 (getMap Entry.cells hx45) (by first | rfl | omega | simp) hi42 hi43 el22) rfl rfl rfl ?_
    refine st_op (ev_atN (cs := [.int .i64 x44.index, .int .i64 x44.term, .int .i64 x44.kind, .string x44.data]) rfl h40 (getMap Entry.cells hx45) many45 rfl rfl (by decide)) rfl rfl rfl ?_
    obtain ⟨b46, H47, he48, b46e, H47n_, hB50, f49⟩ := mem_alloc Hl35 zero45
    refine st_op (he48 _ _ _ _ _ _ _) rfl rfl rfl ?_
    have hx51 : Ext Hl35 H47 := Ext.new (by omega) H47n_ f49
    have H47n : Hl35.next ≤ H47.next := hx51.1
    obtain ⟨H52, he53, H52n_, hB54, f55⟩ := mem_store (v := .agg #[.int .i64 x44.index, .int .i64 x44.term, .int .i64 x44.kind, .string x44.data]) (o := 0) (cs' := [.int .i64 x44.index, .int .i64 x44.term, .int .i64 x44.kind, .string x44.data]) 4 rfl rfl size45 hB50 rfl rfl rfl
    refine st_op0 (he53 _ _ _ _ _ _ _ _ _ rfl rfl) rfl rfl ?_
    have hf56 : Fr (fun q => q = b46) H47 H52 := Fr.write H52n_ f55
    have H52n : H47.next ≤ H52.next := hf56.1
    try show aw _ _ _ _ _ _
    refine aw_reg ?_
    refine st_op (ev_move rfl) rfl rfl rfl ?_
    refine st_op (ev_load rfl (lvar_part (l := [.int .i64 x44.index, .int .i64 x44.term, .int .i64 x44.kind, .string x44.data]) many45 hB54 rfl rfl (by decide))) rfl rfl rfl ?_
    refine st_op (ev_build zero82 pl82 (parts := [(2, .agg #[.int .i64 x44.index, .int .i64 x44.term, .int .i64 x44.kind, .string x44.data])]) rfl (cs := [.bool false, .int .i64 0, .int .i64 0, .int .i64 x44.index, .int .i64 x44.term, .int .i64 x44.kind, .string x44.data]) rfl) rfl rfl rfl ?_
    refine st_call rfl rfl rfl ent45 rfl rfl rfl ?_
    obtain ⟨_, H58, hs57, A60, c61, hs57v, hm62, hq63, hx59⟩ := wal_Encode_spec H52 false (0 : Int) (0 : Int) x44.index x44.term x44.kind x44.data
    rw [hs57v] at hs57; clear hs57v
    refine ⟨_, H58, hs57, ?_⟩
    have H58n : H52.next ≤ H58.next := hx59.1
    have hx65 : Ext Hl35 H58 := (Ext.trans (Ext.then hx51 hf56 (fun q hq e => by omega)) hx59)
    have h64 := My.ext hm36 hx65
    obtain ⟨A66, c67, H68, W69, he70, hm71, hf72⟩ := mem_append (f := u8c) (old := b2) (new := (Spec.encodeF false (0 : Int) (0 : Int) x44.index x44.term x44.kind x44.data)) (m := b2.length) (mx := (Spec.encodeF false (0 : Int) (0 : Int) x44.index x44.term x44.kind x44.data).length) (c := cp2) (by first | rfl | simp) (by first | rfl | simp) eok29 (by decide) hm36 h64 (by omega) (((My.row hm62)).srcF (by decide) (by first | rfl | simp)) rfl u8c_len u8c_one (by first | omega | (simp only [List.length_append, List.length_cons, List.length_nil, List.length_map, List.length_set, List.length_replicate, Spec.bytesOf_length]; omega) | (simp; omega)) (by first | omega | (simp only [List.length_append, List.length_cons, List.length_nil, List.length_map, List.length_set, List.length_replicate, Spec.bytesOf_length]; omega) | (simp; omega))
    refine st_op (he70 _ _ _ _ _ _ _ _ _ _ rfl rfl isrow29) rfl rfl rfl ?_
    have H68n : H58.next ≤ H68.next := hf72.1
    refine st_op (ev_assign rfl) rfl rfl rfl ?_
    try show aw _ _ _ _ _ _
    refine aw_reg ?_
    refine st_op (ev_int64 (c := (j : Int) + 1) rfl rfl rfl (by omega) (by omega)) rfl rfl rfl ?_
    refine st_op (ev_move rfl) rfl rfl rfl ?_
    try show aw _ _ _ _ _ _
    refine aw_keep [1, 3, 40, 41, 42] (l' := (.cons 1 (.pointer (some ⟨b1, 0, none⟩)) (.cons 3 (.slice A66 ((b2 ++ (Spec.encodeF false (0 : Int) (0 : Int) x44.index x44.term x44.kind x44.data)).length) c67) (.cons 40 (.slice esA es.length esc) (.cons 41 (.int .i64 (es.length : Int)) (.cons 42 (.int .i64 ((j : Int) + 1)) .nil)))))) (by repeat (first | exact Up.done | refine Up.then ?_ | refine Up.inBlock ?_)) rfl ?_
    exact ih38 (j + 1, A66, c67, (b2 ++ (Spec.encodeF false (0 : Int) (0 : Int) x44.index x44.term x44.kind x44.data)), H68) ⟨(show (j + 1) ≤ es.length from (by omega)), (show (b2 ++ (Spec.encodeF false (0 : Int) (0 : Int) x44.index x44.term x44.kind x44.data)) = b ++ ((es.take (j + 1)).map Spec.encE).flatten from (by rw [List.take_add_one, hx45, List.map_append, List.flatten_append, hb2, List.append_assoc]; simp [Spec.encE])), (show (b2 ++ (Spec.encodeF false (0 : Int) (0 : Int) x44.index x44.term x44.kind x44.data)).length ≤ 90 + 2550 * (j + 1) from (by rw [List.length_append]; have := @Spec.encodeF_len false 0 0 x44.index x44.term x44.kind x44.data; omega)), (show My H9 H68 A66 c67 1 ((b2 ++ (Spec.encodeF false (0 : Int) (0 : Int) x44.index x44.term x44.kind x44.data)).map u8c) from hm71), (show Fr (fun q => (H9.next ≤ q ∧ q < Hl14.next ∧ ZB Hl14 q 1)) Hl14 H68 from (Fr.transG (Fr.trans (Fr.transG (Fr.trans (Fr.transG (Fr.refl (fun q => (H9.next ≤ q ∧ q < Hl14.next ∧ ZB Hl14 q 1)) Hl14) hxl37 (fun q hq hE e => (⟨by omega, by omega, ZB.back hE e.2.2⟩))) (hx51.fr fun _ => False) (fun q hq (e : False) => e.elim)) hf56 (fun q hq hE e => absurd hq (by omega))) (hx59.fr fun _ => False) (fun q hq (e : False) => e.elim)) hf72 (fun q hq hE e => (⟨by omega, by omega, ZB.back hE e.2.2⟩))))⟩ (by simp only; omega)
   ·
    rw [Bool.not_eq_true] at hc39; refine aw_condF hc39 rfl ?_
    try show aw _ _ _ _ _ _
    have hc39 := of_decide_eq_false hc39
    refine aw_exit ?_
    try show aw _ _ _ _ _ _
    iterate 2 refine aw_seq ?_
    refine aw_reg ?_
    refine st_op (ev_fieldAddr rfl fa26_0 (o' := 0) rfl) rfl rfl rfl ?_
    have hx74 : Ext H2 Hl35 := (Ext.then hx34 hxl37 (fun q hq e => by omega))
    have h73 := Ext.blk hx74 (by omega) hB5
    refine st_op (ev_load rfl (lvar_one one3 h73 rfl)) rfl rfl rfl ?_
    refine st_op (ev_int rfl rfl rfl) rfl rfl rfl ?_
    try show aw _ _ _ _ _ _
    by_cases hc75 : (kind == 5) = true
    ·
     refine aw_condT hc75 rfl ?_
     try show aw _ _ _ _ _ _
     have hc75 := eq_of_beq hc75
     refine aw_reg ?_
     refine st_op (ev_move rfl) rfl rfl rfl ?_
     refine st_op (ev_fieldAddr rfl fa26_9 (o' := 9) rfl) rfl rfl rfl ?_
     refine st_op (ev_load rfl (lvar_part (l := [.int .i64 s_index, .int .i64 s_term, .string s_conf, .string s_data]) many24 h73 rfl rfl (by decide))) rfl rfl rfl ?_
     refine st_call rfl rfl rfl ent44 rfl rfl rfl ?_
     obtain ⟨_, H77, hs76, A79, c80, hs76v, hm81, hq82, hq83, hq84, hx78⟩ := wal_PutSnap_spec Hl35 s_index s_term s_conf s_data
     rw [hs76v] at hs76; clear hs76v
     refine ⟨_, H77, hs76, ?_⟩
     have H77n : Hl35.next ≤ H77.next := hx78.1
     have h85 := My.ext hm36 hx78
     obtain ⟨A86, c87, H88, W89, he90, hm91, hf92⟩ := mem_append (f := u8c) (old := b2) (new := (Spec.snapF s_index s_term s_conf s_data)) (m := b2.length) (mx := (Spec.snapF s_index s_term s_conf s_data).length) (c := cp2) (by first | rfl | simp) (by first | rfl | simp) eok29 (by decide) hm36 h85 (by omega) (((My.row hm81)).srcF (by decide) (by first | rfl | simp)) rfl u8c_len u8c_one (by first | omega | (simp only [List.length_append, List.length_cons, List.length_nil, List.length_map, List.length_set, List.length_replicate, Spec.bytesOf_length]; omega) | (simp; omega)) (by first | omega | (simp only [List.length_append, List.length_cons, List.length_nil, List.length_map, List.length_set, List.length_replicate, Spec.bytesOf_length]; omega) | (simp; omega))
     refine st_op (he90 _ _ _ _ _ _ _ _ _ _ rfl rfl isrow29) rfl rfl rfl ?_
     have H88n : H77.next ≤ H88.next := hf92.1
     refine st_op (ev_assign rfl) rfl rfl rfl ?_
     try show aw _ _ _ _ _ _
     refine aw_seq ?_
     refine aw_reg ?_
     refine st_op (ev_move rfl) rfl rfl rfl ?_
     refine st_op (ev_assign rfl) rfl rfl rfl ?_
     try show aw _ _ _ _ _ _
     refine aw_ret ?_
     have hx93 : Ext H H88 := (Ext.then (Ext.trans (Ext.then (Ext.trans (Ext.trans hx6 hx13) hxl17) hxl37 (fun q hq e => by omega)) hx78) hf92 (fun q hq e => by omega))
     have hres : (Spec.textF (⟨kind, from_, to_, term, index, logterm, commit, yes, es, ⟨s_index, s_term, s_conf, s_data⟩⟩ : Msg)) = (b2 ++ (Spec.snapF s_index s_term s_conf s_data)) := by show Spec.encs [kind, from_, to_, term, index, logterm, commit, (if yes = true then 1 else 0), (es.length : Int)] ++ (es.map Spec.encE).flatten ++ (if kind = 5 then Spec.snapF s_index s_term s_conf s_data else []) = _; have e1 : b = Spec.encs [kind, from_, to_, term, index, logterm, commit, 1, (es.length : Int)] := (by rw [hb, List.take_of_length_le (by simp; omega)]); have e2 : b2 = b ++ (es.map Spec.encE).flatten := (by rw [hb2, List.take_of_length_le (by omega)]); rw [e2, e1]; (first | rw [if_pos (show yes = true by assumption)] | rw [if_neg (show ¬ yes = true from fun h => Bool.noConfusion (h.symm.trans (show yes = false by assumption)))]); (first | rw [if_pos (show kind = 5 by assumption)] | rw [if_neg (show ¬ kind = 5 by assumption), List.append_nil])
     exact ⟨.slice A86 ((b2 ++ (Spec.snapF s_index s_term s_conf s_data)).length) c87, rfl, A86, c87, by first | (rw [hres]; first | done | rfl | simp; done) | rfl, (by rw [hres]; exact (My.older hm91 (by omega))), (by exact Spec.textF_len (m := (⟨kind, from_, to_, term, index, logterm, commit, yes, es, ⟨s_index, s_term, s_conf, s_data⟩⟩ : Msg)) um), hx93⟩
    ·
     rw [Bool.not_eq_true] at hc75; refine aw_condF hc75 rfl ?_
     try show aw _ _ _ _ _ _
     have hc75 := ne_of_beq_false hc75
     refine aw_skip ?_
     try show aw _ _ _ _ _ _
     refine aw_seq ?_
     refine aw_reg ?_
     refine st_op (ev_move rfl) rfl rfl rfl ?_
     refine st_op (ev_assign rfl) rfl rfl rfl ?_
     try show aw _ _ _ _ _ _
     refine aw_ret ?_
     have hx94 : Ext H Hl35 := (Ext.then (Ext.trans (Ext.trans hx6 hx13) hxl17) hxl37 (fun q hq e => by omega))
     have hres : (Spec.textF (⟨kind, from_, to_, term, index, logterm, commit, yes, es, ⟨s_index, s_term, s_conf, s_data⟩⟩ : Msg)) = b2 := by show Spec.encs [kind, from_, to_, term, index, logterm, commit, (if yes = true then 1 else 0), (es.length : Int)] ++ (es.map Spec.encE).flatten ++ (if kind = 5 then Spec.snapF s_index s_term s_conf s_data else []) = _; have e1 : b = Spec.encs [kind, from_, to_, term, index, logterm, commit, 1, (es.length : Int)] := (by rw [hb, List.take_of_length_le (by simp; omega)]); have e2 : b2 = b ++ (es.map Spec.encE).flatten := (by rw [hb2, List.take_of_length_le (by omega)]); rw [e2, e1]; (first | rw [if_pos (show yes = true by assumption)] | rw [if_neg (show ¬ yes = true from fun h => Bool.noConfusion (h.symm.trans (show yes = false by assumption)))]); (first | rw [if_pos (show kind = 5 by assumption)] | rw [if_neg (show ¬ kind = 5 by assumption), List.append_nil])
     exact ⟨.slice A2 b2.length cp2, rfl, A2, cp2, by first | (rw [hres]; first | done | rfl | simp; done) | rfl, (by rw [hres]; exact (My.older hm36 (by omega))), (by exact Spec.textF_len (m := (⟨kind, from_, to_, term, index, logterm, commit, yes, es, ⟨s_index, s_term, s_conf, s_data⟩⟩ : Msg)) um), hx94⟩
 ·
  rw [Bool.not_eq_true] at hc7; refine aw_condF hc7 rfl ?_
  try show aw _ _ _ _ _ _
  refine aw_skip ?_
  try show aw _ _ _ _ _ _
  iterate 2 refine aw_seq ?_
  refine aw_reg ?_
  refine st_op (ev_fieldAddr rfl fa26_0 (o' := 0) rfl) rfl rfl rfl ?_
  refine st_op (ev_load rfl (lvar_one one3 hB5 rfl)) rfl rfl rfl ?_
  refine st_op (ev_fieldAddr rfl fa26_1 (o' := 1) rfl) rfl rfl rfl ?_
  refine st_op (ev_load rfl (lvar_one one3 hB5 rfl)) rfl rfl rfl ?_
  refine st_op (ev_fieldAddr rfl fa26_2 (o' := 2) rfl) rfl rfl rfl ?_
  refine st_op (ev_load rfl (lvar_one one3 hB5 rfl)) rfl rfl rfl ?_
  refine st_op (ev_fieldAddr rfl fa26_3 (o' := 3) rfl) rfl rfl rfl ?_
  refine st_op (ev_load rfl (lvar_one one2 hB5 rfl)) rfl rfl rfl ?_
  refine st_op (ev_fieldAddr rfl fa26_4 (o' := 4) rfl) rfl rfl rfl ?_
  refine st_op (ev_load rfl (lvar_one one2 hB5 rfl)) rfl rfl rfl ?_
  refine st_op (ev_fieldAddr rfl fa26_5 (o' := 5) rfl) rfl rfl rfl ?_
  refine st_op (ev_load rfl (lvar_one one2 hB5 rfl)) rfl rfl rfl ?_
  refine st_op (ev_fieldAddr rfl fa26_6 (o' := 6) rfl) rfl rfl rfl ?_
  refine st_op (ev_load rfl (lvar_one one2 hB5 rfl)) rfl rfl rfl ?_
  refine st_op (ev_move rfl) rfl rfl rfl ?_
  refine st_op (ev_fieldAddr rfl fa26_8 (o' := 8) rfl) rfl rfl rfl ?_
  refine st_op (ev_load rfl (lvar_one one22 hB5 rfl)) rfl rfl rfl ?_
  refine st_op (ev_lenSl rfl Try.underlying22) rfl rfl rfl ?_
  obtain ⟨b95, H96, he97, b95e, H96n_, hm99, f98⟩ := mem_lit H2 (xs := ([.int .i64 kind, .int .i64 from_, .int .i64 to_, .int .i64 term, .int .i64 index, .int .i64 logterm, .int .i64 commit, .int .i64 0, .int .i64 (es.length : Int)] : List Value)) (m := 9) (rows := [[.int .i64 kind], [.int .i64 from_], [.int .i64 to_], [.int .i64 term], [.int .i64 index], [.int .i64 logterm], [.int .i64 commit], [.int .i64 0], [.int .i64 (es.length : Int)]]) rfl eok77 (by decide) (by decide) zf2 rfl (allLen rfl) rfl
  replace hm99 : My H2 H96 (some ⟨b95, 0, none⟩) 9 1 ([kind, from_, to_, term, index, logterm, commit, 0, (es.length : Int)].map i64c) := hm99
  refine st_op (he97 _ _ _ _ _ _ _ _ rfl) rfl rfl rfl ?_
  have hx100 : Ext H2 H96 := Ext.new (by omega) H96n_ f98
  have H96n : H2.next ≤ H96.next := hx100.1
  refine st_op (ev_lenSl rfl Try.underlying77) rfl rfl rfl ?_
  refine st_op (ev_move rfl) rfl rfl rfl ?_
  try show aw _ _ _ _ _ _
  refine aw_block ?_
  have mB := (Spec.may_bnd (m := (⟨kind, from_, to_, term, index, logterm, commit, yes, es, ⟨s_index, s_term, s_conf, s_data⟩⟩ : Msg)) um)
  obtain ⟨⟨mB1, mB2, mB3, mB4, mB5, mB6, mB7⟩, mB8⟩ := mB
  simp only at mB1 mB2 mB3 mB4 mB5 mB6 mB7 mB8
  have hns : Spec.Ints [kind, from_, to_, term, index, logterm, commit, 0, (es.length : Int)] := by intro x hx; simp only [List.mem_cons, List.not_mem_nil, or_false] at hx; rcases hx with rfl | rfl | rfl | rfl | rfl | rfl | rfl | rfl | rfl <;> omega
  have hm102 : My H96 H96 none 0 1 (([] : List Int).map u8c) := .nil
  refine aw_keep [1, 3, 29, 30, 31] (l' := (.cons 1 (.pointer (some ⟨b1, 0, none⟩)) (.cons 3 (.slice none 0 0) (.cons 29 (.slice (some ⟨b95, 0, none⟩) 9 9) (.cons 30 (.int .i64 9) (.cons 31 (.int .i64 0) .nil)))))) (by repeat (first | exact Up.done | refine Up.then ?_ | refine Up.inBlock ?_)) rfl ?_
  refine aw_iter (α := Nat × Option Addr × Nat × List Int × Heap) (fun a => 9 - a.1) (fun a => (.cons 1 (.pointer (some ⟨b1, 0, none⟩)) (.cons 3 (.slice a.2.1 a.2.2.2.1.length a.2.2.1) (.cons 29 (.slice (some ⟨b95, 0, none⟩) 9 9) (.cons 30 (.int .i64 9) (.cons 31 (.int .i64 (a.1 : Int)) .nil)))))) (fun a => a.2.2.2.2) (fun a => (a.1 ≤ 9) ∧ (a.2.2.2.1 = Spec.encs ([kind, from_, to_, term, index, logterm, commit, 0, (es.length : Int)].take a.1)) ∧ (a.2.2.2.1.length ≤ 10 * a.1) ∧ (My H96 a.2.2.2.2 a.2.1 a.2.2.1 1 (a.2.2.2.1.map u8c)) ∧ (Ext H96 a.2.2.2.2)) (0, none, 0, ([] : List Int), H96) ⟨(show 0 ≤ 9 from Nat.zero_le _), (show ([] : List Int) = Spec.encs ([kind, from_, to_, term, index, logterm, commit, 0, (es.length : Int)].take 0) from rfl), (show ([] : List Int).length ≤ 10 * 0 from Nat.le_refl _), (show My H96 H96 none 0 1 (([] : List Int).map u8c) from hm102), (show Ext H96 H96 from (Ext.refl H96))⟩ ?_
  rintro ⟨i, A, cp, b, Hl101⟩ ⟨hi, hb, hbl, hm103, hxl104⟩ ih105
  replace hi : i ≤ 9 := hi
  replace hb : b = Spec.encs ([kind, from_, to_, term, index, logterm, commit, 0, (es.length : Int)].take i) := hb
  replace hbl : b.length ≤ 10 * i := hbl
  replace hm103 : My H96 Hl101 A cp 1 (b.map u8c) := hm103
  replace hxl104 : Ext H96 Hl101 := hxl104
  show aw _ _ _ (RL _ (.cons 1 (.pointer (some ⟨b1, 0, none⟩)) (.cons 3 (.slice A b.length cp) (.cons 29 (.slice (some ⟨b95, 0, none⟩) 9 9) (.cons 30 (.int .i64 9) (.cons 31 (.int .i64 (i : Int)) .nil)))))) Hl101 _
  have Hl101n : H96.next ≤ Hl101.next := hxl104.1
  refine aw_seq ?_
  refine aw_reg ?_
  refine st_op (ev_int rfl rfl rfl) rfl rfl rfl ?_
  try show aw _ _ _ _ _ _
  refine aw_seq ?_
  by_cases hc106 : (decide ((i : Int) < 9)) = true
  ·
   refine aw_condT hc106 rfl ?_
   try show aw _ _ _ _ _ _
   have hc106 := of_decide_eq_true hc106
   refine aw_skip ?_
   try show aw _ _ _ _ _ _
   refine aw_seq ?_
   refine aw_block ?_
   refine aw_seq ?_
   refine aw_reg ?_
   have h107 := My.ext hm99 hxl104
   have hi108 : 0 ≤ ((i : Int) : Int) := by omega
   have hi109 : ((i : Int) : Int) < ((9 : Nat) : Int) := by first | omega | (simp only [List.length_append, List.length_cons, List.length_nil, List.length_map, List.length_set, List.length_replicate, Spec.bytesOf_length]; omega) | (simp; omega)
   obtain ⟨x110, hx111⟩ : ∃ e, ([kind, from_, to_, term, index, logterm, commit, 0, (es.length : Int)])[i]? = some e := ⟨_, List.getElem?_eq_getElem (by first | omega | (simp only [List.length_append, List.length_cons, List.length_nil, List.length_map, List.length_set, List.length_replicate, Spec.bytesOf_length]; omega) | (simp; omega))⟩
   have x110b := hns _ (List.mem_of_getElem? hx111)
   refine st_op (ev_at rfl rfl (My.row h107) (getMap i64c hx111) (by first | rfl | omega | simp) hi108 hi109 el77) rfl rfl rfl ?_
   refine st_op (ev_atL rfl (My.row h107) (getMap i64c hx111) one2 rfl) rfl rfl rfl ?_
   refine st_op (ev_assign rfl) rfl rfl rfl ?_
   try show aw _ _ _ _ _ _
   refine aw_reg ?_
   iterate 2 refine st_op (ev_move rfl) rfl rfl rfl ?_
   refine st_call rfl rfl rfl ent26 rfl rfl rfl ?_
   obtain ⟨_, H113, hs112, A115, c116, hs112v, hm117, hq118, hx114⟩ := num_Put_spec Hl101 H96 A b cp hm103 (by omega) (by first | omega | (simp only [List.length_append, List.length_cons, List.length_nil, List.length_map, List.length_set, List.length_replicate, Spec.bytesOf_length]; omega) | (simp; omega)) x110 ⟨by omega, by omega⟩
   rw [hs112v] at hs112; clear hs112v
   refine ⟨_, H113, hs112, ?_⟩
   have H113n : Hl101.next ≤ H113.next := hx114.1
   refine st_op (ev_assign rfl) rfl rfl rfl ?_
   try show aw _ _ _ _ _ _
   refine aw_reg ?_
   refine st_op (ev_int64 (c := (i : Int) + 1) rfl rfl rfl (by omega) (by omega)) rfl rfl rfl ?_
   refine st_op (ev_move rfl) rfl rfl rfl ?_
   try show aw _ _ _ _ _ _
   have hx119 : Ext H96 H113 := (Ext.then hxl104 hx114 (fun q hq e => by omega))
   refine aw_keep [1, 3, 29, 30, 31] (l' := (.cons 1 (.pointer (some ⟨b1, 0, none⟩)) (.cons 3 (.slice A115 ((b ++ Spec.enc (Spec.zig x110)).length) c116) (.cons 29 (.slice (some ⟨b95, 0, none⟩) 9 9) (.cons 30 (.int .i64 9) (.cons 31 (.int .i64 ((i : Int) + 1)) .nil)))))) (by repeat (first | exact Up.done | refine Up.then ?_ | refine Up.inBlock ?_)) rfl ?_
   exact ih105 (i + 1, A115, c116, (b ++ Spec.enc (Spec.zig x110)), H113) ⟨(show (i + 1) ≤ 9 from (by omega)), (show (b ++ Spec.enc (Spec.zig x110)) = Spec.encs ([kind, from_, to_, term, index, logterm, commit, 0, (es.length : Int)].take (i + 1)) from (by rw [Spec.encs_snoc hx111, ← hb])), (show (b ++ Spec.enc (Spec.zig x110)).length ≤ 10 * (i + 1) from (by rw [List.length_append]; omega)), (show My H96 H113 A115 c116 1 ((b ++ Spec.enc (Spec.zig x110)).map u8c) from hm117), (show Ext H96 H113 from hx119)⟩ (by simp only; omega)
  ·
   rw [Bool.not_eq_true] at hc106; refine aw_condF hc106 rfl ?_
   try show aw _ _ _ _ _ _
   have hc106 := of_decide_eq_false hc106
   refine aw_exit ?_
   try show aw _ _ _ _ _ _
   iterate 2 refine aw_seq ?_
   refine aw_reg ?_
   refine st_op (ev_fieldAddr rfl fa26_8 (o' := 8) rfl) rfl rfl rfl ?_
   have hx121 : Ext H2 Hl101 := (Ext.trans hx100 hxl104)
   have h120 := Ext.blk hx121 (by omega) hB5
   refine st_op (ev_load rfl (lvar_one one22 h120 rfl)) rfl rfl rfl ?_
   refine st_op (ev_lenSl rfl Try.underlying22) rfl rfl rfl ?_
   refine st_op (ev_move rfl) rfl rfl rfl ?_
   try show aw _ _ _ _ _ _
   refine aw_block ?_
   refine aw_keep [1, 3, 40, 41, 42] (l' := (.cons 1 (.pointer (some ⟨b1, 0, none⟩)) (.cons 3 (.slice A b.length cp) (.cons 40 (.slice esA es.length esc) (.cons 41 (.int .i64 (es.length : Int)) (.cons 42 (.int .i64 0) .nil)))))) (by repeat (first | exact Up.done | refine Up.then ?_ | refine Up.inBlock ?_)) rfl ?_
   refine aw_iter (α := Nat × Option Addr × Nat × List Int × Heap) (fun a => es.length - a.1) (fun a => (.cons 1 (.pointer (some ⟨b1, 0, none⟩)) (.cons 3 (.slice a.2.1 a.2.2.2.1.length a.2.2.1) (.cons 40 (.slice esA es.length esc) (.cons 41 (.int .i64 (es.length : Int)) (.cons 42 (.int .i64 (a.1 : Int)) .nil)))))) (fun a => a.2.2.2.2) (fun a => (a.1 ≤ es.length) ∧ (a.2.2.2.1 = b ++ ((es.take a.1).map Spec.encE).flatten) ∧ (a.2.2.2.1.length ≤ 90 + 2550 * a.1) ∧ (My H96 a.2.2.2.2 a.2.1 a.2.2.1 1 (a.2.2.2.1.map u8c)) ∧ (Fr (fun q => (H96.next ≤ q ∧ q < Hl101.next ∧ ZB Hl101 q 1)) Hl101 a.2.2.2.2)) (0, A, cp, b, Hl101) ⟨(show 0 ≤ es.length from Nat.zero_le _), (show b = b ++ ((es.take 0).map Spec.encE).flatten from (by simp)), (show b.length ≤ 90 + 2550 * 0 from (by omega)), (show My H96 Hl101 A cp 1 (b.map u8c) from hm103), (show Fr (fun q => (H96.next ≤ q ∧ q < Hl101.next ∧ ZB Hl101 q 1)) Hl101 Hl101 from (Fr.refl _ Hl101))⟩ ?_
   rintro ⟨j, A2, cp2, b2, Hl122⟩ ⟨hj, hb2, hbl2, hm123, hxl124⟩ ih125
   replace hj : j ≤ es.length := hj
   replace hb2 : b2 = b ++ ((es.take j).map Spec.encE).flatten := hb2
   replace hbl2 : b2.length ≤ 90 + 2550 * j := hbl2
   replace hm123 : My H96 Hl122 A2 cp2 1 (b2.map u8c) := hm123
   replace hxl124 : Fr (fun q => (H96.next ≤ q ∧ q < Hl101.next ∧ ZB Hl101 q 1)) Hl101 Hl122 := hxl124
   show aw _ _ _ (RL _ (.cons 1 (.pointer (some ⟨b1, 0, none⟩)) (.cons 3 (.slice A2 b2.length cp2) (.cons 40 (.slice esA es.length esc) (.cons 41 (.int .i64 (es.length : Int)) (.cons 42 (.int .i64 (j : Int)) .nil)))))) Hl122 _
   have Hl122n : Hl101.next ≤ Hl122.next := hxl124.1
   refine aw_seq ?_
   refine aw_reg ?_
   refine st_op (ev_int rfl rfl rfl) rfl rfl rfl ?_
   try show aw _ _ _ _ _ _
   refine aw_seq ?_
   by_cases hc126 : (decide ((j : Int) < (es.length : Int))) = true
   ·
    refine aw_condT hc126 rfl ?_
    try show aw _ _ _ _ _ _
    have hc126 := of_decide_eq_true hc126
    refine aw_skip ?_
    try show aw _ _ _ _ _ _
    refine aw_seq ?_
    refine aw_block ?_
    refine aw_seq ?_
    refine aw_reg ?_
    have hx128 : Ext H Hl122 := (Ext.then (Ext.trans (Ext.trans hx6 hx100) hxl104) hxl124 (fun q hq e => by omega))
    have h127 := Row.ext hes hx128
    have hi129 : 0 ≤ ((j : Int) : Int) := by omega
    have hi130 : ((j : Int) : Int) < ((es.length : Nat) : Int) := by first | omega | (simp only [List.length_append, List.length_cons, List.length_nil, List.length_map, List.length_set, List.length_replicate, Spec.bytesOf_length]; omega) | (simp; omega)
    obtain ⟨x131, hx132⟩ : ∃ e, es[j]? = some e := ⟨_, List.getElem?_eq_getElem (by first | omega | (simp only [List.length_append, List.length_cons, List.length_nil, List.length_map, List.length_set, List.length_replicate, Spec.bytesOf_length]; omega) | (simp; omega))⟩
    refine st_op (ev_at rfl rfl h127 (getMap Entry.cells hx132) (by first | rfl | omega | simp) hi129 hi130 el22) rfl rfl rfl ?_
    refine st_op (ev_atN (cs := [.int .i64 x131.index, .int .i64 x131.term, .int .i64 x131.kind, .string x131.data]) rfl h127 (getMap Entry.cells hx132) many45 rfl rfl (by decide)) rfl rfl rfl ?_
    obtain ⟨b133, H134, he135, b133e, H134n_, hB137, f136⟩ := mem_alloc Hl122 zero45
    refine st_op (he135 _ _ _ _ _ _ _) rfl rfl rfl ?_
    have hx138 : Ext Hl122 H134 := Ext.new (by omega) H134n_ f136
    have H134n : Hl122.next ≤ H134.next := hx138.1
    obtain ⟨H139, he140, H139n_, hB141, f142⟩ := mem_store (v := .agg #[.int .i64 x131.index, .int .i64 x131.term, .int .i64 x131.kind, .string x131.data]) (o := 0) (cs' := [.int .i64 x131.index, .int .i64 x131.term, .int .i64 x131.kind, .string x131.data]) 4 rfl rfl size45 hB137 rfl rfl rfl
    refine st_op0 (he140 _ _ _ _ _ _ _ _ _ rfl rfl) rfl rfl ?_
    have hf143 : Fr (fun q => q = b133) H134 H139 := Fr.write H139n_ f142
    have H139n : H134.next ≤ H139.next := hf143.1
    try show aw _ _ _ _ _ _
    refine aw_reg ?_
    refine st_op (ev_move rfl) rfl rfl rfl ?_
    refine st_op (ev_load rfl (lvar_part (l := [.int .i64 x131.index, .int .i64 x131.term, .int .i64 x131.kind, .string x131.data]) many45 hB141 rfl rfl (by decide))) rfl rfl rfl ?_
    refine st_op (ev_build zero82 pl82 (parts := [(2, .agg #[.int .i64 x131.index, .int .i64 x131.term, .int .i64 x131.kind, .string x131.data])]) rfl (cs := [.bool false, .int .i64 0, .int .i64 0, .int .i64 x131.index, .int .i64 x131.term, .int .i64 x131.kind, .string x131.data]) rfl) rfl rfl rfl ?_
    refine st_call rfl rfl rfl ent45 rfl rfl rfl ?_
    obtain ⟨_, H145, hs144, A147, c148, hs144v, hm149, hq150, hx146⟩ := wal_Encode_spec H139 false (0 : Int) (0 : Int) x131.index x131.term x131.kind x131.data
    rw [hs144v] at hs144; clear hs144v
    refine ⟨_, H145, hs144, ?_⟩
    have H145n : H139.next ≤ H145.next := hx146.1
    have hx152 : Ext Hl122 H145 := (Ext.trans (Ext.then hx138 hf143 (fun q hq e => by omega)) hx146)
    have h151 := My.ext hm123 hx152
    obtain ⟨A153, c154, H155, W156, he157, hm158, hf159⟩ := mem_append (f := u8c) (old := b2) (new := (Spec.encodeF false (0 : Int) (0 : Int) x131.index x131.term x131.kind x131.data)) (m := b2.length) (mx := (Spec.encodeF false (0 : Int) (0 : Int) x131.index x131.term x131.kind x131.data).length) (c := cp2) (by first | rfl | simp) (by first | rfl | simp) eok29 (by decide) hm123 h151 (by omega) (((My.row hm149)).srcF (by decide) (by first | rfl | simp)) rfl u8c_len u8c_one (by first | omega | (simp only [List.length_append, List.length_cons, List.length_nil, List.length_map, List.length_set, List.length_replicate, Spec.bytesOf_length]; omega) | (simp; omega)) (by first | omega | (simp only [List.length_append, List.length_cons, List.length_nil, List.length_map, List.length_set, List.length_replicate, Spec.bytesOf_length]; omega) | (simp; omega))
    refine st_op (he157 _ _ _ _ _ _ _ _ _ _ rfl rfl isrow29) rfl rfl rfl ?_
    have H155n : H145.next ≤ H155.next := hf159.1
    refine st_op (ev_assign rfl) rfl rfl rfl ?_
    try show aw _ _ _ _ _ _
    refine aw_reg ?_
    refine st_op (ev_int64 (c := (j : Int) + 1) rfl rfl rfl (by omega) (by omega)) rfl rfl rfl ?_
    refine st_op (ev_move rfl) rfl rfl rfl ?_
    try show aw _ _ _ _ _ _
    refine aw_keep [1, 3, 40, 41, 42] (l' := (.cons 1 (.pointer (some ⟨b1, 0, none⟩)) (.cons 3 (.slice A153 ((b2 ++ (Spec.encodeF false (0 : Int) (0 : Int) x131.index x131.term x131.kind x131.data)).length) c154) (.cons 40 (.slice esA es.length esc) (.cons 41 (.int .i64 (es.length : Int)) (.cons 42 (.int .i64 ((j : Int) + 1)) .nil)))))) (by repeat (first | exact Up.done | refine Up.then ?_ | refine Up.inBlock ?_)) rfl ?_
    exact ih125 (j + 1, A153, c154, (b2 ++ (Spec.encodeF false (0 : Int) (0 : Int) x131.index x131.term x131.kind x131.data)), H155) ⟨(show (j + 1) ≤ es.length from (by omega)), (show (b2 ++ (Spec.encodeF false (0 : Int) (0 : Int) x131.index x131.term x131.kind x131.data)) = b ++ ((es.take (j + 1)).map Spec.encE).flatten from (by rw [List.take_add_one, hx132, List.map_append, List.flatten_append, hb2, List.append_assoc]; simp [Spec.encE])), (show (b2 ++ (Spec.encodeF false (0 : Int) (0 : Int) x131.index x131.term x131.kind x131.data)).length ≤ 90 + 2550 * (j + 1) from (by rw [List.length_append]; have := @Spec.encodeF_len false 0 0 x131.index x131.term x131.kind x131.data; omega)), (show My H96 H155 A153 c154 1 ((b2 ++ (Spec.encodeF false (0 : Int) (0 : Int) x131.index x131.term x131.kind x131.data)).map u8c) from hm158), (show Fr (fun q => (H96.next ≤ q ∧ q < Hl101.next ∧ ZB Hl101 q 1)) Hl101 H155 from (Fr.transG (Fr.trans (Fr.transG (Fr.trans (Fr.transG (Fr.refl (fun q => (H96.next ≤ q ∧ q < Hl101.next ∧ ZB Hl101 q 1)) Hl101) hxl124 (fun q hq hE e => (⟨by omega, by omega, ZB.back hE e.2.2⟩))) (hx138.fr fun _ => False) (fun q hq (e : False) => e.elim)) hf143 (fun q hq hE e => absurd hq (by omega))) (hx146.fr fun _ => False) (fun q hq (e : False) => e.elim)) hf159 (fun q hq hE e => (⟨by omega, by omega, ZB.back hE e.2.2⟩))))⟩ (by simp only; omega)
   ·
    rw [Bool.not_eq_true] at hc126; refine aw_condF hc126 rfl ?_
    try show aw _ _ _ _ _ _
    have hc126 := of_decide_eq_false hc126
    refine aw_exit ?_
    try show aw _ _ _ _ _ _
    iterate 2 refine aw_seq ?_
    refine aw_reg ?_
    refine st_op (ev_fieldAddr rfl fa26_0 (o' := 0) rfl) rfl rfl rfl ?_
    have hx161 : Ext H2 Hl122 := (Ext.then hx121 hxl124 (fun q hq e => by omega))
    have h160 := Ext.blk hx161 (by omega) hB5
    refine st_op (ev_load rfl (lvar_one one3 h160 rfl)) rfl rfl rfl ?_
    refine st_op (ev_int rfl rfl rfl) rfl rfl rfl ?_
    try show aw _ _ _ _ _ _
    by_cases hc162 : (kind == 5) = true
    ·
     refine aw_condT hc162 rfl ?_
     try show aw _ _ _ _ _ _
     have hc162 := eq_of_beq hc162
     refine aw_reg ?_
     refine st_op (ev_move rfl) rfl rfl rfl ?_
     refine st_op (ev_fieldAddr rfl fa26_9 (o' := 9) rfl) rfl rfl rfl ?_
     refine st_op (ev_load rfl (lvar_part (l := [.int .i64 s_index, .int .i64 s_term, .string s_conf, .string s_data]) many24 h160 rfl rfl (by decide))) rfl rfl rfl ?_
     refine st_call rfl rfl rfl ent44 rfl rfl rfl ?_
     obtain ⟨_, H164, hs163, A166, c167, hs163v, hm168, hq169, hq170, hq171, hx165⟩ := wal_PutSnap_spec Hl122 s_index s_term s_conf s_data
     rw [hs163v] at hs163; clear hs163v
     refine ⟨_, H164, hs163, ?_⟩
     have H164n : Hl122.next ≤ H164.next := hx165.1
     have h172 := My.ext hm123 hx165
     obtain ⟨A173, c174, H175, W176, he177, hm178, hf179⟩ := mem_append (f := u8c) (old := b2) (new := (Spec.snapF s_index s_term s_conf s_data)) (m := b2.length) (mx := (Spec.snapF s_index s_term s_conf s_data).length) (c := cp2) (by first | rfl | simp) (by first | rfl | simp) eok29 (by decide) hm123 h172 (by omega) (((My.row hm168)).srcF (by decide) (by first | rfl | simp)) rfl u8c_len u8c_one (by first | omega | (simp only [List.length_append, List.length_cons, List.length_nil, List.length_map, List.length_set, List.length_replicate, Spec.bytesOf_length]; omega) | (simp; omega)) (by first | omega | (simp only [List.length_append, List.length_cons, List.length_nil, List.length_map, List.length_set, List.length_replicate, Spec.bytesOf_length]; omega) | (simp; omega))
     refine st_op (he177 _ _ _ _ _ _ _ _ _ _ rfl rfl isrow29) rfl rfl rfl ?_
     have H175n : H164.next ≤ H175.next := hf179.1
     refine st_op (ev_assign rfl) rfl rfl rfl ?_
     try show aw _ _ _ _ _ _
     refine aw_seq ?_
     refine aw_reg ?_
     refine st_op (ev_move rfl) rfl rfl rfl ?_
     refine st_op (ev_assign rfl) rfl rfl rfl ?_
     try show aw _ _ _ _ _ _
     refine aw_ret ?_
     have hx180 : Ext H H175 := (Ext.then (Ext.trans (Ext.then (Ext.trans (Ext.trans hx6 hx100) hxl104) hxl124 (fun q hq e => by omega)) hx165) hf179 (fun q hq e => by omega))
     have hres : (Spec.textF (⟨kind, from_, to_, term, index, logterm, commit, yes, es, ⟨s_index, s_term, s_conf, s_data⟩⟩ : Msg)) = (b2 ++ (Spec.snapF s_index s_term s_conf s_data)) := by show Spec.encs [kind, from_, to_, term, index, logterm, commit, (if yes = true then 1 else 0), (es.length : Int)] ++ (es.map Spec.encE).flatten ++ (if kind = 5 then Spec.snapF s_index s_term s_conf s_data else []) = _; have e1 : b = Spec.encs [kind, from_, to_, term, index, logterm, commit, 0, (es.length : Int)] := (by rw [hb, List.take_of_length_le (by simp; omega)]); have e2 : b2 = b ++ (es.map Spec.encE).flatten := (by rw [hb2, List.take_of_length_le (by omega)]); rw [e2, e1]; (first | rw [if_pos (show yes = true by assumption)] | rw [if_neg (show ¬ yes = true from fun h => Bool.noConfusion (h.symm.trans (show yes = false by assumption)))]); (first | rw [if_pos (show kind = 5 by assumption)] | rw [if_neg (show ¬ kind = 5 by assumption), List.append_nil])
     exact ⟨.slice A173 ((b2 ++ (Spec.snapF s_index s_term s_conf s_data)).length) c174, rfl, A173, c174, by first | (rw [hres]; first | done | rfl | simp; done) | rfl, (by rw [hres]; exact (My.older hm178 (by omega))), (by exact Spec.textF_len (m := (⟨kind, from_, to_, term, index, logterm, commit, yes, es, ⟨s_index, s_term, s_conf, s_data⟩⟩ : Msg)) um), hx180⟩
    ·
     rw [Bool.not_eq_true] at hc162; refine aw_condF hc162 rfl ?_
     try show aw _ _ _ _ _ _
     have hc162 := ne_of_beq_false hc162
     refine aw_skip ?_
     try show aw _ _ _ _ _ _
     refine aw_seq ?_
     refine aw_reg ?_
     refine st_op (ev_move rfl) rfl rfl rfl ?_
     refine st_op (ev_assign rfl) rfl rfl rfl ?_
     try show aw _ _ _ _ _ _
     refine aw_ret ?_
     have hx181 : Ext H Hl122 := (Ext.then (Ext.trans (Ext.trans hx6 hx100) hxl104) hxl124 (fun q hq e => by omega))
     have hres : (Spec.textF (⟨kind, from_, to_, term, index, logterm, commit, yes, es, ⟨s_index, s_term, s_conf, s_data⟩⟩ : Msg)) = b2 := by show Spec.encs [kind, from_, to_, term, index, logterm, commit, (if yes = true then 1 else 0), (es.length : Int)] ++ (es.map Spec.encE).flatten ++ (if kind = 5 then Spec.snapF s_index s_term s_conf s_data else []) = _; have e1 : b = Spec.encs [kind, from_, to_, term, index, logterm, commit, 0, (es.length : Int)] := (by rw [hb, List.take_of_length_le (by simp; omega)]); have e2 : b2 = b ++ (es.map Spec.encE).flatten := (by rw [hb2, List.take_of_length_le (by omega)]); rw [e2, e1]; (first | rw [if_pos (show yes = true by assumption)] | rw [if_neg (show ¬ yes = true from fun h => Bool.noConfusion (h.symm.trans (show yes = false by assumption)))]); (first | rw [if_pos (show kind = 5 by assumption)] | rw [if_neg (show ¬ kind = 5 by assumption), List.append_nil])
     exact ⟨.slice A2 b2.length cp2, rfl, A2, cp2, by first | (rw [hres]; first | done | rfl | simp; done) | rfl, (by rw [hres]; exact (My.older hm123 (by omega))), (by exact Spec.textF_len (m := (⟨kind, from_, to_, term, index, logterm, commit, yes, es, ⟨s_index, s_term, s_conf, s_data⟩⟩ : Msg)) um), hx181⟩
theorem msg_Encode_spec (H : Heap) (kind : Int) (from_ : Int) (to_ : Int) (term : Int) (index : Int) (logterm : Int) (commit : Int) (yes : Bool) (esA : Option Addr) (es : List Entry) (esc : Nat) (hes : Row H esA esc 4 (es.map Entry.cells)) (ces : es.length ≤ esc) (les : es.length ≤ 1048576) (s_index : Int) (s_term : Int) (s_conf : ByteArray) (hs_conf : s_conf.size ≤ 1073741824) (s_data : ByteArray) (hs_data : s_data.size ≤ 1073741824) : ∃ v H', Spec Try.prog 11 [.agg #[.int .i64 kind, .int .i64 from_, .int .i64 to_, .int .i64 term, .int .i64 index, .int .i64 logterm, .int .i64 commit, .bool yes, .slice esA es.length esc, .int .i64 s_index, .int .i64 s_term, .string s_conf, .string s_data]] H v H' ∧ (∃ rA0 rc0, (v = .slice rA0 ((Spec.encM (⟨kind, from_, to_, term, index, logterm, commit, yes, es, ⟨s_index, s_term, s_conf, s_data⟩⟩ : Msg)).length) rc0) ∧ (My H H' rA0 rc0 1 ((Spec.encM (⟨kind, from_, to_, term, index, logterm, commit, yes, es, ⟨s_index, s_term, s_conf, s_data⟩⟩ : Msg)).map u8c)) ∧ (Spec.Bytes (Spec.encM (⟨kind, from_, to_, term, index, logterm, commit, yes, es, ⟨s_index, s_term, s_conf, s_data⟩⟩ : Msg))) ∧ (((Spec.encM (⟨kind, from_, to_, term, index, logterm, commit, yes, es, ⟨s_index, s_term, s_conf, s_data⟩⟩ : Msg))).length ≤ 15000000) ∧ (rA0 = none ↔ Spec.mayMsg kind from_ to_ term index logterm commit yes es s_index s_term s_conf s_data = false) ∧ (Ext H H')) := by
 refine spec_go1 E0_ok 31 (f := 11) Try.func11 rfl rfl rfl ?_
 refine aw_seq ?_
 refine aw_reg ?_
 obtain ⟨b1, H2, he3, b1e, H2n_, hB5, f4⟩ := mem_box (P := Try.prog) H (v := .agg #[.int .i64 kind, .int .i64 from_, .int .i64 to_, .int .i64 term, .int .i64 index, .int .i64 logterm, .int .i64 commit, .bool yes, .slice esA es.length esc, .int .i64 s_index, .int .i64 s_term, .string s_conf, .string s_data]) (cs := [.int .i64 kind, .int .i64 from_, .int .i64 to_, .int .i64 term, .int .i64 index, .int .i64 logterm, .int .i64 commit, .bool yes, .slice esA es.length esc, .int .i64 s_index, .int .i64 s_term, .string s_conf, .string s_data]) rfl rfl
 refine st_op (he3 _ _ _ _ _ _ _ _ _ rfl) rfl rfl rfl ?_
 have hx6 : Ext H H2 := Ext.new (by omega) H2n_ f4
 have H2n : H.next ≤ H2.next := hx6.1
 refine st_op (ev_assign rfl) rfl rfl rfl ?_
 try show aw _ _ _ _ _ _
 iterate 2 refine aw_seq ?_
 refine aw_reg ?_
 refine st_op (ev_load rfl (lvar_part (l := [.int .i64 kind, .int .i64 from_, .int .i64 to_, .int .i64 term, .int .i64 index, .int .i64 logterm, .int .i64 commit, .bool yes, .slice esA es.length esc, .int .i64 s_index, .int .i64 s_term, .string s_conf, .string s_data]) many26 hB5 rfl rfl (by decide))) rfl rfl rfl ?_
 refine st_call rfl rfl rfl ent23 rfl rfl rfl ?_
 have h7 := Row.ext hes hx6
 obtain ⟨_, H9, hs8, hs8v, hx10⟩ := raft_May_spec H2 kind from_ to_ term index logterm commit yes esA es esc h7 ces (by omega) s_index s_term s_conf (by omega) s_data (by omega)
 rw [hs8v] at hs8; clear hs8v
 refine ⟨_, H9, hs8, ?_⟩
 have H9n : H2.next ≤ H9.next := hx10.1
 refine st_op (ev_not rfl) rfl rfl rfl ?_
 try show aw _ _ _ _ _ _
 by_cases hc11 : (!(Spec.mayMsg kind from_ to_ term index logterm commit yes es s_index s_term s_conf s_data)) = true
 ·
  refine aw_condT hc11 rfl ?_
  try show aw _ _ _ _ _ _
  replace hc11 : (Spec.mayMsg kind from_ to_ term index logterm commit yes es s_index s_term s_conf s_data) = false := by rw [Bool.not_eq_true'] at hc11; exact hc11
  refine aw_seq ?_
  refine aw_reg ?_
  refine st_op (ev_assign rfl) rfl rfl rfl ?_
  try show aw _ _ _ _ _ _
  refine aw_ret ?_
  have hm12 : My H9 H9 none 0 1 (([] : List Int).map u8c) := .nil
  have hx13 : Ext H H9 := (Ext.trans hx6 hx10)
  have hres : (Spec.encM (⟨kind, from_, to_, term, index, logterm, commit, yes, es, ⟨s_index, s_term, s_conf, s_data⟩⟩ : Msg)) = ([] : List Int) := by unfold Spec.encM; rw [if_neg (by simp_all [Spec.mayM])]
  exact ⟨.slice none 0 0, rfl, none, 0, by first | (rw [hres]; first | done | rfl | simp; done) | rfl, (by rw [hres]; exact (My.older hm12 (by omega))), (by exact Spec.encM_bytes _), (by exact Spec.encM_len _), (by exact ⟨fun _ => by simp_all, fun _ => rfl⟩), hx13⟩
 ·
  rw [Bool.not_eq_true] at hc11; refine aw_condF hc11 rfl ?_
  try show aw _ _ _ _ _ _
  replace hc11 : (Spec.mayMsg kind from_ to_ term index logterm commit yes es s_index s_term s_conf s_data) = true := by rw [Bool.not_eq_false'] at hc11; exact hc11
  refine aw_skip ?_
  try show aw _ _ _ _ _ _
  refine aw_seq ?_
  refine aw_reg ?_
  have h14 := Ext.blk hx10 (by omega) hB5
  refine st_op (ev_load rfl (lvar_part (l := [.int .i64 kind, .int .i64 from_, .int .i64 to_, .int .i64 term, .int .i64 index, .int .i64 logterm, .int .i64 commit, .bool yes, .slice esA es.length esc, .int .i64 s_index, .int .i64 s_term, .string s_conf, .string s_data]) many26 h14 rfl rfl (by decide))) rfl rfl rfl ?_
  refine st_call rfl rfl rfl ent24 rfl rfl rfl ?_
  have h15 := Row.ext h7 hx10
  obtain ⟨_, H17, hs16, A19, c20, hs16v, hm21, hq22, hx18⟩ := msg_text_spec H9 kind from_ to_ term index logterm commit yes esA es esc h15 ces (by omega) s_index s_term s_conf (by omega) s_data (by omega) (by assumption)
  rw [hs16v] at hs16; clear hs16v
  refine ⟨_, H17, hs16, ?_⟩
  have H17n : H9.next ≤ H17.next := hx18.1
  refine st_op (ev_assign rfl) rfl rfl rfl ?_
  try show aw _ _ _ _ _ _
  refine aw_seq ?_
  refine aw_reg ?_
  refine st_op (ev_move rfl) rfl rfl rfl ?_
  refine st_op (ev_lenSl rfl Try.underlying29) rfl rfl rfl ?_
  refine st_call rfl rfl rfl ent26 rfl rfl rfl ?_
  have hm23 : My H17 H17 none 0 1 (([] : List Int).map u8c) := .nil
  obtain ⟨_, H25, hs24, A27, c28, hs24v, hm29, hq30, hx26⟩ := num_Put_spec H17 H17 none ([] : List Int) 0 hm23 (by omega) (by first | omega | (simp only [List.length_append, List.length_cons, List.length_nil, List.length_map, List.length_set, List.length_replicate, Spec.bytesOf_length]; omega) | (simp; omega)) ((Spec.textF (⟨kind, from_, to_, term, index, logterm, commit, yes, es, ⟨s_index, s_term, s_conf, s_data⟩⟩ : Msg)).length : Int) ⟨by omega, by omega⟩
  rw [hs24v] at hs24; clear hs24v
  refine ⟨_, H25, hs24, ?_⟩
  have H25n : H17.next ≤ H25.next := hx26.1
  refine st_call rfl rfl rfl ent25 rfl rfl rfl ?_
  obtain ⟨_, H32, hs31, A34, c35, hs31v, hm36, hq37, hq38, hx33⟩ := frame_Seal_spec H25 7 (by decide) A27 (([] : List Int) ++ Spec.enc (Spec.zig ((Spec.textF (⟨kind, from_, to_, term, index, logterm, commit, yes, es, ⟨s_index, s_term, s_conf, s_data⟩⟩ : Msg)).length : Int))) c28 (My.row hm29) (My.capF hm29 (by first | omega | (simp only [List.length_append, List.length_cons, List.length_nil, List.length_map, List.length_set, List.length_replicate, Spec.bytesOf_length]; omega) | (simp; omega))) (by first | omega | (simp only [List.length_append, List.length_cons, List.length_nil, List.length_map, List.length_set, List.length_replicate, Spec.bytesOf_length]; omega) | (simp; omega)) (by first | assumption | exact Spec.Bytes.nil | exact Spec.encM_bytes _ | exact Spec.textF_bytes _ | exact Spec.bytes_of _ | (repeat' first | assumption | exact Spec.Bytes.nil | exact Spec.bytes_of _ | exact Spec.enc_bytes _ | exact Spec.four_bytes _ | exact Spec.sealF_bytes (by assumption) | apply Spec.Bytes.append | apply Spec.Bytes.cons (by omega) | apply Spec.Bytes.take | apply Spec.Bytes.drop))
  rw [hs31v] at hs31; clear hs31v
  refine ⟨_, H32, hs31, ?_⟩
  have H32n : H25.next ≤ H32.next := hx33.1
  refine st_op (ev_assign rfl) rfl rfl rfl ?_
  try show aw _ _ _ _ _ _
  refine aw_seq ?_
  refine aw_block ?_
  have hlen := Spec.framesK_max 8 (Spec.textF (⟨kind, from_, to_, term, index, logterm, commit, yes, es, ⟨s_index, s_term, s_conf, s_data⟩⟩ : Msg))
  have hll := Spec.lenE_len (⟨kind, from_, to_, term, index, logterm, commit, yes, es, ⟨s_index, s_term, s_conf, s_data⟩⟩ : Msg) (by assumption)
  have hx43 : Ext H17 H32 := (Ext.trans (Ext.then (Ext.refl H17) hx26 (fun q hq e => by omega)) hx33)
  have h42 := My.ext hm21 hx43
  refine aw_keep [3, 4] (l' := (.cons 3 (.slice A19 ((Spec.textF (⟨kind, from_, to_, term, index, logterm, commit, yes, es, ⟨s_index, s_term, s_conf, s_data⟩⟩ : Msg)).length) c20) (.cons 4 (.slice A34 ((Spec.sealF (7 : Int) (([] : List Int) ++ Spec.enc (Spec.zig ((Spec.textF (⟨kind, from_, to_, term, index, logterm, commit, yes, es, ⟨s_index, s_term, s_conf, s_data⟩⟩ : Msg)).length : Int)))).length) c35) .nil))) (by repeat (first | exact Up.done | refine Up.then ?_ | refine Up.inBlock ?_)) rfl ?_
  refine aw_iter (α := Option Addr × Nat × List Int × Option Addr × Nat × List Int × Heap) (fun a => a.2.2.1.length) (fun a => (.cons 3 (.slice a.1 a.2.2.1.length a.2.1) (.cons 4 (.slice a.2.2.2.1 a.2.2.2.2.2.1.length a.2.2.2.2.1) .nil))) (fun a => a.2.2.2.2.2.2) (fun a => (Spec.encM (⟨kind, from_, to_, term, index, logterm, commit, yes, es, ⟨s_index, s_term, s_conf, s_data⟩⟩ : Msg) = a.2.2.2.2.2.1 ++ Spec.flat (Spec.framesK 8 a.2.2.1)) ∧ (Spec.Bytes a.2.2.1) ∧ (a.2.2.1.length ≤ 1800000) ∧ (a.2.2.2.2.2.1.length + 8 * a.2.2.1.length ≤ 30000000) ∧ (Row H17 a.1 a.2.1 1 (a.2.2.1.map u8c)) ∧ (a.2.2.1.length ≤ a.2.1) ∧ (My H25 a.2.2.2.2.2.2 a.2.2.2.1 a.2.2.2.2.1 1 (a.2.2.2.2.2.1.map u8c)) ∧ (Fr (fun q => (H25.next ≤ q ∧ q < H32.next ∧ ZB H32 q 1)) H32 a.2.2.2.2.2.2)) (A19, c20, (Spec.textF (⟨kind, from_, to_, term, index, logterm, commit, yes, es, ⟨s_index, s_term, s_conf, s_data⟩⟩ : Msg)), A34, c35, (Spec.sealF (7 : Int) (([] : List Int) ++ Spec.enc (Spec.zig ((Spec.textF (⟨kind, from_, to_, term, index, logterm, commit, yes, es, ⟨s_index, s_term, s_conf, s_data⟩⟩ : Msg)).length : Int)))), H32) ⟨(show Spec.encM (⟨kind, from_, to_, term, index, logterm, commit, yes, es, ⟨s_index, s_term, s_conf, s_data⟩⟩ : Msg) = (Spec.sealF (7 : Int) (([] : List Int) ++ Spec.enc (Spec.zig ((Spec.textF (⟨kind, from_, to_, term, index, logterm, commit, yes, es, ⟨s_index, s_term, s_conf, s_data⟩⟩ : Msg)).length : Int)))) ++ Spec.flat (Spec.framesK 8 (Spec.textF (⟨kind, from_, to_, term, index, logterm, commit, yes, es, ⟨s_index, s_term, s_conf, s_data⟩⟩ : Msg))) from (by rw [Spec.encM, if_pos (by assumption)]; unfold Spec.lenE Spec.sealF; rw [if_neg (by simp only [List.nil_append]; omega)]; rfl)), (show Spec.Bytes (Spec.textF (⟨kind, from_, to_, term, index, logterm, commit, yes, es, ⟨s_index, s_term, s_conf, s_data⟩⟩ : Msg)) from (Spec.textF_bytes _)), (show (Spec.textF (⟨kind, from_, to_, term, index, logterm, commit, yes, es, ⟨s_index, s_term, s_conf, s_data⟩⟩ : Msg)).length ≤ 1800000 from (Spec.textF_len (by assumption))), (show (Spec.sealF (7 : Int) (([] : List Int) ++ Spec.enc (Spec.zig ((Spec.textF (⟨kind, from_, to_, term, index, logterm, commit, yes, es, ⟨s_index, s_term, s_conf, s_data⟩⟩ : Msg)).length : Int)))).length + 8 * (Spec.textF (⟨kind, from_, to_, term, index, logterm, commit, yes, es, ⟨s_index, s_term, s_conf, s_data⟩⟩ : Msg)).length ≤ 30000000 from (by have h1 : (Spec.sealF (7 : Int) (([] : List Int) ++ Spec.enc (Spec.zig ((Spec.textF (⟨kind, from_, to_, term, index, logterm, commit, yes, es, ⟨s_index, s_term, s_conf, s_data⟩⟩ : Msg)).length : Int)))).length ≤ 4007 := Spec.sealF_len; have h2 := Spec.textF_len (m := (⟨kind, from_, to_, term, index, logterm, commit, yes, es, ⟨s_index, s_term, s_conf, s_data⟩⟩ : Msg)) (by assumption); omega)), (show Row H17 A19 c20 1 ((Spec.textF (⟨kind, from_, to_, term, index, logterm, commit, yes, es, ⟨s_index, s_term, s_conf, s_data⟩⟩ : Msg)).map u8c) from (My.row hm21)), (show (Spec.textF (⟨kind, from_, to_, term, index, logterm, commit, yes, es, ⟨s_index, s_term, s_conf, s_data⟩⟩ : Msg)).length ≤ c20 from (My.capF h42 (by first | omega | (simp only [List.length_append, List.length_cons, List.length_nil, List.length_map, List.length_set, List.length_replicate, Spec.bytesOf_length]; omega) | (simp; omega)))), (show My H25 H32 A34 c35 1 ((Spec.sealF (7 : Int) (([] : List Int) ++ Spec.enc (Spec.zig ((Spec.textF (⟨kind, from_, to_, term, index, logterm, commit, yes, es, ⟨s_index, s_term, s_conf, s_data⟩⟩ : Msg)).length : Int)))).map u8c) from hm36), (show Fr (fun q => (H25.next ≤ q ∧ q < H32.next ∧ ZB H32 q 1)) H32 H32 from (Fr.refl _ H32))⟩ ?_
  rintro ⟨bA, bc, b, A, cp, out, Hl39⟩ ⟨hS, hbb, hbl, hol, hr40, hr41, hm44, hxl45⟩ ih46
  replace hS : Spec.encM (⟨kind, from_, to_, term, index, logterm, commit, yes, es, ⟨s_index, s_term, s_conf, s_data⟩⟩ : Msg) = out ++ Spec.flat (Spec.framesK 8 b) := hS
  replace hbb : Spec.Bytes b := hbb
  replace hbl : b.length ≤ 1800000 := hbl
  replace hol : out.length + 8 * b.length ≤ 30000000 := hol
  replace hr40 : Row H17 bA bc 1 (b.map u8c) := hr40
  replace hr41 : b.length ≤ bc := hr41
  replace hm44 : My H25 Hl39 A cp 1 (out.map u8c) := hm44
  replace hxl45 : Fr (fun q => (H25.next ≤ q ∧ q < H32.next ∧ ZB H32 q 1)) H32 Hl39 := hxl45
  show aw _ _ _ (RL _ (.cons 3 (.slice bA b.length bc) (.cons 4 (.slice A out.length cp) .nil))) Hl39 _
  have Hl39n : H32.next ≤ Hl39.next := hxl45.1
  iterate 2 refine aw_seq ?_
  refine aw_reg ?_
  refine st_op (ev_move rfl) rfl rfl rfl ?_
  refine st_op (ev_lenSl rfl Try.underlying29) rfl rfl rfl ?_
  refine st_op (ev_int rfl rfl rfl) rfl rfl rfl ?_
  try show aw _ _ _ _ _ _
  by_cases hc47 : (decide ((b.length : Int) > 0)) = true
  ·
   refine aw_condT hc47 rfl ?_
   try show aw _ _ _ _ _ _
   have hc47 := of_decide_eq_true hc47
   refine aw_skip ?_
   try show aw _ _ _ _ _ _
   refine aw_block ?_
   refine aw_seq ?_
   refine aw_reg ?_
   refine st_op (ev_move rfl) rfl rfl rfl ?_
   refine st_op (ev_lenSl rfl Try.underlying29) rfl rfl rfl ?_
   obtain ⟨z48, hz49, hz50⟩ : ∃ z, (if 3000 < (b.length : Int) then 3000 else (b.length : Int)) = z ∧ ((b.length : Int) ≥ z ∧ 3000 ≥ z ∧ (z = (b.length : Int) ∨ z = 3000)) := ⟨_, rfl, by split <;> omega⟩
   refine st_op (ev_minE hz49 rfl rfl) rfl rfl rfl ?_
   refine st_op (ev_assign rfl) rfl rfl rfl ?_
   try show aw _ _ _ _ _ _
   refine aw_seq ?_
   refine aw_reg ?_
   iterate 3 refine st_op (ev_move rfl) rfl rfl rfl ?_
   have hx60 : Ext H17 Hl39 := (Ext.then hx43 hxl45 (fun q hq e => by omega))
   have h59 := Row.ext hr40 hx60
   obtain ⟨A51, c52, L53, hL54, hl55, hs56, hr57, hc58⟩ := sliceA_typed u8c el29 (by decide) h59 hr41 (lo := none) (hi := some (.int .i64 z48)) (l := 0) (h := (z48).toNat) (by rw [Option.isSome_some, if_pos rfl]; exact bound_int (by first | omega | (simp only [List.length_append, List.length_cons, List.length_nil, List.length_map, List.length_set, List.length_replicate, Spec.bytesOf_length]; omega) | (simp; omega)) (by first | omega | (simp only [List.length_append, List.length_cons, List.length_nil, List.length_map, List.length_set, List.length_replicate, Spec.bytesOf_length]; omega) | (simp; omega)) (by first | rfl | omega)) rfl (by first | omega | (simp only [List.length_append, List.length_cons, List.length_nil, List.length_map, List.length_set, List.length_replicate, Spec.bytesOf_length]; omega) | (simp; omega)) (by first | omega | (simp only [List.length_append, List.length_cons, List.length_nil, List.length_map, List.length_set, List.length_replicate, Spec.bytesOf_length]; omega) | (simp; omega))
   have hs61 := hs56
   refine st_op (ev_slice rfl rfl rfl rfl hs56) rfl rfl rfl ?_
   have hv62 := fun H0 k => sliceA_via u8c el29 (by decide) hr41 (lo := none) (hi := some (.int .i64 z48)) (l := 0) (h := (z48).toNat) (by rw [Option.isSome_some, if_pos rfl]; exact bound_int (by first | omega | (simp only [List.length_append, List.length_cons, List.length_nil, List.length_map, List.length_set, List.length_replicate, Spec.bytesOf_length]; omega) | (simp; omega)) (by first | omega | (simp only [List.length_append, List.length_cons, List.length_nil, List.length_map, List.length_set, List.length_replicate, Spec.bytesOf_length]; omega) | (simp; omega)) (by first | rfl | omega)) rfl (by first | omega | (simp only [List.length_append, List.length_cons, List.length_nil, List.length_map, List.length_set, List.length_replicate, Spec.bytesOf_length]; omega) | (simp; omega)) (by first | omega | (simp only [List.length_append, List.length_cons, List.length_nil, List.length_map, List.length_set, List.length_replicate, Spec.bytesOf_length]; omega) | (simp; omega)) hL54 hs61 ((fun (H0 : Heap) (h : Row H0 bA bc 1 (b.map u8c)) => h) H0 k)
   have hL54b : Spec.Bytes L53 := by rw [hL54]; exact Spec.Bytes.take (Spec.Bytes.drop (by assumption) _) _
   refine st_call rfl rfl rfl ent25 rfl rfl rfl ?_
   obtain ⟨_, H64, hs63, A66, c67, hs63v, hm68, hq69, hq70, hx65⟩ := frame_Seal_spec Hl39 8 (by decide) A51 L53 c52 hr57 hc58 (by first | omega | (simp only [List.length_append, List.length_cons, List.length_nil, List.length_map, List.length_set, List.length_replicate, Spec.bytesOf_length]; omega) | (simp; omega)) (by assumption)
   rw [hs63v] at hs63; clear hs63v
   refine ⟨_, H64, hs63, ?_⟩
   have H64n : Hl39.next ≤ H64.next := hx65.1
   have h71 := My.ext hm44 hx65
   obtain ⟨A72, c73, H74, W75, he76, hm77, hf78⟩ := mem_append (f := u8c) (old := out) (new := (Spec.sealF (8 : Int) L53)) (m := out.length) (mx := (Spec.sealF (8 : Int) L53).length) (c := cp) (by first | rfl | simp) (by first | rfl | simp) eok29 (by decide) hm44 h71 (by omega) (((My.row hm68)).srcF (by decide) (by first | rfl | simp)) rfl u8c_len u8c_one (by first | omega | (simp only [List.length_append, List.length_cons, List.length_nil, List.length_map, List.length_set, List.length_replicate, Spec.bytesOf_length]; omega) | (simp; omega)) (by first | omega | (simp only [List.length_append, List.length_cons, List.length_nil, List.length_map, List.length_set, List.length_replicate, Spec.bytesOf_length]; omega) | (simp; omega))
   refine st_op (he76 _ _ _ _ _ _ _ _ _ _ rfl rfl isrow29) rfl rfl rfl ?_
   have H74n : H64.next ≤ H74.next := hf78.1
   refine st_op (ev_assign rfl) rfl rfl rfl ?_
   try show aw _ _ _ _ _ _
   refine aw_reg ?_
   iterate 2 refine st_op (ev_move rfl) rfl rfl rfl ?_
   have hx88 : Ext H17 H74 := (Ext.then (Ext.trans hx60 hx65) hf78 (fun q hq e => by omega))
   have h87 := Row.ext hr40 hx88
   obtain ⟨A79, c80, L81, hL82, hl83, hs84, hr85, hc86⟩ := sliceA_typed u8c el29 (by decide) h87 hr41 (lo := some (.int .i64 z48)) (hi := none) (l := (z48).toNat) (h := b.length) rfl (bound_int (by first | omega | (simp only [List.length_append, List.length_cons, List.length_nil, List.length_map, List.length_set, List.length_replicate, Spec.bytesOf_length]; omega) | (simp; omega)) (by first | omega | (simp only [List.length_append, List.length_cons, List.length_nil, List.length_map, List.length_set, List.length_replicate, Spec.bytesOf_length]; omega) | (simp; omega)) (by first | rfl | omega)) (by first | omega | (simp only [List.length_append, List.length_cons, List.length_nil, List.length_map, List.length_set, List.length_replicate, Spec.bytesOf_length]; omega) | (simp; omega)) (by first | omega | (simp only [List.length_append, List.length_cons, List.length_nil, List.length_map, List.length_set, List.length_replicate, Spec.bytesOf_length]; omega) | (simp; omega))
   have hs89 := hs84
   refine st_op (ev_slice rfl rfl rfl rfl hs84) rfl rfl rfl ?_
   have hv90 := fun H0 k => sliceA_via u8c el29 (by decide) hr41 (lo := some (.int .i64 z48)) (hi := none) (l := (z48).toNat) (h := b.length) rfl (bound_int (by first | omega | (simp only [List.length_append, List.length_cons, List.length_nil, List.length_map, List.length_set, List.length_replicate, Spec.bytesOf_length]; omega) | (simp; omega)) (by first | omega | (simp only [List.length_append, List.length_cons, List.length_nil, List.length_map, List.length_set, List.length_replicate, Spec.bytesOf_length]; omega) | (simp; omega)) (by first | rfl | omega)) (by first | omega | (simp only [List.length_append, List.length_cons, List.length_nil, List.length_map, List.length_set, List.length_replicate, Spec.bytesOf_length]; omega) | (simp; omega)) (by first | omega | (simp only [List.length_append, List.length_cons, List.length_nil, List.length_map, List.length_set, List.length_replicate, Spec.bytesOf_length]; omega) | (simp; omega)) hL82 hs89 ((fun (H0 : Heap) (h : Row H0 bA bc 1 (b.map u8c)) => h) H0 k)
   have hL82b : Spec.Bytes L81 := by rw [hL82]; exact Spec.Bytes.take (Spec.Bytes.drop (by assumption) _) _
   refine st_op (ev_assign rfl) rfl rfl rfl ?_
   try show aw _ _ _ _ _ _
   refine aw_keep [3, 4] (l' := (.cons 3 (.slice A79 L81.length c80) (.cons 4 (.slice A72 ((out ++ (Spec.sealF (8 : Int) L53)).length) c73) .nil))) (by repeat (first | exact Up.done | refine Up.then ?_ | refine Up.inBlock ?_)) rfl ?_
   exact ih46 (A79, c80, L81, A72, c73, (out ++ (Spec.sealF (8 : Int) L53)), H74) ⟨(show Spec.encM (⟨kind, from_, to_, term, index, logterm, commit, yes, es, ⟨s_index, s_term, s_conf, s_data⟩⟩ : Msg) = (out ++ (Spec.sealF (8 : Int) L53)) ++ Spec.flat (Spec.framesK 8 L81) from (by rw [hS]; exact Spec.enc_next (by omega) hz49 hL54 hL82)), (show Spec.Bytes L81 from (by assumption)), (show L81.length ≤ 1800000 from (by omega)), (show (out ++ (Spec.sealF (8 : Int) L53)).length + 8 * L81.length ≤ 30000000 from (by rw [List.length_append]; have := @Spec.sealF_max 8 L53; omega)), (show Row H17 A79 c80 1 (L81.map u8c) from (hv90 _ hr40)), (show L81.length ≤ c80 from hc86), (show My H25 H74 A72 c73 1 ((out ++ (Spec.sealF (8 : Int) L53)).map u8c) from hm77), (show Fr (fun q => (H25.next ≤ q ∧ q < H32.next ∧ ZB H32 q 1)) H32 H74 from (Fr.transG (Fr.trans (Fr.transG (Fr.refl (fun q => (H25.next ≤ q ∧ q < H32.next ∧ ZB H32 q 1)) H32) hxl45 (fun q hq hE e => (⟨by omega, by omega, ZB.back hE e.2.2⟩))) (hx65.fr fun _ => False) (fun q hq (e : False) => e.elim)) hf78 (fun q hq hE e => (⟨by omega, by omega, ZB.back hE e.2.2⟩))))⟩ (by simp only; omega)
  ·
   rw [Bool.not_eq_true] at hc47; refine aw_condF hc47 rfl ?_
   try show aw _ _ _ _ _ _
   have hc47 := of_decide_eq_false hc47
   refine aw_exit ?_
   try show aw _ _ _ _ _ _
   refine aw_seq ?_
   refine aw_reg ?_
   refine st_op (ev_move rfl) rfl rfl rfl ?_
   refine st_op (ev_assign rfl) rfl rfl rfl ?_
   try show aw _ _ _ _ _ _
   refine aw_ret ?_
   have hx91 : Ext H Hl39 := (Ext.then (Ext.trans (Ext.then (Ext.trans (Ext.trans hx6 hx10) hx18) hx26 (fun q hq e => by omega)) hx33) hxl45 (fun q hq e => by omega))
   have hres : (Spec.encM (⟨kind, from_, to_, term, index, logterm, commit, yes, es, ⟨s_index, s_term, s_conf, s_data⟩⟩ : Msg)) = out := by rw [hS, show b = [] from List.eq_nil_of_length_eq_zero (by omega), Spec.framesK_nil]; simp [Spec.flat_nil]
   exact ⟨.slice A out.length cp, rfl, A, cp, by first | (rw [hres]; first | done | rfl | simp; done) | rfl, (by rw [hres]; exact (My.older hm44 (by omega))), (by exact Spec.encM_bytes _), (by exact Spec.encM_len _), (by exact ⟨fun h => absurd h (My.neF hm44 (by have := Spec.encM_pos (m := (⟨kind, from_, to_, term, index, logterm, commit, yes, es, ⟨s_index, s_term, s_conf, s_data⟩⟩ : Msg)) hc11; rw [hres] at this; omega)), fun h => Bool.noConfusion (h.symm.trans hc11)⟩), hx91⟩
theorem bytes_Equal_spec (H : Heap) (uaA : Option Addr) (ua : List Int) (uac : Nat) (hua : Row H uaA uac 1 (ua.map u8c)) (cua : ua.length ≤ uac) (lua : ua.length ≤ 1099511627776) (aua : uaA = none → uac = 0) (bua : Spec.Bytes ua) (vaA : Option Addr) (va : List Int) (vac : Nat) (hva : Row H vaA vac 1 (va.map u8c)) (cva : va.length ≤ vac) (lva : va.length ≤ 1099511627776) (ava : vaA = none → vac = 0) (bva : Spec.Bytes va) : ∃ v H', Spec Try.prog 35 [.slice uaA ua.length uac, .slice vaA va.length vac] H v H' ∧ ((v = .bool (decide (ua = va))) ∧ (Ext H H')) := by
 refine spec_go2 E0_ok 10 (f := 35) Try.func35 rfl rfl rfl ?_
 refine aw_seq ?_
 refine aw_reg ?_
 refine st_op (ev_assign rfl) rfl rfl rfl ?_
 try show aw _ _ _ _ _ _
 refine aw_seq ?_
 refine aw_reg ?_
 refine st_op (ev_move rfl) rfl rfl rfl ?_
 refine st_op (ev_strOf (l := ua) (A := uaA) (c := uac) slu8_29 isstr_9 rfl aua hua) rfl rfl rfl ?_
 refine st_op (ev_move rfl) rfl rfl rfl ?_
 refine st_op (ev_strOf (l := va) (A := vaA) (c := vac) slu8_29 isstr_9 rfl ava hva) rfl rfl rfl ?_
 refine st_op (ev_str rfl rfl rfl) rfl rfl rfl ?_
 refine st_op (ev_assign rfl) rfl rfl rfl ?_
 try show aw _ _ _ _ _ _
 refine aw_ret ?_
 have hres : (decide (ua = va)) = (((strOfNums ua)).toList == ((strOfNums va)).toList) := by exact Spec.equal_is bua bva
 exact ⟨.bool (((strOfNums ua)).toList == ((strOfNums va)).toList), rfl, by first | (rw [hres]; done) | rw [← hres], (Ext.refl H)⟩
theorem msg_Decode_spec (H : Heap) (bA : Option Addr) (b : List Int) (bc : Nat) (hb : Row H bA bc 1 (b.map u8c)) (cb : b.length ≤ bc) (lb : b.length ≤ 1073741824) (ab : bA = none → bc = 0) (bb : Spec.Bytes b) : ∃ v H', Spec Try.prog 13 [.slice bA b.length bc] H v H' ∧ (∃ rA8 rc8, (v = .tuple #[.agg #[.int .i64 ((Spec.decM b).1), .int .i64 ((Spec.decM b).2.1), .int .i64 ((Spec.decM b).2.2.1), .int .i64 ((Spec.decM b).2.2.2.1), .int .i64 ((Spec.decM b).2.2.2.2.1), .int .i64 ((Spec.decM b).2.2.2.2.2.1), .int .i64 ((Spec.decM b).2.2.2.2.2.2.1), .bool ((Spec.decM b).2.2.2.2.2.2.2.1), .slice rA8 (((Spec.decM b).2.2.2.2.2.2.2.2.1).length) rc8, .int .i64 ((Spec.decM b).2.2.2.2.2.2.2.2.2.1), .int .i64 ((Spec.decM b).2.2.2.2.2.2.2.2.2.2.1), .string ((Spec.decM b).2.2.2.2.2.2.2.2.2.2.2.1), .string ((Spec.decM b).2.2.2.2.2.2.2.2.2.2.2.2.1)], .int .i64 ((Spec.decM b).2.2.2.2.2.2.2.2.2.2.2.2.2)]) ∧ (My H H' rA8 rc8 4 (((Spec.decM b).2.2.2.2.2.2.2.2.1).map Entry.cells)) ∧ (0 ≤ ((Spec.decM b)).2.2.2.2.2.2.2.2.2.2.2.2.2 ∧ ((Spec.decM b)).2.2.2.2.2.2.2.2.2.2.2.2.2 ≤ 1) ∧ (((Spec.decM b)).2.2.2.2.2.2.2.2.1.length ≤ 8) ∧ (((Spec.decM b)).2.2.2.2.2.2.2.2.2.2.2.1.size ≤ 1048576) ∧ (((Spec.decM b)).2.2.2.2.2.2.2.2.2.2.2.2.1.size ≤ 1048576) ∧ (Ext H H')) := by
 refine spec_go1 E0_ok 54 (f := 13) Try.func13 rfl rfl rfl ?_
 refine aw_seq ?_
 refine aw_reg ?_
 obtain ⟨b1, H2, he3, b1e, H2n_, hB5, f4⟩ := mem_alloc H zero26
 refine st_op (he3 _ _ _ _ _ _ _) rfl rfl rfl ?_
 have hx6 : Ext H H2 := Ext.new (by omega) H2n_ f4
 have H2n : H.next ≤ H2.next := hx6.1
 refine st_op (ev_assign rfl) rfl rfl rfl ?_
 try show aw _ _ _ _ _ _
 refine aw_seq ?_
 refine aw_reg ?_
 refine st_op (ev_move rfl) rfl rfl rfl ?_
 refine st_call rfl rfl rfl ent33 rfl rfl rfl ?_
 have h7 := Row.ext hb hx6
 obtain ⟨_, H9, hs8, A11, c12, rl14, hs8v, hl15, hm13, hE18, hq16, hq17, hx10⟩ := frame_All_spec H2 bA b bc h7 cb (by omega) (by assumption)
 rw [hs8v] at hs8; clear hs8v
 generalize hR20 : (Spec.allN b) = r19 at hs8 hl15 hm13 hE18 hq16 hq17
 obtain ⟨z21, z22⟩ := r19
 dsimp only at hs8 hl15 hm13 hE18 hq16 hq17
 refine ⟨_, H9, hs8, ?_⟩
 have H9n : H2.next ≤ H9.next := hx10.1
 have hl15n := congrArg List.length hl15; rw [List.length_map] at hl15n
 refine st_op (ev_move rfl) rfl rfl rfl ?_
 iterate 2 refine st_op (ev_extract rfl rfl) rfl rfl rfl ?_
 iterate 2 refine st_op (ev_assign rfl) rfl rfl rfl ?_
 try show aw _ _ _ _ _ _
 refine aw_seq ?_
 refine aw_reg ?_
 refine st_op (ev_assign rfl) rfl rfl rfl ?_
 try show aw _ _ _ _ _ _
 iterate 2 refine aw_seq ?_
 refine aw_reg ?_
 refine st_op (ev_move rfl) rfl rfl rfl ?_
 refine st_op (ev_lenSl rfl Try.underlying60) rfl rfl rfl ?_
 refine st_op (ev_move rfl) rfl rfl rfl ?_
 try show aw _ _ _ _ _ _
 refine aw_block ?_
 have hm24 : My H9 H9 none 0 1 (([] : List Int).map u8c) := .nil
 refine aw_keep [0, 2, 6, 17, 18, 19] (l' := (.cons 0 (.slice bA b.length bc) (.cons 2 (.pointer (some ⟨b1, 0, none⟩)) (.cons 6 (.slice none 0 0) (.cons 17 (.slice A11 rl14.length c12) (.cons 18 (.int .i64 (rl14.length : Int)) (.cons 19 (.int .i64 0) .nil))))))) (by repeat (first | exact Up.done | refine Up.then ?_ | refine Up.inBlock ?_)) rfl ?_
 refine aw_iter (α := Nat × Option Addr × Nat × List Int × Heap) (fun a => rl14.length - a.1) (fun a => (.cons 0 (.slice bA b.length bc) (.cons 2 (.pointer (some ⟨b1, 0, none⟩)) (.cons 6 (.slice a.2.1 a.2.2.2.1.length a.2.2.1) (.cons 17 (.slice A11 rl14.length c12) (.cons 18 (.int .i64 (rl14.length : Int)) (.cons 19 (.int .i64 (a.1 : Int)) .nil))))))) (fun a => a.2.2.2.2) (fun a => (a.1 ≤ rl14.length) ∧ (a.2.2.2.1 = ((((z21).take a.1).drop 1).map (·.2)).flatten) ∧ (Spec.Bytes a.2.2.2.1) ∧ (a.2.2.2.1.length ≤ b.length) ∧ (My H9 a.2.2.2.2 a.2.1 a.2.2.1 1 (a.2.2.2.1.map u8c)) ∧ (Ext H9 a.2.2.2.2)) (0, none, 0, ([] : List Int), H9) ⟨(show 0 ≤ rl14.length from Nat.zero_le _), (show ([] : List Int) = ((((z21).take 0).drop 1).map (·.2)).flatten from (by simp)), (show Spec.Bytes ([] : List Int) from Spec.Bytes.nil), (show ([] : List Int).length ≤ b.length from Nat.zero_le _), (show My H9 H9 none 0 1 (([] : List Int).map u8c) from hm24), (show Ext H9 H9 from (Ext.refl H9))⟩ ?_
 rintro ⟨i, A, cp, all, Hl23⟩ ⟨hi, hall, hby, hal, hm25, hxl26⟩ ih27
 replace hi : i ≤ rl14.length := hi
 replace hall : all = ((((z21).take i).drop 1).map (·.2)).flatten := hall
 replace hby : Spec.Bytes all := hby
 replace hal : all.length ≤ b.length := hal
 replace hm25 : My H9 Hl23 A cp 1 (all.map u8c) := hm25
 replace hxl26 : Ext H9 Hl23 := hxl26
 show aw _ _ _ (RL _ (.cons 0 (.slice bA b.length bc) (.cons 2 (.pointer (some ⟨b1, 0, none⟩)) (.cons 6 (.slice A all.length cp) (.cons 17 (.slice A11 rl14.length c12) (.cons 18 (.int .i64 (rl14.length : Int)) (.cons 19 (.int .i64 (i : Int)) .nil))))))) Hl23 _
 have Hl23n : H9.next ≤ Hl23.next := hxl26.1
 refine aw_seq ?_
 refine aw_reg ?_
 refine st_op (ev_int rfl rfl rfl) rfl rfl rfl ?_
 try show aw _ _ _ _ _ _
 refine aw_seq ?_
 by_cases hc28 : (decide ((i : Int) < (rl14.length : Int))) = true
 ·
  refine aw_condT hc28 rfl ?_
  try show aw _ _ _ _ _ _
  have hc28 := of_decide_eq_true hc28
  refine aw_skip ?_
  try show aw _ _ _ _ _ _
  refine aw_seq ?_
  refine aw_block ?_
  refine aw_seq ?_
  refine aw_reg ?_
  refine st_op (ev_move rfl) rfl rfl rfl ?_
  have h29 := My.ext hm13 hxl26
  have hi30 : 0 ≤ ((i : Int) : Int) := by omega
  have hi31 : ((i : Int) : Int) < ((rl14.length : Nat) : Int) := by omega
  obtain ⟨x32, hx33⟩ : ∃ e, rl14[i]? = some e := ⟨_, List.getElem?_eq_getElem (by omega)⟩
  have h35 := Each.ext hE18 hxl26
  have hm34 : My H2 Hl23 x32.bodyA x32.bodyc 1 (x32.body.map u8c) := Each.get h35 hx33
  have x32y : Spec.Bytes x32.body := Spec.all_bytes hl15 hx33 hq16
  have x32z := Spec.all_one bb hl15 hx33 hR20
  refine st_op (ev_at rfl rfl (My.row h29) (getMap Found.cells hx33) (by first | rfl | omega | simp) hi30 hi31 el60) rfl rfl rfl ?_
  refine st_op (ev_atN (cs := [.int .i64 x32.kind, .slice x32.bodyA x32.body.length x32.bodyc]) rfl (My.row h29) (getMap Found.cells hx33) many64 rfl rfl (by decide)) rfl rfl rfl ?_
  obtain ⟨b36, H37, he38, b36e, H37n_, hB40, f39⟩ := mem_alloc Hl23 zero64
  refine st_op (he38 _ _ _ _ _ _ _) rfl rfl rfl ?_
  have hx41 : Ext Hl23 H37 := Ext.new (by omega) H37n_ f39
  have H37n : Hl23.next ≤ H37.next := hx41.1
  refine st_op (ev_assign rfl) rfl rfl rfl ?_
  obtain ⟨H42, he43, H42n_, hB44, f45⟩ := mem_store (v := .agg #[.int .i64 x32.kind, .slice x32.bodyA x32.body.length x32.bodyc]) (o := 0) (cs' := [.int .i64 x32.kind, .slice x32.bodyA x32.body.length x32.bodyc]) 2 rfl rfl size64 hB40 rfl rfl rfl
  refine st_op0 (he43 _ _ _ _ _ _ _ _ _ rfl rfl) rfl rfl ?_
  have hf46 : Fr (fun q => q = b36) H37 H42 := Fr.write H42n_ f45
  have H42n : H37.next ≤ H42.next := hf46.1
  try show aw _ _ _ _ _ _
  refine aw_seq ?_
  refine aw_reg ?_
  refine st_op (ev_move rfl) rfl rfl rfl ?_
  refine st_op (ev_int rfl rfl rfl) rfl rfl rfl ?_
  try show aw _ _ _ _ _ _
  by_cases hc47 : (decide ((i : Int) > 0)) = true
  ·
   refine aw_condT hc47 rfl ?_
   try show aw _ _ _ _ _ _
   have hc47 := of_decide_eq_true hc47
   refine aw_reg ?_
   refine st_op (ev_move rfl) rfl rfl rfl ?_
   refine st_op (ev_fieldAddr rfl fa64_1 (o' := 1) rfl) rfl rfl rfl ?_
   refine st_op (ev_load rfl (lvar_one one29 hB44 rfl)) rfl rfl rfl ?_
   have hx49 : Ext Hl23 H42 := (Ext.then hx41 hf46 (fun q hq e => by omega))
   have h48 := My.ext hm25 hx49
   have h50 := My.ext hm34 hx49
   obtain ⟨A51, c52, H53, W54, he55, hm56, hf57⟩ := mem_append (f := u8c) (old := all) (new := x32.body) (m := all.length) (mx := x32.body.length) (c := cp) (by first | rfl | simp) (by first | rfl | simp) eok29 (by decide) hm25 h48 (by omega) (((My.row h50)).srcF (by decide) (by first | rfl | simp)) rfl u8c_len u8c_one (by omega) (by omega)
   refine st_op (he55 _ _ _ _ _ _ _ _ _ _ rfl rfl isrow29) rfl rfl rfl ?_
   have H53n : H42.next ≤ H53.next := hf57.1
   refine st_op (ev_assign rfl) rfl rfl rfl ?_
   try show aw _ _ _ _ _ _
   refine aw_reg ?_
   refine st_op (ev_int64 (c := (i : Int) + 1) rfl rfl rfl (by omega) (by omega)) rfl rfl rfl ?_
   refine st_op (ev_move rfl) rfl rfl rfl ?_
   try show aw _ _ _ _ _ _
   have hx58 : Ext H9 H53 := (Ext.then (Ext.then (Ext.trans hxl26 hx41) hf46 (fun q hq e => by omega)) hf57 (fun q hq e => by omega))
   refine aw_keep [0, 2, 6, 17, 18, 19] (l' := (.cons 0 (.slice bA b.length bc) (.cons 2 (.pointer (some ⟨b1, 0, none⟩)) (.cons 6 (.slice A51 ((all ++ x32.body).length) c52) (.cons 17 (.slice A11 rl14.length c12) (.cons 18 (.int .i64 (rl14.length : Int)) (.cons 19 (.int .i64 ((i : Int) + 1)) .nil))))))) (by repeat (first | exact Up.done | refine Up.then ?_ | refine Up.inBlock ?_)) rfl ?_
   exact ih27 (i + 1, A51, c52, (all ++ x32.body), H53) ⟨(show (i + 1) ≤ rl14.length from (by omega)), (show (all ++ x32.body) = ((((z21).take (i + 1)).drop 1).map (·.2)).flatten from (by first | exact Spec.all_next hl15 hx33 (by omega) hall | exact Spec.all_skip hl15 hx33 (by omega) hall)), (show Spec.Bytes (all ++ x32.body) from (by first | assumption | exact Spec.Bytes.append hby (by assumption))), (show (all ++ x32.body).length ≤ b.length from (by first | exact Spec.all_len bb hl15 hx33 (by omega) hall hR20 | assumption)), (show My H9 H53 A51 c52 1 ((all ++ x32.body).map u8c) from hm56), (show Ext H9 H53 from hx58)⟩ (by simp only; omega)
  ·
   rw [Bool.not_eq_true] at hc47; refine aw_condF hc47 rfl ?_
   try show aw _ _ _ _ _ _
   have hc47 := of_decide_eq_false hc47
   refine aw_skip ?_
   try show aw _ _ _ _ _ _
   refine aw_reg ?_
   refine st_op (ev_int64 (c := (i : Int) + 1) rfl rfl rfl (by omega) (by omega)) rfl rfl rfl ?_
   refine st_op (ev_move rfl) rfl rfl rfl ?_
   try show aw _ _ _ _ _ _
   have hx60 : Ext Hl23 H42 := (Ext.then hx41 hf46 (fun q hq e => by omega))
   have h59 := My.ext hm25 hx60
   have hx61 : Ext H9 H42 := (Ext.then (Ext.trans hxl26 hx41) hf46 (fun q hq e => by omega))
   refine aw_keep [0, 2, 6, 17, 18, 19] (l' := (.cons 0 (.slice bA b.length bc) (.cons 2 (.pointer (some ⟨b1, 0, none⟩)) (.cons 6 (.slice A all.length cp) (.cons 17 (.slice A11 rl14.length c12) (.cons 18 (.int .i64 (rl14.length : Int)) (.cons 19 (.int .i64 ((i : Int) + 1)) .nil))))))) (by repeat (first | exact Up.done | refine Up.then ?_ | refine Up.inBlock ?_)) rfl ?_
   exact ih27 (i + 1, A, cp, all, H42) ⟨(show (i + 1) ≤ rl14.length from (by omega)), (show all = ((((z21).take (i + 1)).drop 1).map (·.2)).flatten from (by first | exact Spec.all_next hl15 hx33 (by omega) hall | exact Spec.all_skip hl15 hx33 (by omega) hall)), (show Spec.Bytes all from (by first | assumption | exact Spec.Bytes.append hby (by assumption))), (show all.length ≤ b.length from (by first | exact Spec.all_len bb hl15 hx33 (by omega) hall hR20 | assumption)), (show My H9 H42 A cp 1 (all.map u8c) from h59), (show Ext H9 H42 from hx61)⟩ (by simp only; omega)
 ·
  rw [Bool.not_eq_true] at hc28; refine aw_condF hc28 rfl ?_
  try show aw _ _ _ _ _ _
  have hc28 := of_decide_eq_false hc28
  refine aw_exit ?_
  try show aw _ _ _ _ _ _
  refine aw_seq ?_
  refine aw_reg ?_
  refine st_op (ev_move rfl) rfl rfl rfl ?_
  refine st_op (ev_build zero67 pl67 (parts := [(0, .slice A all.length cp)]) rfl (cs := [.slice A all.length cp, .bool false]) rfl) rfl rfl rfl ?_
  obtain ⟨b62, H63, he64, b62e, H63n_, hB66, f65⟩ := mem_box (P := Try.prog) Hl23 (v := .agg #[.slice A all.length cp, .bool false]) (cs := [.slice A all.length cp, .bool false]) rfl rfl
  refine st_op (he64 _ _ _ _ _ _ _ _ _ rfl) rfl rfl rfl ?_
  have hx67 : Ext Hl23 H63 := Ext.new (by omega) H63n_ f65
  have H63n : Hl23.next ≤ H63.next := hx67.1
  refine st_op (ev_assign rfl) rfl rfl rfl ?_
  try show aw _ _ _ _ _ _
  refine aw_seq ?_
  refine aw_reg ?_
  refine st_op (ev_move rfl) rfl rfl rfl ?_
  refine st_call rfl rfl rfl ent34 rfl rfl rfl ?_
  have h68 := My.ext hm25 hx67
  obtain ⟨_, H70, hs69, A72, c73, A75, c76, hs69v, hm74, hm77, hk81, hB82, hq78, hq79, hq80, hx71⟩ := msg_message_spec H63 A all cp (My.row h68) (My.capF h68 (by omega)) (by omega) (by assumption) false b62 (by omega) hB66
  rw [hs69v] at hs69; clear hs69v
  generalize hR84 : (Spec.readT all false) = r83 at hs69 hm74 hm77 hk81 hB82 hq78 hq79 hq80
  obtain ⟨z85, z86, z87, z88, z89, z90, z91, z92, z93, z94, z95, z96, z97, z98, z99⟩ := r83
  dsimp only at hs69 hm74 hm77 hk81 hB82 hq78 hq79 hq80
  refine ⟨_, H70, hs69, ?_⟩
  have H70n : H63.next ≤ H70.next := hx71.1
  obtain ⟨b100, H101, he102, b100e, H101n_, hB104, f103⟩ := mem_alloc H70 zero26
  refine st_op (he102 _ _ _ _ _ _ _) rfl rfl rfl ?_
  have hx105 : Ext H70 H101 := Ext.new (by omega) H101n_ f103
  have H101n : H70.next ≤ H101.next := hx105.1
  obtain ⟨H106, he107, H106n_, hB108, f109⟩ := mem_store (v := .agg #[.int .i64 z85, .int .i64 z86, .int .i64 z87, .int .i64 z88, .int .i64 z89, .int .i64 z90, .int .i64 z91, .bool z92, .slice A72 z93.length c73, .int .i64 z94, .int .i64 z95, .string z96, .string z97]) (o := 0) (cs' := [.int .i64 z85, .int .i64 z86, .int .i64 z87, .int .i64 z88, .int .i64 z89, .int .i64 z90, .int .i64 z91, .bool z92, .slice A72 z93.length c73, .int .i64 z94, .int .i64 z95, .string z96, .string z97]) 13 rfl rfl size26 hB104 rfl rfl rfl
  refine st_op0 (he107 _ _ _ _ _ _ _ _ _ rfl rfl) rfl rfl ?_
  have hf110 : Fr (fun q => q = b100) H101 H106 := Fr.write H106n_ f109
  have H106n : H101.next ≤ H106.next := hf110.1
  try show aw _ _ _ _ _ _
  iterate 2 refine aw_seq ?_
  refine aw_reg ?_
  refine st_op (ev_load rfl (lvar_part (l := [.int .i64 z85, .int .i64 z86, .int .i64 z87, .int .i64 z88, .int .i64 z89, .int .i64 z90, .int .i64 z91, .bool z92, .slice A72 z93.length c73, .int .i64 z94, .int .i64 z95, .string z96, .string z97]) many26 hB108 rfl rfl (by decide))) rfl rfl rfl ?_
  refine st_call rfl rfl rfl ent11 rfl rfl rfl ?_
  have hx112 : Ext H70 H106 := (Ext.then hx105 hf110 (fun q hq e => by omega))
  have h111 := My.ext hm74 hx112
  obtain ⟨_, H114, hs113, A116, c117, hs113v, hm118, hq119, hq120, hq121, hx115⟩ := msg_Encode_spec H106 z85 z86 z87 z88 z89 z90 z91 z92 A72 z93 c73 (My.row h111) (My.capF h111 (by omega)) (by omega) z94 z95 z96 (by omega) z97 (by omega)
  rw [hs113v] at hs113; clear hs113v
  refine ⟨_, H114, hs113, ?_⟩
  have H114n : H106.next ≤ H114.next := hx115.1
  refine st_op (ev_assign rfl) rfl rfl rfl ?_
  try show aw _ _ _ _ _ _
  refine aw_seq ?_
  refine aw_reg ?_
  refine st_op (ev_move rfl) rfl rfl rfl ?_
  refine st_op (ev_nilCheck rfl) rfl rfl rfl ?_
  refine st_op (ev_fieldAddr rfl fa67_1 (o' := 1) rfl) rfl rfl rfl ?_
  have hx123 : Ext H70 H114 := (Ext.trans hx112 hx115)
  have h122 := Ext.blk hx123 (by omega) hB82
  refine st_op (ev_load rfl (lvar_one one4 h122 rfl)) rfl rfl rfl ?_
  refine st_op (ev_move rfl) rfl rfl rfl ?_
  refine st_bool 42 rfl (fun hb124 => ?_) (fun hb124 => ?_)
  ·
   iterate 2 refine st_skip rfl rfl rfl ?_
   refine st_op (ev_pickT rfl rfl) rfl rfl rfl ?_
   refine st_op (ev_move rfl) rfl rfl rfl ?_
   iterate 4 refine st_skip rfl rfl rfl ?_
   refine st_op (ev_pickT rfl rfl) rfl rfl rfl ?_
   try show aw _ _ _ _ _ _
   refine aw_cond (t := true) rfl ?_
   try show aw _ _ _ _ _ _
   refine aw_seq ?_
   refine aw_reg ?_
   refine st_op (ev_build zero26 pl26 (parts := []) rfl (cs := [.int .i64 0, .int .i64 0, .int .i64 0, .int .i64 0, .int .i64 0, .int .i64 0, .int .i64 0, .bool false, .slice none 0 0, .int .i64 0, .int .i64 0, .string (⟨#[]⟩), .string (⟨#[]⟩)]) rfl) rfl rfl rfl ?_
   have hx126 : Ext H2 H114 := (Ext.trans (Ext.then (Ext.trans (Ext.then (Ext.trans (Ext.trans hx10 hxl26) hx67) hx71 (fun q hq e => by omega)) hx105) hf110 (fun q hq e => by omega)) hx115)
   have h125 := Ext.blk hx126 (by omega) hB5
   obtain ⟨H127, he128, H127n_, hB129, f130⟩ := mem_store (v := .agg #[.int .i64 0, .int .i64 0, .int .i64 0, .int .i64 0, .int .i64 0, .int .i64 0, .int .i64 0, .bool false, .slice none 0 0, .int .i64 0, .int .i64 0, .string (⟨#[]⟩), .string (⟨#[]⟩)]) (o := 0) (cs' := [.int .i64 0, .int .i64 0, .int .i64 0, .int .i64 0, .int .i64 0, .int .i64 0, .int .i64 0, .bool false, .slice none 0 0, .int .i64 0, .int .i64 0, .string (⟨#[]⟩), .string (⟨#[]⟩)]) 13 rfl rfl size26 h125 rfl rfl rfl
   refine st_op0 (he128 _ _ _ _ _ _ _ _ _ rfl rfl) rfl rfl ?_
   have hf131 : Fr (fun q => q = b1) H114 H127 := Fr.write H127n_ f130
   have H127n : H114.next ≤ H127.next := hf131.1
   refine st_op (ev_assign rfl) rfl rfl rfl ?_
   try show aw _ _ _ _ _ _
   refine aw_ret ?_
   have hm132 : My H127 H127 none 0 4 (([] : List Entry).map Entry.cells) := .nil
   have hx133 : Ext H H127 := (Ext.then (Ext.trans (Ext.then (Ext.trans (Ext.then (Ext.trans (Ext.trans (Ext.trans hx6 hx10) hxl26) hx67) hx71 (fun q hq e => by omega)) hx105) hf110 (fun q hq e => by omega)) hx115) hf131 (fun q hq e => by omega))
   have hres : (Spec.decM b) = (0, 0, 0, 0, 0, 0, 0, false, ([] : List Entry), 0, 0, (⟨#[]⟩ : ByteArray), (⟨#[]⟩ : ByteArray), 1) := by have hA : Spec.bodiesF b = all := (by unfold Spec.bodiesF; rw [hR20, hall, List.take_of_length_le (by rw [← hl15, List.length_map]; omega)]); exact Spec.dec_no hA hR84 hq121 (by first | exact .inl (by assumption) | exact .inr (.inl (by assumption)) | exact .inr (.inr (by assumption)))
   exact ⟨.tuple #[.agg #[.int .i64 0, .int .i64 0, .int .i64 0, .int .i64 0, .int .i64 0, .int .i64 0, .int .i64 0, .bool false, .slice none 0 0, .int .i64 0, .int .i64 0, .string (⟨#[]⟩), .string (⟨#[]⟩)], .int .i64 1], (resA_of (resL_cell rfl (lvar_part (l := [.int .i64 0, .int .i64 0, .int .i64 0, .int .i64 0, .int .i64 0, .int .i64 0, .int .i64 0, .bool false, .slice none 0 0, .int .i64 0, .int .i64 0, .string (⟨#[]⟩), .string (⟨#[]⟩)]) many26 hB129 rfl rfl (by decide)) (resL_tmp rfl resL_nil)) rfl), none, 0, by first | (rw [hres]; first | done | rfl | simp; done) | rfl, (by first | exact (My.older hm132 (by omega)) | (rw [hres]; exact (My.older hm132 (by omega)))), (by exact Spec.dec_bd.1), (by exact Spec.dec_bd.2.1), (by exact Spec.dec_bd.2.2.1), (by exact Spec.dec_bd.2.2.2), hx133⟩
  ·
   refine st_op (ev_move rfl) rfl rfl rfl ?_
   refine st_op (ev_nilSl rfl rfl Try.underlying29) rfl rfl rfl ?_
   refine st_op (ev_pickF rfl rfl) rfl rfl rfl ?_
   refine st_op (ev_move rfl) rfl rfl rfl ?_
   refine st_bool 46 rfl (fun hb134 => ?_) (fun hb134 => ?_)
   ·
    iterate 4 refine st_skip rfl rfl rfl ?_
    refine st_op (ev_pickT rfl rfl) rfl rfl rfl ?_
    try show aw _ _ _ _ _ _
    refine aw_cond (t := true) rfl ?_
    try show aw _ _ _ _ _ _
    refine aw_seq ?_
    refine aw_reg ?_
    refine st_op (ev_build zero26 pl26 (parts := []) rfl (cs := [.int .i64 0, .int .i64 0, .int .i64 0, .int .i64 0, .int .i64 0, .int .i64 0, .int .i64 0, .bool false, .slice none 0 0, .int .i64 0, .int .i64 0, .string (⟨#[]⟩), .string (⟨#[]⟩)]) rfl) rfl rfl rfl ?_
    have hx136 : Ext H2 H114 := (Ext.trans (Ext.then (Ext.trans (Ext.then (Ext.trans (Ext.trans hx10 hxl26) hx67) hx71 (fun q hq e => by omega)) hx105) hf110 (fun q hq e => by omega)) hx115)
    have h135 := Ext.blk hx136 (by omega) hB5
    obtain ⟨H137, he138, H137n_, hB139, f140⟩ := mem_store (v := .agg #[.int .i64 0, .int .i64 0, .int .i64 0, .int .i64 0, .int .i64 0, .int .i64 0, .int .i64 0, .bool false, .slice none 0 0, .int .i64 0, .int .i64 0, .string (⟨#[]⟩), .string (⟨#[]⟩)]) (o := 0) (cs' := [.int .i64 0, .int .i64 0, .int .i64 0, .int .i64 0, .int .i64 0, .int .i64 0, .int .i64 0, .bool false, .slice none 0 0, .int .i64 0, .int .i64 0, .string (⟨#[]⟩), .string (⟨#[]⟩)]) 13 rfl rfl size26 h135 rfl rfl rfl
    refine st_op0 (he138 _ _ _ _ _ _ _ _ _ rfl rfl) rfl rfl ?_
    have hf141 : Fr (fun q => q = b1) H114 H137 := Fr.write H137n_ f140
    have H137n : H114.next ≤ H137.next := hf141.1
    refine st_op (ev_assign rfl) rfl rfl rfl ?_
    try show aw _ _ _ _ _ _
    refine aw_ret ?_
    have hm142 : My H137 H137 none 0 4 (([] : List Entry).map Entry.cells) := .nil
    have hx143 : Ext H H137 := (Ext.then (Ext.trans (Ext.then (Ext.trans (Ext.then (Ext.trans (Ext.trans (Ext.trans hx6 hx10) hxl26) hx67) hx71 (fun q hq e => by omega)) hx105) hf110 (fun q hq e => by omega)) hx115) hf141 (fun q hq e => by omega))
    have hres : (Spec.decM b) = (0, 0, 0, 0, 0, 0, 0, false, ([] : List Entry), 0, 0, (⟨#[]⟩ : ByteArray), (⟨#[]⟩ : ByteArray), 1) := by have hA : Spec.bodiesF b = all := (by unfold Spec.bodiesF; rw [hR20, hall, List.take_of_length_le (by rw [← hl15, List.length_map]; omega)]); exact Spec.dec_no hA hR84 hq121 (by first | exact .inl (by assumption) | exact .inr (.inl (by assumption)) | exact .inr (.inr (by assumption)))
    exact ⟨.tuple #[.agg #[.int .i64 0, .int .i64 0, .int .i64 0, .int .i64 0, .int .i64 0, .int .i64 0, .int .i64 0, .bool false, .slice none 0 0, .int .i64 0, .int .i64 0, .string (⟨#[]⟩), .string (⟨#[]⟩)], .int .i64 1], (resA_of (resL_cell rfl (lvar_part (l := [.int .i64 0, .int .i64 0, .int .i64 0, .int .i64 0, .int .i64 0, .int .i64 0, .int .i64 0, .bool false, .slice none 0 0, .int .i64 0, .int .i64 0, .string (⟨#[]⟩), .string (⟨#[]⟩)]) many26 hB139 rfl rfl (by decide)) (resL_tmp rfl resL_nil)) rfl), none, 0, by first | (rw [hres]; first | done | rfl | simp; done) | rfl, (by first | exact (My.older hm142 (by omega)) | (rw [hres]; exact (My.older hm142 (by omega)))), (by exact Spec.dec_bd.1), (by exact Spec.dec_bd.2.1), (by exact Spec.dec_bd.2.2.1), (by exact Spec.dec_bd.2.2.2), hx143⟩
   ·
    iterate 2 refine st_op (ev_move rfl) rfl rfl rfl ?_
    refine st_call rfl rfl rfl ent35 rfl rfl rfl ?_
    have hx145 : Ext H2 H114 := (Ext.trans (Ext.then (Ext.trans (Ext.then (Ext.trans (Ext.trans hx10 hxl26) hx67) hx71 (fun q hq e => by omega)) hx105) hf110 (fun q hq e => by omega)) hx115)
    have h144 := Row.ext h7 hx145
    obtain ⟨_, H147, hs146, hs146v, hx148⟩ := bytes_Equal_spec H114 A116 (Spec.encM (⟨z85, z86, z87, z88, z89, z90, z91, z92, z93, ⟨z94, z95, z96, z97⟩⟩ : Msg)) c117 (My.row hm118) (My.capF hm118 (by first | omega | (simp only [List.length_append, List.length_cons, List.length_nil, List.length_map, List.length_set, List.length_replicate, Spec.bytesOf_length]; omega) | (simp; omega))) (by first | omega | (simp only [List.length_append, List.length_cons, List.length_nil, List.length_map, List.length_set, List.length_replicate, Spec.bytesOf_length]; omega) | (simp; omega)) (My.anil hm118) (Spec.encM_bytes _) bA b bc h144 cb (by first | omega | (simp only [List.length_append, List.length_cons, List.length_nil, List.length_map, List.length_set, List.length_replicate, Spec.bytesOf_length]; omega) | (simp; omega)) ab (by assumption)
    rw [hs146v] at hs146; clear hs146v
    refine ⟨_, H147, hs146, ?_⟩
    have H147n : H114.next ≤ H147.next := hx148.1
    refine st_op (ev_not rfl) rfl rfl rfl ?_
    refine st_op (ev_pickF rfl rfl) rfl rfl rfl ?_
    try show aw _ _ _ _ _ _
    by_cases hc149 : (!(decide ((Spec.encM (⟨z85, z86, z87, z88, z89, z90, z91, z92, z93, ⟨z94, z95, z96, z97⟩⟩ : Msg)) = b))) = true
    ·
     refine aw_condT hc149 rfl ?_
     try show aw _ _ _ _ _ _
     replace hc149 : (decide ((Spec.encM (⟨z85, z86, z87, z88, z89, z90, z91, z92, z93, ⟨z94, z95, z96, z97⟩⟩ : Msg)) = b)) = false := by rw [Bool.not_eq_true'] at hc149; exact hc149
     have hc149 := of_decide_eq_false hc149
     refine aw_seq ?_
     refine aw_reg ?_
     refine st_op (ev_build zero26 pl26 (parts := []) rfl (cs := [.int .i64 0, .int .i64 0, .int .i64 0, .int .i64 0, .int .i64 0, .int .i64 0, .int .i64 0, .bool false, .slice none 0 0, .int .i64 0, .int .i64 0, .string (⟨#[]⟩), .string (⟨#[]⟩)]) rfl) rfl rfl rfl ?_
     have hx151 : Ext H2 H147 := (Ext.trans hx145 hx148)
     have h150 := Ext.blk hx151 (by omega) hB5
     obtain ⟨H152, he153, H152n_, hB154, f155⟩ := mem_store (v := .agg #[.int .i64 0, .int .i64 0, .int .i64 0, .int .i64 0, .int .i64 0, .int .i64 0, .int .i64 0, .bool false, .slice none 0 0, .int .i64 0, .int .i64 0, .string (⟨#[]⟩), .string (⟨#[]⟩)]) (o := 0) (cs' := [.int .i64 0, .int .i64 0, .int .i64 0, .int .i64 0, .int .i64 0, .int .i64 0, .int .i64 0, .bool false, .slice none 0 0, .int .i64 0, .int .i64 0, .string (⟨#[]⟩), .string (⟨#[]⟩)]) 13 rfl rfl size26 h150 rfl rfl rfl
     refine st_op0 (he153 _ _ _ _ _ _ _ _ _ rfl rfl) rfl rfl ?_
     have hf156 : Fr (fun q => q = b1) H147 H152 := Fr.write H152n_ f155
     have H152n : H147.next ≤ H152.next := hf156.1
     refine st_op (ev_assign rfl) rfl rfl rfl ?_
     try show aw _ _ _ _ _ _
     refine aw_ret ?_
     have hm157 : My H152 H152 none 0 4 (([] : List Entry).map Entry.cells) := .nil
     have hx158 : Ext H H152 := (Ext.then (Ext.trans (Ext.trans (Ext.then (Ext.trans (Ext.then (Ext.trans (Ext.trans (Ext.trans hx6 hx10) hxl26) hx67) hx71 (fun q hq e => by omega)) hx105) hf110 (fun q hq e => by omega)) hx115) hx148) hf156 (fun q hq e => by omega))
     have hres : (Spec.decM b) = (0, 0, 0, 0, 0, 0, 0, false, ([] : List Entry), 0, 0, (⟨#[]⟩ : ByteArray), (⟨#[]⟩ : ByteArray), 1) := by have hA : Spec.bodiesF b = all := (by unfold Spec.bodiesF; rw [hR20, hall, List.take_of_length_le (by rw [← hl15, List.length_map]; omega)]); exact Spec.dec_no hA hR84 hq121 (by first | exact .inl (by assumption) | exact .inr (.inl (by assumption)) | exact .inr (.inr (by assumption)))
     exact ⟨.tuple #[.agg #[.int .i64 0, .int .i64 0, .int .i64 0, .int .i64 0, .int .i64 0, .int .i64 0, .int .i64 0, .bool false, .slice none 0 0, .int .i64 0, .int .i64 0, .string (⟨#[]⟩), .string (⟨#[]⟩)], .int .i64 1], (resA_of (resL_cell rfl (lvar_part (l := [.int .i64 0, .int .i64 0, .int .i64 0, .int .i64 0, .int .i64 0, .int .i64 0, .int .i64 0, .bool false, .slice none 0 0, .int .i64 0, .int .i64 0, .string (⟨#[]⟩), .string (⟨#[]⟩)]) many26 hB154 rfl rfl (by decide)) (resL_tmp rfl resL_nil)) rfl), none, 0, by first | (rw [hres]; first | done | rfl | simp; done) | rfl, (by first | exact (My.older hm157 (by omega)) | (rw [hres]; exact (My.older hm157 (by omega)))), (by exact Spec.dec_bd.1), (by exact Spec.dec_bd.2.1), (by exact Spec.dec_bd.2.2.1), (by exact Spec.dec_bd.2.2.2), hx158⟩
    ·
     rw [Bool.not_eq_true] at hc149; refine aw_condF hc149 rfl ?_
     try show aw _ _ _ _ _ _
     replace hc149 : (decide ((Spec.encM (⟨z85, z86, z87, z88, z89, z90, z91, z92, z93, ⟨z94, z95, z96, z97⟩⟩ : Msg)) = b)) = true := by rw [Bool.not_eq_false'] at hc149; exact hc149
     have hc149 := of_decide_eq_true hc149
     refine aw_skip ?_
     try show aw _ _ _ _ _ _
     refine aw_seq ?_
     refine aw_reg ?_
     have hx160 : Ext H106 H147 := (Ext.trans hx115 hx148)
     have h159 := Ext.blk hx160 (by omega) hB108
     refine st_op (ev_load rfl (lvar_part (l := [.int .i64 z85, .int .i64 z86, .int .i64 z87, .int .i64 z88, .int .i64 z89, .int .i64 z90, .int .i64 z91, .bool z92, .slice A72 z93.length c73, .int .i64 z94, .int .i64 z95, .string z96, .string z97]) many26 h159 rfl rfl (by decide))) rfl rfl rfl ?_
     have hx162 : Ext H2 H147 := (Ext.trans hx145 hx148)
     have h161 := Ext.blk hx162 (by omega) hB5
     obtain ⟨H163, he164, H163n_, hB165, f166⟩ := mem_store (v := .agg #[.int .i64 z85, .int .i64 z86, .int .i64 z87, .int .i64 z88, .int .i64 z89, .int .i64 z90, .int .i64 z91, .bool z92, .slice A72 z93.length c73, .int .i64 z94, .int .i64 z95, .string z96, .string z97]) (o := 0) (cs' := [.int .i64 z85, .int .i64 z86, .int .i64 z87, .int .i64 z88, .int .i64 z89, .int .i64 z90, .int .i64 z91, .bool z92, .slice A72 z93.length c73, .int .i64 z94, .int .i64 z95, .string z96, .string z97]) 13 rfl rfl size26 h161 rfl rfl rfl
     refine st_op0 (he164 _ _ _ _ _ _ _ _ _ rfl rfl) rfl rfl ?_
     have hf167 : Fr (fun q => q = b1) H147 H163 := Fr.write H163n_ f166
     have H163n : H147.next ≤ H163.next := hf167.1
     refine st_op (ev_assign rfl) rfl rfl rfl ?_
     try show aw _ _ _ _ _ _
     refine aw_ret ?_
     have h168 := My.ext h111 hx160
     have h169 := My.frS h168 hf167 (fun q hq e => ⟨_, e ▸ h161, show (0 : Nat) ≠ 4 by decide⟩)
     have hx170 : Ext H H163 := (Ext.then (Ext.trans (Ext.trans (Ext.then (Ext.trans (Ext.then (Ext.trans (Ext.trans (Ext.trans hx6 hx10) hxl26) hx67) hx71 (fun q hq e => by omega)) hx105) hf110 (fun q hq e => by omega)) hx115) hx148) hf167 (fun q hq e => by omega))
     have hres : (Spec.decM b) = (z85, z86, z87, z88, z89, z90, z91, z92, z93, z94, z95, z96, z97, 0) := by have hA : Spec.bodiesF b = all := (by unfold Spec.bodiesF; rw [hR20, hall, List.take_of_length_le (by rw [← hl15, List.length_map]; omega)]); exact Spec.dec_ok hA hR84 hq121 (by assumption) (by assumption) (by assumption)
     exact ⟨.tuple #[.agg #[.int .i64 z85, .int .i64 z86, .int .i64 z87, .int .i64 z88, .int .i64 z89, .int .i64 z90, .int .i64 z91, .bool z92, .slice A72 z93.length c73, .int .i64 z94, .int .i64 z95, .string z96, .string z97], .int .i64 0], (resA_of (resL_cell rfl (lvar_part (l := [.int .i64 z85, .int .i64 z86, .int .i64 z87, .int .i64 z88, .int .i64 z89, .int .i64 z90, .int .i64 z91, .bool z92, .slice A72 z93.length c73, .int .i64 z94, .int .i64 z95, .string z96, .string z97]) many26 hB165 rfl rfl (by decide)) (resL_tmp rfl resL_nil)) rfl), A72, c73, by first | (rw [hres]; first | done | rfl | simp; done) | rfl, (by first | exact (My.older h169 (by omega)) | (rw [hres]; exact (My.older h169 (by omega)))), (by exact Spec.dec_bd.1), (by exact Spec.dec_bd.2.1), (by exact Spec.dec_bd.2.2.1), (by exact Spec.dec_bd.2.2.2), hx170⟩
theorem ref17_EqEntry_spec (H : Heap) (a_index : Int) (a_term : Int) (a_kind : Int) (a_data : ByteArray) (b_index : Int) (b_term : Int) (b_kind : Int) (b_data : ByteArray) : ∃ v H', Spec Try.prog 55 [.agg #[.int .i64 a_index, .int .i64 a_term, .int .i64 a_kind, .string a_data], .agg #[.int .i64 b_index, .int .i64 b_term, .int .i64 b_kind, .string b_data]] H v H' ∧ ((v = .bool (decide (a_index = b_index ∧ a_term = b_term ∧ a_kind = b_kind ∧ a_data = b_data))) ∧ (Ext H H')) := by
 refine spec_go2 E0_ok 31 (f := 55) Try.func55 rfl rfl rfl ?_
 refine aw_seq ?_
 refine aw_reg ?_
 obtain ⟨b1, H2, he3, b1e, H2n_, hB5, f4⟩ := mem_box (P := Try.prog) H (v := .agg #[.int .i64 a_index, .int .i64 a_term, .int .i64 a_kind, .string a_data]) (cs := [.int .i64 a_index, .int .i64 a_term, .int .i64 a_kind, .string a_data]) rfl rfl
 refine st_op (he3 _ _ _ _ _ _ _ _ _ rfl) rfl rfl rfl ?_
 have hx6 : Ext H H2 := Ext.new (by omega) H2n_ f4
 have H2n : H.next ≤ H2.next := hx6.1
 obtain ⟨b7, H8, he9, b7e, H8n_, hB11, f10⟩ := mem_box (P := Try.prog) H2 (v := .agg #[.int .i64 b_index, .int .i64 b_term, .int .i64 b_kind, .string b_data]) (cs := [.int .i64 b_index, .int .i64 b_term, .int .i64 b_kind, .string b_data]) rfl rfl
 refine st_op (he9 _ _ _ _ _ _ _ _ _ rfl) rfl rfl rfl ?_
 have hx12 : Ext H2 H8 := Ext.new (by omega) H8n_ f10
 have H8n : H2.next ≤ H8.next := hx12.1
 refine st_op (ev_assign rfl) rfl rfl rfl ?_
 try show aw _ _ _ _ _ _
 refine aw_seq ?_
 refine aw_reg ?_
 refine st_op (ev_fieldAddr rfl fa45_0 (o' := 0) rfl) rfl rfl rfl ?_
 have h13 := Ext.blk hx12 (by omega) hB5
 refine st_op (ev_load rfl (lvar_one one2 h13 rfl)) rfl rfl rfl ?_
 refine st_op (ev_fieldAddr rfl fa45_0 (o' := 0) rfl) rfl rfl rfl ?_
 refine st_op (ev_load rfl (lvar_one one2 hB11 rfl)) rfl rfl rfl ?_
 refine st_op (ev_int rfl rfl rfl) rfl rfl rfl ?_
 refine st_op (ev_move rfl) rfl rfl rfl ?_
 refine st_bool 10 rfl (fun hb14 => ?_) (fun hb14 => ?_)
 ·
  have hb14 := eq_of_beq hb14
  refine st_op (ev_fieldAddr rfl fa45_1 (o' := 1) rfl) rfl rfl rfl ?_
  refine st_op (ev_load rfl (lvar_one one2 h13 rfl)) rfl rfl rfl ?_
  refine st_op (ev_fieldAddr rfl fa45_1 (o' := 1) rfl) rfl rfl rfl ?_
  refine st_op (ev_load rfl (lvar_one one2 hB11 rfl)) rfl rfl rfl ?_
  refine st_op (ev_int rfl rfl rfl) rfl rfl rfl ?_
  refine st_op (ev_pickT rfl rfl) rfl rfl rfl ?_
  refine st_op (ev_move rfl) rfl rfl rfl ?_
  refine st_bool 17 rfl (fun hb15 => ?_) (fun hb15 => ?_)
  ·
   have hb15 := eq_of_beq hb15
   refine st_op (ev_fieldAddr rfl fa45_2 (o' := 2) rfl) rfl rfl rfl ?_
   refine st_op (ev_load rfl (lvar_one one3 h13 rfl)) rfl rfl rfl ?_
   refine st_op (ev_fieldAddr rfl fa45_2 (o' := 2) rfl) rfl rfl rfl ?_
   refine st_op (ev_load rfl (lvar_one one3 hB11 rfl)) rfl rfl rfl ?_
   refine st_op (ev_int rfl rfl rfl) rfl rfl rfl ?_
   refine st_op (ev_pickT rfl rfl) rfl rfl rfl ?_
   refine st_op (ev_move rfl) rfl rfl rfl ?_
   refine st_bool 24 rfl (fun hb16 => ?_) (fun hb16 => ?_)
   ·
    have hb16 := eq_of_beq hb16
    refine st_op (ev_fieldAddr rfl fa45_3 (o' := 3) rfl) rfl rfl rfl ?_
    refine st_op (ev_load rfl (lvar_one one9 h13 rfl)) rfl rfl rfl ?_
    refine st_op (ev_fieldAddr rfl fa45_3 (o' := 3) rfl) rfl rfl rfl ?_
    refine st_op (ev_load rfl (lvar_one one9 hB11 rfl)) rfl rfl rfl ?_
    refine st_op (ev_str rfl rfl rfl) rfl rfl rfl ?_
    refine st_op (ev_pickT rfl rfl) rfl rfl rfl ?_
    refine st_op (ev_assign rfl) rfl rfl rfl ?_
    try show aw _ _ _ _ _ _
    refine aw_ret ?_
    have hx17 : Ext H H8 := (Ext.trans hx6 hx12)
    have hres : (decide (a_index = b_index ∧ a_term = b_term ∧ a_kind = b_kind ∧ a_data = b_data)) = ((a_data).toList == (b_data).toList) := by rw [Bool.eq_iff_iff]; simp_all [Spec.ba_iff]
    exact ⟨.bool ((a_data).toList == (b_data).toList), rfl, by first | (rw [hres]; done) | rw [← hres], hx17⟩
   ·
    have hb16 := ne_of_beq_false hb16
    iterate 5 refine st_skip rfl rfl rfl ?_
    refine st_op (ev_pickF rfl rfl) rfl rfl rfl ?_
    refine st_op (ev_assign rfl) rfl rfl rfl ?_
    try show aw _ _ _ _ _ _
    refine aw_ret ?_
    have hx18 : Ext H H8 := (Ext.trans hx6 hx12)
    have hres : (decide (a_index = b_index ∧ a_term = b_term ∧ a_kind = b_kind ∧ a_data = b_data)) = false := by rw [Bool.eq_iff_iff]; simp_all [Spec.ba_iff]
    exact ⟨.bool false, rfl, by first | (rw [hres]; done) | rw [← hres], hx18⟩
  ·
   have hb15 := ne_of_beq_false hb15
   iterate 5 refine st_skip rfl rfl rfl ?_
   refine st_op (ev_pickF rfl rfl) rfl rfl rfl ?_
   refine st_op (ev_move rfl) rfl rfl rfl ?_
   iterate 5 refine st_skip rfl rfl rfl ?_
   refine st_op (ev_pickF rfl rfl) rfl rfl rfl ?_
   refine st_op (ev_assign rfl) rfl rfl rfl ?_
   try show aw _ _ _ _ _ _
   refine aw_ret ?_
   have hx19 : Ext H H8 := (Ext.trans hx6 hx12)
   have hres : (decide (a_index = b_index ∧ a_term = b_term ∧ a_kind = b_kind ∧ a_data = b_data)) = false := by rw [Bool.eq_iff_iff]; simp_all [Spec.ba_iff]
   exact ⟨.bool false, rfl, by first | (rw [hres]; done) | rw [← hres], hx19⟩
 ·
  have hb14 := ne_of_beq_false hb14
  iterate 5 refine st_skip rfl rfl rfl ?_
  refine st_op (ev_pickF rfl rfl) rfl rfl rfl ?_
  refine st_op (ev_move rfl) rfl rfl rfl ?_
  iterate 5 refine st_skip rfl rfl rfl ?_
  refine st_op (ev_pickF rfl rfl) rfl rfl rfl ?_
  refine st_op (ev_move rfl) rfl rfl rfl ?_
  iterate 5 refine st_skip rfl rfl rfl ?_
  refine st_op (ev_pickF rfl rfl) rfl rfl rfl ?_
  refine st_op (ev_assign rfl) rfl rfl rfl ?_
  try show aw _ _ _ _ _ _
  refine aw_ret ?_
  have hx20 : Ext H H8 := (Ext.trans hx6 hx12)
  have hres : (decide (a_index = b_index ∧ a_term = b_term ∧ a_kind = b_kind ∧ a_data = b_data)) = false := by rw [Bool.eq_iff_iff]; simp_all [Spec.ba_iff]
  exact ⟨.bool false, rfl, by first | (rw [hres]; done) | rw [← hres], hx20⟩
theorem ref17_EqEntries_spec (H : Heap) (uaA : Option Addr) (ua : List Entry) (uac : Nat) (hua : Row H uaA uac 4 (ua.map Entry.cells)) (cua : ua.length ≤ uac) (lua : ua.length ≤ 140737488355328) (vaA : Option Addr) (va : List Entry) (vac : Nat) (hva : Row H vaA vac 4 (va.map Entry.cells)) (cva : va.length ≤ vac) (lva : va.length ≤ 140737488355328) : ∃ v H', Spec Try.prog 36 [.slice uaA ua.length uac, .slice vaA va.length vac] H v H' ∧ ((v = .bool (Spec.eqEs ua va)) ∧ (Ext H H')) := by
 refine spec_go2 E0_ok 27 (f := 36) Try.func36 rfl rfl rfl ?_
 refine aw_seq ?_
 refine aw_reg ?_
 refine st_op (ev_assign rfl) rfl rfl rfl ?_
 try show aw _ _ _ _ _ _
 iterate 2 refine aw_seq ?_
 refine aw_reg ?_
 refine st_op (ev_move rfl) rfl rfl rfl ?_
 refine st_op (ev_lenSl rfl Try.underlying22) rfl rfl rfl ?_
 refine st_op (ev_move rfl) rfl rfl rfl ?_
 refine st_op (ev_lenSl rfl Try.underlying22) rfl rfl rfl ?_
 refine st_op (ev_int rfl rfl rfl) rfl rfl rfl ?_
 try show aw _ _ _ _ _ _
 by_cases hc1 : ((ua.length : Int) != (va.length : Int)) = true
 ·
  refine aw_condT hc1 rfl ?_
  try show aw _ _ _ _ _ _
  have hc1 : ¬ ((ua.length : Int) = (va.length : Int)) := by simpa using hc1
  refine aw_seq ?_
  refine aw_reg ?_
  refine st_op (ev_assign rfl) rfl rfl rfl ?_
  try show aw _ _ _ _ _ _
  refine aw_ret ?_
  have hres : (Spec.eqEs ua va) = false := by exact Spec.eqEs_len (by omega)
  exact ⟨.bool false, rfl, by first | (rw [hres]; done) | rw [← hres], (Ext.refl H)⟩
 ·
  rw [Bool.not_eq_true] at hc1; refine aw_condF hc1 rfl ?_
  try show aw _ _ _ _ _ _
  have hc1 : ((ua.length : Int) = (va.length : Int)) := by simpa using hc1
  refine aw_skip ?_
  try show aw _ _ _ _ _ _
  iterate 2 refine aw_seq ?_
  refine aw_reg ?_
  refine st_op (ev_assign rfl) rfl rfl rfl ?_
  try show aw _ _ _ _ _ _
  refine aw_block ?_
  refine aw_keep [0, 1, 5] (l' := (.cons 0 (.slice uaA ua.length uac) (.cons 1 (.slice vaA va.length vac) (.cons 5 (.int .i64 0) .nil)))) (by repeat (first | exact Up.done | refine Up.then ?_ | refine Up.inBlock ?_)) rfl ?_
  refine aw_iter (α := Nat × Heap) (fun a => ua.length - a.1) (fun a => (.cons 0 (.slice uaA ua.length uac) (.cons 1 (.slice vaA va.length vac) (.cons 5 (.int .i64 (a.1 : Int)) .nil)))) (fun a => a.2) (fun a => (a.1 ≤ ua.length) ∧ (Spec.eqEs ua va = Spec.eqEs (ua.drop a.1) (va.drop a.1)) ∧ (Ext H a.2)) (0, H) ⟨(show 0 ≤ ua.length from Nat.zero_le _), (show Spec.eqEs ua va = Spec.eqEs (ua.drop 0) (va.drop 0) from rfl), (show Ext H H from (Ext.refl H))⟩ ?_
  rintro ⟨i, Hl2⟩ ⟨hi, hv, hxl3⟩ ih4
  replace hi : i ≤ ua.length := hi
  replace hv : Spec.eqEs ua va = Spec.eqEs (ua.drop i) (va.drop i) := hv
  replace hxl3 : Ext H Hl2 := hxl3
  show aw _ _ _ (RL _ (.cons 0 (.slice uaA ua.length uac) (.cons 1 (.slice vaA va.length vac) (.cons 5 (.int .i64 (i : Int)) .nil)))) Hl2 _
  have Hl2n : H.next ≤ Hl2.next := hxl3.1
  iterate 2 refine aw_seq ?_
  refine aw_reg ?_
  iterate 2 refine st_op (ev_move rfl) rfl rfl rfl ?_
  refine st_op (ev_lenSl rfl Try.underlying22) rfl rfl rfl ?_
  refine st_op (ev_int rfl rfl rfl) rfl rfl rfl ?_
  try show aw _ _ _ _ _ _
  by_cases hc5 : (decide ((i : Int) < (ua.length : Int))) = true
  ·
   refine aw_condT hc5 rfl ?_
   try show aw _ _ _ _ _ _
   have hc5 := of_decide_eq_true hc5
   refine aw_skip ?_
   try show aw _ _ _ _ _ _
   refine aw_seq ?_
   refine aw_block ?_
   refine aw_seq ?_
   refine aw_marks (fun b => b < Hl2.next) [(false, false), (false, false), (false, false), (false, false), (false, false), (false, false), (false, false), (false, false), (false, false), (false, false)] mixed (by kernel_rfl) (by kernel_rfl) ?_
   iterate 2 refine sm_op (ev_move rfl) rfl rfl rfl ?_
   have h6 := Row.ext hua hxl3
   have hi7 : 0 ≤ ((i : Int) : Int) := by omega
   have hi8 : ((i : Int) : Int) < ((ua.length : Nat) : Int) := by omega
   obtain ⟨x9, hx10⟩ : ∃ e, ua[i]? = some e := ⟨_, List.getElem?_eq_getElem (by omega)⟩
   refine sm_op (ev_at rfl rfl h6 (getMap Entry.cells hx10) (by first | rfl | omega | simp) hi7 hi8 el22) rfl rfl rfl ?_
   refine sm_op (ev_atN (cs := [.int .i64 x9.index, .int .i64 x9.term, .int .i64 x9.kind, .string x9.data]) rfl h6 (getMap Entry.cells hx10) many45 rfl rfl (by decide)) rfl rfl rfl ?_
   iterate 2 refine sm_op (ev_move rfl) rfl rfl rfl ?_
   have h11 := Row.ext hva hxl3
   have hi12 : 0 ≤ ((i : Int) : Int) := by omega
   have hi13 : ((i : Int) : Int) < ((va.length : Nat) : Int) := by omega
   obtain ⟨x14, hx15⟩ : ∃ e, va[i]? = some e := ⟨_, List.getElem?_eq_getElem (by omega)⟩
   refine sm_op (ev_at rfl rfl h11 (getMap Entry.cells hx15) (by first | rfl | omega | simp) hi12 hi13 el22) rfl rfl rfl ?_
   refine sm_op (ev_atN (cs := [.int .i64 x14.index, .int .i64 x14.term, .int .i64 x14.kind, .string x14.data]) rfl h11 (getMap Entry.cells hx15) many45 rfl rfl (by decide)) rfl rfl rfl ?_
   refine sm_call rfl rfl rfl ent55 rfl rfl rfl ?_
   obtain ⟨_, H17, hs16, hs16v, hx18⟩ := ref17_EqEntry_spec Hl2 x9.index x9.term x9.kind x9.data x14.index x14.term x14.kind x14.data
   rw [hs16v] at hs16; clear hs16v
   refine ⟨_, H17, hs16, (fun _ b hb => hx18.2 b (by omega)), ?_⟩
   have H17n : Hl2.next ≤ H17.next := hx18.1
   refine sm_op (ev_not rfl) rfl rfl rfl ?_
   try show aw _ _ _ _ _ _
   by_cases hc19 : (!(decide (x9.index = x14.index ∧ x9.term = x14.term ∧ x9.kind = x14.kind ∧ x9.data = x14.data))) = true
   ·
    refine aw_condT hc19 rfl ?_
    try show aw _ _ _ _ _ _
    replace hc19 : (decide (x9.index = x14.index ∧ x9.term = x14.term ∧ x9.kind = x14.kind ∧ x9.data = x14.data)) = false := by rw [Bool.not_eq_true'] at hc19; exact hc19
    have hc19 := of_decide_eq_false hc19
    refine aw_seq ?_
    refine aw_reg ?_
    refine st_op (ev_assign rfl) rfl rfl rfl ?_
    try show aw _ _ _ _ _ _
    refine aw_ret ?_
    have hx20 : Ext H H17 := (Ext.trans hxl3 hx18)
    have hres : (Spec.eqEs ua va) = false := by rw [hv]; exact Spec.eqEs_fail hx10 hx15 (by assumption)
    exact ⟨.bool false, rfl, by first | (rw [hres]; done) | rw [← hres], hx20⟩
   ·
    rw [Bool.not_eq_true] at hc19; refine aw_condF hc19 rfl ?_
    try show aw _ _ _ _ _ _
    replace hc19 : (decide (x9.index = x14.index ∧ x9.term = x14.term ∧ x9.kind = x14.kind ∧ x9.data = x14.data)) = true := by rw [Bool.not_eq_false'] at hc19; exact hc19
    have hc19 := of_decide_eq_true hc19
    refine aw_skip ?_
    try show aw _ _ _ _ _ _
    refine aw_reg ?_
    refine st_op (ev_move rfl) rfl rfl rfl ?_
    refine st_op (ev_int64 (c := (i : Int) + 1) rfl rfl rfl (by omega) (by omega)) rfl rfl rfl ?_
    refine st_op (ev_assign rfl) rfl rfl rfl ?_
    try show aw _ _ _ _ _ _
    have hx21 : Ext H H17 := (Ext.trans hxl3 hx18)
    refine aw_keep [0, 1, 5] (l' := (.cons 0 (.slice uaA ua.length uac) (.cons 1 (.slice vaA va.length vac) (.cons 5 (.int .i64 ((i : Int) + 1)) .nil)))) (by repeat (first | exact Up.done | refine Up.then ?_ | refine Up.inBlock ?_)) rfl ?_
    exact ih4 (i + 1, H17) ⟨(show (i + 1) ≤ ua.length from (by omega)), (show Spec.eqEs ua va = Spec.eqEs (ua.drop (i + 1)) (va.drop (i + 1)) from (by rw [hv]; exact Spec.eqEs_step hx10 hx15 (by assumption))), (show Ext H H17 from hx21)⟩ (by simp only; omega)
  ·
   rw [Bool.not_eq_true] at hc5; refine aw_condF hc5 rfl ?_
   try show aw _ _ _ _ _ _
   have hc5 := of_decide_eq_false hc5
   refine aw_exit ?_
   try show aw _ _ _ _ _ _
   refine aw_seq ?_
   refine aw_reg ?_
   refine st_op (ev_assign rfl) rfl rfl rfl ?_
   try show aw _ _ _ _ _ _
   refine aw_ret ?_
   have hres : (Spec.eqEs ua va) = true := by rw [hv, List.drop_eq_nil_of_le (by omega), List.drop_eq_nil_of_le (by omega)]; rfl
   exact ⟨.bool true, rfl, by first | (rw [hres]; done) | rw [← hres], hxl3⟩
theorem ref17_EqSnap_spec (H : Heap) (a_index : Int) (a_term : Int) (a_conf : ByteArray) (a_data : ByteArray) (b_index : Int) (b_term : Int) (b_conf : ByteArray) (b_data : ByteArray) : ∃ v H', Spec Try.prog 30 [.agg #[.int .i64 a_index, .int .i64 a_term, .string a_conf, .string a_data], .agg #[.int .i64 b_index, .int .i64 b_term, .string b_conf, .string b_data]] H v H' ∧ ((v = .bool (Spec.eqSn a_index a_term a_conf a_data b_index b_term b_conf b_data)) ∧ (Ext H H')) := by
 refine spec_go2 E0_ok 31 (f := 30) Try.func30 rfl rfl rfl ?_
 refine aw_seq ?_
 refine aw_reg ?_
 obtain ⟨b1, H2, he3, b1e, H2n_, hB5, f4⟩ := mem_box (P := Try.prog) H (v := .agg #[.int .i64 a_index, .int .i64 a_term, .string a_conf, .string a_data]) (cs := [.int .i64 a_index, .int .i64 a_term, .string a_conf, .string a_data]) rfl rfl
 refine st_op (he3 _ _ _ _ _ _ _ _ _ rfl) rfl rfl rfl ?_
 have hx6 : Ext H H2 := Ext.new (by omega) H2n_ f4
 have H2n : H.next ≤ H2.next := hx6.1
 obtain ⟨b7, H8, he9, b7e, H8n_, hB11, f10⟩ := mem_box (P := Try.prog) H2 (v := .agg #[.int .i64 b_index, .int .i64 b_term, .string b_conf, .string b_data]) (cs := [.int .i64 b_index, .int .i64 b_term, .string b_conf, .string b_data]) rfl rfl
 refine st_op (he9 _ _ _ _ _ _ _ _ _ rfl) rfl rfl rfl ?_
 have hx12 : Ext H2 H8 := Ext.new (by omega) H8n_ f10
 have H8n : H2.next ≤ H8.next := hx12.1
 refine st_op (ev_assign rfl) rfl rfl rfl ?_
 try show aw _ _ _ _ _ _
 refine aw_seq ?_
 refine aw_reg ?_
 refine st_op (ev_fieldAddr rfl fa24_0 (o' := 0) rfl) rfl rfl rfl ?_
 have h13 := Ext.blk hx12 (by omega) hB5
 refine st_op (ev_load rfl (lvar_one one2 h13 rfl)) rfl rfl rfl ?_
 refine st_op (ev_fieldAddr rfl fa24_0 (o' := 0) rfl) rfl rfl rfl ?_
 refine st_op (ev_load rfl (lvar_one one2 hB11 rfl)) rfl rfl rfl ?_
 refine st_op (ev_int rfl rfl rfl) rfl rfl rfl ?_
 refine st_op (ev_move rfl) rfl rfl rfl ?_
 refine st_bool 10 rfl (fun hb14 => ?_) (fun hb14 => ?_)
 ·
  have hb14 := eq_of_beq hb14
  refine st_op (ev_fieldAddr rfl fa24_1 (o' := 1) rfl) rfl rfl rfl ?_
  refine st_op (ev_load rfl (lvar_one one2 h13 rfl)) rfl rfl rfl ?_
  refine st_op (ev_fieldAddr rfl fa24_1 (o' := 1) rfl) rfl rfl rfl ?_
  refine st_op (ev_load rfl (lvar_one one2 hB11 rfl)) rfl rfl rfl ?_
  refine st_op (ev_int rfl rfl rfl) rfl rfl rfl ?_
  refine st_op (ev_pickT rfl rfl) rfl rfl rfl ?_
  refine st_op (ev_move rfl) rfl rfl rfl ?_
  refine st_bool 17 rfl (fun hb15 => ?_) (fun hb15 => ?_)
  ·
   have hb15 := eq_of_beq hb15
   refine st_op (ev_fieldAddr rfl fa24_2 (o' := 2) rfl) rfl rfl rfl ?_
   refine st_op (ev_load rfl (lvar_one one9 h13 rfl)) rfl rfl rfl ?_
   refine st_op (ev_fieldAddr rfl fa24_2 (o' := 2) rfl) rfl rfl rfl ?_
   refine st_op (ev_load rfl (lvar_one one9 hB11 rfl)) rfl rfl rfl ?_
   refine st_op (ev_str rfl rfl rfl) rfl rfl rfl ?_
   refine st_op (ev_pickT rfl rfl) rfl rfl rfl ?_
   refine st_op (ev_move rfl) rfl rfl rfl ?_
   refine st_bool 24 rfl (fun hb16 => ?_) (fun hb16 => ?_)
   ·
    have hb16 := eq_of_beq hb16
    refine st_op (ev_fieldAddr rfl fa24_3 (o' := 3) rfl) rfl rfl rfl ?_
    refine st_op (ev_load rfl (lvar_one one9 h13 rfl)) rfl rfl rfl ?_
    refine st_op (ev_fieldAddr rfl fa24_3 (o' := 3) rfl) rfl rfl rfl ?_
    refine st_op (ev_load rfl (lvar_one one9 hB11 rfl)) rfl rfl rfl ?_
    refine st_op (ev_str rfl rfl rfl) rfl rfl rfl ?_
    refine st_op (ev_pickT rfl rfl) rfl rfl rfl ?_
    refine st_op (ev_assign rfl) rfl rfl rfl ?_
    try show aw _ _ _ _ _ _
    refine aw_ret ?_
    have hx17 : Ext H H8 := (Ext.trans hx6 hx12)
    have hres : (Spec.eqSn a_index a_term a_conf a_data b_index b_term b_conf b_data) = ((a_data).toList == (b_data).toList) := by simp only [Spec.eqSn]; simp_all
    exact ⟨.bool ((a_data).toList == (b_data).toList), rfl, by first | (rw [hres]; done) | rw [← hres], hx17⟩
   ·
    have hb16 := ne_of_beq_false hb16
    iterate 5 refine st_skip rfl rfl rfl ?_
    refine st_op (ev_pickF rfl rfl) rfl rfl rfl ?_
    refine st_op (ev_assign rfl) rfl rfl rfl ?_
    try show aw _ _ _ _ _ _
    refine aw_ret ?_
    have hx18 : Ext H H8 := (Ext.trans hx6 hx12)
    have hres : (Spec.eqSn a_index a_term a_conf a_data b_index b_term b_conf b_data) = false := by simp only [Spec.eqSn]; simp_all
    exact ⟨.bool false, rfl, by first | (rw [hres]; done) | rw [← hres], hx18⟩
  ·
   have hb15 := ne_of_beq_false hb15
   iterate 5 refine st_skip rfl rfl rfl ?_
   refine st_op (ev_pickF rfl rfl) rfl rfl rfl ?_
   refine st_op (ev_move rfl) rfl rfl rfl ?_
   iterate 5 refine st_skip rfl rfl rfl ?_
   refine st_op (ev_pickF rfl rfl) rfl rfl rfl ?_
   refine st_op (ev_assign rfl) rfl rfl rfl ?_
   try show aw _ _ _ _ _ _
   refine aw_ret ?_
   have hx19 : Ext H H8 := (Ext.trans hx6 hx12)
   have hres : (Spec.eqSn a_index a_term a_conf a_data b_index b_term b_conf b_data) = false := by simp only [Spec.eqSn]; simp_all
   exact ⟨.bool false, rfl, by first | (rw [hres]; done) | rw [← hres], hx19⟩
 ·
  have hb14 := ne_of_beq_false hb14
  iterate 5 refine st_skip rfl rfl rfl ?_
  refine st_op (ev_pickF rfl rfl) rfl rfl rfl ?_
  refine st_op (ev_move rfl) rfl rfl rfl ?_
  iterate 5 refine st_skip rfl rfl rfl ?_
  refine st_op (ev_pickF rfl rfl) rfl rfl rfl ?_
  refine st_op (ev_move rfl) rfl rfl rfl ?_
  iterate 5 refine st_skip rfl rfl rfl ?_
  refine st_op (ev_pickF rfl rfl) rfl rfl rfl ?_
  refine st_op (ev_assign rfl) rfl rfl rfl ?_
  try show aw _ _ _ _ _ _
  refine aw_ret ?_
  have hx20 : Ext H H8 := (Ext.trans hx6 hx12)
  have hres : (Spec.eqSn a_index a_term a_conf a_data b_index b_term b_conf b_data) = false := by simp only [Spec.eqSn]; simp_all
  exact ⟨.bool false, rfl, by first | (rw [hres]; done) | rw [← hres], hx20⟩
theorem law24_EqMsg_spec (H : Heap) (a_kind : Int) (a_from_ : Int) (a_to_ : Int) (a_term : Int) (a_index : Int) (a_logterm : Int) (a_commit : Int) (a_yes : Bool) (a_esA : Option Addr) (a_es : List Entry) (a_esc : Nat) (ha_es : Row H a_esA a_esc 4 (a_es.map Entry.cells)) (ca_es : a_es.length ≤ a_esc) (la_es : a_es.length ≤ 140737488355328) (a_s_index : Int) (a_s_term : Int) (a_s_conf : ByteArray) (a_s_data : ByteArray) (b_kind : Int) (b_from_ : Int) (b_to_ : Int) (b_term : Int) (b_index : Int) (b_logterm : Int) (b_commit : Int) (b_yes : Bool) (b_esA : Option Addr) (b_es : List Entry) (b_esc : Nat) (hb_es : Row H b_esA b_esc 4 (b_es.map Entry.cells)) (cb_es : b_es.length ≤ b_esc) (lb_es : b_es.length ≤ 140737488355328) (b_s_index : Int) (b_s_term : Int) (b_s_conf : ByteArray) (b_s_data : ByteArray) : ∃ v H', Spec Try.prog 14 [.agg #[.int .i64 a_kind, .int .i64 a_from_, .int .i64 a_to_, .int .i64 a_term, .int .i64 a_index, .int .i64 a_logterm, .int .i64 a_commit, .bool a_yes, .slice a_esA a_es.length a_esc, .int .i64 a_s_index, .int .i64 a_s_term, .string a_s_conf, .string a_s_data], .agg #[.int .i64 b_kind, .int .i64 b_from_, .int .i64 b_to_, .int .i64 b_term, .int .i64 b_index, .int .i64 b_logterm, .int .i64 b_commit, .bool b_yes, .slice b_esA b_es.length b_esc, .int .i64 b_s_index, .int .i64 b_s_term, .string b_s_conf, .string b_s_data]] H v H' ∧ ((v = .bool (decide (a_kind = b_kind ∧ a_from_ = b_from_ ∧ a_to_ = b_to_ ∧ a_term = b_term ∧ a_index = b_index ∧ a_logterm = b_logterm ∧ a_commit = b_commit ∧ a_yes = b_yes ∧ Spec.eqEs a_es b_es = true ∧ Spec.eqSn a_s_index a_s_term a_s_conf a_s_data b_s_index b_s_term b_s_conf b_s_data = true))) ∧ (Ext H H')) := by
 refine spec_go2 E0_ok 73 (f := 14) Try.func14 rfl rfl rfl ?_
 refine aw_seq ?_
 refine aw_reg ?_
 obtain ⟨b1, H2, he3, b1e, H2n_, hB5, f4⟩ := mem_box (P := Try.prog) H (v := .agg #[.int .i64 a_kind, .int .i64 a_from_, .int .i64 a_to_, .int .i64 a_term, .int .i64 a_index, .int .i64 a_logterm, .int .i64 a_commit, .bool a_yes, .slice a_esA a_es.length a_esc, .int .i64 a_s_index, .int .i64 a_s_term, .string a_s_conf, .string a_s_data]) (cs := [.int .i64 a_kind, .int .i64 a_from_, .int .i64 a_to_, .int .i64 a_term, .int .i64 a_index, .int .i64 a_logterm, .int .i64 a_commit, .bool a_yes, .slice a_esA a_es.length a_esc, .int .i64 a_s_index, .int .i64 a_s_term, .string a_s_conf, .string a_s_data]) rfl rfl
 refine st_op (he3 _ _ _ _ _ _ _ _ _ rfl) rfl rfl rfl ?_
 have hx6 : Ext H H2 := Ext.new (by omega) H2n_ f4
 have H2n : H.next ≤ H2.next := hx6.1
 obtain ⟨b7, H8, he9, b7e, H8n_, hB11, f10⟩ := mem_box (P := Try.prog) H2 (v := .agg #[.int .i64 b_kind, .int .i64 b_from_, .int .i64 b_to_, .int .i64 b_term, .int .i64 b_index, .int .i64 b_logterm, .int .i64 b_commit, .bool b_yes, .slice b_esA b_es.length b_esc, .int .i64 b_s_index, .int .i64 b_s_term, .string b_s_conf, .string b_s_data]) (cs := [.int .i64 b_kind, .int .i64 b_from_, .int .i64 b_to_, .int .i64 b_term, .int .i64 b_index, .int .i64 b_logterm, .int .i64 b_commit, .bool b_yes, .slice b_esA b_es.length b_esc, .int .i64 b_s_index, .int .i64 b_s_term, .string b_s_conf, .string b_s_data]) rfl rfl
 refine st_op (he9 _ _ _ _ _ _ _ _ _ rfl) rfl rfl rfl ?_
 have hx12 : Ext H2 H8 := Ext.new (by omega) H8n_ f10
 have H8n : H2.next ≤ H8.next := hx12.1
 refine st_op (ev_assign rfl) rfl rfl rfl ?_
 try show aw _ _ _ _ _ _
 refine aw_seq ?_
 refine aw_reg ?_
 refine st_op (ev_fieldAddr rfl fa26_0 (o' := 0) rfl) rfl rfl rfl ?_
 have h13 := Ext.blk hx12 (by omega) hB5
 refine st_op (ev_load rfl (lvar_one one3 h13 rfl)) rfl rfl rfl ?_
 refine st_op (ev_fieldAddr rfl fa26_0 (o' := 0) rfl) rfl rfl rfl ?_
 refine st_op (ev_load rfl (lvar_one one3 hB11 rfl)) rfl rfl rfl ?_
 refine st_op (ev_int rfl rfl rfl) rfl rfl rfl ?_
 refine st_op (ev_move rfl) rfl rfl rfl ?_
 refine st_bool 10 rfl (fun hb14 => ?_) (fun hb14 => ?_)
 ·
  have hb14 := eq_of_beq hb14
  refine st_op (ev_fieldAddr rfl fa26_1 (o' := 1) rfl) rfl rfl rfl ?_
  refine st_op (ev_load rfl (lvar_one one3 h13 rfl)) rfl rfl rfl ?_
  refine st_op (ev_fieldAddr rfl fa26_1 (o' := 1) rfl) rfl rfl rfl ?_
  refine st_op (ev_load rfl (lvar_one one3 hB11 rfl)) rfl rfl rfl ?_
  refine st_op (ev_int rfl rfl rfl) rfl rfl rfl ?_
  refine st_op (ev_pickT rfl rfl) rfl rfl rfl ?_
  refine st_op (ev_move rfl) rfl rfl rfl ?_
  refine st_bool 17 rfl (fun hb15 => ?_) (fun hb15 => ?_)
  ·
   have hb15 := eq_of_beq hb15
   refine st_op (ev_fieldAddr rfl fa26_2 (o' := 2) rfl) rfl rfl rfl ?_
   refine st_op (ev_load rfl (lvar_one one3 h13 rfl)) rfl rfl rfl ?_
   refine st_op (ev_fieldAddr rfl fa26_2 (o' := 2) rfl) rfl rfl rfl ?_
   refine st_op (ev_load rfl (lvar_one one3 hB11 rfl)) rfl rfl rfl ?_
   refine st_op (ev_int rfl rfl rfl) rfl rfl rfl ?_
   refine st_op (ev_pickT rfl rfl) rfl rfl rfl ?_
   refine st_op (ev_move rfl) rfl rfl rfl ?_
   refine st_bool 24 rfl (fun hb16 => ?_) (fun hb16 => ?_)
   ·
    have hb16 := eq_of_beq hb16
    refine st_op (ev_fieldAddr rfl fa26_3 (o' := 3) rfl) rfl rfl rfl ?_
    refine st_op (ev_load rfl (lvar_one one2 h13 rfl)) rfl rfl rfl ?_
    refine st_op (ev_fieldAddr rfl fa26_3 (o' := 3) rfl) rfl rfl rfl ?_
    refine st_op (ev_load rfl (lvar_one one2 hB11 rfl)) rfl rfl rfl ?_
    refine st_op (ev_int rfl rfl rfl) rfl rfl rfl ?_
    refine st_op (ev_pickT rfl rfl) rfl rfl rfl ?_
    refine st_op (ev_move rfl) rfl rfl rfl ?_
    refine st_bool 31 rfl (fun hb17 => ?_) (fun hb17 => ?_)
    ·
     have hb17 := eq_of_beq hb17
     refine st_op (ev_fieldAddr rfl fa26_4 (o' := 4) rfl) rfl rfl rfl ?_
     refine st_op (ev_load rfl (lvar_one one2 h13 rfl)) rfl rfl rfl ?_
     refine st_op (ev_fieldAddr rfl fa26_4 (o' := 4) rfl) rfl rfl rfl ?_
     refine st_op (ev_load rfl (lvar_one one2 hB11 rfl)) rfl rfl rfl ?_
     refine st_op (ev_int rfl rfl rfl) rfl rfl rfl ?_
     refine st_op (ev_pickT rfl rfl) rfl rfl rfl ?_
     refine st_op (ev_move rfl) rfl rfl rfl ?_
     refine st_bool 38 rfl (fun hb18 => ?_) (fun hb18 => ?_)
     ·
      have hb18 := eq_of_beq hb18
      refine st_op (ev_fieldAddr rfl fa26_5 (o' := 5) rfl) rfl rfl rfl ?_
      refine st_op (ev_load rfl (lvar_one one2 h13 rfl)) rfl rfl rfl ?_
      refine st_op (ev_fieldAddr rfl fa26_5 (o' := 5) rfl) rfl rfl rfl ?_
      refine st_op (ev_load rfl (lvar_one one2 hB11 rfl)) rfl rfl rfl ?_
      refine st_op (ev_int rfl rfl rfl) rfl rfl rfl ?_
      refine st_op (ev_pickT rfl rfl) rfl rfl rfl ?_
      refine st_op (ev_move rfl) rfl rfl rfl ?_
      refine st_bool 45 rfl (fun hb19 => ?_) (fun hb19 => ?_)
      ·
       have hb19 := eq_of_beq hb19
       refine st_op (ev_fieldAddr rfl fa26_6 (o' := 6) rfl) rfl rfl rfl ?_
       refine st_op (ev_load rfl (lvar_one one2 h13 rfl)) rfl rfl rfl ?_
       refine st_op (ev_fieldAddr rfl fa26_6 (o' := 6) rfl) rfl rfl rfl ?_
       refine st_op (ev_load rfl (lvar_one one2 hB11 rfl)) rfl rfl rfl ?_
       refine st_op (ev_int rfl rfl rfl) rfl rfl rfl ?_
       refine st_op (ev_pickT rfl rfl) rfl rfl rfl ?_
       refine st_op (ev_move rfl) rfl rfl rfl ?_
       refine st_bool 52 rfl (fun hb20 => ?_) (fun hb20 => ?_)
       ·
        have hb20 := eq_of_beq hb20
        refine st_op (ev_fieldAddr rfl fa26_7 (o' := 7) rfl) rfl rfl rfl ?_
        refine st_op (ev_load rfl (lvar_one one4 h13 rfl)) rfl rfl rfl ?_
        refine st_op (ev_fieldAddr rfl fa26_7 (o' := 7) rfl) rfl rfl rfl ?_
        refine st_op (ev_load rfl (lvar_one one4 hB11 rfl)) rfl rfl rfl ?_
        refine st_op (ev_eqBool isbool4 rfl rfl) rfl rfl rfl ?_
        refine st_op (ev_pickT rfl rfl) rfl rfl rfl ?_
        refine st_op (ev_move rfl) rfl rfl rfl ?_
        refine st_bool 59 rfl (fun hb21 => ?_) (fun hb21 => ?_)
        ·
         have hb21 := eq_of_beq hb21
         refine st_op (ev_fieldAddr rfl fa26_8 (o' := 8) rfl) rfl rfl rfl ?_
         refine st_op (ev_load rfl (lvar_one one22 h13 rfl)) rfl rfl rfl ?_
         refine st_op (ev_fieldAddr rfl fa26_8 (o' := 8) rfl) rfl rfl rfl ?_
         refine st_op (ev_load rfl (lvar_one one22 hB11 rfl)) rfl rfl rfl ?_
         refine st_call rfl rfl rfl ent36 rfl rfl rfl ?_
         have hx23 : Ext H H8 := (Ext.trans hx6 hx12)
         have h22 := Row.ext ha_es hx23
         have h24 := Row.ext hb_es hx23
         obtain ⟨_, H26, hs25, hs25v, hx27⟩ := ref17_EqEntries_spec H8 a_esA a_es a_esc h22 ca_es (by omega) b_esA b_es b_esc h24 cb_es (by omega)
         rw [hs25v] at hs25; clear hs25v
         refine ⟨_, H26, hs25, ?_⟩
         have H26n : H8.next ≤ H26.next := hx27.1
         refine st_op (ev_pickT rfl rfl) rfl rfl rfl ?_
         refine st_op (ev_move rfl) rfl rfl rfl ?_
         refine st_bool 66 rfl (fun hb28 => ?_) (fun hb28 => ?_)
         ·
          refine st_op (ev_fieldAddr rfl fa26_9 (o' := 9) rfl) rfl rfl rfl ?_
          have h29 := Ext.blk hx27 (by omega) h13
          refine st_op (ev_load rfl (lvar_part (l := [.int .i64 a_s_index, .int .i64 a_s_term, .string a_s_conf, .string a_s_data]) many24 h29 rfl rfl (by decide))) rfl rfl rfl ?_
          refine st_op (ev_fieldAddr rfl fa26_9 (o' := 9) rfl) rfl rfl rfl ?_
          have h30 := Ext.blk hx27 (by omega) hB11
          refine st_op (ev_load rfl (lvar_part (l := [.int .i64 b_s_index, .int .i64 b_s_term, .string b_s_conf, .string b_s_data]) many24 h30 rfl rfl (by decide))) rfl rfl rfl ?_
          refine st_call rfl rfl rfl ent30 rfl rfl rfl ?_
          obtain ⟨_, H32, hs31, hs31v, hx33⟩ := ref17_EqSnap_spec H26 a_s_index a_s_term a_s_conf a_s_data b_s_index b_s_term b_s_conf b_s_data
          rw [hs31v] at hs31; clear hs31v
          refine ⟨_, H32, hs31, ?_⟩
          have H32n : H26.next ≤ H32.next := hx33.1
          refine st_op (ev_pickT rfl rfl) rfl rfl rfl ?_
          refine st_op (ev_assign rfl) rfl rfl rfl ?_
          try show aw _ _ _ _ _ _
          refine aw_ret ?_
          have hx34 : Ext H H32 := (Ext.trans (Ext.trans hx23 hx27) hx33)
          have hres : (decide (a_kind = b_kind ∧ a_from_ = b_from_ ∧ a_to_ = b_to_ ∧ a_term = b_term ∧ a_index = b_index ∧ a_logterm = b_logterm ∧ a_commit = b_commit ∧ a_yes = b_yes ∧ Spec.eqEs a_es b_es = true ∧ Spec.eqSn a_s_index a_s_term a_s_conf a_s_data b_s_index b_s_term b_s_conf b_s_data = true)) = (Spec.eqSn a_s_index a_s_term a_s_conf a_s_data b_s_index b_s_term b_s_conf b_s_data) := by rw [Bool.eq_iff_iff]; simp_all
          exact ⟨.bool (Spec.eqSn a_s_index a_s_term a_s_conf a_s_data b_s_index b_s_term b_s_conf b_s_data), rfl, by first | (rw [hres]; done) | rw [← hres], hx34⟩
         ·
          iterate 5 refine st_skip rfl rfl rfl ?_
          refine st_op (ev_pickF rfl rfl) rfl rfl rfl ?_
          refine st_op (ev_assign rfl) rfl rfl rfl ?_
          try show aw _ _ _ _ _ _
          refine aw_ret ?_
          have hx35 : Ext H H26 := (Ext.trans hx23 hx27)
          have hres : (decide (a_kind = b_kind ∧ a_from_ = b_from_ ∧ a_to_ = b_to_ ∧ a_term = b_term ∧ a_index = b_index ∧ a_logterm = b_logterm ∧ a_commit = b_commit ∧ a_yes = b_yes ∧ Spec.eqEs a_es b_es = true ∧ Spec.eqSn a_s_index a_s_term a_s_conf a_s_data b_s_index b_s_term b_s_conf b_s_data = true)) = false := by rw [Bool.eq_iff_iff]; simp_all
          exact ⟨.bool false, rfl, by first | (rw [hres]; done) | rw [← hres], hx35⟩
        ·
         have hb21 := ne_of_beq_false hb21
         iterate 5 refine st_skip rfl rfl rfl ?_
         refine st_op (ev_pickF rfl rfl) rfl rfl rfl ?_
         refine st_op (ev_move rfl) rfl rfl rfl ?_
         iterate 5 refine st_skip rfl rfl rfl ?_
         refine st_op (ev_pickF rfl rfl) rfl rfl rfl ?_
         refine st_op (ev_assign rfl) rfl rfl rfl ?_
         try show aw _ _ _ _ _ _
         refine aw_ret ?_
         have hx36 : Ext H H8 := (Ext.trans hx6 hx12)
         have hres : (decide (a_kind = b_kind ∧ a_from_ = b_from_ ∧ a_to_ = b_to_ ∧ a_term = b_term ∧ a_index = b_index ∧ a_logterm = b_logterm ∧ a_commit = b_commit ∧ a_yes = b_yes ∧ Spec.eqEs a_es b_es = true ∧ Spec.eqSn a_s_index a_s_term a_s_conf a_s_data b_s_index b_s_term b_s_conf b_s_data = true)) = false := by rw [Bool.eq_iff_iff]; simp_all
         exact ⟨.bool false, rfl, by first | (rw [hres]; done) | rw [← hres], hx36⟩
       ·
        have hb20 := ne_of_beq_false hb20
        iterate 5 refine st_skip rfl rfl rfl ?_
        refine st_op (ev_pickF rfl rfl) rfl rfl rfl ?_
        refine st_op (ev_move rfl) rfl rfl rfl ?_
        iterate 5 refine st_skip rfl rfl rfl ?_
        refine st_op (ev_pickF rfl rfl) rfl rfl rfl ?_
        refine st_op (ev_move rfl) rfl rfl rfl ?_
        iterate 5 refine st_skip rfl rfl rfl ?_
        refine st_op (ev_pickF rfl rfl) rfl rfl rfl ?_
        refine st_op (ev_assign rfl) rfl rfl rfl ?_
        try show aw _ _ _ _ _ _
        refine aw_ret ?_
        have hx37 : Ext H H8 := (Ext.trans hx6 hx12)
        have hres : (decide (a_kind = b_kind ∧ a_from_ = b_from_ ∧ a_to_ = b_to_ ∧ a_term = b_term ∧ a_index = b_index ∧ a_logterm = b_logterm ∧ a_commit = b_commit ∧ a_yes = b_yes ∧ Spec.eqEs a_es b_es = true ∧ Spec.eqSn a_s_index a_s_term a_s_conf a_s_data b_s_index b_s_term b_s_conf b_s_data = true)) = false := by rw [Bool.eq_iff_iff]; simp_all
        exact ⟨.bool false, rfl, by first | (rw [hres]; done) | rw [← hres], hx37⟩
      ·
       have hb19 := ne_of_beq_false hb19
       iterate 5 refine st_skip rfl rfl rfl ?_
       refine st_op (ev_pickF rfl rfl) rfl rfl rfl ?_
       refine st_op (ev_move rfl) rfl rfl rfl ?_
       iterate 5 refine st_skip rfl rfl rfl ?_
       refine st_op (ev_pickF rfl rfl) rfl rfl rfl ?_
       refine st_op (ev_move rfl) rfl rfl rfl ?_
       iterate 5 refine st_skip rfl rfl rfl ?_
       refine st_op (ev_pickF rfl rfl) rfl rfl rfl ?_
       refine st_op (ev_move rfl) rfl rfl rfl ?_
       iterate 5 refine st_skip rfl rfl rfl ?_
       refine st_op (ev_pickF rfl rfl) rfl rfl rfl ?_
       refine st_op (ev_assign rfl) rfl rfl rfl ?_
       try show aw _ _ _ _ _ _
       refine aw_ret ?_
       have hx38 : Ext H H8 := (Ext.trans hx6 hx12)
       have hres : (decide (a_kind = b_kind ∧ a_from_ = b_from_ ∧ a_to_ = b_to_ ∧ a_term = b_term ∧ a_index = b_index ∧ a_logterm = b_logterm ∧ a_commit = b_commit ∧ a_yes = b_yes ∧ Spec.eqEs a_es b_es = true ∧ Spec.eqSn a_s_index a_s_term a_s_conf a_s_data b_s_index b_s_term b_s_conf b_s_data = true)) = false := by rw [Bool.eq_iff_iff]; simp_all
       exact ⟨.bool false, rfl, by first | (rw [hres]; done) | rw [← hres], hx38⟩
     ·
      have hb18 := ne_of_beq_false hb18
      iterate 5 refine st_skip rfl rfl rfl ?_
      refine st_op (ev_pickF rfl rfl) rfl rfl rfl ?_
      refine st_op (ev_move rfl) rfl rfl rfl ?_
      iterate 5 refine st_skip rfl rfl rfl ?_
      refine st_op (ev_pickF rfl rfl) rfl rfl rfl ?_
      refine st_op (ev_move rfl) rfl rfl rfl ?_
      iterate 5 refine st_skip rfl rfl rfl ?_
      refine st_op (ev_pickF rfl rfl) rfl rfl rfl ?_
      refine st_op (ev_move rfl) rfl rfl rfl ?_
      iterate 5 refine st_skip rfl rfl rfl ?_
      refine st_op (ev_pickF rfl rfl) rfl rfl rfl ?_
      refine st_op (ev_move rfl) rfl rfl rfl ?_
      iterate 5 refine st_skip rfl rfl rfl ?_
      refine st_op (ev_pickF rfl rfl) rfl rfl rfl ?_
      refine st_op (ev_assign rfl) rfl rfl rfl ?_
      try show aw _ _ _ _ _ _
      refine aw_ret ?_
      have hx39 : Ext H H8 := (Ext.trans hx6 hx12)
      have hres : (decide (a_kind = b_kind ∧ a_from_ = b_from_ ∧ a_to_ = b_to_ ∧ a_term = b_term ∧ a_index = b_index ∧ a_logterm = b_logterm ∧ a_commit = b_commit ∧ a_yes = b_yes ∧ Spec.eqEs a_es b_es = true ∧ Spec.eqSn a_s_index a_s_term a_s_conf a_s_data b_s_index b_s_term b_s_conf b_s_data = true)) = false := by rw [Bool.eq_iff_iff]; simp_all
      exact ⟨.bool false, rfl, by first | (rw [hres]; done) | rw [← hres], hx39⟩
    ·
     have hb17 := ne_of_beq_false hb17
     iterate 5 refine st_skip rfl rfl rfl ?_
     refine st_op (ev_pickF rfl rfl) rfl rfl rfl ?_
     refine st_op (ev_move rfl) rfl rfl rfl ?_
     iterate 5 refine st_skip rfl rfl rfl ?_
     refine st_op (ev_pickF rfl rfl) rfl rfl rfl ?_
     refine st_op (ev_move rfl) rfl rfl rfl ?_
     iterate 5 refine st_skip rfl rfl rfl ?_
     refine st_op (ev_pickF rfl rfl) rfl rfl rfl ?_
     refine st_op (ev_move rfl) rfl rfl rfl ?_
     iterate 5 refine st_skip rfl rfl rfl ?_
     refine st_op (ev_pickF rfl rfl) rfl rfl rfl ?_
     refine st_op (ev_move rfl) rfl rfl rfl ?_
     iterate 5 refine st_skip rfl rfl rfl ?_
     refine st_op (ev_pickF rfl rfl) rfl rfl rfl ?_
     refine st_op (ev_move rfl) rfl rfl rfl ?_
     iterate 5 refine st_skip rfl rfl rfl ?_
     refine st_op (ev_pickF rfl rfl) rfl rfl rfl ?_
     refine st_op (ev_assign rfl) rfl rfl rfl ?_
     try show aw _ _ _ _ _ _
     refine aw_ret ?_
     have hx40 : Ext H H8 := (Ext.trans hx6 hx12)
     have hres : (decide (a_kind = b_kind ∧ a_from_ = b_from_ ∧ a_to_ = b_to_ ∧ a_term = b_term ∧ a_index = b_index ∧ a_logterm = b_logterm ∧ a_commit = b_commit ∧ a_yes = b_yes ∧ Spec.eqEs a_es b_es = true ∧ Spec.eqSn a_s_index a_s_term a_s_conf a_s_data b_s_index b_s_term b_s_conf b_s_data = true)) = false := by rw [Bool.eq_iff_iff]; simp_all
     exact ⟨.bool false, rfl, by first | (rw [hres]; done) | rw [← hres], hx40⟩
   ·
    have hb16 := ne_of_beq_false hb16
    iterate 5 refine st_skip rfl rfl rfl ?_
    refine st_op (ev_pickF rfl rfl) rfl rfl rfl ?_
    refine st_op (ev_move rfl) rfl rfl rfl ?_
    iterate 5 refine st_skip rfl rfl rfl ?_
    refine st_op (ev_pickF rfl rfl) rfl rfl rfl ?_
    refine st_op (ev_move rfl) rfl rfl rfl ?_
    iterate 5 refine st_skip rfl rfl rfl ?_
    refine st_op (ev_pickF rfl rfl) rfl rfl rfl ?_
    refine st_op (ev_move rfl) rfl rfl rfl ?_
    iterate 5 refine st_skip rfl rfl rfl ?_
    refine st_op (ev_pickF rfl rfl) rfl rfl rfl ?_
    refine st_op (ev_move rfl) rfl rfl rfl ?_
    iterate 5 refine st_skip rfl rfl rfl ?_
    refine st_op (ev_pickF rfl rfl) rfl rfl rfl ?_
    refine st_op (ev_move rfl) rfl rfl rfl ?_
    iterate 5 refine st_skip rfl rfl rfl ?_
    refine st_op (ev_pickF rfl rfl) rfl rfl rfl ?_
    refine st_op (ev_move rfl) rfl rfl rfl ?_
    iterate 5 refine st_skip rfl rfl rfl ?_
    refine st_op (ev_pickF rfl rfl) rfl rfl rfl ?_
    refine st_op (ev_assign rfl) rfl rfl rfl ?_
    try show aw _ _ _ _ _ _
    refine aw_ret ?_
    have hx41 : Ext H H8 := (Ext.trans hx6 hx12)
    have hres : (decide (a_kind = b_kind ∧ a_from_ = b_from_ ∧ a_to_ = b_to_ ∧ a_term = b_term ∧ a_index = b_index ∧ a_logterm = b_logterm ∧ a_commit = b_commit ∧ a_yes = b_yes ∧ Spec.eqEs a_es b_es = true ∧ Spec.eqSn a_s_index a_s_term a_s_conf a_s_data b_s_index b_s_term b_s_conf b_s_data = true)) = false := by rw [Bool.eq_iff_iff]; simp_all
    exact ⟨.bool false, rfl, by first | (rw [hres]; done) | rw [← hres], hx41⟩
  ·
   have hb15 := ne_of_beq_false hb15
   iterate 5 refine st_skip rfl rfl rfl ?_
   refine st_op (ev_pickF rfl rfl) rfl rfl rfl ?_
   refine st_op (ev_move rfl) rfl rfl rfl ?_
   iterate 5 refine st_skip rfl rfl rfl ?_
   refine st_op (ev_pickF rfl rfl) rfl rfl rfl ?_
   refine st_op (ev_move rfl) rfl rfl rfl ?_
   iterate 5 refine st_skip rfl rfl rfl ?_
   refine st_op (ev_pickF rfl rfl) rfl rfl rfl ?_
   refine st_op (ev_move rfl) rfl rfl rfl ?_
   iterate 5 refine st_skip rfl rfl rfl ?_
   refine st_op (ev_pickF rfl rfl) rfl rfl rfl ?_
   refine st_op (ev_move rfl) rfl rfl rfl ?_
   iterate 5 refine st_skip rfl rfl rfl ?_
   refine st_op (ev_pickF rfl rfl) rfl rfl rfl ?_
   refine st_op (ev_move rfl) rfl rfl rfl ?_
   iterate 5 refine st_skip rfl rfl rfl ?_
   refine st_op (ev_pickF rfl rfl) rfl rfl rfl ?_
   refine st_op (ev_move rfl) rfl rfl rfl ?_
   iterate 5 refine st_skip rfl rfl rfl ?_
   refine st_op (ev_pickF rfl rfl) rfl rfl rfl ?_
   refine st_op (ev_move rfl) rfl rfl rfl ?_
   iterate 5 refine st_skip rfl rfl rfl ?_
   refine st_op (ev_pickF rfl rfl) rfl rfl rfl ?_
   refine st_op (ev_assign rfl) rfl rfl rfl ?_
   try show aw _ _ _ _ _ _
   refine aw_ret ?_
   have hx42 : Ext H H8 := (Ext.trans hx6 hx12)
   have hres : (decide (a_kind = b_kind ∧ a_from_ = b_from_ ∧ a_to_ = b_to_ ∧ a_term = b_term ∧ a_index = b_index ∧ a_logterm = b_logterm ∧ a_commit = b_commit ∧ a_yes = b_yes ∧ Spec.eqEs a_es b_es = true ∧ Spec.eqSn a_s_index a_s_term a_s_conf a_s_data b_s_index b_s_term b_s_conf b_s_data = true)) = false := by rw [Bool.eq_iff_iff]; simp_all
   exact ⟨.bool false, rfl, by first | (rw [hres]; done) | rw [← hres], hx42⟩
 ·
  have hb14 := ne_of_beq_false hb14
  iterate 5 refine st_skip rfl rfl rfl ?_
  refine st_op (ev_pickF rfl rfl) rfl rfl rfl ?_
  refine st_op (ev_move rfl) rfl rfl rfl ?_
  iterate 5 refine st_skip rfl rfl rfl ?_
  refine st_op (ev_pickF rfl rfl) rfl rfl rfl ?_
  refine st_op (ev_move rfl) rfl rfl rfl ?_
  iterate 5 refine st_skip rfl rfl rfl ?_
  refine st_op (ev_pickF rfl rfl) rfl rfl rfl ?_
  refine st_op (ev_move rfl) rfl rfl rfl ?_
  iterate 5 refine st_skip rfl rfl rfl ?_
  refine st_op (ev_pickF rfl rfl) rfl rfl rfl ?_
  refine st_op (ev_move rfl) rfl rfl rfl ?_
  iterate 5 refine st_skip rfl rfl rfl ?_
  refine st_op (ev_pickF rfl rfl) rfl rfl rfl ?_
  refine st_op (ev_move rfl) rfl rfl rfl ?_
  iterate 5 refine st_skip rfl rfl rfl ?_
  refine st_op (ev_pickF rfl rfl) rfl rfl rfl ?_
  refine st_op (ev_move rfl) rfl rfl rfl ?_
  iterate 5 refine st_skip rfl rfl rfl ?_
  refine st_op (ev_pickF rfl rfl) rfl rfl rfl ?_
  refine st_op (ev_move rfl) rfl rfl rfl ?_
  iterate 5 refine st_skip rfl rfl rfl ?_
  refine st_op (ev_pickF rfl rfl) rfl rfl rfl ?_
  refine st_op (ev_move rfl) rfl rfl rfl ?_
  iterate 5 refine st_skip rfl rfl rfl ?_
  refine st_op (ev_pickF rfl rfl) rfl rfl rfl ?_
  refine st_op (ev_assign rfl) rfl rfl rfl ?_
  try show aw _ _ _ _ _ _
  refine aw_ret ?_
  have hx43 : Ext H H8 := (Ext.trans hx6 hx12)
  have hres : (decide (a_kind = b_kind ∧ a_from_ = b_from_ ∧ a_to_ = b_to_ ∧ a_term = b_term ∧ a_index = b_index ∧ a_logterm = b_logterm ∧ a_commit = b_commit ∧ a_yes = b_yes ∧ Spec.eqEs a_es b_es = true ∧ Spec.eqSn a_s_index a_s_term a_s_conf a_s_data b_s_index b_s_term b_s_conf b_s_data = true)) = false := by rw [Bool.eq_iff_iff]; simp_all
  exact ⟨.bool false, rfl, by first | (rw [hres]; done) | rw [← hres], hx43⟩
theorem law25_begun_ran : okF (runF Try.prog X0 1000 40 9 [] Hp.nil) = true := by kernel_rfl
theorem law25_begun_spec (H : Heap) : ∃ v H', Spec Try.prog 9 [] H v H' ∧ (v = .bool true ∧ H' = H) := ⟨_, _, okF_any mixed law25_begun_ran H, rfl, rfl⟩

end Go.AM
