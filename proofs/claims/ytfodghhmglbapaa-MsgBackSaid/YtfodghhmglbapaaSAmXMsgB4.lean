/- Part of a machine of its own for this claim: the program's code over memory without draws. -/
import Derived.Test.YtfodghhmglbapaaSAmXMsgB3
set_option linter.unusedVariables false
set_option linter.unusedSimpArgs false
set_option linter.unnecessarySimpa false
set_option linter.unusedVariables false
set_option linter.unusedSimpArgs false
set_option linter.unnecessarySimpa false
namespace Go.AM
open Go Go.Proofs
theorem law25_begun_spec (H : Heap)  : ∃ v H', Spec Try.prog 9 [] H v H' ∧ ((v = .bool true) ∧ (Ext H H')) := by
 refine spec_go0 E0_ok 41 (f := 9) Try.func9 rfl rfl ?_
 refine aw_seq ?_
 refine aw_reg ?_
 refine st_op (ev_assign rfl) rfl rfl rfl ?_
 try show aw _ _ _ _ _ _
 refine aw_seq ?_
 refine aw_reg ?_
 refine st_op (ev_build zero26 pl26 (parts := [(0, .int .i64 4), (1, .int .i64 1), (2, .int .i64 2), (3, .int .i64 3), (7, .bool true), (4, .int .i64 4)]) rfl (cs := [.int .i64 4, .int .i64 1, .int .i64 2, .int .i64 3, .int .i64 4, .int .i64 0, .int .i64 0, .bool true, .slice none 0 0, .int .i64 0, .int .i64 0, .string (⟨#[]⟩), .string (⟨#[]⟩)]) rfl) rfl rfl rfl ?_
 obtain ⟨b1, H2, he3, b1e, H2n_, hB5, f4⟩ := mem_alloc H zero26
 refine st_op (he3 _ _ _ _ _ _ _) rfl rfl rfl ?_
 have hx6 : Ext H H2 := Ext.new (by omega) H2n_ f4
 have H2n : H.next ≤ H2.next := hx6.1
 obtain ⟨H7, he8, H7n_, hB9, f10⟩ := mem_store (v := .agg #[.int .i64 4, .int .i64 1, .int .i64 2, .int .i64 3, .int .i64 4, .int .i64 0, .int .i64 0, .bool true, .slice none 0 0, .int .i64 0, .int .i64 0, .string (⟨#[]⟩), .string (⟨#[]⟩)]) (o := 0) (cs' := [.int .i64 4, .int .i64 1, .int .i64 2, .int .i64 3, .int .i64 4, .int .i64 0, .int .i64 0, .bool true, .slice none 0 0, .int .i64 0, .int .i64 0, .string (⟨#[]⟩), .string (⟨#[]⟩)]) 13 rfl rfl size26 hB5 rfl rfl rfl
 refine st_op0 (he8 _ _ _ _ _ _ _ _ _ rfl rfl) rfl rfl ?_
 have hf11 : Fr (fun q => q = b1) H2 H7 := Fr.write H7n_ f10
 have H7n : H2.next ≤ H7.next := hf11.1
 try show aw _ _ _ _ _ _
 refine aw_seq ?_
 refine aw_reg ?_
 refine st_op (ev_load rfl (lvar_part (l := [.int .i64 4, .int .i64 1, .int .i64 2, .int .i64 3, .int .i64 4, .int .i64 0, .int .i64 0, .bool true, .slice none 0 0, .int .i64 0, .int .i64 0, .string (⟨#[]⟩), .string (⟨#[]⟩)]) many26 hB9 rfl rfl (by decide))) rfl rfl rfl ?_
 refine st_call rfl rfl rfl ent11 rfl rfl rfl ?_
 obtain ⟨_, H13, hs12, A15, c16, hs12v, hm17, hq18, hq19, hq20, hx14⟩ := msg_Encode_spec H7 (4 : Int) (1 : Int) (2 : Int) (3 : Int) (4 : Int) (0 : Int) (0 : Int) true none ([] : List Entry) 0 Row.nil (Nat.le_refl 0) (Nat.zero_le _) (0 : Int) (0 : Int) (⟨#[]⟩ : ByteArray) (by decide) (⟨#[]⟩ : ByteArray) (by decide)
 rw [hs12v] at hs12; clear hs12v
 refine ⟨_, H13, hs12, ?_⟩
 have H13n : H7.next ≤ H13.next := hx14.1
 refine st_op (ev_assign rfl) rfl rfl rfl ?_
 try show aw _ _ _ _ _ _
 refine aw_seq ?_
 refine aw_reg ?_
 refine st_op (ev_move rfl) rfl rfl rfl ?_
 refine st_call rfl rfl rfl ent13 rfl rfl rfl ?_
 obtain ⟨_, H22, hs21, A24, c25, hs21v, hm26, hq27, hq28, hq29, hq30, hx23⟩ := msg_Decode_spec H13 A15 (Spec.encM (⟨(4 : Int), (1 : Int), (2 : Int), (3 : Int), (4 : Int), (0 : Int), (0 : Int), true, ([] : List Entry), ⟨(0 : Int), (0 : Int), (⟨#[]⟩ : ByteArray), (⟨#[]⟩ : ByteArray)⟩⟩ : Msg)) c16 (My.row hm17) (My.capF hm17 (by first | omega | (simp only [List.length_append, List.length_cons, List.length_nil, List.length_map, List.length_set, List.length_replicate, Spec.bytesOf_length]; omega) | (simp; omega))) (by first | omega | (simp only [List.length_append, List.length_cons, List.length_nil, List.length_map, List.length_set, List.length_replicate, Spec.bytesOf_length]; omega) | (simp; omega)) (My.anil hm17) (Spec.encM_bytes _)
 rw [hs21v] at hs21; clear hs21v
 generalize hR32 : (Spec.decM (Spec.encM (⟨(4 : Int), (1 : Int), (2 : Int), (3 : Int), (4 : Int), (0 : Int), (0 : Int), true, ([] : List Entry), ⟨(0 : Int), (0 : Int), (⟨#[]⟩ : ByteArray), (⟨#[]⟩ : ByteArray)⟩⟩ : Msg))) = r31 at hs21 hm26 hq27 hq28 hq29 hq30
 obtain ⟨z33, z34, z35, z36, z37, z38, z39, z40, z41, z42, z43, z44, z45, z46⟩ := r31
 dsimp only at hs21 hm26 hq27 hq28 hq29 hq30
 refine ⟨_, H22, hs21, ?_⟩
 have H22n : H13.next ≤ H22.next := hx23.1
 refine st_op (ev_move rfl) rfl rfl rfl ?_
 iterate 2 refine st_op (ev_extract rfl rfl) rfl rfl rfl ?_
 obtain ⟨b47, H48, he49, b47e, H48n_, hB51, f50⟩ := mem_alloc H22 zero26
 refine st_op (he49 _ _ _ _ _ _ _) rfl rfl rfl ?_
 have hx52 : Ext H22 H48 := Ext.new (by omega) H48n_ f50
 have H48n : H22.next ≤ H48.next := hx52.1
 obtain ⟨H53, he54, H53n_, hB55, f56⟩ := mem_store (v := .agg #[.int .i64 z33, .int .i64 z34, .int .i64 z35, .int .i64 z36, .int .i64 z37, .int .i64 z38, .int .i64 z39, .bool z40, .slice A24 z41.length c25, .int .i64 z42, .int .i64 z43, .string z44, .string z45]) (o := 0) (cs' := [.int .i64 z33, .int .i64 z34, .int .i64 z35, .int .i64 z36, .int .i64 z37, .int .i64 z38, .int .i64 z39, .bool z40, .slice A24 z41.length c25, .int .i64 z42, .int .i64 z43, .string z44, .string z45]) 13 rfl rfl size26 hB51 rfl rfl rfl
 refine st_op0 (he54 _ _ _ _ _ _ _ _ _ rfl rfl) rfl rfl ?_
 have hf57 : Fr (fun q => q = b47) H48 H53 := Fr.write H53n_ f56
 have H53n : H48.next ≤ H53.next := hf57.1
 refine st_op (ev_assign rfl) rfl rfl rfl ?_
 try show aw _ _ _ _ _ _
 refine aw_seq ?_
 refine aw_reg ?_
 refine st_call rfl rfl rfl ent13 rfl rfl rfl ?_
 obtain ⟨_, H59, hs58, A61, c62, hs58v, hm63, hq64, hq65, hq66, hq67, hx60⟩ := msg_Decode_spec H53 none ([] : List Int) 0 Row.nil (Nat.le_refl 0) (Nat.zero_le _) (fun _ => rfl) (by first | assumption | exact Spec.Bytes.nil | exact Spec.encM_bytes _ | exact Spec.textF_bytes _ | exact Spec.bytes_of _ | (repeat' first | assumption | exact Spec.Bytes.nil | exact Spec.bytes_of _ | exact Spec.enc_bytes _ | exact Spec.four_bytes _ | exact Spec.sealF_bytes (by assumption) | apply Spec.Bytes.append | apply Spec.Bytes.cons (by omega) | apply Spec.Bytes.take | apply Spec.Bytes.drop))
 rw [hs58v] at hs58; clear hs58v
 generalize hR69 : (Spec.decM ([] : List Int)) = r68 at hs58 hm63 hq64 hq65 hq66 hq67
 obtain ⟨z70, z71, z72, z73, z74, z75, z76, z77, z78, z79, z80, z81, z82, z83⟩ := r68
 dsimp only at hs58 hm63 hq64 hq65 hq66 hq67
 refine ⟨_, H59, hs58, ?_⟩
 have H59n : H53.next ≤ H59.next := hx60.1
 refine st_op (ev_move rfl) rfl rfl rfl ?_
 iterate 2 refine st_op (ev_extract rfl rfl) rfl rfl rfl ?_
 obtain ⟨b84, H85, he86, b84e, H85n_, hB88, f87⟩ := mem_alloc H59 zero26
 refine st_op (he86 _ _ _ _ _ _ _) rfl rfl rfl ?_
 have hx89 : Ext H59 H85 := Ext.new (by omega) H85n_ f87
 have H85n : H59.next ≤ H85.next := hx89.1
 obtain ⟨H90, he91, H90n_, hB92, f93⟩ := mem_store (v := .agg #[.int .i64 z70, .int .i64 z71, .int .i64 z72, .int .i64 z73, .int .i64 z74, .int .i64 z75, .int .i64 z76, .bool z77, .slice A61 z78.length c62, .int .i64 z79, .int .i64 z80, .string z81, .string z82]) (o := 0) (cs' := [.int .i64 z70, .int .i64 z71, .int .i64 z72, .int .i64 z73, .int .i64 z74, .int .i64 z75, .int .i64 z76, .bool z77, .slice A61 z78.length c62, .int .i64 z79, .int .i64 z80, .string z81, .string z82]) 13 rfl rfl size26 hB88 rfl rfl rfl
 refine st_op0 (he91 _ _ _ _ _ _ _ _ _ rfl rfl) rfl rfl ?_
 have hf94 : Fr (fun q => q = b84) H85 H90 := Fr.write H90n_ f93
 have H90n : H85.next ≤ H90.next := hf94.1
 refine st_op (ev_assign rfl) rfl rfl rfl ?_
 try show aw _ _ _ _ _ _
 refine aw_seq ?_
 refine aw_reg ?_
 refine st_op (ev_move rfl) rfl rfl rfl ?_
 refine st_op (ev_lenSl rfl Try.underlying29) rfl rfl rfl ?_
 refine st_op (ev_int rfl rfl rfl) rfl rfl rfl ?_
 refine st_op (ev_move rfl) rfl rfl rfl ?_
 refine st_bool 22 rfl (fun hb95 => ?_) (fun hb95 => ?_)
 ·
  have hb95 := of_decide_eq_true hb95
  refine st_op (ev_move rfl) rfl rfl rfl ?_
  refine st_op (ev_int rfl rfl rfl) rfl rfl rfl ?_
  refine st_op (ev_pickT rfl rfl) rfl rfl rfl ?_
  refine st_op (ev_move rfl) rfl rfl rfl ?_
  refine st_bool 26 rfl (fun hb96 => ?_) (fun hb96 => ?_)
  ·
   have hb96 := eq_of_beq hb96
   have hx98 : Ext H7 H90 := (Ext.then (Ext.trans (Ext.trans (Ext.then (Ext.trans (Ext.trans hx14 hx23) hx52) hf57 (fun q hq e => by omega)) hx60) hx89) hf94 (fun q hq e => by omega))
   have h97 := Ext.blk hx98 (by omega) hB9
   refine st_op (ev_load rfl (lvar_part (l := [.int .i64 4, .int .i64 1, .int .i64 2, .int .i64 3, .int .i64 4, .int .i64 0, .int .i64 0, .bool true, .slice none 0 0, .int .i64 0, .int .i64 0, .string (⟨#[]⟩), .string (⟨#[]⟩)]) many26 h97 rfl rfl (by decide))) rfl rfl rfl ?_
   have hx100 : Ext H53 H90 := (Ext.then (Ext.trans hx60 hx89) hf94 (fun q hq e => by omega))
   have h99 := Ext.blk hx100 (by omega) hB55
   refine st_op (ev_load rfl (lvar_part (l := [.int .i64 z33, .int .i64 z34, .int .i64 z35, .int .i64 z36, .int .i64 z37, .int .i64 z38, .int .i64 z39, .bool z40, .slice A24 z41.length c25, .int .i64 z42, .int .i64 z43, .string z44, .string z45]) many26 h99 rfl rfl (by decide))) rfl rfl rfl ?_
   refine st_call rfl rfl rfl ent14 rfl rfl rfl ?_
   have hx102 : Ext H22 H90 := (Ext.then (Ext.trans (Ext.trans (Ext.then hx52 hf57 (fun q hq e => by omega)) hx60) hx89) hf94 (fun q hq e => by omega))
   have h101 := My.ext hm26 hx102
   obtain ⟨_, H104, hs103, hs103v, hx105⟩ := law24_EqMsg_spec H90 (4 : Int) (1 : Int) (2 : Int) (3 : Int) (4 : Int) (0 : Int) (0 : Int) true none ([] : List Entry) 0 Row.nil (Nat.le_refl 0) (Nat.zero_le _) (0 : Int) (0 : Int) (⟨#[]⟩ : ByteArray) (⟨#[]⟩ : ByteArray) z33 z34 z35 z36 z37 z38 z39 z40 A24 z41 c25 (My.row h101) (My.capF h101 (by first | omega | (simp only [List.length_append, List.length_cons, List.length_nil, List.length_map, List.length_set, List.length_replicate, Spec.bytesOf_length]; omega) | (simp; omega))) (by first | omega | (simp only [List.length_append, List.length_cons, List.length_nil, List.length_map, List.length_set, List.length_replicate, Spec.bytesOf_length]; omega) | (simp; omega)) z42 z43 z44 z45
   rw [hs103v] at hs103; clear hs103v
   refine ⟨_, H104, hs103, ?_⟩
   have H104n : H90.next ≤ H104.next := hx105.1
   refine st_op (ev_pickT rfl rfl) rfl rfl rfl ?_
   refine st_op (ev_move rfl) rfl rfl rfl ?_
   refine st_bool 31 rfl (fun hb106 => ?_) (fun hb106 => ?_)
   ·
    have hb106 := of_decide_eq_true hb106
    refine st_op (ev_move rfl) rfl rfl rfl ?_
    refine st_op (ev_int rfl rfl rfl) rfl rfl rfl ?_
    refine st_op (ev_pickT rfl rfl) rfl rfl rfl ?_
    refine st_op (ev_move rfl) rfl rfl rfl ?_
    refine st_bool 35 rfl (fun hb107 => ?_) (fun hb107 => ?_)
    ·
     have hb107 := eq_of_beq hb107
     refine st_op (ev_build zero26 pl26 (parts := []) rfl (cs := [.int .i64 0, .int .i64 0, .int .i64 0, .int .i64 0, .int .i64 0, .int .i64 0, .int .i64 0, .bool false, .slice none 0 0, .int .i64 0, .int .i64 0, .string (⟨#[]⟩), .string (⟨#[]⟩)]) rfl) rfl rfl rfl ?_
     refine st_call rfl rfl rfl ent11 rfl rfl rfl ?_
     obtain ⟨_, H109, hs108, A111, c112, hs108v, hm113, hq114, hq115, hq116, hx110⟩ := msg_Encode_spec H104 (0 : Int) (0 : Int) (0 : Int) (0 : Int) (0 : Int) (0 : Int) (0 : Int) false none ([] : List Entry) 0 Row.nil (Nat.le_refl 0) (Nat.zero_le _) (0 : Int) (0 : Int) (⟨#[]⟩ : ByteArray) (by decide) (⟨#[]⟩ : ByteArray) (by decide)
     rw [hs108v] at hs108; clear hs108v
     refine ⟨_, H109, hs108, ?_⟩
     have H109n : H104.next ≤ H109.next := hx110.1
     refine st_op (ev_lenSl rfl Try.underlying29) rfl rfl rfl ?_
     refine st_op (ev_int rfl rfl rfl) rfl rfl rfl ?_
     refine st_op (ev_pickT rfl rfl) rfl rfl rfl ?_
     refine st_op (ev_assign rfl) rfl rfl rfl ?_
     try show aw _ _ _ _ _ _
     refine aw_ret ?_
     have hx117 : Ext H H109 := (Ext.trans (Ext.trans (Ext.then (Ext.trans (Ext.trans (Ext.then (Ext.trans (Ext.trans (Ext.trans (Ext.then hx6 hf11 (fun q hq e => by omega)) hx14) hx23) hx52) hf57 (fun q hq e => by omega)) hx60) hx89) hf94 (fun q hq e => by omega)) hx105) hx110)
     have hres : true = (((Spec.encM (⟨(0 : Int), (0 : Int), (0 : Int), (0 : Int), (0 : Int), (0 : Int), (0 : Int), false, ([] : List Entry), ⟨(0 : Int), (0 : Int), (⟨#[]⟩ : ByteArray), (⟨#[]⟩ : ByteArray)⟩⟩ : Msg)).length : Int) == 0) := by have q := Spec.back_same Spec.may_ack hR32; have q0 := Spec.encM_pos Spec.may_ack; have q1 := Spec.dec_none hR69; rw [Spec.encM, if_neg (fun h => Bool.noConfusion (h.symm.trans Spec.may_none))]; rfl
     exact ⟨.bool (((Spec.encM (⟨(0 : Int), (0 : Int), (0 : Int), (0 : Int), (0 : Int), (0 : Int), (0 : Int), false, ([] : List Entry), ⟨(0 : Int), (0 : Int), (⟨#[]⟩ : ByteArray), (⟨#[]⟩ : ByteArray)⟩⟩ : Msg)).length : Int) == 0), rfl, by first | (rw [hres]; done) | rw [← hres], hx117⟩
    ·
     have hb107 := ne_of_beq_false hb107
     iterate 4 refine st_skip rfl rfl rfl ?_
     refine st_op (ev_pickF rfl rfl) rfl rfl rfl ?_
     refine st_op (ev_assign rfl) rfl rfl rfl ?_
     try show aw _ _ _ _ _ _
     refine aw_ret ?_
     have hx118 : Ext H H104 := (Ext.trans (Ext.then (Ext.trans (Ext.trans (Ext.then (Ext.trans (Ext.trans (Ext.trans (Ext.then hx6 hf11 (fun q hq e => by omega)) hx14) hx23) hx52) hf57 (fun q hq e => by omega)) hx60) hx89) hf94 (fun q hq e => by omega)) hx105)
     have hres : true = false := by have q := Spec.back_same Spec.may_ack hR32; have q0 := Spec.encM_pos Spec.may_ack; have q1 := Spec.dec_none hR69; first | (exfalso; omega) | (exfalso; simp_all [Spec.eqEs_self, Spec.eqSn_iff]; done) | (exfalso; obtain ⟨_, rfl, rfl, rfl, rfl, rfl, rfl, rfl, rfl, rfl, rfl, rfl, rfl, rfl⟩ := q; exact hb106 ⟨rfl, rfl, rfl, rfl, rfl, rfl, rfl, rfl, Spec.eqEs_self _, Spec.eqSn_iff.2 ⟨rfl, rfl, rfl, rfl⟩⟩)
     exact ⟨.bool false, rfl, by first | (rw [hres]; done) | rw [← hres], hx118⟩
   ·
    have hb106 := of_decide_eq_false hb106
    iterate 2 refine st_skip rfl rfl rfl ?_
    refine st_op (ev_pickF rfl rfl) rfl rfl rfl ?_
    refine st_op (ev_move rfl) rfl rfl rfl ?_
    iterate 4 refine st_skip rfl rfl rfl ?_
    refine st_op (ev_pickF rfl rfl) rfl rfl rfl ?_
    refine st_op (ev_assign rfl) rfl rfl rfl ?_
    try show aw _ _ _ _ _ _
    refine aw_ret ?_
    have hx119 : Ext H H104 := (Ext.trans (Ext.then (Ext.trans (Ext.trans (Ext.then (Ext.trans (Ext.trans (Ext.trans (Ext.then hx6 hf11 (fun q hq e => by omega)) hx14) hx23) hx52) hf57 (fun q hq e => by omega)) hx60) hx89) hf94 (fun q hq e => by omega)) hx105)
    have hres : true = false := by have q := Spec.back_same Spec.may_ack hR32; have q0 := Spec.encM_pos Spec.may_ack; have q1 := Spec.dec_none hR69; first | (exfalso; omega) | (exfalso; simp_all [Spec.eqEs_self, Spec.eqSn_iff]; done) | (exfalso; obtain ⟨_, rfl, rfl, rfl, rfl, rfl, rfl, rfl, rfl, rfl, rfl, rfl, rfl, rfl⟩ := q; exact hb106 ⟨rfl, rfl, rfl, rfl, rfl, rfl, rfl, rfl, Spec.eqEs_self _, Spec.eqSn_iff.2 ⟨rfl, rfl, rfl, rfl⟩⟩)
    exact ⟨.bool false, rfl, by first | (rw [hres]; done) | rw [← hres], hx119⟩
  ·
   have hb96 := ne_of_beq_false hb96
   iterate 3 refine st_skip rfl rfl rfl ?_
   refine st_op (ev_pickF rfl rfl) rfl rfl rfl ?_
   refine st_op (ev_move rfl) rfl rfl rfl ?_
   iterate 2 refine st_skip rfl rfl rfl ?_
   refine st_op (ev_pickF rfl rfl) rfl rfl rfl ?_
   refine st_op (ev_move rfl) rfl rfl rfl ?_
   iterate 4 refine st_skip rfl rfl rfl ?_
   refine st_op (ev_pickF rfl rfl) rfl rfl rfl ?_
   refine st_op (ev_assign rfl) rfl rfl rfl ?_
   try show aw _ _ _ _ _ _
   refine aw_ret ?_
   have hx120 : Ext H H90 := (Ext.then (Ext.trans (Ext.trans (Ext.then (Ext.trans (Ext.trans (Ext.trans (Ext.then hx6 hf11 (fun q hq e => by omega)) hx14) hx23) hx52) hf57 (fun q hq e => by omega)) hx60) hx89) hf94 (fun q hq e => by omega))
   have hres : true = false := by have q := Spec.back_same Spec.may_ack hR32; have q0 := Spec.encM_pos Spec.may_ack; have q1 := Spec.dec_none hR69; first | (exfalso; omega) | (exfalso; simp_all [Spec.eqEs_self, Spec.eqSn_iff]; done)
   exact ⟨.bool false, rfl, by first | (rw [hres]; done) | rw [← hres], hx120⟩
 ·
  have hb95 := of_decide_eq_false hb95
  iterate 2 refine st_skip rfl rfl rfl ?_
  refine st_op (ev_pickF rfl rfl) rfl rfl rfl ?_
  refine st_op (ev_move rfl) rfl rfl rfl ?_
  iterate 3 refine st_skip rfl rfl rfl ?_
  refine st_op (ev_pickF rfl rfl) rfl rfl rfl ?_
  refine st_op (ev_move rfl) rfl rfl rfl ?_
  iterate 2 refine st_skip rfl rfl rfl ?_
  refine st_op (ev_pickF rfl rfl) rfl rfl rfl ?_
  refine st_op (ev_move rfl) rfl rfl rfl ?_
  iterate 4 refine st_skip rfl rfl rfl ?_
  refine st_op (ev_pickF rfl rfl) rfl rfl rfl ?_
  refine st_op (ev_assign rfl) rfl rfl rfl ?_
  try show aw _ _ _ _ _ _
  refine aw_ret ?_
  have hx121 : Ext H H90 := (Ext.then (Ext.trans (Ext.trans (Ext.then (Ext.trans (Ext.trans (Ext.trans (Ext.then hx6 hf11 (fun q hq e => by omega)) hx14) hx23) hx52) hf57 (fun q hq e => by omega)) hx60) hx89) hf94 (fun q hq e => by omega))
  have hres : true = false := by have q := Spec.back_same Spec.may_ack hR32; have q0 := Spec.encM_pos Spec.may_ack; have q1 := Spec.dec_none hR69; first | (exfalso; omega) | (exfalso; simp_all [Spec.eqEs_self, Spec.eqSn_iff]; done)
  exact ⟨.bool false, rfl, by first | (rw [hres]; done) | rw [← hres], hx121⟩

end Go.AM
