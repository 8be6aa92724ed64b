/- Part of a machine of its own for this claim: the program's code over memory without draws. -/
import Derived.Test.YtodcgppcmahbkabSAmXKeepC2
set_option linter.unusedVariables false
set_option linter.unusedSimpArgs false
set_option linter.unnecessarySimpa false
set_option linter.unusedVariables false
set_option linter.unusedSimpArgs false
set_option linter.unnecessarySimpa false
namespace Go.AM
open Go Go.Proofs
theorem wal_Decode_spec (H : Heap) (bA : Option Addr) (b : List Int) (bc : Nat) (hb : Row H bA bc 1 (b.map u8c)) (cb : b.length ≤ bc) (lb : b.length ≤ 1099511627776) (bb : Spec.Bytes b) : ∃ v H', Spec Try.prog 61 [.slice bA b.length bc] H v H' ∧ ((v = .tuple #[.agg #[.bool ((Spec.decF b).1), .int .i64 ((Spec.decF b).2.1), .int .i64 ((Spec.decF b).2.2.1), .int .i64 ((Spec.decF b).2.2.2.1), .int .i64 ((Spec.decF b).2.2.2.2.1), .int .i64 ((Spec.decF b).2.2.2.2.2.1), .string ((Spec.decF b).2.2.2.2.2.2.1)], .int .i64 ((Spec.decF b).2.2.2.2.2.2.2.1), .int .i64 ((Spec.decF b).2.2.2.2.2.2.2.2)]) ∧ ((Spec.decF b).2.2.2.2.2.2.2.2 = 0 → Spec.mayF (Spec.decF b).1 (Spec.decF b).2.1 (Spec.decF b).2.2.1 (Spec.decF b).2.2.2.1 (Spec.decF b).2.2.2.2.1 (Spec.decF b).2.2.2.2.2.1 (Spec.decF b).2.2.2.2.2.2.1 = true ∧ 6 ≤ (Spec.decF b).2.2.2.2.2.2.2.1 ∧ (Spec.decF b).2.2.2.2.2.2.2.1 ≤ b.length ∧ (Spec.decF b).2.2.2.2.2.2.2.1 ≤ 4020) ∧ (0 ≤ (Spec.decF b).2.2.2.2.2.2.2.2 ∧ (Spec.decF b).2.2.2.2.2.2.2.2 ≤ 3) ∧ ((Spec.decF b).2.2.2.2.2.2.2.2 ≠ 0 → (Spec.decF b).2.2.2.2.2.2.2.1 = 0 ∧ (Spec.decF b) = (false, 0, 0, 0, 0, 0, (⟨#[]⟩ : ByteArray), 0, (Spec.decF b).2.2.2.2.2.2.2.2)) ∧ (Ext H H')) := by
 refine spec_go1 E0_ok 76 (f := 61) Try.func61 rfl rfl rfl ?_
 refine aw_seq ?_
 refine aw_reg ?_
 obtain ⟨b1, H2, he3, b1e, H2n_, hB5, f4⟩ := mem_alloc H zero95
 refine st_op (he3 _ _ _ _ _ _ _) rfl rfl rfl ?_
 have hx6 : Ext H H2 := Ext.new (by omega) H2n_ f4
 have H2n : H.next ≤ H2.next := hx6.1
 iterate 2 refine st_op (ev_assign rfl) rfl rfl rfl ?_
 try show aw _ _ _ _ _ _
 refine aw_seq ?_
 refine aw_reg ?_
 refine st_op (ev_move rfl) rfl rfl rfl ?_
 refine st_call rfl rfl rfl ent55 rfl rfl rfl ?_
 have h7 := Row.ext hb hx6
 obtain ⟨_, H9, hs8, A11, c12, hs8v, hm13, hq14, hq15, hq16, hq17, hx10⟩ := frame_Open_spec H2 bA b bc h7 cb (by omega) (by assumption)
 rw [hs8v] at hs8; clear hs8v
 generalize hR19 : (Spec.openF b) = r18 at hs8 hm13 hq14 hq15 hq16 hq17
 obtain ⟨z20, z21, z22, z23⟩ := r18
 dsimp only at hs8 hm13 hq14 hq15 hq16 hq17
 refine ⟨_, H9, hs8, ?_⟩
 have H9n : H2.next ≤ H9.next := hx10.1
 refine st_op (ev_move rfl) rfl rfl rfl ?_
 iterate 4 refine st_op (ev_extract rfl rfl) rfl rfl rfl ?_
 iterate 4 refine st_op (ev_assign rfl) rfl rfl rfl ?_
 try show aw _ _ _ _ _ _
 iterate 2 refine aw_seq ?_
 refine aw_reg ?_
 refine st_op (ev_move rfl) rfl rfl rfl ?_
 refine st_op (ev_int rfl rfl rfl) rfl rfl rfl ?_
 try show aw _ _ _ _ _ _
 by_cases hc24 : (z23 != 0) = true
 ·
  refine aw_condT hc24 rfl ?_
  try show aw _ _ _ _ _ _
  have hc24 : ¬ (z23 = 0) := by simpa using hc24
  refine aw_seq ?_
  refine aw_reg ?_
  refine st_op (ev_build zero95 pl95 (parts := []) rfl (cs := [.bool false, .int .i64 0, .int .i64 0, .int .i64 0, .int .i64 0, .int .i64 0, .string (⟨#[]⟩)]) rfl) rfl rfl rfl ?_
  refine st_op (ev_move rfl) rfl rfl rfl ?_
  have h25 := Ext.blk hx10 (by omega) hB5
  obtain ⟨H26, he27, H26n_, hB28, f29⟩ := mem_store (v := .agg #[.bool false, .int .i64 0, .int .i64 0, .int .i64 0, .int .i64 0, .int .i64 0, .string (⟨#[]⟩)]) (o := 0) (cs' := [.bool false, .int .i64 0, .int .i64 0, .int .i64 0, .int .i64 0, .int .i64 0, .string (⟨#[]⟩)]) 7 rfl rfl size95 h25 rfl rfl rfl
  refine st_op0 (he27 _ _ _ _ _ _ _ _ _ rfl rfl) rfl rfl ?_
  have hf30 : Fr (fun q => q = b1) H9 H26 := Fr.write H26n_ f29
  have H26n : H9.next ≤ H26.next := hf30.1
  iterate 2 refine st_op (ev_assign rfl) rfl rfl rfl ?_
  try show aw _ _ _ _ _ _
  refine aw_ret ?_
  have hx31 : Ext H H26 := (Ext.then (Ext.trans hx6 hx10) hf30 (fun q hq e => by omega))
  have hres : (Spec.decF b) = (false, 0, 0, 0, 0, 0, (⟨#[]⟩ : ByteArray), 0, z23) := by simp only [Spec.decF, hR19]; simp_all [Spec.decBad]
  exact ⟨.tuple #[.agg #[.bool false, .int .i64 0, .int .i64 0, .int .i64 0, .int .i64 0, .int .i64 0, .string (⟨#[]⟩)], .int .i64 0, .int .i64 z23], (resA_of (resL_cell rfl (lvar_part (l := [.bool false, .int .i64 0, .int .i64 0, .int .i64 0, .int .i64 0, .int .i64 0, .string (⟨#[]⟩)]) many95 hB28 rfl rfl (by decide)) (resL_tmp rfl (resL_tmp rfl resL_nil))) rfl), by first | (rw [hres]; done) | rw [← hres], (by exact (Spec.decF_all bb).1), (by exact (Spec.decF_all bb).2.1), (by exact (Spec.decF_all bb).2.2), hx31⟩
 ·
  rw [Bool.not_eq_true] at hc24; refine aw_condF hc24 rfl ?_
  try show aw _ _ _ _ _ _
  have hc24 : (z23 = 0) := by simpa using hc24
  refine aw_skip ?_
  try show aw _ _ _ _ _ _
  refine aw_seq ?_
  refine aw_reg ?_
  refine st_op (ev_move rfl) rfl rfl rfl ?_
  refine st_op (ev_build zero115 pl115 (parts := [(0, .slice A11 z21.length c12)]) rfl (cs := [.slice A11 z21.length c12, .bool false]) rfl) rfl rfl rfl ?_
  obtain ⟨b32, H33, he34, b32e, H33n_, hB36, f35⟩ := mem_box (P := Try.prog) H9 (v := .agg #[.slice A11 z21.length c12, .bool false]) (cs := [.slice A11 z21.length c12, .bool false]) rfl rfl
  refine st_op (he34 _ _ _ _ _ _ _ _ _ rfl) rfl rfl rfl ?_
  have hx37 : Ext H9 H33 := Ext.new (by omega) H33n_ f35
  have H33n : H9.next ≤ H33.next := hx37.1
  refine st_op (ev_assign rfl) rfl rfl rfl ?_
  try show aw _ _ _ _ _ _
  refine aw_seq ?_
  refine aw_reg ?_
  refine st_op (ev_move rfl) rfl rfl rfl ?_
  refine st_op (ev_int rfl rfl rfl) rfl rfl rfl ?_
  refine st_op (ev_build zero95 pl95 (parts := [(0, .bool (z20 == 1))]) rfl (cs := [.bool (z20 == 1), .int .i64 0, .int .i64 0, .int .i64 0, .int .i64 0, .int .i64 0, .string (⟨#[]⟩)]) rfl) rfl rfl rfl ?_
  obtain ⟨b38, H39, he40, b38e, H39n_, hB42, f41⟩ := mem_alloc H33 zero95
  refine st_op (he40 _ _ _ _ _ _ _) rfl rfl rfl ?_
  have hx43 : Ext H33 H39 := Ext.new (by omega) H39n_ f41
  have H39n : H33.next ≤ H39.next := hx43.1
  obtain ⟨H44, he45, H44n_, hB46, f47⟩ := mem_store (v := .agg #[.bool (z20 == 1), .int .i64 0, .int .i64 0, .int .i64 0, .int .i64 0, .int .i64 0, .string (⟨#[]⟩)]) (o := 0) (cs' := [.bool (z20 == 1), .int .i64 0, .int .i64 0, .int .i64 0, .int .i64 0, .int .i64 0, .string (⟨#[]⟩)]) 7 rfl rfl size95 hB42 rfl rfl rfl
  refine st_op0 (he45 _ _ _ _ _ _ _ _ _ rfl rfl) rfl rfl ?_
  have hf48 : Fr (fun q => q = b38) H39 H44 := Fr.write H44n_ f47
  have H44n : H39.next ≤ H44.next := hf48.1
  try show aw _ _ _ _ _ _
  iterate 2 refine aw_seq ?_
  refine aw_reg ?_
  refine st_op (ev_move rfl) rfl rfl rfl ?_
  try show aw _ _ _ _ _ _
  refine aw_block ?_
  refine aw_seq ?_
  refine aw_reg ?_
  refine st_op (ev_int rfl rfl rfl) rfl rfl rfl ?_
  refine st_op (ev_assign rfl) rfl rfl rfl ?_
  try show aw _ _ _ _ _ _
  by_cases hc49 : (z20 == 1) = true
  ·
   refine aw_condT hc49 rfl ?_
   try show aw _ _ _ _ _ _
   have hc49 := eq_of_beq hc49
   refine aw_seq ?_
   refine aw_reg ?_
   refine st_op (ev_move rfl) rfl rfl rfl ?_
   refine st_call rfl rfl rfl ent56 rfl rfl rfl ?_
   have hx51 : Ext H9 H44 := (Ext.then (Ext.trans hx37 hx43) hf48 (fun q hq e => by omega))
   have h50 := My.ext hm13 hx51
   have hx53 : Ext H33 H44 := (Ext.then hx43 hf48 (fun q hq e => by omega))
   have h52 := Ext.blk hx53 (by omega) hB36
   obtain ⟨_, H55, hs54, A57, c58, hs54v, hm59, hk63, hB64, hq60, hq61, hq62, hx56⟩ := wal_rnum_spec H44 A11 z21 c12 (My.row h50) (My.capF h50 (by omega)) (by omega) (by assumption) false b32 (by omega) h52
   rw [hs54v] at hs54; clear hs54v
   generalize hR66 : (Spec.rdN z21 false) = r65 at hs54 hm59 hk63 hB64 hq60 hq61 hq62
   obtain ⟨z67, z68, z69⟩ := r65
   dsimp only at hs54 hm59 hk63 hB64 hq60 hq61 hq62
   refine ⟨_, H55, hs54, ?_⟩
   have H55n : H44.next ≤ H55.next := hx56.1
   refine st_op (ev_fieldAddr rfl fa95_1 (o' := 1) rfl) rfl rfl rfl ?_
   refine st_op (ev_fieldAddr rfl fa41_0 (o' := 1) rfl) rfl rfl rfl ?_
   have h70 := Fr.blk hx56 (by omega) (fun e => (by omega)) hB46
   obtain ⟨H71, he72, H71n_, hB73, f74⟩ := mem_store (v := .int .i64 z67) (o := 1) (cs' := [.bool (z20 == 1), .int .i64 z67, .int .i64 0, .int .i64 0, .int .i64 0, .int .i64 0, .string (⟨#[]⟩)]) 1 rfl rfl size2 h70 rfl rfl rfl
   refine st_op0 (he72 _ _ _ _ _ _ _ _ _ rfl rfl) rfl rfl ?_
   have hf75 : Fr (fun q => q = b38) H55 H71 := Fr.write H71n_ f74
   have H71n : H55.next ≤ H71.next := hf75.1
   try show aw _ _ _ _ _ _
   refine aw_reg ?_
   refine st_op (ev_move rfl) rfl rfl rfl ?_
   refine st_call rfl rfl rfl ent56 rfl rfl rfl ?_
   have h76 := Row.fr hm59 hf75 (fun q hq e => ⟨_, e ▸ h70, show (0 : Nat) ≠ 1 by decide⟩)
   have h77 := Fr.blk hf75 (by omega) (fun e => (by omega)) hB64
   obtain ⟨_, H79, hs78, A81, c82, hs78v, hm83, hk87, hB88, hq84, hq85, hq86, hx80⟩ := wal_rnum_spec H71 A57 z68 c58 h76 hk63 (by omega) (by assumption) z69 b32 (by omega) h77
   rw [hs78v] at hs78; clear hs78v
   generalize hR90 : (Spec.rdN z68 z69) = r89 at hs78 hm83 hk87 hB88 hq84 hq85 hq86
   obtain ⟨z91, z92, z93⟩ := r89
   dsimp only at hs78 hm83 hk87 hB88 hq84 hq85 hq86
   refine ⟨_, H79, hs78, ?_⟩
   have H79n : H71.next ≤ H79.next := hx80.1
   refine st_op (ev_fieldAddr rfl fa95_1 (o' := 1) rfl) rfl rfl rfl ?_
   refine st_op (ev_fieldAddr rfl fa41_1 (o' := 2) rfl) rfl rfl rfl ?_
   have h94 := Fr.blk hx80 (by omega) (fun e => (by omega)) hB73
   obtain ⟨H95, he96, H95n_, hB97, f98⟩ := mem_store (v := .int .i64 z91) (o := 2) (cs' := [.bool (z20 == 1), .int .i64 z67, .int .i64 z91, .int .i64 0, .int .i64 0, .int .i64 0, .string (⟨#[]⟩)]) 1 rfl rfl size3 h94 rfl rfl rfl
   refine st_op0 (he96 _ _ _ _ _ _ _ _ _ rfl rfl) rfl rfl ?_
   have hf99 : Fr (fun q => q = b38) H79 H95 := Fr.write H95n_ f98
   have H95n : H79.next ≤ H95.next := hf99.1
   try show aw _ _ _ _ _ _
   iterate 2 refine aw_seq ?_
   refine aw_reg ?_
   refine st_op (ev_move rfl) rfl rfl rfl ?_
   refine st_op (ev_int rfl rfl rfl) rfl rfl rfl ?_
   refine st_op (ev_move rfl) rfl rfl rfl ?_
   refine st_bool 59 rfl (fun hb100 => ?_) (fun hb100 => ?_)
   ·
    have hb100 : ¬ (z20 = 1) := by simpa using hb100
    exfalso; omega
   ·
    have hb100 : (z20 = 1) := by simpa using hb100
    iterate 2 refine st_skip rfl rfl rfl ?_
    refine st_op (ev_pickF rfl rfl) rfl rfl rfl ?_
    iterate 2 refine st_op (ev_move rfl) rfl rfl rfl ?_
    refine st_call rfl rfl rfl ent58 rfl rfl rfl ?_
    have h101 := Row.fr hm83 hf99 (fun q hq e => ⟨_, e ▸ h94, show (0 : Nat) ≠ 1 by decide⟩)
    have h102 := Fr.blk hf99 (by omega) (fun e => (by omega)) hB88
    obtain ⟨_, H104, hs103, hs103v, hx105⟩ := wal_rdone_spec H95 A81 z92 c82 h101 hk87 (by omega) (by assumption) z93 b32 (by omega) h102
    rw [hs103v] at hs103; clear hs103v
    refine ⟨_, H104, hs103, ?_⟩
    have H104n : H95.next ≤ H104.next := hx105.1
    refine st_op (ev_not rfl) rfl rfl rfl ?_
    refine st_op (ev_pickF rfl rfl) rfl rfl rfl ?_
    refine st_op (ev_move rfl) rfl rfl rfl ?_
    refine st_bool 68 rfl (fun hb106 => ?_) (fun hb106 => ?_)
    ·
     replace hb106 : (!z93 && z92.isEmpty) = false := by rw [Bool.not_eq_true'] at hb106; exact hb106
     iterate 3 refine st_skip rfl rfl rfl ?_
     refine st_op (ev_pickT rfl rfl) rfl rfl rfl ?_
     try show aw _ _ _ _ _ _
     refine aw_cond (t := true) rfl ?_
     try show aw _ _ _ _ _ _
     refine aw_seq ?_
     refine aw_reg ?_
     refine st_op (ev_build zero95 pl95 (parts := []) rfl (cs := [.bool false, .int .i64 0, .int .i64 0, .int .i64 0, .int .i64 0, .int .i64 0, .string (⟨#[]⟩)]) rfl) rfl rfl rfl ?_
     have hx108 : Ext H2 H104 := (Ext.trans (Ext.then (Ext.then (Ext.then (Ext.then (Ext.then (Ext.trans (Ext.trans hx10 hx37) hx43) hf48 (fun q hq e => by omega)) hx56 (fun q hq e => by omega)) hf75 (fun q hq e => by omega)) hx80 (fun q hq e => by omega)) hf99 (fun q hq e => by omega)) hx105)
     have h107 := Ext.blk hx108 (by omega) hB5
     obtain ⟨H109, he110, H109n_, hB111, f112⟩ := mem_store (v := .agg #[.bool false, .int .i64 0, .int .i64 0, .int .i64 0, .int .i64 0, .int .i64 0, .string (⟨#[]⟩)]) (o := 0) (cs' := [.bool false, .int .i64 0, .int .i64 0, .int .i64 0, .int .i64 0, .int .i64 0, .string (⟨#[]⟩)]) 7 rfl rfl size95 h107 rfl rfl rfl
     refine st_op0 (he110 _ _ _ _ _ _ _ _ _ rfl rfl) rfl rfl ?_
     have hf113 : Fr (fun q => q = b1) H104 H109 := Fr.write H109n_ f112
     have H109n : H104.next ≤ H109.next := hf113.1
     iterate 2 refine st_op (ev_assign rfl) rfl rfl rfl ?_
     try show aw _ _ _ _ _ _
     refine aw_ret ?_
     have hx114 : Ext H H109 := (Ext.then (Ext.trans (Ext.then (Ext.then (Ext.then (Ext.then (Ext.then (Ext.trans (Ext.trans (Ext.trans hx6 hx10) hx37) hx43) hf48 (fun q hq e => by omega)) hx56 (fun q hq e => by omega)) hf75 (fun q hq e => by omega)) hx80 (fun q hq e => by omega)) hf99 (fun q hq e => by omega)) hx105) hf113 (fun q hq e => by omega))
     have hres : (Spec.decF b) = (false, 0, 0, 0, 0, 0, (⟨#[]⟩ : ByteArray), 0, 3) := by simp only [Spec.decF, hR19, hR66, hR90]; simp_all [Spec.decBad]
     exact ⟨.tuple #[.agg #[.bool false, .int .i64 0, .int .i64 0, .int .i64 0, .int .i64 0, .int .i64 0, .string (⟨#[]⟩)], .int .i64 0, .int .i64 3], (resA_of (resL_cell rfl (lvar_part (l := [.bool false, .int .i64 0, .int .i64 0, .int .i64 0, .int .i64 0, .int .i64 0, .string (⟨#[]⟩)]) many95 hB111 rfl rfl (by decide)) (resL_tmp rfl (resL_tmp rfl resL_nil))) rfl), by first | (rw [hres]; done) | rw [← hres], (by exact (Spec.decF_all bb).1), (by exact (Spec.decF_all bb).2.1), (by exact (Spec.decF_all bb).2.2), hx114⟩
    ·
     replace hb106 : (!z93 && z92.isEmpty) = true := by rw [Bool.not_eq_false'] at hb106; exact hb106
     have h115 := Ext.blk hx105 (by omega) hB97
     refine st_op (ev_load rfl (lvar_part (l := [.bool (z20 == 1), .int .i64 z67, .int .i64 z91, .int .i64 0, .int .i64 0, .int .i64 0, .string (⟨#[]⟩)]) many95 h115 rfl rfl (by decide))) rfl rfl rfl ?_
     refine st_call rfl rfl rfl ent43 rfl rfl rfl ?_
     obtain ⟨_, H117, hs116, hs116v, hx118⟩ := wal_May_spec H104 (z20 == 1) z67 z91 (0 : Int) (0 : Int) (0 : Int) (⟨#[]⟩ : ByteArray)
     rw [hs116v] at hs116; clear hs116v
     refine ⟨_, H117, hs116, ?_⟩
     have H117n : H104.next ≤ H117.next := hx118.1
     refine st_op (ev_not rfl) rfl rfl rfl ?_
     refine st_op (ev_pickF rfl rfl) rfl rfl rfl ?_
     try show aw _ _ _ _ _ _
     by_cases hc119 : (!(Spec.mayF (z20 == 1) z67 z91 (0 : Int) (0 : Int) (0 : Int) (⟨#[]⟩ : ByteArray))) = true
     ·
      refine aw_condT hc119 rfl ?_
      try show aw _ _ _ _ _ _
      replace hc119 : (Spec.mayF (z20 == 1) z67 z91 (0 : Int) (0 : Int) (0 : Int) (⟨#[]⟩ : ByteArray)) = false := by rw [Bool.not_eq_true'] at hc119; exact hc119
      refine aw_seq ?_
      refine aw_reg ?_
      refine st_op (ev_build zero95 pl95 (parts := []) rfl (cs := [.bool false, .int .i64 0, .int .i64 0, .int .i64 0, .int .i64 0, .int .i64 0, .string (⟨#[]⟩)]) rfl) rfl rfl rfl ?_
      have hx121 : Ext H2 H117 := (Ext.trans (Ext.trans (Ext.then (Ext.then (Ext.then (Ext.then (Ext.then (Ext.trans (Ext.trans hx10 hx37) hx43) hf48 (fun q hq e => by omega)) hx56 (fun q hq e => by omega)) hf75 (fun q hq e => by omega)) hx80 (fun q hq e => by omega)) hf99 (fun q hq e => by omega)) hx105) hx118)
      have h120 := Ext.blk hx121 (by omega) hB5
      obtain ⟨H122, he123, H122n_, hB124, f125⟩ := mem_store (v := .agg #[.bool false, .int .i64 0, .int .i64 0, .int .i64 0, .int .i64 0, .int .i64 0, .string (⟨#[]⟩)]) (o := 0) (cs' := [.bool false, .int .i64 0, .int .i64 0, .int .i64 0, .int .i64 0, .int .i64 0, .string (⟨#[]⟩)]) 7 rfl rfl size95 h120 rfl rfl rfl
      refine st_op0 (he123 _ _ _ _ _ _ _ _ _ rfl rfl) rfl rfl ?_
      have hf126 : Fr (fun q => q = b1) H117 H122 := Fr.write H122n_ f125
      have H122n : H117.next ≤ H122.next := hf126.1
      iterate 2 refine st_op (ev_assign rfl) rfl rfl rfl ?_
      try show aw _ _ _ _ _ _
      refine aw_ret ?_
      have hx127 : Ext H H122 := (Ext.then (Ext.trans (Ext.trans (Ext.then (Ext.then (Ext.then (Ext.then (Ext.then (Ext.trans (Ext.trans (Ext.trans hx6 hx10) hx37) hx43) hf48 (fun q hq e => by omega)) hx56 (fun q hq e => by omega)) hf75 (fun q hq e => by omega)) hx80 (fun q hq e => by omega)) hf99 (fun q hq e => by omega)) hx105) hx118) hf126 (fun q hq e => by omega))
      have hres : (Spec.decF b) = (false, 0, 0, 0, 0, 0, (⟨#[]⟩ : ByteArray), 0, 3) := by simp only [Spec.decF, hR19, hR66, hR90]; simp_all [Spec.decBad]
      exact ⟨.tuple #[.agg #[.bool false, .int .i64 0, .int .i64 0, .int .i64 0, .int .i64 0, .int .i64 0, .string (⟨#[]⟩)], .int .i64 0, .int .i64 3], (resA_of (resL_cell rfl (lvar_part (l := [.bool false, .int .i64 0, .int .i64 0, .int .i64 0, .int .i64 0, .int .i64 0, .string (⟨#[]⟩)]) many95 hB124 rfl rfl (by decide)) (resL_tmp rfl (resL_tmp rfl resL_nil))) rfl), by first | (rw [hres]; done) | rw [← hres], (by exact (Spec.decF_all bb).1), (by exact (Spec.decF_all bb).2.1), (by exact (Spec.decF_all bb).2.2), hx127⟩
     ·
      rw [Bool.not_eq_true] at hc119; refine aw_condF hc119 rfl ?_
      try show aw _ _ _ _ _ _
      replace hc119 : (Spec.mayF (z20 == 1) z67 z91 (0 : Int) (0 : Int) (0 : Int) (⟨#[]⟩ : ByteArray)) = true := by rw [Bool.not_eq_false'] at hc119; exact hc119
      refine aw_skip ?_
      try show aw _ _ _ _ _ _
      refine aw_seq ?_
      refine aw_reg ?_
      have h128 := Ext.blk hx118 (by omega) h115
      refine st_op (ev_load rfl (lvar_part (l := [.bool (z20 == 1), .int .i64 z67, .int .i64 z91, .int .i64 0, .int .i64 0, .int .i64 0, .string (⟨#[]⟩)]) many95 h128 rfl rfl (by decide))) rfl rfl rfl ?_
      refine st_op (ev_move rfl) rfl rfl rfl ?_
      have hx130 : Ext H2 H117 := (Ext.trans (Ext.trans (Ext.then (Ext.then (Ext.then (Ext.then (Ext.then (Ext.trans (Ext.trans hx10 hx37) hx43) hf48 (fun q hq e => by omega)) hx56 (fun q hq e => by omega)) hf75 (fun q hq e => by omega)) hx80 (fun q hq e => by omega)) hf99 (fun q hq e => by omega)) hx105) hx118)
      have h129 := Ext.blk hx130 (by omega) hB5
      obtain ⟨H131, he132, H131n_, hB133, f134⟩ := mem_store (v := .agg #[.bool (z20 == 1), .int .i64 z67, .int .i64 z91, .int .i64 0, .int .i64 0, .int .i64 0, .string (⟨#[]⟩)]) (o := 0) (cs' := [.bool (z20 == 1), .int .i64 z67, .int .i64 z91, .int .i64 0, .int .i64 0, .int .i64 0, .string (⟨#[]⟩)]) 7 rfl rfl size95 h129 rfl rfl rfl
      refine st_op0 (he132 _ _ _ _ _ _ _ _ _ rfl rfl) rfl rfl ?_
      have hf135 : Fr (fun q => q = b1) H117 H131 := Fr.write H131n_ f134
      have H131n : H117.next ≤ H131.next := hf135.1
      iterate 2 refine st_op (ev_assign rfl) rfl rfl rfl ?_
      try show aw _ _ _ _ _ _
      refine aw_ret ?_
      have hx136 : Ext H H131 := (Ext.then (Ext.trans (Ext.trans (Ext.then (Ext.then (Ext.then (Ext.then (Ext.then (Ext.trans (Ext.trans (Ext.trans hx6 hx10) hx37) hx43) hf48 (fun q hq e => by omega)) hx56 (fun q hq e => by omega)) hf75 (fun q hq e => by omega)) hx80 (fun q hq e => by omega)) hf99 (fun q hq e => by omega)) hx105) hx118) hf135 (fun q hq e => by omega))
      have hres : (Spec.decF b) = ((z20 == 1), z67, z91, 0, 0, 0, (⟨#[]⟩ : ByteArray), z22, 0) := by simp only [Spec.decF, hR19, hR66, hR90]; simp_all [Spec.decBad]
      exact ⟨.tuple #[.agg #[.bool (z20 == 1), .int .i64 z67, .int .i64 z91, .int .i64 0, .int .i64 0, .int .i64 0, .string (⟨#[]⟩)], .int .i64 z22, .int .i64 0], (resA_of (resL_cell rfl (lvar_part (l := [.bool (z20 == 1), .int .i64 z67, .int .i64 z91, .int .i64 0, .int .i64 0, .int .i64 0, .string (⟨#[]⟩)]) many95 hB133 rfl rfl (by decide)) (resL_tmp rfl (resL_tmp rfl resL_nil))) rfl), by first | (rw [hres]; done) | rw [← hres], (by exact (Spec.decF_all bb).1), (by exact (Spec.decF_all bb).2.1), (by exact (Spec.decF_all bb).2.2), hx136⟩
  ·
   rw [Bool.not_eq_true] at hc49; refine aw_condF hc49 rfl ?_
   try show aw _ _ _ _ _ _
   have hc49 := ne_of_beq_false hc49
   refine aw_seq ?_
   refine aw_reg ?_
   refine st_op (ev_int rfl rfl rfl) rfl rfl rfl ?_
   refine st_op (ev_assign rfl) rfl rfl rfl ?_
   try show aw _ _ _ _ _ _
   by_cases hc137 : (z20 == 2) = true
   ·
    refine aw_condT hc137 rfl ?_
    try show aw _ _ _ _ _ _
    have hc137 := eq_of_beq hc137
    refine aw_seq ?_
    refine aw_reg ?_
    refine st_op (ev_move rfl) rfl rfl rfl ?_
    refine st_call rfl rfl rfl ent56 rfl rfl rfl ?_
    have hx139 : Ext H9 H44 := (Ext.then (Ext.trans hx37 hx43) hf48 (fun q hq e => by omega))
    have h138 := My.ext hm13 hx139
    have hx141 : Ext H33 H44 := (Ext.then hx43 hf48 (fun q hq e => by omega))
    have h140 := Ext.blk hx141 (by omega) hB36
    obtain ⟨_, H143, hs142, A145, c146, hs142v, hm147, hk151, hB152, hq148, hq149, hq150, hx144⟩ := wal_rnum_spec H44 A11 z21 c12 (My.row h138) (My.capF h138 (by omega)) (by omega) (by assumption) false b32 (by omega) h140
    rw [hs142v] at hs142; clear hs142v
    generalize hR154 : (Spec.rdN z21 false) = r153 at hs142 hm147 hk151 hB152 hq148 hq149 hq150
    obtain ⟨z155, z156, z157⟩ := r153
    dsimp only at hs142 hm147 hk151 hB152 hq148 hq149 hq150
    refine ⟨_, H143, hs142, ?_⟩
    have H143n : H44.next ≤ H143.next := hx144.1
    refine st_op (ev_fieldAddr rfl fa95_2 (o' := 3) rfl) rfl rfl rfl ?_
    refine st_op (ev_fieldAddr rfl fa54_0 (o' := 3) rfl) rfl rfl rfl ?_
    have h158 := Fr.blk hx144 (by omega) (fun e => (by omega)) hB46
    obtain ⟨H159, he160, H159n_, hB161, f162⟩ := mem_store (v := .int .i64 z155) (o := 3) (cs' := [.bool (z20 == 1), .int .i64 0, .int .i64 0, .int .i64 z155, .int .i64 0, .int .i64 0, .string (⟨#[]⟩)]) 1 rfl rfl size2 h158 rfl rfl rfl
    refine st_op0 (he160 _ _ _ _ _ _ _ _ _ rfl rfl) rfl rfl ?_
    have hf163 : Fr (fun q => q = b38) H143 H159 := Fr.write H159n_ f162
    have H159n : H143.next ≤ H159.next := hf163.1
    try show aw _ _ _ _ _ _
    refine aw_seq ?_
    refine aw_reg ?_
    refine st_op (ev_move rfl) rfl rfl rfl ?_
    refine st_call rfl rfl rfl ent56 rfl rfl rfl ?_
    have h164 := Row.fr hm147 hf163 (fun q hq e => ⟨_, e ▸ h158, show (0 : Nat) ≠ 1 by decide⟩)
    have h165 := Fr.blk hf163 (by omega) (fun e => (by omega)) hB152
    obtain ⟨_, H167, hs166, A169, c170, hs166v, hm171, hk175, hB176, hq172, hq173, hq174, hx168⟩ := wal_rnum_spec H159 A145 z156 c146 h164 hk151 (by omega) (by assumption) z157 b32 (by omega) h165
    rw [hs166v] at hs166; clear hs166v
    generalize hR178 : (Spec.rdN z156 z157) = r177 at hs166 hm171 hk175 hB176 hq172 hq173 hq174
    obtain ⟨z179, z180, z181⟩ := r177
    dsimp only at hs166 hm171 hk175 hB176 hq172 hq173 hq174
    refine ⟨_, H167, hs166, ?_⟩
    have H167n : H159.next ≤ H167.next := hx168.1
    refine st_op (ev_fieldAddr rfl fa95_2 (o' := 3) rfl) rfl rfl rfl ?_
    refine st_op (ev_fieldAddr rfl fa54_1 (o' := 4) rfl) rfl rfl rfl ?_
    have h182 := Fr.blk hx168 (by omega) (fun e => (by omega)) hB161
    obtain ⟨H183, he184, H183n_, hB185, f186⟩ := mem_store (v := .int .i64 z179) (o := 4) (cs' := [.bool (z20 == 1), .int .i64 0, .int .i64 0, .int .i64 z155, .int .i64 z179, .int .i64 0, .string (⟨#[]⟩)]) 1 rfl rfl size2 h182 rfl rfl rfl
    refine st_op0 (he184 _ _ _ _ _ _ _ _ _ rfl rfl) rfl rfl ?_
    have hf187 : Fr (fun q => q = b38) H167 H183 := Fr.write H183n_ f186
    have H183n : H167.next ≤ H183.next := hf187.1
    try show aw _ _ _ _ _ _
    refine aw_seq ?_
    refine aw_reg ?_
    refine st_op (ev_move rfl) rfl rfl rfl ?_
    refine st_call rfl rfl rfl ent56 rfl rfl rfl ?_
    have h188 := Row.fr hm171 hf187 (fun q hq e => ⟨_, e ▸ h182, show (0 : Nat) ≠ 1 by decide⟩)
    have h189 := Fr.blk hf187 (by omega) (fun e => (by omega)) hB176
    obtain ⟨_, H191, hs190, A193, c194, hs190v, hm195, hk199, hB200, hq196, hq197, hq198, hx192⟩ := wal_rnum_spec H183 A169 z180 c170 h188 hk175 (by omega) (by assumption) z181 b32 (by omega) h189
    rw [hs190v] at hs190; clear hs190v
    generalize hR202 : (Spec.rdN z180 z181) = r201 at hs190 hm195 hk199 hB200 hq196 hq197 hq198
    obtain ⟨z203, z204, z205⟩ := r201
    dsimp only at hs190 hm195 hk199 hB200 hq196 hq197 hq198
    refine ⟨_, H191, hs190, ?_⟩
    have H191n : H183.next ≤ H191.next := hx192.1
    refine st_op (ev_fieldAddr rfl fa95_2 (o' := 3) rfl) rfl rfl rfl ?_
    refine st_op (ev_fieldAddr rfl fa54_2 (o' := 5) rfl) rfl rfl rfl ?_
    have h206 := Fr.blk hx192 (by omega) (fun e => (by omega)) hB185
    obtain ⟨H207, he208, H207n_, hB209, f210⟩ := mem_store (v := .int .i64 z203) (o := 5) (cs' := [.bool (z20 == 1), .int .i64 0, .int .i64 0, .int .i64 z155, .int .i64 z179, .int .i64 z203, .string (⟨#[]⟩)]) 1 rfl rfl size3 h206 rfl rfl rfl
    refine st_op0 (he208 _ _ _ _ _ _ _ _ _ rfl rfl) rfl rfl ?_
    have hf211 : Fr (fun q => q = b38) H191 H207 := Fr.write H207n_ f210
    have H207n : H191.next ≤ H207.next := hf211.1
    try show aw _ _ _ _ _ _
    refine aw_reg ?_
    refine st_op (ev_move rfl) rfl rfl rfl ?_
    refine st_call rfl rfl rfl ent57 rfl rfl rfl ?_
    have h212 := Row.fr hm195 hf211 (fun q hq e => ⟨_, e ▸ h206, show (0 : Nat) ≠ 1 by decide⟩)
    have h213 := Fr.blk hf211 (by omega) (fun e => (by omega)) hB200
    obtain ⟨_, H215, hs214, A217, c218, hs214v, hm219, hk223, hB224, hq220, hq221, hq222, hx216⟩ := wal_rtext_spec H207 A193 z204 c194 h212 hk199 (by omega) (by assumption) z205 b32 (by omega) h213
    rw [hs214v] at hs214; clear hs214v
    generalize hR226 : (Spec.rdT z204 z205) = r225 at hs214 hm219 hk223 hB224 hq220 hq221 hq222
    obtain ⟨z227, z228, z229⟩ := r225
    dsimp only at hs214 hm219 hk223 hB224 hq220 hq221 hq222
    refine ⟨_, H215, hs214, ?_⟩
    have H215n : H207.next ≤ H215.next := hx216.1
    refine st_op (ev_fieldAddr rfl fa95_2 (o' := 3) rfl) rfl rfl rfl ?_
    refine st_op (ev_fieldAddr rfl fa54_3 (o' := 6) rfl) rfl rfl rfl ?_
    have h230 := Fr.blk hx216 (by omega) (fun e => (by omega)) hB209
    obtain ⟨H231, he232, H231n_, hB233, f234⟩ := mem_store (v := .string z227) (o := 6) (cs' := [.bool (z20 == 1), .int .i64 0, .int .i64 0, .int .i64 z155, .int .i64 z179, .int .i64 z203, .string z227]) 1 rfl rfl size9 h230 rfl rfl rfl
    refine st_op0 (he232 _ _ _ _ _ _ _ _ _ rfl rfl) rfl rfl ?_
    have hf235 : Fr (fun q => q = b38) H215 H231 := Fr.write H231n_ f234
    have H231n : H215.next ≤ H231.next := hf235.1
    try show aw _ _ _ _ _ _
    iterate 2 refine aw_seq ?_
    refine aw_reg ?_
    refine st_op (ev_move rfl) rfl rfl rfl ?_
    refine st_op (ev_int rfl rfl rfl) rfl rfl rfl ?_
    refine st_op (ev_move rfl) rfl rfl rfl ?_
    refine st_bool 59 rfl (fun hb236 => ?_) (fun hb236 => ?_)
    ·
     have hb236 : ¬ (z20 = 1) := by simpa using hb236
     refine st_op (ev_move rfl) rfl rfl rfl ?_
     refine st_op (ev_int rfl rfl rfl) rfl rfl rfl ?_
     refine st_op (ev_pickT rfl rfl) rfl rfl rfl ?_
     refine st_op (ev_move rfl) rfl rfl rfl ?_
     refine st_bool 63 rfl (fun hb237 => ?_) (fun hb237 => ?_)
     ·
      have hb237 : ¬ (z20 = 2) := by simpa using hb237
      exfalso; omega
     ·
      have hb237 : (z20 = 2) := by simpa using hb237
      refine st_op (ev_move rfl) rfl rfl rfl ?_
      refine st_call rfl rfl rfl ent58 rfl rfl rfl ?_
      have h238 := Row.fr hm219 hf235 (fun q hq e => ⟨_, e ▸ h230, show (0 : Nat) ≠ 1 by decide⟩)
      have h239 := Fr.blk hf235 (by omega) (fun e => (by omega)) hB224
      obtain ⟨_, H241, hs240, hs240v, hx242⟩ := wal_rdone_spec H231 A217 z228 c218 h238 hk223 (by omega) (by assumption) z229 b32 (by omega) h239
      rw [hs240v] at hs240; clear hs240v
      refine ⟨_, H241, hs240, ?_⟩
      have H241n : H231.next ≤ H241.next := hx242.1
      refine st_op (ev_not rfl) rfl rfl rfl ?_
      refine st_op (ev_pickF rfl rfl) rfl rfl rfl ?_
      refine st_op (ev_move rfl) rfl rfl rfl ?_
      refine st_bool 68 rfl (fun hb243 => ?_) (fun hb243 => ?_)
      ·
       replace hb243 : (!z229 && z228.isEmpty) = false := by rw [Bool.not_eq_true'] at hb243; exact hb243
       iterate 3 refine st_skip rfl rfl rfl ?_
       refine st_op (ev_pickT rfl rfl) rfl rfl rfl ?_
       try show aw _ _ _ _ _ _
       refine aw_cond (t := true) rfl ?_
       try show aw _ _ _ _ _ _
       refine aw_seq ?_
       refine aw_reg ?_
       refine st_op (ev_build zero95 pl95 (parts := []) rfl (cs := [.bool false, .int .i64 0, .int .i64 0, .int .i64 0, .int .i64 0, .int .i64 0, .string (⟨#[]⟩)]) rfl) rfl rfl rfl ?_
       have hx245 : Ext H2 H241 := (Ext.trans (Ext.then (Ext.then (Ext.then (Ext.then (Ext.then (Ext.then (Ext.then (Ext.then (Ext.then (Ext.trans (Ext.trans hx10 hx37) hx43) hf48 (fun q hq e => by omega)) hx144 (fun q hq e => by omega)) hf163 (fun q hq e => by omega)) hx168 (fun q hq e => by omega)) hf187 (fun q hq e => by omega)) hx192 (fun q hq e => by omega)) hf211 (fun q hq e => by omega)) hx216 (fun q hq e => by omega)) hf235 (fun q hq e => by omega)) hx242)
       have h244 := Ext.blk hx245 (by omega) hB5
       obtain ⟨H246, he247, H246n_, hB248, f249⟩ := mem_store (v := .agg #[.bool false, .int .i64 0, .int .i64 0, .int .i64 0, .int .i64 0, .int .i64 0, .string (⟨#[]⟩)]) (o := 0) (cs' := [.bool false, .int .i64 0, .int .i64 0, .int .i64 0, .int .i64 0, .int .i64 0, .string (⟨#[]⟩)]) 7 rfl rfl size95 h244 rfl rfl rfl
       refine st_op0 (he247 _ _ _ _ _ _ _ _ _ rfl rfl) rfl rfl ?_
       have hf250 : Fr (fun q => q = b1) H241 H246 := Fr.write H246n_ f249
       have H246n : H241.next ≤ H246.next := hf250.1
       iterate 2 refine st_op (ev_assign rfl) rfl rfl rfl ?_
       try show aw _ _ _ _ _ _
       refine aw_ret ?_
       have hx251 : Ext H H246 := (Ext.then (Ext.trans (Ext.then (Ext.then (Ext.then (Ext.then (Ext.then (Ext.then (Ext.then (Ext.then (Ext.then (Ext.trans (Ext.trans (Ext.trans hx6 hx10) hx37) hx43) hf48 (fun q hq e => by omega)) hx144 (fun q hq e => by omega)) hf163 (fun q hq e => by omega)) hx168 (fun q hq e => by omega)) hf187 (fun q hq e => by omega)) hx192 (fun q hq e => by omega)) hf211 (fun q hq e => by omega)) hx216 (fun q hq e => by omega)) hf235 (fun q hq e => by omega)) hx242) hf250 (fun q hq e => by omega))
       have hres : (Spec.decF b) = (false, 0, 0, 0, 0, 0, (⟨#[]⟩ : ByteArray), 0, 3) := by simp only [Spec.decF, hR19, hR154, hR178, hR202, hR226]; simp_all [Spec.decBad]
       exact ⟨.tuple #[.agg #[.bool false, .int .i64 0, .int .i64 0, .int .i64 0, .int .i64 0, .int .i64 0, .string (⟨#[]⟩)], .int .i64 0, .int .i64 3], (resA_of (resL_cell rfl (lvar_part (l := [.bool false, .int .i64 0, .int .i64 0, .int .i64 0, .int .i64 0, .int .i64 0, .string (⟨#[]⟩)]) many95 hB248 rfl rfl (by decide)) (resL_tmp rfl (resL_tmp rfl resL_nil))) rfl), by first | (rw [hres]; done) | rw [← hres], (by exact (Spec.decF_all bb).1), (by exact (Spec.decF_all bb).2.1), (by exact (Spec.decF_all bb).2.2), hx251⟩
      ·
       replace hb243 : (!z229 && z228.isEmpty) = true := by rw [Bool.not_eq_false'] at hb243; exact hb243
       have h252 := Ext.blk hx242 (by omega) hB233
       refine st_op (ev_load rfl (lvar_part (l := [.bool (z20 == 1), .int .i64 0, .int .i64 0, .int .i64 z155, .int .i64 z179, .int .i64 z203, .string z227]) many95 h252 rfl rfl (by decide))) rfl rfl rfl ?_
       refine st_call rfl rfl rfl ent43 rfl rfl rfl ?_
       obtain ⟨_, H254, hs253, hs253v, hx255⟩ := wal_May_spec H241 (z20 == 1) (0 : Int) (0 : Int) z155 z179 z203 z227
       rw [hs253v] at hs253; clear hs253v
       refine ⟨_, H254, hs253, ?_⟩
       have H254n : H241.next ≤ H254.next := hx255.1
       refine st_op (ev_not rfl) rfl rfl rfl ?_
       refine st_op (ev_pickF rfl rfl) rfl rfl rfl ?_
       try show aw _ _ _ _ _ _
       by_cases hc256 : (!(Spec.mayF (z20 == 1) (0 : Int) (0 : Int) z155 z179 z203 z227)) = true
       ·
        refine aw_condT hc256 rfl ?_
        try show aw _ _ _ _ _ _
        replace hc256 : (Spec.mayF (z20 == 1) (0 : Int) (0 : Int) z155 z179 z203 z227) = false := by rw [Bool.not_eq_true'] at hc256; exact hc256
        refine aw_seq ?_
        refine aw_reg ?_
        refine st_op (ev_build zero95 pl95 (parts := []) rfl (cs := [.bool false, .int .i64 0, .int .i64 0, .int .i64 0, .int .i64 0, .int .i64 0, .string (⟨#[]⟩)]) rfl) rfl rfl rfl ?_
        have hx258 : Ext H2 H254 := (Ext.trans (Ext.trans (Ext.then (Ext.then (Ext.then (Ext.then (Ext.then (Ext.then (Ext.then (Ext.then (Ext.then (Ext.trans (Ext.trans hx10 hx37) hx43) hf48 (fun q hq e => by omega)) hx144 (fun q hq e => by omega)) hf163 (fun q hq e => by omega)) hx168 (fun q hq e => by omega)) hf187 (fun q hq e => by omega)) hx192 (fun q hq e => by omega)) hf211 (fun q hq e => by omega)) hx216 (fun q hq e => by omega)) hf235 (fun q hq e => by omega)) hx242) hx255)
        have h257 := Ext.blk hx258 (by omega) hB5
        obtain ⟨H259, he260, H259n_, hB261, f262⟩ := mem_store (v := .agg #[.bool false, .int .i64 0, .int .i64 0, .int .i64 0, .int .i64 0, .int .i64 0, .string (⟨#[]⟩)]) (o := 0) (cs' := [.bool false, .int .i64 0, .int .i64 0, .int .i64 0, .int .i64 0, .int .i64 0, .string (⟨#[]⟩)]) 7 rfl rfl size95 h257 rfl rfl rfl
        refine st_op0 (he260 _ _ _ _ _ _ _ _ _ rfl rfl) rfl rfl ?_
        have hf263 : Fr (fun q => q = b1) H254 H259 := Fr.write H259n_ f262
        have H259n : H254.next ≤ H259.next := hf263.1
        iterate 2 refine st_op (ev_assign rfl) rfl rfl rfl ?_
        try show aw _ _ _ _ _ _
        refine aw_ret ?_
        have hx264 : Ext H H259 := (Ext.then (Ext.trans (Ext.trans (Ext.then (Ext.then (Ext.then (Ext.then (Ext.then (Ext.then (Ext.then (Ext.then (Ext.then (Ext.trans (Ext.trans (Ext.trans hx6 hx10) hx37) hx43) hf48 (fun q hq e => by omega)) hx144 (fun q hq e => by omega)) hf163 (fun q hq e => by omega)) hx168 (fun q hq e => by omega)) hf187 (fun q hq e => by omega)) hx192 (fun q hq e => by omega)) hf211 (fun q hq e => by omega)) hx216 (fun q hq e => by omega)) hf235 (fun q hq e => by omega)) hx242) hx255) hf263 (fun q hq e => by omega))
        have hres : (Spec.decF b) = (false, 0, 0, 0, 0, 0, (⟨#[]⟩ : ByteArray), 0, 3) := by simp only [Spec.decF, hR19, hR154, hR178, hR202, hR226]; simp_all [Spec.decBad]
        exact ⟨.tuple #[.agg #[.bool false, .int .i64 0, .int .i64 0, .int .i64 0, .int .i64 0, .int .i64 0, .string (⟨#[]⟩)], .int .i64 0, .int .i64 3], (resA_of (resL_cell rfl (lvar_part (l := [.bool false, .int .i64 0, .int .i64 0, .int .i64 0, .int .i64 0, .int .i64 0, .string (⟨#[]⟩)]) many95 hB261 rfl rfl (by decide)) (resL_tmp rfl (resL_tmp rfl resL_nil))) rfl), by first | (rw [hres]; done) | rw [← hres], (by exact (Spec.decF_all bb).1), (by exact (Spec.decF_all bb).2.1), (by exact (Spec.decF_all bb).2.2), hx264⟩
       ·
        rw [Bool.not_eq_true] at hc256; refine aw_condF hc256 rfl ?_
        try show aw _ _ _ _ _ _
        replace hc256 : (Spec.mayF (z20 == 1) (0 : Int) (0 : Int) z155 z179 z203 z227) = true := by rw [Bool.not_eq_false'] at hc256; exact hc256
        refine aw_skip ?_
        try show aw _ _ _ _ _ _
        refine aw_seq ?_
        refine aw_reg ?_
        have h265 := Ext.blk hx255 (by omega) h252
        refine st_op (ev_load rfl (lvar_part (l := [.bool (z20 == 1), .int .i64 0, .int .i64 0, .int .i64 z155, .int .i64 z179, .int .i64 z203, .string z227]) many95 h265 rfl rfl (by decide))) rfl rfl rfl ?_
        refine st_op (ev_move rfl) rfl rfl rfl ?_
        have hx267 : Ext H2 H254 := (Ext.trans (Ext.trans (Ext.then (Ext.then (Ext.then (Ext.then (Ext.then (Ext.then (Ext.then (Ext.then (Ext.then (Ext.trans (Ext.trans hx10 hx37) hx43) hf48 (fun q hq e => by omega)) hx144 (fun q hq e => by omega)) hf163 (fun q hq e => by omega)) hx168 (fun q hq e => by omega)) hf187 (fun q hq e => by omega)) hx192 (fun q hq e => by omega)) hf211 (fun q hq e => by omega)) hx216 (fun q hq e => by omega)) hf235 (fun q hq e => by omega)) hx242) hx255)
        have h266 := Ext.blk hx267 (by omega) hB5
        obtain ⟨H268, he269, H268n_, hB270, f271⟩ := mem_store (v := .agg #[.bool (z20 == 1), .int .i64 0, .int .i64 0, .int .i64 z155, .int .i64 z179, .int .i64 z203, .string z227]) (o := 0) (cs' := [.bool (z20 == 1), .int .i64 0, .int .i64 0, .int .i64 z155, .int .i64 z179, .int .i64 z203, .string z227]) 7 rfl rfl size95 h266 rfl rfl rfl
        refine st_op0 (he269 _ _ _ _ _ _ _ _ _ rfl rfl) rfl rfl ?_
        have hf272 : Fr (fun q => q = b1) H254 H268 := Fr.write H268n_ f271
        have H268n : H254.next ≤ H268.next := hf272.1
        iterate 2 refine st_op (ev_assign rfl) rfl rfl rfl ?_
        try show aw _ _ _ _ _ _
        refine aw_ret ?_
        have hx273 : Ext H H268 := (Ext.then (Ext.trans (Ext.trans (Ext.then (Ext.then (Ext.then (Ext.then (Ext.then (Ext.then (Ext.then (Ext.then (Ext.then (Ext.trans (Ext.trans (Ext.trans hx6 hx10) hx37) hx43) hf48 (fun q hq e => by omega)) hx144 (fun q hq e => by omega)) hf163 (fun q hq e => by omega)) hx168 (fun q hq e => by omega)) hf187 (fun q hq e => by omega)) hx192 (fun q hq e => by omega)) hf211 (fun q hq e => by omega)) hx216 (fun q hq e => by omega)) hf235 (fun q hq e => by omega)) hx242) hx255) hf272 (fun q hq e => by omega))
        have hres : (Spec.decF b) = ((z20 == 1), 0, 0, z155, z179, z203, z227, z22, 0) := by simp only [Spec.decF, hR19, hR154, hR178, hR202, hR226]; simp_all [Spec.decBad]
        exact ⟨.tuple #[.agg #[.bool (z20 == 1), .int .i64 0, .int .i64 0, .int .i64 z155, .int .i64 z179, .int .i64 z203, .string z227], .int .i64 z22, .int .i64 0], (resA_of (resL_cell rfl (lvar_part (l := [.bool (z20 == 1), .int .i64 0, .int .i64 0, .int .i64 z155, .int .i64 z179, .int .i64 z203, .string z227]) many95 hB270 rfl rfl (by decide)) (resL_tmp rfl (resL_tmp rfl resL_nil))) rfl), by first | (rw [hres]; done) | rw [← hres], (by exact (Spec.decF_all bb).1), (by exact (Spec.decF_all bb).2.1), (by exact (Spec.decF_all bb).2.2), hx273⟩
    ·
     have hb236 : (z20 = 1) := by simpa using hb236
     exfalso; omega
   ·
    rw [Bool.not_eq_true] at hc137; refine aw_condF hc137 rfl ?_
    try show aw _ _ _ _ _ _
    have hc137 := ne_of_beq_false hc137
    refine aw_skip ?_
    try show aw _ _ _ _ _ _
    iterate 2 refine aw_seq ?_
    refine aw_reg ?_
    refine st_op (ev_move rfl) rfl rfl rfl ?_
    refine st_op (ev_int rfl rfl rfl) rfl rfl rfl ?_
    refine st_op (ev_move rfl) rfl rfl rfl ?_
    refine st_bool 59 rfl (fun hb274 => ?_) (fun hb274 => ?_)
    ·
     have hb274 : ¬ (z20 = 1) := by simpa using hb274
     refine st_op (ev_move rfl) rfl rfl rfl ?_
     refine st_op (ev_int rfl rfl rfl) rfl rfl rfl ?_
     refine st_op (ev_pickT rfl rfl) rfl rfl rfl ?_
     refine st_op (ev_move rfl) rfl rfl rfl ?_
     refine st_bool 63 rfl (fun hb275 => ?_) (fun hb275 => ?_)
     ·
      have hb275 : ¬ (z20 = 2) := by simpa using hb275
      iterate 3 refine st_skip rfl rfl rfl ?_
      refine st_op (ev_pickT rfl rfl) rfl rfl rfl ?_
      refine st_op (ev_move rfl) rfl rfl rfl ?_
      iterate 3 refine st_skip rfl rfl rfl ?_
      refine st_op (ev_pickT rfl rfl) rfl rfl rfl ?_
      try show aw _ _ _ _ _ _
      refine aw_cond (t := true) rfl ?_
      try show aw _ _ _ _ _ _
      refine aw_seq ?_
      refine aw_reg ?_
      refine st_op (ev_build zero95 pl95 (parts := []) rfl (cs := [.bool false, .int .i64 0, .int .i64 0, .int .i64 0, .int .i64 0, .int .i64 0, .string (⟨#[]⟩)]) rfl) rfl rfl rfl ?_
      have hx277 : Ext H2 H44 := (Ext.then (Ext.trans (Ext.trans hx10 hx37) hx43) hf48 (fun q hq e => by omega))
      have h276 := Ext.blk hx277 (by omega) hB5
      obtain ⟨H278, he279, H278n_, hB280, f281⟩ := mem_store (v := .agg #[.bool false, .int .i64 0, .int .i64 0, .int .i64 0, .int .i64 0, .int .i64 0, .string (⟨#[]⟩)]) (o := 0) (cs' := [.bool false, .int .i64 0, .int .i64 0, .int .i64 0, .int .i64 0, .int .i64 0, .string (⟨#[]⟩)]) 7 rfl rfl size95 h276 rfl rfl rfl
      refine st_op0 (he279 _ _ _ _ _ _ _ _ _ rfl rfl) rfl rfl ?_
      have hf282 : Fr (fun q => q = b1) H44 H278 := Fr.write H278n_ f281
      have H278n : H44.next ≤ H278.next := hf282.1
      iterate 2 refine st_op (ev_assign rfl) rfl rfl rfl ?_
      try show aw _ _ _ _ _ _
      refine aw_ret ?_
      have hx283 : Ext H H278 := (Ext.then (Ext.then (Ext.trans (Ext.trans (Ext.trans hx6 hx10) hx37) hx43) hf48 (fun q hq e => by omega)) hf282 (fun q hq e => by omega))
      have hres : (Spec.decF b) = (false, 0, 0, 0, 0, 0, (⟨#[]⟩ : ByteArray), 0, 3) := by simp only [Spec.decF, hR19]; simp_all [Spec.decBad]
      exact ⟨.tuple #[.agg #[.bool false, .int .i64 0, .int .i64 0, .int .i64 0, .int .i64 0, .int .i64 0, .string (⟨#[]⟩)], .int .i64 0, .int .i64 3], (resA_of (resL_cell rfl (lvar_part (l := [.bool false, .int .i64 0, .int .i64 0, .int .i64 0, .int .i64 0, .int .i64 0, .string (⟨#[]⟩)]) many95 hB280 rfl rfl (by decide)) (resL_tmp rfl (resL_tmp rfl resL_nil))) rfl), by first | (rw [hres]; done) | rw [← hres], (by exact (Spec.decF_all bb).1), (by exact (Spec.decF_all bb).2.1), (by exact (Spec.decF_all bb).2.2), hx283⟩
     ·
      have hb275 : (z20 = 2) := by simpa using hb275
      refine st_op (ev_move rfl) rfl rfl rfl ?_
      refine st_call rfl rfl rfl ent58 rfl rfl rfl ?_
      have hx285 : Ext H9 H44 := (Ext.then (Ext.trans hx37 hx43) hf48 (fun q hq e => by omega))
      have h284 := My.ext hm13 hx285
      have hx287 : Ext H33 H44 := (Ext.then hx43 hf48 (fun q hq e => by omega))
      have h286 := Ext.blk hx287 (by omega) hB36
      obtain ⟨_, H289, hs288, hs288v, hx290⟩ := wal_rdone_spec H44 A11 z21 c12 (My.row h284) (My.capF h284 (by omega)) (by omega) (by assumption) false b32 (by omega) h286
      rw [hs288v] at hs288; clear hs288v
      refine ⟨_, H289, hs288, ?_⟩
      have H289n : H44.next ≤ H289.next := hx290.1
      refine st_op (ev_not rfl) rfl rfl rfl ?_
      refine st_op (ev_pickF rfl rfl) rfl rfl rfl ?_
      refine st_op (ev_move rfl) rfl rfl rfl ?_
      refine st_bool 68 rfl (fun hb291 => ?_) (fun hb291 => ?_)
      ·
       replace hb291 : (!false && z21.isEmpty) = false := by rw [Bool.not_eq_true'] at hb291; exact hb291
       iterate 3 refine st_skip rfl rfl rfl ?_
       refine st_op (ev_pickT rfl rfl) rfl rfl rfl ?_
       try show aw _ _ _ _ _ _
       refine aw_cond (t := true) rfl ?_
       try show aw _ _ _ _ _ _
       refine aw_seq ?_
       refine aw_reg ?_
       refine st_op (ev_build zero95 pl95 (parts := []) rfl (cs := [.bool false, .int .i64 0, .int .i64 0, .int .i64 0, .int .i64 0, .int .i64 0, .string (⟨#[]⟩)]) rfl) rfl rfl rfl ?_
       have hx293 : Ext H2 H289 := (Ext.trans (Ext.then (Ext.trans (Ext.trans hx10 hx37) hx43) hf48 (fun q hq e => by omega)) hx290)
       have h292 := Ext.blk hx293 (by omega) hB5
       obtain ⟨H294, he295, H294n_, hB296, f297⟩ := mem_store (v := .agg #[.bool false, .int .i64 0, .int .i64 0, .int .i64 0, .int .i64 0, .int .i64 0, .string (⟨#[]⟩)]) (o := 0) (cs' := [.bool false, .int .i64 0, .int .i64 0, .int .i64 0, .int .i64 0, .int .i64 0, .string (⟨#[]⟩)]) 7 rfl rfl size95 h292 rfl rfl rfl
       refine st_op0 (he295 _ _ _ _ _ _ _ _ _ rfl rfl) rfl rfl ?_
       have hf298 : Fr (fun q => q = b1) H289 H294 := Fr.write H294n_ f297
       have H294n : H289.next ≤ H294.next := hf298.1
       iterate 2 refine st_op (ev_assign rfl) rfl rfl rfl ?_
       try show aw _ _ _ _ _ _
       refine aw_ret ?_
       have hx299 : Ext H H294 := (Ext.then (Ext.trans (Ext.then (Ext.trans (Ext.trans (Ext.trans hx6 hx10) hx37) hx43) hf48 (fun q hq e => by omega)) hx290) hf298 (fun q hq e => by omega))
       have hres : (Spec.decF b) = (false, 0, 0, 0, 0, 0, (⟨#[]⟩ : ByteArray), 0, 3) := by simp only [Spec.decF, hR19]; simp_all [Spec.decBad]
       exact ⟨.tuple #[.agg #[.bool false, .int .i64 0, .int .i64 0, .int .i64 0, .int .i64 0, .int .i64 0, .string (⟨#[]⟩)], .int .i64 0, .int .i64 3], (resA_of (resL_cell rfl (lvar_part (l := [.bool false, .int .i64 0, .int .i64 0, .int .i64 0, .int .i64 0, .int .i64 0, .string (⟨#[]⟩)]) many95 hB296 rfl rfl (by decide)) (resL_tmp rfl (resL_tmp rfl resL_nil))) rfl), by first | (rw [hres]; done) | rw [← hres], (by exact (Spec.decF_all bb).1), (by exact (Spec.decF_all bb).2.1), (by exact (Spec.decF_all bb).2.2), hx299⟩
      ·
       replace hb291 : (!false && z21.isEmpty) = true := by rw [Bool.not_eq_false'] at hb291; exact hb291
       have h300 := Ext.blk hx290 (by omega) hB46
       refine st_op (ev_load rfl (lvar_part (l := [.bool (z20 == 1), .int .i64 0, .int .i64 0, .int .i64 0, .int .i64 0, .int .i64 0, .string (⟨#[]⟩)]) many95 h300 rfl rfl (by decide))) rfl rfl rfl ?_
       refine st_call rfl rfl rfl ent43 rfl rfl rfl ?_
       obtain ⟨_, H302, hs301, hs301v, hx303⟩ := wal_May_spec H289 (z20 == 1) (0 : Int) (0 : Int) (0 : Int) (0 : Int) (0 : Int) (⟨#[]⟩ : ByteArray)
       rw [hs301v] at hs301; clear hs301v
       refine ⟨_, H302, hs301, ?_⟩
       have H302n : H289.next ≤ H302.next := hx303.1
       refine st_op (ev_not rfl) rfl rfl rfl ?_
       refine st_op (ev_pickF rfl rfl) rfl rfl rfl ?_
       try show aw _ _ _ _ _ _
       by_cases hc304 : (!(Spec.mayF (z20 == 1) (0 : Int) (0 : Int) (0 : Int) (0 : Int) (0 : Int) (⟨#[]⟩ : ByteArray))) = true
       ·
        refine aw_condT hc304 rfl ?_
        try show aw _ _ _ _ _ _
        replace hc304 : (Spec.mayF (z20 == 1) (0 : Int) (0 : Int) (0 : Int) (0 : Int) (0 : Int) (⟨#[]⟩ : ByteArray)) = false := by rw [Bool.not_eq_true'] at hc304; exact hc304
        refine aw_seq ?_
        refine aw_reg ?_
        refine st_op (ev_build zero95 pl95 (parts := []) rfl (cs := [.bool false, .int .i64 0, .int .i64 0, .int .i64 0, .int .i64 0, .int .i64 0, .string (⟨#[]⟩)]) rfl) rfl rfl rfl ?_
        have hx306 : Ext H2 H302 := (Ext.trans (Ext.trans (Ext.then (Ext.trans (Ext.trans hx10 hx37) hx43) hf48 (fun q hq e => by omega)) hx290) hx303)
        have h305 := Ext.blk hx306 (by omega) hB5
        obtain ⟨H307, he308, H307n_, hB309, f310⟩ := mem_store (v := .agg #[.bool false, .int .i64 0, .int .i64 0, .int .i64 0, .int .i64 0, .int .i64 0, .string (⟨#[]⟩)]) (o := 0) (cs' := [.bool false, .int .i64 0, .int .i64 0, .int .i64 0, .int .i64 0, .int .i64 0, .string (⟨#[]⟩)]) 7 rfl rfl size95 h305 rfl rfl rfl
        refine st_op0 (he308 _ _ _ _ _ _ _ _ _ rfl rfl) rfl rfl ?_
        have hf311 : Fr (fun q => q = b1) H302 H307 := Fr.write H307n_ f310
        have H307n : H302.next ≤ H307.next := hf311.1
        iterate 2 refine st_op (ev_assign rfl) rfl rfl rfl ?_
        try show aw _ _ _ _ _ _
        refine aw_ret ?_
        have hx312 : Ext H H307 := (Ext.then (Ext.trans (Ext.trans (Ext.then (Ext.trans (Ext.trans (Ext.trans hx6 hx10) hx37) hx43) hf48 (fun q hq e => by omega)) hx290) hx303) hf311 (fun q hq e => by omega))
        have hres : (Spec.decF b) = (false, 0, 0, 0, 0, 0, (⟨#[]⟩ : ByteArray), 0, 3) := by simp only [Spec.decF, hR19]; simp_all [Spec.decBad]
        exact ⟨.tuple #[.agg #[.bool false, .int .i64 0, .int .i64 0, .int .i64 0, .int .i64 0, .int .i64 0, .string (⟨#[]⟩)], .int .i64 0, .int .i64 3], (resA_of (resL_cell rfl (lvar_part (l := [.bool false, .int .i64 0, .int .i64 0, .int .i64 0, .int .i64 0, .int .i64 0, .string (⟨#[]⟩)]) many95 hB309 rfl rfl (by decide)) (resL_tmp rfl (resL_tmp rfl resL_nil))) rfl), by first | (rw [hres]; done) | rw [← hres], (by exact (Spec.decF_all bb).1), (by exact (Spec.decF_all bb).2.1), (by exact (Spec.decF_all bb).2.2), hx312⟩
       ·
        rw [Bool.not_eq_true] at hc304; refine aw_condF hc304 rfl ?_
        try show aw _ _ _ _ _ _
        replace hc304 : (Spec.mayF (z20 == 1) (0 : Int) (0 : Int) (0 : Int) (0 : Int) (0 : Int) (⟨#[]⟩ : ByteArray)) = true := by rw [Bool.not_eq_false'] at hc304; exact hc304
        refine aw_skip ?_
        try show aw _ _ _ _ _ _
        refine aw_seq ?_
        refine aw_reg ?_
        have h313 := Ext.blk hx303 (by omega) h300
        refine st_op (ev_load rfl (lvar_part (l := [.bool (z20 == 1), .int .i64 0, .int .i64 0, .int .i64 0, .int .i64 0, .int .i64 0, .string (⟨#[]⟩)]) many95 h313 rfl rfl (by decide))) rfl rfl rfl ?_
        refine st_op (ev_move rfl) rfl rfl rfl ?_
        have hx315 : Ext H2 H302 := (Ext.trans (Ext.trans (Ext.then (Ext.trans (Ext.trans hx10 hx37) hx43) hf48 (fun q hq e => by omega)) hx290) hx303)
        have h314 := Ext.blk hx315 (by omega) hB5
        obtain ⟨H316, he317, H316n_, hB318, f319⟩ := mem_store (v := .agg #[.bool (z20 == 1), .int .i64 0, .int .i64 0, .int .i64 0, .int .i64 0, .int .i64 0, .string (⟨#[]⟩)]) (o := 0) (cs' := [.bool (z20 == 1), .int .i64 0, .int .i64 0, .int .i64 0, .int .i64 0, .int .i64 0, .string (⟨#[]⟩)]) 7 rfl rfl size95 h314 rfl rfl rfl
        refine st_op0 (he317 _ _ _ _ _ _ _ _ _ rfl rfl) rfl rfl ?_
        have hf320 : Fr (fun q => q = b1) H302 H316 := Fr.write H316n_ f319
        have H316n : H302.next ≤ H316.next := hf320.1
        iterate 2 refine st_op (ev_assign rfl) rfl rfl rfl ?_
        try show aw _ _ _ _ _ _
        refine aw_ret ?_
        have hx321 : Ext H H316 := (Ext.then (Ext.trans (Ext.trans (Ext.then (Ext.trans (Ext.trans (Ext.trans hx6 hx10) hx37) hx43) hf48 (fun q hq e => by omega)) hx290) hx303) hf320 (fun q hq e => by omega))
        have hres : (Spec.decF b) = ((z20 == 1), 0, 0, 0, 0, 0, (⟨#[]⟩ : ByteArray), z22, 0) := by simp only [Spec.decF, hR19]; simp_all [Spec.decBad]
        exact ⟨.tuple #[.agg #[.bool (z20 == 1), .int .i64 0, .int .i64 0, .int .i64 0, .int .i64 0, .int .i64 0, .string (⟨#[]⟩)], .int .i64 z22, .int .i64 0], (resA_of (resL_cell rfl (lvar_part (l := [.bool (z20 == 1), .int .i64 0, .int .i64 0, .int .i64 0, .int .i64 0, .int .i64 0, .string (⟨#[]⟩)]) many95 hB318 rfl rfl (by decide)) (resL_tmp rfl (resL_tmp rfl resL_nil))) rfl), by first | (rw [hres]; done) | rw [← hres], (by exact (Spec.decF_all bb).1), (by exact (Spec.decF_all bb).2.1), (by exact (Spec.decF_all bb).2.2), hx321⟩
    ·
     have hb274 : (z20 = 1) := by simpa using hb274
     iterate 2 refine st_skip rfl rfl rfl ?_
     refine st_op (ev_pickF rfl rfl) rfl rfl rfl ?_
     iterate 2 refine st_op (ev_move rfl) rfl rfl rfl ?_
     refine st_call rfl rfl rfl ent58 rfl rfl rfl ?_
     have hx323 : Ext H9 H44 := (Ext.then (Ext.trans hx37 hx43) hf48 (fun q hq e => by omega))
     have h322 := My.ext hm13 hx323
     have hx325 : Ext H33 H44 := (Ext.then hx43 hf48 (fun q hq e => by omega))
     have h324 := Ext.blk hx325 (by omega) hB36
     obtain ⟨_, H327, hs326, hs326v, hx328⟩ := wal_rdone_spec H44 A11 z21 c12 (My.row h322) (My.capF h322 (by omega)) (by omega) (by assumption) false b32 (by omega) h324
     rw [hs326v] at hs326; clear hs326v
     refine ⟨_, H327, hs326, ?_⟩
     have H327n : H44.next ≤ H327.next := hx328.1
     refine st_op (ev_not rfl) rfl rfl rfl ?_
     refine st_op (ev_pickF rfl rfl) rfl rfl rfl ?_
     refine st_op (ev_move rfl) rfl rfl rfl ?_
     refine st_bool 68 rfl (fun hb329 => ?_) (fun hb329 => ?_)
     ·
      replace hb329 : (!false && z21.isEmpty) = false := by rw [Bool.not_eq_true'] at hb329; exact hb329
      iterate 3 refine st_skip rfl rfl rfl ?_
      refine st_op (ev_pickT rfl rfl) rfl rfl rfl ?_
      try show aw _ _ _ _ _ _
      refine aw_cond (t := true) rfl ?_
      try show aw _ _ _ _ _ _
      refine aw_seq ?_
      refine aw_reg ?_
      refine st_op (ev_build zero95 pl95 (parts := []) rfl (cs := [.bool false, .int .i64 0, .int .i64 0, .int .i64 0, .int .i64 0, .int .i64 0, .string (⟨#[]⟩)]) rfl) rfl rfl rfl ?_
      have hx331 : Ext H2 H327 := (Ext.trans (Ext.then (Ext.trans (Ext.trans hx10 hx37) hx43) hf48 (fun q hq e => by omega)) hx328)
      have h330 := Ext.blk hx331 (by omega) hB5
      obtain ⟨H332, he333, H332n_, hB334, f335⟩ := mem_store (v := .agg #[.bool false, .int .i64 0, .int .i64 0, .int .i64 0, .int .i64 0, .int .i64 0, .string (⟨#[]⟩)]) (o := 0) (cs' := [.bool false, .int .i64 0, .int .i64 0, .int .i64 0, .int .i64 0, .int .i64 0, .string (⟨#[]⟩)]) 7 rfl rfl size95 h330 rfl rfl rfl
      refine st_op0 (he333 _ _ _ _ _ _ _ _ _ rfl rfl) rfl rfl ?_
      have hf336 : Fr (fun q => q = b1) H327 H332 := Fr.write H332n_ f335
      have H332n : H327.next ≤ H332.next := hf336.1
      iterate 2 refine st_op (ev_assign rfl) rfl rfl rfl ?_
      try show aw _ _ _ _ _ _
      refine aw_ret ?_
      have hx337 : Ext H H332 := (Ext.then (Ext.trans (Ext.then (Ext.trans (Ext.trans (Ext.trans hx6 hx10) hx37) hx43) hf48 (fun q hq e => by omega)) hx328) hf336 (fun q hq e => by omega))
      have hres : (Spec.decF b) = (false, 0, 0, 0, 0, 0, (⟨#[]⟩ : ByteArray), 0, 3) := by simp only [Spec.decF, hR19]; simp_all [Spec.decBad]
      exact ⟨.tuple #[.agg #[.bool false, .int .i64 0, .int .i64 0, .int .i64 0, .int .i64 0, .int .i64 0, .string (⟨#[]⟩)], .int .i64 0, .int .i64 3], (resA_of (resL_cell rfl (lvar_part (l := [.bool false, .int .i64 0, .int .i64 0, .int .i64 0, .int .i64 0, .int .i64 0, .string (⟨#[]⟩)]) many95 hB334 rfl rfl (by decide)) (resL_tmp rfl (resL_tmp rfl resL_nil))) rfl), by first | (rw [hres]; done) | rw [← hres], (by exact (Spec.decF_all bb).1), (by exact (Spec.decF_all bb).2.1), (by exact (Spec.decF_all bb).2.2), hx337⟩
     ·
      replace hb329 : (!false && z21.isEmpty) = true := by rw [Bool.not_eq_false'] at hb329; exact hb329
      have h338 := Ext.blk hx328 (by omega) hB46
      refine st_op (ev_load rfl (lvar_part (l := [.bool (z20 == 1), .int .i64 0, .int .i64 0, .int .i64 0, .int .i64 0, .int .i64 0, .string (⟨#[]⟩)]) many95 h338 rfl rfl (by decide))) rfl rfl rfl ?_
      refine st_call rfl rfl rfl ent43 rfl rfl rfl ?_
      obtain ⟨_, H340, hs339, hs339v, hx341⟩ := wal_May_spec H327 (z20 == 1) (0 : Int) (0 : Int) (0 : Int) (0 : Int) (0 : Int) (⟨#[]⟩ : ByteArray)
      rw [hs339v] at hs339; clear hs339v
      refine ⟨_, H340, hs339, ?_⟩
      have H340n : H327.next ≤ H340.next := hx341.1
      refine st_op (ev_not rfl) rfl rfl rfl ?_
      refine st_op (ev_pickF rfl rfl) rfl rfl rfl ?_
      try show aw _ _ _ _ _ _
      by_cases hc342 : (!(Spec.mayF (z20 == 1) (0 : Int) (0 : Int) (0 : Int) (0 : Int) (0 : Int) (⟨#[]⟩ : ByteArray))) = true
      ·
       refine aw_condT hc342 rfl ?_
       try show aw _ _ _ _ _ _
       replace hc342 : (Spec.mayF (z20 == 1) (0 : Int) (0 : Int) (0 : Int) (0 : Int) (0 : Int) (⟨#[]⟩ : ByteArray)) = false := by rw [Bool.not_eq_true'] at hc342; exact hc342
       refine aw_seq ?_
       refine aw_reg ?_
       refine st_op (ev_build zero95 pl95 (parts := []) rfl (cs := [.bool false, .int .i64 0, .int .i64 0, .int .i64 0, .int .i64 0, .int .i64 0, .string (⟨#[]⟩)]) rfl) rfl rfl rfl ?_
       have hx344 : Ext H2 H340 := (Ext.trans (Ext.trans (Ext.then (Ext.trans (Ext.trans hx10 hx37) hx43) hf48 (fun q hq e => by omega)) hx328) hx341)
       have h343 := Ext.blk hx344 (by omega) hB5
       obtain ⟨H345, he346, H345n_, hB347, f348⟩ := mem_store (v := .agg #[.bool false, .int .i64 0, .int .i64 0, .int .i64 0, .int .i64 0, .int .i64 0, .string (⟨#[]⟩)]) (o := 0) (cs' := [.bool false, .int .i64 0, .int .i64 0, .int .i64 0, .int .i64 0, .int .i64 0, .string (⟨#[]⟩)]) 7 rfl rfl size95 h343 rfl rfl rfl
       refine st_op0 (he346 _ _ _ _ _ _ _ _ _ rfl rfl) rfl rfl ?_
       have hf349 : Fr (fun q => q = b1) H340 H345 := Fr.write H345n_ f348
       have H345n : H340.next ≤ H345.next := hf349.1
       iterate 2 refine st_op (ev_assign rfl) rfl rfl rfl ?_
       try show aw _ _ _ _ _ _
       refine aw_ret ?_
       have hx350 : Ext H H345 := (Ext.then (Ext.trans (Ext.trans (Ext.then (Ext.trans (Ext.trans (Ext.trans hx6 hx10) hx37) hx43) hf48 (fun q hq e => by omega)) hx328) hx341) hf349 (fun q hq e => by omega))
       have hres : (Spec.decF b) = (false, 0, 0, 0, 0, 0, (⟨#[]⟩ : ByteArray), 0, 3) := by simp only [Spec.decF, hR19]; simp_all [Spec.decBad]
       exact ⟨.tuple #[.agg #[.bool false, .int .i64 0, .int .i64 0, .int .i64 0, .int .i64 0, .int .i64 0, .string (⟨#[]⟩)], .int .i64 0, .int .i64 3], (resA_of (resL_cell rfl (lvar_part (l := [.bool false, .int .i64 0, .int .i64 0, .int .i64 0, .int .i64 0, .int .i64 0, .string (⟨#[]⟩)]) many95 hB347 rfl rfl (by decide)) (resL_tmp rfl (resL_tmp rfl resL_nil))) rfl), by first | (rw [hres]; done) | rw [← hres], (by exact (Spec.decF_all bb).1), (by exact (Spec.decF_all bb).2.1), (by exact (Spec.decF_all bb).2.2), hx350⟩
      ·
       rw [Bool.not_eq_true] at hc342; refine aw_condF hc342 rfl ?_
       try show aw _ _ _ _ _ _
       replace hc342 : (Spec.mayF (z20 == 1) (0 : Int) (0 : Int) (0 : Int) (0 : Int) (0 : Int) (⟨#[]⟩ : ByteArray)) = true := by rw [Bool.not_eq_false'] at hc342; exact hc342
       refine aw_skip ?_
       try show aw _ _ _ _ _ _
       refine aw_seq ?_
       refine aw_reg ?_
       have h351 := Ext.blk hx341 (by omega) h338
       refine st_op (ev_load rfl (lvar_part (l := [.bool (z20 == 1), .int .i64 0, .int .i64 0, .int .i64 0, .int .i64 0, .int .i64 0, .string (⟨#[]⟩)]) many95 h351 rfl rfl (by decide))) rfl rfl rfl ?_
       refine st_op (ev_move rfl) rfl rfl rfl ?_
       have hx353 : Ext H2 H340 := (Ext.trans (Ext.trans (Ext.then (Ext.trans (Ext.trans hx10 hx37) hx43) hf48 (fun q hq e => by omega)) hx328) hx341)
       have h352 := Ext.blk hx353 (by omega) hB5
       obtain ⟨H354, he355, H354n_, hB356, f357⟩ := mem_store (v := .agg #[.bool (z20 == 1), .int .i64 0, .int .i64 0, .int .i64 0, .int .i64 0, .int .i64 0, .string (⟨#[]⟩)]) (o := 0) (cs' := [.bool (z20 == 1), .int .i64 0, .int .i64 0, .int .i64 0, .int .i64 0, .int .i64 0, .string (⟨#[]⟩)]) 7 rfl rfl size95 h352 rfl rfl rfl
       refine st_op0 (he355 _ _ _ _ _ _ _ _ _ rfl rfl) rfl rfl ?_
       have hf358 : Fr (fun q => q = b1) H340 H354 := Fr.write H354n_ f357
       have H354n : H340.next ≤ H354.next := hf358.1
       iterate 2 refine st_op (ev_assign rfl) rfl rfl rfl ?_
       try show aw _ _ _ _ _ _
       refine aw_ret ?_
       have hx359 : Ext H H354 := (Ext.then (Ext.trans (Ext.trans (Ext.then (Ext.trans (Ext.trans (Ext.trans hx6 hx10) hx37) hx43) hf48 (fun q hq e => by omega)) hx328) hx341) hf358 (fun q hq e => by omega))
       have hres : (Spec.decF b) = ((z20 == 1), 0, 0, 0, 0, 0, (⟨#[]⟩ : ByteArray), z22, 0) := by simp only [Spec.decF, hR19]; simp_all [Spec.decBad]
       exact ⟨.tuple #[.agg #[.bool (z20 == 1), .int .i64 0, .int .i64 0, .int .i64 0, .int .i64 0, .int .i64 0, .string (⟨#[]⟩)], .int .i64 z22, .int .i64 0], (resA_of (resL_cell rfl (lvar_part (l := [.bool (z20 == 1), .int .i64 0, .int .i64 0, .int .i64 0, .int .i64 0, .int .i64 0, .string (⟨#[]⟩)]) many95 hB356 rfl rfl (by decide)) (resL_tmp rfl (resL_tmp rfl resL_nil))) rfl), by first | (rw [hres]; done) | rw [← hres], (by exact (Spec.decF_all bb).1), (by exact (Spec.decF_all bb).2.1), (by exact (Spec.decF_all bb).2.2), hx359⟩
theorem wal_Scan_spec (H : Heap) (bA : Option Addr) (b : List Int) (bc : Nat) (hb : Row H bA bc 1 (b.map u8c)) (cb : b.length ≤ bc) (lb : b.length ≤ 1073741824) (bb : Spec.Bytes b) : ∃ v H', Spec Try.prog 37 [.slice bA b.length bc] H v H' ∧ (∃ rA0 rc0, (v = .tuple #[.slice rA0 (((Spec.scanW b).1).length) rc0, .int .i64 ((Spec.scanW b).2.1), .bool ((Spec.scanW b).2.2)]) ∧ (My H H' rA0 rc0 7 (((Spec.scanW b).1).map Rec.cells)) ∧ (Ext H H')) := by
 refine spec_go1 E0_ok 37 (f := 37) Try.func37 rfl rfl rfl ?_
 refine aw_seq ?_
 refine aw_reg ?_
 iterate 3 refine st_op (ev_assign rfl) rfl rfl rfl ?_
 try show aw _ _ _ _ _ _
 refine aw_seq ?_
 refine aw_reg ?_
 refine st_op (ev_assign rfl) rfl rfl rfl ?_
 try show aw _ _ _ _ _ _
 refine aw_seq ?_
 refine aw_reg ?_
 refine st_op (ev_assign rfl) rfl rfl rfl ?_
 try show aw _ _ _ _ _ _
 refine aw_seq ?_
 refine aw_block ?_
 have hm3 : My H H none 0 7 (([] : List Rec).map Rec.cells) := .nil
 refine aw_keep [0, 5, 6] (l' := (.cons 0 (.slice bA b.length bc) (.cons 5 (.slice none 0 0) (.cons 6 (.int .i64 0) .nil)))) (by repeat (first | exact Up.done | refine Up.then ?_ | refine Up.inBlock ?_)) rfl ?_
 refine aw_iter (α := Int × Option Addr × Nat × List Rec × Nat × Heap) (fun a => b.length - a.2.2.2.2.1) (fun a => (.cons 0 (.slice bA b.length bc) (.cons 5 (.slice a.2.1 a.2.2.2.1.length a.2.2.1) (.cons 6 (.int .i64 a.1) .nil)))) (fun a => a.2.2.2.2.2) (fun a => (a.1 = (a.2.2.2.2.1 : Int)) ∧ (a.2.2.2.2.1 ≤ b.length) ∧ (a.2.2.2.1.length ≤ a.2.2.2.2.1) ∧ (Spec.scanW b = (a.2.2.2.1 ++ (Spec.scanW (b.drop a.2.2.2.2.1)).1, (a.2.2.2.2.1 : Int) + (Spec.scanW (b.drop a.2.2.2.2.1)).2.1, (Spec.scanW (b.drop a.2.2.2.2.1)).2.2)) ∧ (0 ≤ a.1 ∧ a.1 ≤ 1073741824) ∧ (My H a.2.2.2.2.2 a.2.1 a.2.2.1 7 (a.2.2.2.1.map Rec.cells)) ∧ (Ext H a.2.2.2.2.2)) ((0 : Int), none, 0, ([] : List Rec), 0, H) ⟨(show (0 : Int) = (0 : Int) from rfl), (show 0 ≤ b.length from Nat.zero_le _), (show ([] : List Rec).length ≤ 0 from Nat.le_refl _), (show Spec.scanW b = (([] : List Rec) ++ (Spec.scanW (b.drop 0)).1, (0 : Int) + (Spec.scanW (b.drop 0)).2.1, (Spec.scanW (b.drop 0)).2.2) from (by simp)), (show 0 ≤ (0 : Int) ∧ (0 : Int) ≤ 1073741824 from ⟨by omega, by omega⟩), (show My H H none 0 7 (([] : List Rec).map Rec.cells) from hm3), (show Ext H H from (Ext.refl H))⟩ ?_
 rintro ⟨at_, A, cp, l, p, Hl1⟩ ⟨hp, hpl, hll, hS, hn2, hm4, hxl5⟩ ih6
 replace hp : at_ = (p : Int) := hp
 replace hpl : p ≤ b.length := hpl
 replace hll : l.length ≤ p := hll
 replace hS : Spec.scanW b = (l ++ (Spec.scanW (b.drop p)).1, (p : Int) + (Spec.scanW (b.drop p)).2.1, (Spec.scanW (b.drop p)).2.2) := hS
 replace hn2 : 0 ≤ at_ ∧ at_ ≤ 1073741824 := hn2
 replace hm4 : My H Hl1 A cp 7 (l.map Rec.cells) := hm4
 replace hxl5 : Ext H Hl1 := hxl5
 show aw _ _ _ (RL _ (.cons 0 (.slice bA b.length bc) (.cons 5 (.slice A l.length cp) (.cons 6 (.int .i64 at_) .nil)))) Hl1 _
 have Hl1n : H.next ≤ Hl1.next := hxl5.1
 iterate 2 refine aw_seq ?_
 refine aw_reg ?_
 iterate 2 refine st_op (ev_move rfl) rfl rfl rfl ?_
 refine st_op (ev_lenSl rfl Try.underlying26) rfl rfl rfl ?_
 refine st_op (ev_int rfl rfl rfl) rfl rfl rfl ?_
 try show aw _ _ _ _ _ _
 by_cases hc7 : (decide (at_ < (b.length : Int))) = true
 ·
  refine aw_condT hc7 rfl ?_
  try show aw _ _ _ _ _ _
  have hc7 := of_decide_eq_true hc7
  refine aw_skip ?_
  try show aw _ _ _ _ _ _
  refine aw_block ?_
  refine aw_seq ?_
  refine aw_reg ?_
  iterate 2 refine st_op (ev_move rfl) rfl rfl rfl ?_
  have h16 := Row.ext hb hxl5
  obtain ⟨A8, c9, L10, hL11, hl12, hs13, hr14, hc15⟩ := sliceA_typed u8c el26 (by decide) h16 cb (lo := some (.int .i64 at_)) (hi := none) (l := (at_).toNat) (h := b.length) rfl (bound_int (by omega) (by omega) (by first | rfl | omega)) (by omega) (by omega)
  refine st_op (ev_slice rfl rfl rfl rfl hs13) rfl rfl rfl ?_
  have hL11b : Spec.Bytes L10 := by rw [hL11]; exact Spec.Bytes.take (Spec.Bytes.drop (by assumption) _) _
  refine st_call rfl rfl rfl ent61 rfl rfl rfl ?_
  obtain ⟨_, H18, hs17, hs17v, hq20, hq21, hq22, hx19⟩ := wal_Decode_spec Hl1 A8 L10 c9 hr14 hc15 (by omega) (by assumption)
  rw [hs17v] at hs17; clear hs17v
  generalize hR24 : (Spec.decF L10) = r23 at hs17 hq20 hq21 hq22
  obtain ⟨z25, z26, z27, z28, z29, z30, z31, z32, z33⟩ := r23
  dsimp only at hs17 hq20 hq21 hq22
  refine ⟨_, H18, hs17, ?_⟩
  have H18n : Hl1.next ≤ H18.next := hx19.1
  refine st_op (ev_move rfl) rfl rfl rfl ?_
  iterate 3 refine st_op (ev_extract rfl rfl) rfl rfl rfl ?_
  obtain ⟨b34, H35, he36, b34e, H35n_, hB38, f37⟩ := mem_alloc H18 zero95
  refine st_op (he36 _ _ _ _ _ _ _) rfl rfl rfl ?_
  have hx39 : Ext H18 H35 := Ext.new (by omega) H35n_ f37
  have H35n : H18.next ≤ H35.next := hx39.1
  obtain ⟨H40, he41, H40n_, hB42, f43⟩ := mem_store (v := .agg #[.bool z25, .int .i64 z26, .int .i64 z27, .int .i64 z28, .int .i64 z29, .int .i64 z30, .string z31]) (o := 0) (cs' := [.bool z25, .int .i64 z26, .int .i64 z27, .int .i64 z28, .int .i64 z29, .int .i64 z30, .string z31]) 7 rfl rfl size95 hB38 rfl rfl rfl
  refine st_op0 (he41 _ _ _ _ _ _ _ _ _ rfl rfl) rfl rfl ?_
  have hf44 : Fr (fun q => q = b34) H35 H40 := Fr.write H40n_ f43
  have H40n : H35.next ≤ H40.next := hf44.1
  iterate 2 refine st_op (ev_assign rfl) rfl rfl rfl ?_
  try show aw _ _ _ _ _ _
  iterate 2 refine aw_seq ?_
  refine aw_reg ?_
  refine st_op (ev_move rfl) rfl rfl rfl ?_
  refine st_op (ev_int rfl rfl rfl) rfl rfl rfl ?_
  try show aw _ _ _ _ _ _
  by_cases hc45 : (z33 != 0) = true
  ·
   refine aw_condT hc45 rfl ?_
   try show aw _ _ _ _ _ _
   have hc45 : ¬ (z33 = 0) := by simpa using hc45
   refine aw_seq ?_
   refine aw_reg ?_
   iterate 3 refine st_op (ev_move rfl) rfl rfl rfl ?_
   refine st_op (ev_int rfl rfl rfl) rfl rfl rfl ?_
   iterate 3 refine st_op (ev_assign rfl) rfl rfl rfl ?_
   try show aw _ _ _ _ _ _
   refine aw_ret ?_
   have hx47 : Ext Hl1 H40 := (Ext.then (Ext.trans hx19 hx39) hf44 (fun q hq e => by omega))
   have h46 := My.ext hm4 hx47
   have hx48 : Ext H H40 := (Ext.then (Ext.trans (Ext.trans hxl5 hx19) hx39) hf44 (fun q hq e => by omega))
   have hres : (Spec.scanW b) = (l, at_, (z33 == 2)) := by rw [hS, Spec.scanW_bad (l := b.drop p) (by intro h; rw [List.drop_eq_nil_iff] at h; omega) ((congrArg Spec.decF (Spec.drop_at hp hL11).symm).trans hR24) (by omega)]; simp [hp]
   exact ⟨.tuple #[.slice A l.length cp, .int .i64 at_, .bool (z33 == 2)], rfl, A, cp, by first | (rw [hres]; first | done | rfl | simp; done) | rfl, (by first | exact h46 | (rw [hres]; exact h46)), hx48⟩
  ·
   rw [Bool.not_eq_true] at hc45; refine aw_condF hc45 rfl ?_
   try show aw _ _ _ _ _ _
   have hc45 : (z33 = 0) := by simpa using hc45
   refine aw_skip ?_
   try show aw _ _ _ _ _ _
   refine aw_seq ?_
   refine aw_reg ?_
   refine st_op (ev_move rfl) rfl rfl rfl ?_
   refine st_op (ev_load rfl (lvar_part (l := [.bool z25, .int .i64 z26, .int .i64 z27, .int .i64 z28, .int .i64 z29, .int .i64 z30, .string z31]) many95 hB42 rfl rfl (by decide))) rfl rfl rfl ?_
   obtain ⟨b49, H50, he51, b49e, H50n_, hm53, f52⟩ := mem_lit H40 (xs := ([.agg #[.bool z25, .int .i64 z26, .int .i64 z27, .int .i64 z28, .int .i64 z29, .int .i64 z30, .string z31]] : List Value)) (m := 1) (rows := [[.bool z25, .int .i64 z26, .int .i64 z27, .int .i64 z28, .int .i64 z29, .int .i64 z30, .string z31]]) rfl eok91 (by decide) (by decide) zf95 rfl (allLen rfl) rfl
   replace hm53 : My H40 H50 (some ⟨b49, 0, none⟩) 1 7 ([(⟨z25, (⟨z26, z27⟩ : Hard), (⟨z28, z29, z30, z31⟩ : Entry)⟩ : Rec)].map Rec.cells) := hm53
   refine st_op (he51 _ _ _ _ _ _ _ _ rfl) rfl rfl rfl ?_
   have hx54 : Ext H40 H50 := Ext.new (by omega) H50n_ f52
   have H50n : H40.next ≤ H50.next := hx54.1
   have hx56 : Ext Hl1 H50 := (Ext.trans (Ext.then (Ext.trans hx19 hx39) hf44 (fun q hq e => by omega)) hx54)
   have h55 := My.ext hm4 hx56
   obtain ⟨A57, c58, H59, W60, he61, hm62, hf63⟩ := mem_append (f := Rec.cells) (old := l) (new := [(⟨z25, (⟨z26, z27⟩ : Hard), (⟨z28, z29, z30, z31⟩ : Entry)⟩ : Rec)]) (m := l.length) (mx := 1) (c := cp) (by first | rfl | simp) (by first | rfl | simp) eok91 (by decide) hm4 h55 (by omega) (((My.row hm53)).srcF (by decide) (by first | rfl | simp)) rfl Rec.cells_len Rec.cells_one (by first | omega | (simp only [List.length_append, List.length_cons, List.length_nil, List.length_map, List.length_set, List.length_replicate, Spec.bytesOf_length]; omega) | (simp; omega)) (by first | omega | (simp only [List.length_append, List.length_cons, List.length_nil, List.length_map, List.length_set, List.length_replicate, Spec.bytesOf_length]; omega) | (simp; omega))
   refine st_op (he61 _ _ _ _ _ _ _ _ _ _ rfl rfl isrow91) rfl rfl rfl ?_
   have H59n : H50.next ≤ H59.next := hf63.1
   refine st_op (ev_assign rfl) rfl rfl rfl ?_
   try show aw _ _ _ _ _ _
   refine aw_reg ?_
   iterate 2 refine st_op (ev_move rfl) rfl rfl rfl ?_
   refine st_op (ev_int64 (c := at_ + z32) rfl rfl rfl (by omega) (by omega)) rfl rfl rfl ?_
   refine st_op (ev_assign rfl) rfl rfl rfl ?_
   try show aw _ _ _ _ _ _
   have hx64 : Ext H H59 := (Ext.then (Ext.trans (Ext.then (Ext.trans (Ext.trans hxl5 hx19) hx39) hf44 (fun q hq e => by omega)) hx54) hf63 (fun q hq e => by omega))
   refine aw_keep [0, 5, 6] (l' := (.cons 0 (.slice bA b.length bc) (.cons 5 (.slice A57 ((l ++ [(⟨z25, (⟨z26, z27⟩ : Hard), (⟨z28, z29, z30, z31⟩ : Entry)⟩ : Rec)]).length) c58) (.cons 6 (.int .i64 (at_ + z32)) .nil)))) (by repeat (first | exact Up.done | refine Up.then ?_ | refine Up.inBlock ?_)) rfl ?_
   exact ih6 (at_ + z32, A57, c58, (l ++ [(⟨z25, (⟨z26, z27⟩ : Hard), (⟨z28, z29, z30, z31⟩ : Entry)⟩ : Rec)]), (p + z32.toNat), H59) ⟨(show (at_ + z32) = ((p + z32.toNat) : Int) from (by omega)), (show (p + z32.toNat) ≤ b.length from (by omega)), (show (l ++ [(⟨z25, (⟨z26, z27⟩ : Hard), (⟨z28, z29, z30, z31⟩ : Entry)⟩ : Rec)]).length ≤ (p + z32.toNat) from (by rw [List.length_append, List.length_singleton]; omega)), (show Spec.scanW b = ((l ++ [(⟨z25, (⟨z26, z27⟩ : Hard), (⟨z28, z29, z30, z31⟩ : Entry)⟩ : Rec)]) ++ (Spec.scanW (b.drop (p + z32.toNat))).1, ((p + z32.toNat) : Int) + (Spec.scanW (b.drop (p + z32.toNat))).2.1, (Spec.scanW (b.drop (p + z32.toNat))).2.2) from (by rw [hS, Spec.scanW_step (l := b.drop p) (by intro h; rw [List.drop_eq_nil_iff] at h; omega) ((congrArg Spec.decF (Spec.drop_at hp hL11).symm).trans hR24) (by omega) (by omega), List.drop_drop]; simp [List.append_assoc, Int.add_assoc, show ((z32.toNat : Nat) : Int) = z32 by omega])), (show 0 ≤ (at_ + z32) ∧ (at_ + z32) ≤ 1073741824 from ⟨by omega, by omega⟩), (show My H H59 A57 c58 7 ((l ++ [(⟨z25, (⟨z26, z27⟩ : Hard), (⟨z28, z29, z30, z31⟩ : Entry)⟩ : Rec)]).map Rec.cells) from hm62), (show Ext H H59 from hx64)⟩ (by simp only; omega)
 ·
  rw [Bool.not_eq_true] at hc7; refine aw_condF hc7 rfl ?_
  try show aw _ _ _ _ _ _
  have hc7 := of_decide_eq_false hc7
  refine aw_exit ?_
  try show aw _ _ _ _ _ _
  refine aw_seq ?_
  refine aw_reg ?_
  iterate 2 refine st_op (ev_move rfl) rfl rfl rfl ?_
  iterate 3 refine st_op (ev_assign rfl) rfl rfl rfl ?_
  try show aw _ _ _ _ _ _
  refine aw_ret ?_
  have hres : (Spec.scanW b) = (l, at_, true) := by rw [hS, List.drop_eq_nil_of_le (by omega), Spec.scanW_nil]; simp [hp]
  exact ⟨.tuple #[.slice A l.length cp, .int .i64 at_, .bool true], rfl, A, cp, by first | (rw [hres]; first | done | rfl | simp; done) | rfl, (by first | exact hm4 | (rw [hres]; exact hm4)), hxl5⟩
theorem keep_take_spec (H : Heap) (d : Nat) (ht : Int) (hv : Int) (si : Int) (hsi : 0 ≤ si ∧ si ≤ 1099511627776) (st : Int) (sc : ByteArray) (sd : ByteArray) (lH : Heap) (lA : Option Addr) (l : List Entry) (lc : Nat) (hl : My lH H lA lc 4 (l.map Entry.cells)) (nl : lH.next ≤ H.next) (ll : l.length ≤ 200) (sz : Int) (hsz : 0 ≤ sz ∧ sz ≤ 1048576) (k : Nat) (hk : k < H.next) (Bk : H.blk k = some ⟨[.pointer (some ⟨d, 0, none⟩), .int .i64 ht, .int .i64 hv, .int .i64 si, .int .i64 st, .string sc, .string sd, .slice lA l.length lc, .int .i64 sz], 0, false, false⟩) (r_hard : Bool) (r_h_term : Int) (r_h_vote : Int) (r_e_index : Int) (r_e_term : Int) (r_e_kind : Int) (r_e_data : ByteArray) (ur : Spec.mayF r_hard r_h_term r_h_vote r_e_index r_e_term r_e_kind r_e_data = true) : ∃ v H', Spec Try.prog 38 [.pointer (some ⟨k, 1, none⟩), .agg #[.bool r_hard, .int .i64 r_h_term, .int .i64 r_h_vote, .int .i64 r_e_index, .int .i64 r_e_term, .int .i64 r_e_kind, .string r_e_data]] H v H' ∧ (∃ rA3 rc3, (v = .bool ((Spec.takeF ht hv si l r_hard r_h_term r_h_vote r_e_index r_e_term r_e_kind r_e_data).1)) ∧ (My lH H' rA3 rc3 4 (((Spec.takeF ht hv si l r_hard r_h_term r_h_vote r_e_index r_e_term r_e_kind r_e_data).2.2.2).map Entry.cells)) ∧ (H'.blk k = some ⟨[.pointer (some ⟨d, 0, none⟩), .int .i64 ((Spec.takeF ht hv si l r_hard r_h_term r_h_vote r_e_index r_e_term r_e_kind r_e_data).2.1), .int .i64 ((Spec.takeF ht hv si l r_hard r_h_term r_h_vote r_e_index r_e_term r_e_kind r_e_data).2.2.1), .int .i64 si, .int .i64 st, .string sc, .string sd, .slice rA3 (((Spec.takeF ht hv si l r_hard r_h_term r_h_vote r_e_index r_e_term r_e_kind r_e_data).2.2.2).length) rc3, .int .i64 sz], 0, false, false⟩) ∧ (Fr (fun q => q = k ∨ (lH.next ≤ q ∧ q < H.next ∧ ZB H q 4)) H H')) := by
 have hrr := Spec.may_says ur
 refine spec_go2 E0_ok 51 (f := 38) Try.func38 rfl rfl rfl ?_
 refine aw_seq ?_
 refine aw_reg ?_
 obtain ⟨b1, H2, he3, b1e, H2n_, hB5, f4⟩ := mem_box (P := Try.prog) H (v := .agg #[.bool r_hard, .int .i64 r_h_term, .int .i64 r_h_vote, .int .i64 r_e_index, .int .i64 r_e_term, .int .i64 r_e_kind, .string r_e_data]) (cs := [.bool r_hard, .int .i64 r_h_term, .int .i64 r_h_vote, .int .i64 r_e_index, .int .i64 r_e_term, .int .i64 r_e_kind, .string r_e_data]) rfl rfl
 refine st_op (he3 _ _ _ _ _ _ _ _ _ rfl) rfl rfl rfl ?_
 have hx6 : Ext H H2 := Ext.new (by omega) H2n_ f4
 have H2n : H.next ≤ H2.next := hx6.1
 refine st_op (ev_assign rfl) rfl rfl rfl ?_
 try show aw _ _ _ _ _ _
 iterate 2 refine aw_seq ?_
 refine aw_reg ?_
 refine st_op (ev_fieldAddr rfl fa95_0 (o' := 0) rfl) rfl rfl rfl ?_
 refine st_op (ev_load rfl (lvar_one one4 hB5 rfl)) rfl rfl rfl ?_
 try show aw _ _ _ _ _ _
 by_cases hc7 : r_hard = true
 ·
  refine aw_condT hc7 rfl ?_
  try show aw _ _ _ _ _ _
  refine aw_seq ?_
  refine aw_reg ?_
  refine st_op (ev_move rfl) rfl rfl rfl ?_
  refine st_op (ev_fieldAddr rfl fa95_1 (o' := 1) rfl) rfl rfl rfl ?_
  refine st_op (ev_load rfl (lvar_part (l := [.int .i64 r_h_term, .int .i64 r_h_vote]) many41 hB5 rfl rfl (by decide))) rfl rfl rfl ?_
  refine st_op (ev_nilCheck rfl) rfl rfl rfl ?_
  refine st_op (ev_fieldAddr rfl fa61_0 (o' := 1) rfl) rfl rfl rfl ?_
  have h8 := Ext.blk hx6 (by omega) Bk
  obtain ⟨H9, he10, H9n_, hB11, f12⟩ := mem_store (v := .agg #[.int .i64 r_h_term, .int .i64 r_h_vote]) (o := 1) (cs' := [.pointer (some ⟨d, 0, none⟩), .int .i64 r_h_term, .int .i64 r_h_vote, .int .i64 si, .int .i64 st, .string sc, .string sd, .slice lA l.length lc, .int .i64 sz]) 2 rfl rfl size41 h8 rfl rfl rfl
  refine st_op0 (he10 _ _ _ _ _ _ _ _ _ rfl rfl) rfl rfl ?_
  have hf13 : Fr (fun q => q = k) H2 H9 := Fr.write H9n_ f12
  have H9n : H2.next ≤ H9.next := hf13.1
  try show aw _ _ _ _ _ _
  refine aw_seq ?_
  refine aw_reg ?_
  refine st_op (ev_assign rfl) rfl rfl rfl ?_
  try show aw _ _ _ _ _ _
  refine aw_ret ?_
  have h14 := My.ext hl hx6
  have h15 := My.frS h14 hf13 (fun q hq e => ⟨_, e ▸ h8, show (0 : Nat) ≠ 4 by decide⟩)
  have hres : (Spec.takeF ht hv si l r_hard r_h_term r_h_vote r_e_index r_e_term r_e_kind r_e_data) = (true, r_h_term, r_h_vote, l) := by exact Spec.takeF_hard hc7
  exact ⟨.bool true, rfl, lA, lc, by first | (rw [hres]; first | done | rfl | simp; done) | rfl, (by rw [hres]; exact h15), (by rw [hres]; exact hB11), (Fr.transG (Fr.trans (Fr.refl (fun q => q = k ∨ (lH.next ≤ q ∧ q < H.next ∧ ZB H q 4)) H) (hx6.fr fun _ => False) (fun q hq (e : False) => e.elim)) hf13 (fun q hq hE e => Or.inl (e)))⟩
 ·
  rw [Bool.not_eq_true] at hc7; refine aw_condF hc7 rfl ?_
  try show aw _ _ _ _ _ _
  refine aw_skip ?_
  try show aw _ _ _ _ _ _
  refine aw_seq ?_
  refine aw_marks (fun b => b < H2.next) [(false, false), (false, false), (false, false), (false, false), (false, false), (false, false), (false, false), (false, false), (false, false), (false, false), (false, false)] mixed (by kernel_rfl) (by kernel_rfl) ?_
  refine sm_op (ev_fieldAddr rfl fa95_2 (o' := 3) rfl) rfl rfl rfl ?_
  refine sm_op (ev_fieldAddr rfl fa54_0 (o' := 3) rfl) rfl rfl rfl ?_
  refine sm_op (ev_load rfl (lvar_one one2 hB5 rfl)) rfl rfl rfl ?_
  refine sm_op (ev_move rfl) rfl rfl rfl ?_
  refine sm_op (ev_nilCheck rfl) rfl rfl rfl ?_
  refine sm_op (ev_fieldAddr rfl fa61_1 (o' := 3) rfl) rfl rfl rfl ?_
  refine sm_op (ev_fieldAddr rfl fa46_0 (o' := 3) rfl) rfl rfl rfl ?_
  have h16 := Ext.blk hx6 (by omega) Bk
  refine sm_op (ev_load rfl (lvar_one one2 h16 rfl)) rfl rfl rfl ?_
  refine sm_op (ev_int64 (c := r_e_index - si) rfl rfl rfl (by omega) (by omega)) rfl rfl rfl ?_
  refine sm_op (ev_int64 (c := (r_e_index - si) - 1) rfl rfl rfl (by omega) (by omega)) rfl rfl rfl ?_
  refine sm_op (ev_assign rfl) rfl rfl rfl ?_
  try show aw _ _ _ _ _ _
  iterate 2 refine aw_seq ?_
  refine aw_reg ?_
  refine st_op (ev_move rfl) rfl rfl rfl ?_
  refine st_op (ev_int rfl rfl rfl) rfl rfl rfl ?_
  refine st_op (ev_move rfl) rfl rfl rfl ?_
  refine st_bool 25 rfl (fun hb17 => ?_) (fun hb17 => ?_)
  ·
   have hb17 := of_decide_eq_true hb17
   iterate 7 refine st_skip rfl rfl rfl ?_
   refine st_op (ev_pickT rfl rfl) rfl rfl rfl ?_
   refine st_op (ev_move rfl) rfl rfl rfl ?_
   iterate 2 refine st_skip rfl rfl rfl ?_
   refine st_op (ev_pickT rfl rfl) rfl rfl rfl ?_
   try show aw _ _ _ _ _ _
   refine aw_cond (t := true) rfl ?_
   try show aw _ _ _ _ _ _
   refine aw_seq ?_
   refine aw_reg ?_
   refine st_op (ev_assign rfl) rfl rfl rfl ?_
   try show aw _ _ _ _ _ _
   refine aw_ret ?_
   have h18 := My.ext hl hx6
   have hres : (Spec.takeF ht hv si l r_hard r_h_term r_h_vote r_e_index r_e_term r_e_kind r_e_data) = (false, ht, hv, l) := by exact Spec.takeF_no hc7 (by omega)
   exact ⟨.bool false, rfl, lA, lc, by first | (rw [hres]; first | done | rfl | simp; done) | rfl, (by rw [hres]; exact h18), (by rw [hres]; exact h16), (Fr.trans (Fr.refl (fun q => q = k ∨ (lH.next ≤ q ∧ q < H.next ∧ ZB H q 4)) H) (hx6.fr fun _ => False) (fun q hq (e : False) => e.elim))⟩
  ·
   have hb17 := of_decide_eq_false hb17
   iterate 2 refine st_op (ev_move rfl) rfl rfl rfl ?_
   refine st_op (ev_nilCheck rfl) rfl rfl rfl ?_
   refine st_op (ev_fieldAddr rfl fa61_2 (o' := 7) rfl) rfl rfl rfl ?_
   refine st_op (ev_load rfl (lvar_one one39 h16 rfl)) rfl rfl rfl ?_
   refine st_op (ev_lenSl rfl Try.underlying39) rfl rfl rfl ?_
   refine st_op (ev_int rfl rfl rfl) rfl rfl rfl ?_
   refine st_op (ev_pickF rfl rfl) rfl rfl rfl ?_
   refine st_op (ev_move rfl) rfl rfl rfl ?_
   refine st_bool 34 rfl (fun hb19 => ?_) (fun hb19 => ?_)
   ·
    have hb19 := of_decide_eq_true hb19
    iterate 2 refine st_skip rfl rfl rfl ?_
    refine st_op (ev_pickT rfl rfl) rfl rfl rfl ?_
    try show aw _ _ _ _ _ _
    refine aw_cond (t := true) rfl ?_
    try show aw _ _ _ _ _ _
    refine aw_seq ?_
    refine aw_reg ?_
    refine st_op (ev_assign rfl) rfl rfl rfl ?_
    try show aw _ _ _ _ _ _
    refine aw_ret ?_
    have h20 := My.ext hl hx6
    have hres : (Spec.takeF ht hv si l r_hard r_h_term r_h_vote r_e_index r_e_term r_e_kind r_e_data) = (false, ht, hv, l) := by exact Spec.takeF_no hc7 (by omega)
    exact ⟨.bool false, rfl, lA, lc, by first | (rw [hres]; first | done | rfl | simp; done) | rfl, (by rw [hres]; exact h20), (by rw [hres]; exact h16), (Fr.trans (Fr.refl (fun q => q = k ∨ (lH.next ≤ q ∧ q < H.next ∧ ZB H q 4)) H) (hx6.fr fun _ => False) (fun q hq (e : False) => e.elim))⟩
   ·
    have hb19 := of_decide_eq_false hb19
    refine st_op (ev_move rfl) rfl rfl rfl ?_
    refine st_op (ev_int rfl rfl rfl) rfl rfl rfl ?_
    refine st_op (ev_pickF rfl rfl) rfl rfl rfl ?_
    try show aw _ _ _ _ _ _
    by_cases hc21 : (decide ((r_e_index - si) - 1 ≥ 200)) = true
    ·
     refine aw_condT hc21 rfl ?_
     try show aw _ _ _ _ _ _
     have hc21 := of_decide_eq_true hc21
     refine aw_seq ?_
     refine aw_reg ?_
     refine st_op (ev_assign rfl) rfl rfl rfl ?_
     try show aw _ _ _ _ _ _
     refine aw_ret ?_
     have h22 := My.ext hl hx6
     have hres : (Spec.takeF ht hv si l r_hard r_h_term r_h_vote r_e_index r_e_term r_e_kind r_e_data) = (false, ht, hv, l) := by exact Spec.takeF_no hc7 (by omega)
     exact ⟨.bool false, rfl, lA, lc, by first | (rw [hres]; first | done | rfl | simp; done) | rfl, (by rw [hres]; exact h22), (by rw [hres]; exact h16), (Fr.trans (Fr.refl (fun q => q = k ∨ (lH.next ≤ q ∧ q < H.next ∧ ZB H q 4)) H) (hx6.fr fun _ => False) (fun q hq (e : False) => e.elim))⟩
    ·
     rw [Bool.not_eq_true] at hc21; refine aw_condF hc21 rfl ?_
     try show aw _ _ _ _ _ _
     have hc21 := of_decide_eq_false hc21
     refine aw_skip ?_
     try show aw _ _ _ _ _ _
     refine aw_seq ?_
     refine aw_marks (fun b => b < H2.next) [(false, false), (false, false), (false, false), (false, false), (true, false), (false, false), (true, false), (false, false), (false, false), (false, true), (false, false), (false, false), (false, false), (false, false)] mixed (by kernel_rfl) (by kernel_rfl) ?_
     iterate 2 refine sm_op (ev_move rfl) rfl rfl rfl ?_
     refine sm_op (ev_nilCheck rfl) rfl rfl rfl ?_
     refine sm_op (ev_fieldAddr rfl fa61_2 (o' := 7) rfl) rfl rfl rfl ?_
     refine sm_read (ev_load rfl (lvar_one one39 h16 rfl)) rfl rfl rfl (fun b hb => by cases hb; dsimp only <;> omega) ?_
     refine sm_op (ev_move rfl) rfl rfl rfl ?_
     have h31 := My.ext hl hx6
     obtain ⟨A23, c24, L25, hL26, hl27, hs28, hr29⟩ := sliceA_my Entry.cells el39 (by decide) h31 (by omega) (lo := none) (hi := some (.int .i64 ((r_e_index - si) - 1))) (p := 0) (q := (((r_e_index - si) - 1)).toNat) (by rw [Option.isSome_some, if_pos rfl]; exact bound_int (by omega) (by omega) (by first | rfl | omega)) rfl (by omega) (by omega) (.inr ⟨_, _, rfl⟩)
     refine sm_read (ev_slice rfl rfl rfl rfl hs28) rfl rfl rfl (fun q hq => Nat.lt_of_lt_of_le (rd_slice rfl rfl (My.row h31) hq) (by omega)) ?_
     refine sm_op (ev_fieldAddr rfl fa95_2 (o' := 3) rfl) rfl rfl rfl ?_
     refine sm_op (ev_load rfl (lvar_part (l := [.int .i64 r_e_index, .int .i64 r_e_term, .int .i64 r_e_kind, .string r_e_data]) many54 hB5 rfl rfl (by decide))) rfl rfl rfl ?_
     obtain ⟨b32, H33, he34, b32e, H33n_, hm36, f35⟩ := mem_lit H2 (xs := ([.agg #[.int .i64 r_e_index, .int .i64 r_e_term, .int .i64 r_e_kind, .string r_e_data]] : List Value)) (m := 1) (rows := [[.int .i64 r_e_index, .int .i64 r_e_term, .int .i64 r_e_kind, .string r_e_data]]) rfl eok39 (by decide) (by decide) zf54 rfl (allLen rfl) rfl
     replace hm36 : My H2 H33 (some ⟨b32, 0, none⟩) 1 4 ([(⟨r_e_index, r_e_term, r_e_kind, r_e_data⟩ : Entry)].map Entry.cells) := hm36
     refine sm_act (he34 _ _ _ _ _ _ _ _ rfl) rfl rfl rfl (fun q hq => f35 q (by omega)) ?_
     have hx37 : Ext H2 H33 := Ext.new (by omega) H33n_ f35
     have H33n : H2.next ≤ H33.next := hx37.1
     have h38 := My.ext hr29 hx37
     obtain ⟨A39, c40, H41, W42, he43, hm44, hf45⟩ := mem_append (f := Entry.cells) (old := L25) (new := [(⟨r_e_index, r_e_term, r_e_kind, r_e_data⟩ : Entry)]) (m := L25.length) (mx := 1) (c := c24) (by first | rfl | simp) (by first | rfl | simp) eok39 (by decide) hr29 h38 (by omega) (((My.row hm36)).srcF (by decide) (by first | rfl | simp)) rfl Entry.cells_len Entry.cells_one (by first | omega | (simp only [List.length_append, List.length_cons, List.length_nil, List.length_map, List.length_set, List.length_replicate, Spec.bytesOf_length]; omega) | (simp; omega)) (by first | omega | (simp only [List.length_append, List.length_cons, List.length_nil, List.length_map, List.length_set, List.length_replicate, Spec.bytesOf_length]; omega) | (simp; omega))
     refine sm_op (he43 _ _ _ _ _ _ _ _ _ _ rfl rfl isrow39) rfl rfl rfl ?_
     have H41n : H33.next ≤ H41.next := hf45.1
     refine sm_op (ev_nilCheck rfl) rfl rfl rfl ?_
     refine sm_op (ev_fieldAddr rfl fa61_2 (o' := 7) rfl) rfl rfl rfl ?_
     have h46 := Ext.blk hx37 (by omega) h16
     have h47 := Fr.blk hf45 (by omega) (fun e => (zb_ne h46 e.2.2 (show (0 : Nat) ≠ 4 by decide))) h46
     obtain ⟨H48, he49, H48n_, hB50, f51⟩ := mem_store (v := .slice A39 ((L25 ++ [(⟨r_e_index, r_e_term, r_e_kind, r_e_data⟩ : Entry)]).length) c40) (o := 7) (cs' := [.pointer (some ⟨d, 0, none⟩), .int .i64 ht, .int .i64 hv, .int .i64 si, .int .i64 st, .string sc, .string sd, .slice A39 ((L25 ++ [(⟨r_e_index, r_e_term, r_e_kind, r_e_data⟩ : Entry)]).length) c40, .int .i64 sz]) 1 rfl rfl size39 h47 rfl rfl rfl
     refine sm_op0 (he49 _ _ _ _ _ _ _ _ _ rfl rfl) rfl rfl ?_
     have hf52 : Fr (fun q => q = k) H41 H48 := Fr.write H48n_ f51
     have H48n : H41.next ≤ H48.next := hf52.1
     try show aw _ _ _ _ _ _
     refine aw_seq ?_
     refine aw_reg ?_
     refine st_op (ev_assign rfl) rfl rfl rfl ?_
     try show aw _ _ _ _ _ _
     refine aw_ret ?_
     have h53 := My.frS hm44 hf52 (fun q hq e => ⟨_, e ▸ h47, show (0 : Nat) ≠ 4 by decide⟩)
     have hres : (Spec.takeF ht hv si l r_hard r_h_term r_h_vote r_e_index r_e_term r_e_kind r_e_data) = (true, ht, hv, (L25 ++ [(⟨r_e_index, r_e_term, r_e_kind, r_e_data⟩ : Entry)])) := by rw [Spec.takeF_ok hc7 (by omega), hL26]; simp
     exact ⟨.bool true, rfl, A39, c40, by first | (rw [hres]; first | done | rfl | simp; done) | rfl, (by rw [hres]; exact h53), (by rw [hres]; exact hB50), (Fr.transG (Fr.transG (Fr.trans (Fr.trans (Fr.refl (fun q => q = k ∨ (lH.next ≤ q ∧ q < H.next ∧ ZB H q 4)) H) (hx6.fr fun _ => False) (fun q hq (e : False) => e.elim)) (hx37.fr fun _ => False) (fun q hq (e : False) => e.elim)) hf45 (fun q hq hE e => Or.inr ((⟨by omega, by omega, ZB.back hE e.2.2⟩)))) hf52 (fun q hq hE e => Or.inl (e)))⟩
theorem keep_OpenOk_spec (H : Heap) (d dm : Nat) (dD : Nat → Prop) (dl : Files) (dp : List Place) (dk : Int) (rd : DiskR dD H d dm dl dp dk) (kd : dk ≤ 1099511627000) (f : FileS) (hg : Spec.fget ⟨#[115, 116, 97, 116, 101]⟩ dl = some f) (ho : (Spec.openR f.b).1 = true) : ∃ v H', Spec Try.prog 19 [.pointer (some ⟨d, 0, none⟩)] H v H' ∧ (∃ rA8 rc8, ∃ rb0, (v = .tuple #[.pointer (some ⟨rb0, 0, none⟩), .int .i64 0]) ∧ (My H H' rA8 rc8 4 (((Spec.openR f.b).2.2.2.2.2.2.2.1).map Entry.cells)) ∧ (H.next ≤ rb0) ∧ (rb0 < H'.next) ∧ (H'.blk rb0 = some ⟨[.pointer (some ⟨d, 0, none⟩), .int .i64 ((Spec.openR f.b).2.1), .int .i64 ((Spec.openR f.b).2.2.1), .int .i64 ((Spec.openR f.b).2.2.2.1), .int .i64 ((Spec.openR f.b).2.2.2.2.1), .string ((Spec.openR f.b).2.2.2.2.2.1), .string ((Spec.openR f.b).2.2.2.2.2.2.1), .slice rA8 (((Spec.openR f.b).2.2.2.2.2.2.2.1).length) rc8, .int .i64 ((Spec.openR f.b).2.2.2.2.2.2.2.2)], 0, false, false⟩) ∧ (DiskX dD H H' d (Spec.openL dl f.b (Spec.openR f.b).2.2.2.2.2.2.2.2) dk 1 rb0) ∧ (Fr (fun q => (dD q ∧ Z01 H q)) H H')) := by
 have bd := rd.below _ rd.dp; have bdm := rd.below _ rd.dm; have zd := rd.kb
 have sub_d : ∀ q, dD q → dD q ∨ (H.next ≤ q ∧ q < H.next) := fun q e => .inl e
 refine spec_go1 E0_ok 87 (f := 19) Try.func19 rfl rfl rfl ?_
 refine aw_seq ?_
 refine aw_reg ?_
 iterate 2 refine st_op (ev_assign rfl) rfl rfl rfl ?_
 try show aw _ _ _ _ _ _
 refine aw_seq ?_
 refine aw_reg ?_
 refine st_op (ev_move rfl) rfl rfl rfl ?_
 refine st_op (ev_build zero88 pl88 (parts := [(0, .pointer (some ⟨d, 0, none⟩))]) rfl (cs := [.pointer (some ⟨d, 0, none⟩), .int .i64 0, .int .i64 0, .int .i64 0, .int .i64 0, .string (⟨#[]⟩), .string (⟨#[]⟩), .slice none 0 0, .int .i64 0]) rfl) rfl rfl rfl ?_
 obtain ⟨b1, H2, he3, b1e, H2n_, hB5, f4⟩ := mem_box (P := Try.prog) H (v := .agg #[.pointer (some ⟨d, 0, none⟩), .int .i64 0, .int .i64 0, .int .i64 0, .int .i64 0, .string (⟨#[]⟩), .string (⟨#[]⟩), .slice none 0 0, .int .i64 0]) (cs := [.pointer (some ⟨d, 0, none⟩), .int .i64 0, .int .i64 0, .int .i64 0, .int .i64 0, .string (⟨#[]⟩), .string (⟨#[]⟩), .slice none 0 0, .int .i64 0]) rfl rfl
 refine st_op (he3 _ _ _ _ _ _ _ _ _ rfl) rfl rfl rfl ?_
 have hx6 : Ext H H2 := Ext.new (by omega) H2n_ f4
 have H2n : H.next ≤ H2.next := hx6.1
 have hno7 : ¬ dD b1 := fun e => by have e := rd.below _ e; omega
 refine st_op (ev_assign rfl) rfl rfl rfl ?_
 try show aw _ _ _ _ _ _
 refine aw_seq ?_
 refine aw_reg ?_
 refine st_op (ev_move rfl) rfl rfl rfl ?_
 refine st_call rfl rfl rfl ent16 rfl rfl rfl ?_
 have h8 := DiskR.ext rd hx6
 have hS9 := disk_Read_spec H2 d dD dl dk ⟨_, _, h8⟩ (by omega) (⟨#[115, 116, 97, 116, 101]⟩) (by first | omega | decide | assumption)
 rw [Spec.read_at hg] at hS9; try dsimp only at hS9
 obtain ⟨_, H10, hs11, A13, c14, rfl, hm15, hb16, hl17, hx12⟩ := hS9
 refine ⟨_, H10, hs11, ?_⟩
 have H10n : H2.next ≤ H10.next := hx12.1
 refine st_op (ev_move rfl) rfl rfl rfl ?_
 iterate 2 refine st_op (ev_extract rfl rfl) rfl rfl rfl ?_
 iterate 2 refine st_op (ev_assign rfl) rfl rfl rfl ?_
 try show aw _ _ _ _ _ _
 iterate 2 refine aw_seq ?_
 refine aw_reg ?_
 refine st_op (ev_move rfl) rfl rfl rfl ?_
 refine st_op (ev_int rfl rfl rfl) rfl rfl rfl ?_
 try show aw _ _ _ _ _ _
 refine aw_cond (t := false) rfl ?_
 try show aw _ _ _ _ _ _
 refine aw_skip ?_
 try show aw _ _ _ _ _ _
 refine aw_seq ?_
 refine aw_reg ?_
 refine st_op (ev_move rfl) rfl rfl rfl ?_
 refine st_call rfl rfl rfl ent36 rfl rfl rfl ?_
 obtain ⟨_, H19, hs18, hs18v, hq21, hq22, hq23, hx20⟩ := wal_GetSnap_spec H10 A13 f.b c14 (My.row hm15) (My.capF hm15 (by omega)) (by omega) (by first | assumption | exact Spec.Bytes.nil | exact Spec.bytes_of _ | (repeat' first | assumption | exact Spec.Bytes.nil | exact Spec.bytes_of _ | exact Spec.enc_bytes _ | exact Spec.four_bytes _ | exact Spec.sealF_bytes (by assumption) | apply Spec.Bytes.append | apply Spec.Bytes.cons (by omega) | apply Spec.Bytes.take | apply Spec.Bytes.drop))
 rw [hs18v] at hs18; clear hs18v
 generalize hR25 : (Spec.getSnapF f.b) = r24 at hs18 hq21 hq22 hq23
 obtain ⟨z26, z27, z28, z29, z30, z31⟩ := r24
 dsimp only at hs18 hq21 hq22 hq23
 refine ⟨_, H19, hs18, ?_⟩
 have H19n : H10.next ≤ H19.next := hx20.1
 refine st_op (ev_move rfl) rfl rfl rfl ?_
 iterate 3 refine st_op (ev_extract rfl rfl) rfl rfl rfl ?_
 obtain ⟨b32, H33, he34, b32e, H33n_, hB36, f35⟩ := mem_alloc H19 zero46
 refine st_op (he34 _ _ _ _ _ _ _) rfl rfl rfl ?_
 have hx37 : Ext H19 H33 := Ext.new (by omega) H33n_ f35
 have H33n : H19.next ≤ H33.next := hx37.1
 have hno38 : ¬ dD b32 := fun e => by have e := rd.below _ e; omega
 obtain ⟨H39, he40, H39n_, hB41, f42⟩ := mem_store (v := .agg #[.int .i64 z26, .int .i64 z27, .string z28, .string z29]) (o := 0) (cs' := [.int .i64 z26, .int .i64 z27, .string z28, .string z29]) 4 rfl rfl size46 hB36 rfl rfl rfl
 refine st_op0 (he40 _ _ _ _ _ _ _ _ _ rfl rfl) rfl rfl ?_
 have hf43 : Fr (fun q => q = b32) H33 H39 := Fr.write H39n_ f42
 have H39n : H33.next ≤ H39.next := hf43.1
 iterate 2 refine st_op (ev_assign rfl) rfl rfl rfl ?_
 try show aw _ _ _ _ _ _
 iterate 2 refine aw_seq ?_
 refine aw_reg ?_
 refine st_op (ev_move rfl) rfl rfl rfl ?_
 refine st_op (ev_int rfl rfl rfl) rfl rfl rfl ?_
 try show aw _ _ _ _ _ _
 by_cases hc44 : (z31 != 0) = true
 ·
  refine aw_condT hc44 rfl ?_
  try show aw _ _ _ _ _ _
  have hc44 : ¬ (z31 = 0) := by simpa using hc44
  refine aw_seq ?_
  refine aw_reg ?_
  iterate 2 refine st_op (ev_assign rfl) rfl rfl rfl ?_
  try show aw _ _ _ _ _ _
  refine aw_ret ?_
  exfalso; have q : (Spec.openR f.b).1 = false := by exact Spec.openR_snap hR25 (by omega)
  rw [ho] at q; cases q
 ·
  rw [Bool.not_eq_true] at hc44; refine aw_condF hc44 rfl ?_
  try show aw _ _ _ _ _ _
  have hc44 : (z31 = 0) := by simpa using hc44
  refine aw_skip ?_
  try show aw _ _ _ _ _ _
  refine aw_seq ?_
  refine aw_reg ?_
  refine st_op (ev_move rfl) rfl rfl rfl ?_
  refine st_op (ev_load rfl (lvar_part (l := [.int .i64 z26, .int .i64 z27, .string z28, .string z29]) many46 hB41 rfl rfl (by decide))) rfl rfl rfl ?_
  refine st_op (ev_nilCheck rfl) rfl rfl rfl ?_
  refine st_op (ev_fieldAddr rfl fa88_1 (o' := 1) rfl) rfl rfl rfl ?_
  refine st_op (ev_fieldAddr rfl fa61_1 (o' := 3) rfl) rfl rfl rfl ?_
  have hx46 : Ext H2 H39 := (Ext.then (Ext.trans (Ext.trans hx12 hx20) hx37) hf43 (fun q hq e => by omega))
  have h45 := Ext.blk hx46 (by omega) hB5
  obtain ⟨H47, he48, H47n_, hB49, f50⟩ := mem_store (v := .agg #[.int .i64 z26, .int .i64 z27, .string z28, .string z29]) (o := 3) (cs' := [.pointer (some ⟨d, 0, none⟩), .int .i64 0, .int .i64 0, .int .i64 z26, .int .i64 z27, .string z28, .string z29, .slice none 0 0, .int .i64 0]) 4 rfl rfl size46 h45 rfl rfl rfl
  refine st_op0 (he48 _ _ _ _ _ _ _ _ _ rfl rfl) rfl rfl ?_
  have hf51 : Fr (fun q => q = b1) H39 H47 := Fr.write H47n_ f50
  have H47n : H39.next ≤ H47.next := hf51.1
  try show aw _ _ _ _ _ _
  refine aw_seq ?_
  refine aw_reg ?_
  iterate 2 refine st_op (ev_move rfl) rfl rfl rfl ?_
  have hx61 : Ext H10 H39 := (Ext.then (Ext.trans hx20 hx37) hf43 (fun q hq e => by omega))
  have h60 := My.ext hm15 hx61
  have h62 := My.frS h60 hf51 (fun q hq e => ⟨_, e ▸ h45, show (0 : Nat) ≠ 1 by decide⟩)
  obtain ⟨A52, c53, L54, hL55, hl56, hs57, hr58⟩ := sliceA_my u8c el26 (by decide) h62 (by omega) (lo := some (.int .i64 z30)) (hi := none) (p := (z30).toNat) (q := f.b.length) rfl (bound_int (by omega) (by omega) (by first | rfl | omega)) (by omega) (by omega) (.inl rfl)
  refine st_op (ev_slice rfl rfl rfl rfl hs57) rfl rfl rfl ?_
  have hL55b : Spec.Bytes L54 := by rw [hL55]; exact Spec.Bytes.take (Spec.Bytes.drop hb16 _) _
  refine st_call rfl rfl rfl ent37 rfl rfl rfl ?_
  obtain ⟨_, H64, hs63, A66, c67, hs63v, hm68, hx65⟩ := wal_Scan_spec H47 A52 L54 c53 (My.row hr58) (My.capF hr58 (by omega)) (by omega) (by assumption)
  rw [hs63v] at hs63; clear hs63v
  generalize hR70 : (Spec.scanW L54) = r69 at hs63 hm68
  obtain ⟨z71, z72, z73⟩ := r69
  dsimp only at hs63 hm68
  refine ⟨_, H64, hs63, ?_⟩
  have H64n : H47.next ≤ H64.next := hx65.1
  have hsc := Spec.scanW_all _ L54 rfl hL55b
  rw [hR70] at hsc; simp only at hsc
  have hgr := Spec.getSnap_rng (b := f.b) (by rw [hR25]; omega)
  rw [hR25] at hgr; simp only at hgr
  have hLd : L54 = f.b.drop z30.toNat := by rw [hL55]; exact List.take_of_length_le (by simp)
  refine st_op (ev_move rfl) rfl rfl rfl ?_
  iterate 3 refine st_op (ev_extract rfl rfl) rfl rfl rfl ?_
  iterate 3 refine st_op (ev_assign rfl) rfl rfl rfl ?_
  try show aw _ _ _ _ _ _
  iterate 2 refine aw_seq ?_
  refine aw_reg ?_
  refine st_op (ev_move rfl) rfl rfl rfl ?_
  refine st_op (ev_not rfl) rfl rfl rfl ?_
  try show aw _ _ _ _ _ _
  by_cases hc74 : (!z73) = true
  ·
   refine aw_condT hc74 rfl ?_
   try show aw _ _ _ _ _ _
   replace hc74 : z73 = false := by rw [Bool.not_eq_true'] at hc74; exact hc74
   refine aw_seq ?_
   refine aw_reg ?_
   iterate 2 refine st_op (ev_assign rfl) rfl rfl rfl ?_
   try show aw _ _ _ _ _ _
   refine aw_ret ?_
   exfalso; have q : (Spec.openR f.b).1 = false := by exact Spec.openR_torn hR25 ((congrArg Spec.scanW hLd.symm).trans hR70) hc74
   rw [ho] at q; cases q
  ·
   rw [Bool.not_eq_true] at hc74; refine aw_condF hc74 rfl ?_
   try show aw _ _ _ _ _ _
   replace hc74 : z73 = true := by rw [Bool.not_eq_false'] at hc74; exact hc74
   refine aw_skip ?_
   try show aw _ _ _ _ _ _
   iterate 2 refine aw_seq ?_
   refine aw_reg ?_
   refine st_op (ev_move rfl) rfl rfl rfl ?_
   refine st_op (ev_lenSl rfl Try.underlying91) rfl rfl rfl ?_
   refine st_op (ev_move rfl) rfl rfl rfl ?_
   try show aw _ _ _ _ _ _
   refine aw_block ?_
   have h76 := Ext.blk hx65 (by omega) hB49
   have hm77 : My H64 H64 none 0 4 (([] : List Entry).map Entry.cells) := .nil
   refine aw_keep [0, 4, 5, 8, 10, 49, 50, 51] (l' := (.cons 0 (.pointer (some ⟨d, 0, none⟩)) (.cons 4 (.pointer (some ⟨b1, 0, none⟩)) (.cons 5 (.slice A13 f.b.length c14) (.cons 8 (.int .i64 z30) (.cons 10 (.int .i64 z72) (.cons 49 (.slice A66 z71.length c67) (.cons 50 (.int .i64 (z71.length : Int)) (.cons 51 (.int .i64 0) .nil))))))))) (by repeat (first | exact Up.done | refine Up.then ?_ | refine Up.inBlock ?_)) rfl ?_
   refine aw_iter (α := Nat × Int × Int × Option Addr × Nat × List Entry × Heap) (fun a => z71.length - a.1) (fun a => (.cons 0 (.pointer (some ⟨d, 0, none⟩)) (.cons 4 (.pointer (some ⟨b1, 0, none⟩)) (.cons 5 (.slice A13 f.b.length c14) (.cons 8 (.int .i64 z30) (.cons 10 (.int .i64 z72) (.cons 49 (.slice A66 z71.length c67) (.cons 50 (.int .i64 (z71.length : Int)) (.cons 51 (.int .i64 (a.1 : Int)) .nil))))))))) (fun a => a.2.2.2.2.2.2) (fun a => (a.1 ≤ z71.length) ∧ (a.2.2.2.2.2.1.length ≤ 200) ∧ (Spec.takeA z26 0 0 [] z71 = Spec.takeA z26 a.2.1 a.2.2.1 a.2.2.2.2.2.1 (z71.drop a.1)) ∧ (My H64 a.2.2.2.2.2.2 a.2.2.2.1 a.2.2.2.2.1 4 (a.2.2.2.2.2.1.map Entry.cells)) ∧ (a.2.2.2.2.2.2.blk b1 = some ⟨[.pointer (some ⟨d, 0, none⟩), .int .i64 a.2.1, .int .i64 a.2.2.1, .int .i64 z26, .int .i64 z27, .string z28, .string z29, .slice a.2.2.2.1 a.2.2.2.2.2.1.length a.2.2.2.2.1, .int .i64 0], 0, false, false⟩) ∧ (Fr (fun q => q = b1) H64 a.2.2.2.2.2.2)) (0, (0 : Int), (0 : Int), none, 0, ([] : List Entry), H64) ⟨(show 0 ≤ z71.length from Nat.zero_le _), (show ([] : List Entry).length ≤ 200 from Nat.zero_le _), (show Spec.takeA z26 0 0 [] z71 = Spec.takeA z26 (0 : Int) (0 : Int) ([] : List Entry) (z71.drop 0) from rfl), (show My H64 H64 none 0 4 (([] : List Entry).map Entry.cells) from hm77), (show H64.blk b1 = some ⟨[.pointer (some ⟨d, 0, none⟩), .int .i64 (0 : Int), .int .i64 (0 : Int), .int .i64 z26, .int .i64 z27, .string z28, .string z29, .slice none ([] : List Entry).length 0, .int .i64 0], 0, false, false⟩ from h76), (show Fr (fun q => q = b1) H64 H64 from (Fr.refl _ H64))⟩ ?_
   rintro ⟨i, hq, vq, A, cp, lg, Hl75⟩ ⟨hi, hlg, hT, hm78, hB79, hxl80⟩ ih81
   replace hi : i ≤ z71.length := hi
   replace hlg : lg.length ≤ 200 := hlg
   replace hT : Spec.takeA z26 0 0 [] z71 = Spec.takeA z26 hq vq lg (z71.drop i) := hT
   replace hm78 : My H64 Hl75 A cp 4 (lg.map Entry.cells) := hm78
   replace hB79 : Hl75.blk b1 = some ⟨[.pointer (some ⟨d, 0, none⟩), .int .i64 hq, .int .i64 vq, .int .i64 z26, .int .i64 z27, .string z28, .string z29, .slice A lg.length cp, .int .i64 0], 0, false, false⟩ := hB79
   replace hxl80 : Fr (fun q => q = b1) H64 Hl75 := hxl80
   show aw _ _ _ (RL _ (.cons 0 (.pointer (some ⟨d, 0, none⟩)) (.cons 4 (.pointer (some ⟨b1, 0, none⟩)) (.cons 5 (.slice A13 f.b.length c14) (.cons 8 (.int .i64 z30) (.cons 10 (.int .i64 z72) (.cons 49 (.slice A66 z71.length c67) (.cons 50 (.int .i64 (z71.length : Int)) (.cons 51 (.int .i64 (i : Int)) .nil))))))))) Hl75 _
   have Hl75n : H64.next ≤ Hl75.next := hxl80.1
   refine aw_seq ?_
   refine aw_reg ?_
   refine st_op (ev_int rfl rfl rfl) rfl rfl rfl ?_
   try show aw _ _ _ _ _ _
   refine aw_seq ?_
   by_cases hc82 : (decide ((i : Int) < (z71.length : Int))) = true
   ·
    refine aw_condT hc82 rfl ?_
    try show aw _ _ _ _ _ _
    have hc82 := of_decide_eq_true hc82
    refine aw_skip ?_
    try show aw _ _ _ _ _ _
    refine aw_seq ?_
    refine aw_block ?_
    refine aw_seq ?_
    refine aw_reg ?_
    have h83 := My.frS hm68 hxl80 (fun q hq e => ⟨_, e ▸ h76, show (0 : Nat) ≠ 7 by decide⟩)
    have hi84 : 0 ≤ ((i : Int) : Int) := by omega
    have hi85 : ((i : Int) : Int) < ((z71.length : Nat) : Int) := by omega
    obtain ⟨x86, hx87⟩ : ∃ e, z71[i]? = some e := ⟨_, List.getElem?_eq_getElem (by omega)⟩
    have x86m := hsc.1 _ (List.mem_of_getElem? hx87)
    refine st_op (ev_at rfl rfl (My.row h83) (getMap Rec.cells hx87) (by first | rfl | omega | simp) hi84 hi85 el91) rfl rfl rfl ?_
    refine st_op (ev_atN (cs := [.bool x86.hard, .int .i64 x86.h.term, .int .i64 x86.h.vote, .int .i64 x86.e.index, .int .i64 x86.e.term, .int .i64 x86.e.kind, .string x86.e.data]) rfl (My.row h83) (getMap Rec.cells hx87) many95 rfl rfl (by decide)) rfl rfl rfl ?_
    obtain ⟨b88, H89, he90, b88e, H89n_, hB92, f91⟩ := mem_alloc Hl75 zero95
    refine st_op (he90 _ _ _ _ _ _ _) rfl rfl rfl ?_
    have hx93 : Ext Hl75 H89 := Ext.new (by omega) H89n_ f91
    have H89n : Hl75.next ≤ H89.next := hx93.1
    have hno94 : ¬ dD b88 := fun e => by have e := rd.below _ e; omega
    obtain ⟨H95, he96, H95n_, hB97, f98⟩ := mem_store (v := .agg #[.bool x86.hard, .int .i64 x86.h.term, .int .i64 x86.h.vote, .int .i64 x86.e.index, .int .i64 x86.e.term, .int .i64 x86.e.kind, .string x86.e.data]) (o := 0) (cs' := [.bool x86.hard, .int .i64 x86.h.term, .int .i64 x86.h.vote, .int .i64 x86.e.index, .int .i64 x86.e.term, .int .i64 x86.e.kind, .string x86.e.data]) 7 rfl rfl size95 hB92 rfl rfl rfl
    refine st_op0 (he96 _ _ _ _ _ _ _ _ _ rfl rfl) rfl rfl ?_
    have hf99 : Fr (fun q => q = b88) H89 H95 := Fr.write H95n_ f98
    have H95n : H89.next ≤ H95.next := hf99.1
    try show aw _ _ _ _ _ _
    refine aw_seq ?_
    refine aw_marks (fun b => b < H95.next) [(false, false), (false, false), (false, false), (false, false), (false, false), (false, false)] mixed (by kernel_rfl) (by kernel_rfl) ?_
    refine sm_op (ev_move rfl) rfl rfl rfl ?_
    refine sm_op (ev_nilCheck rfl) rfl rfl rfl ?_
    refine sm_op (ev_fieldAddr rfl fa88_1 (o' := 1) rfl) rfl rfl rfl ?_
    refine sm_op (ev_load rfl (lvar_part (l := [.bool x86.hard, .int .i64 x86.h.term, .int .i64 x86.h.vote, .int .i64 x86.e.index, .int .i64 x86.e.term, .int .i64 x86.e.kind, .string x86.e.data]) many95 hB97 rfl rfl (by decide))) rfl rfl rfl ?_
    refine sm_call rfl rfl rfl ent38 rfl rfl rfl ?_
    have hx101 : Ext Hl75 H95 := (Ext.then hx93 hf99 (fun q hq e => by omega))
    have h100 := My.ext hm78 hx101
    have h102 := Ext.blk hx101 (by omega) hB79
    obtain ⟨_, H104, hs103, A106, c107, hs103v, hm108, hB109, hx105⟩ := keep_take_spec H95 d hq vq z26 ⟨by omega, by omega⟩ z27 z28 z29 H64 A lg cp h100 (by omega) (by omega) 0 (by decide) b1 (by omega) h102 x86.hard x86.h.term x86.h.vote x86.e.index x86.e.term x86.e.kind x86.e.data x86m
    rw [hs103v] at hs103; clear hs103v
    generalize hR111 : (Spec.takeF hq vq z26 lg x86.hard x86.h.term x86.h.vote x86.e.index x86.e.term x86.e.kind x86.e.data) = r110 at hs103 hm108 hB109
    obtain ⟨z112, z113, z114, z115⟩ := r110
    dsimp only at hs103 hm108 hB109
    refine ⟨_, H104, hs103, (fun h => nomatch h), ?_⟩
    have H104n : H95.next ≤ H104.next := hx105.1
    refine sm_op (ev_not rfl) rfl rfl rfl ?_
    try show aw _ _ _ _ _ _
    by_cases hc116 : (!z112) = true
    ·
     refine aw_condT hc116 rfl ?_
     try show aw _ _ _ _ _ _
     replace hc116 : z112 = false := by rw [Bool.not_eq_true'] at hc116; exact hc116
     refine aw_seq ?_
     refine aw_reg ?_
     iterate 2 refine st_op (ev_assign rfl) rfl rfl rfl ?_
     try show aw _ _ _ _ _ _
     refine aw_ret ?_
     exfalso; have q : (Spec.openR f.b).1 = false := by exact Spec.openR_take hR25 ((congrArg Spec.scanW hLd.symm).trans hR70) (by rw [hT, Spec.takeA_no hx87 hR111 hc116])
     rw [ho] at q; cases q
    ·
     rw [Bool.not_eq_true] at hc116; refine aw_condF hc116 rfl ?_
     try show aw _ _ _ _ _ _
     replace hc116 : z112 = true := by rw [Bool.not_eq_false'] at hc116; exact hc116
     refine aw_skip ?_
     try show aw _ _ _ _ _ _
     refine aw_reg ?_
     refine st_op (ev_int64 (c := (i : Int) + 1) rfl rfl rfl (by omega) (by omega)) rfl rfl rfl ?_
     refine st_op (ev_move rfl) rfl rfl rfl ?_
     try show aw _ _ _ _ _ _
     refine aw_keep [0, 4, 5, 8, 10, 49, 50, 51] (l' := (.cons 0 (.pointer (some ⟨d, 0, none⟩)) (.cons 4 (.pointer (some ⟨b1, 0, none⟩)) (.cons 5 (.slice A13 f.b.length c14) (.cons 8 (.int .i64 z30) (.cons 10 (.int .i64 z72) (.cons 49 (.slice A66 z71.length c67) (.cons 50 (.int .i64 (z71.length : Int)) (.cons 51 (.int .i64 ((i : Int) + 1)) .nil))))))))) (by repeat (first | exact Up.done | refine Up.then ?_ | refine Up.inBlock ?_)) rfl ?_
     exact ih81 (i + 1, z113, z114, A106, c107, z115, H104) ⟨(show (i + 1) ≤ z71.length from (by omega)), (show z115.length ≤ 200 from (by have := @Spec.takeF_len hq vq z26 x86.h.term x86.h.vote x86.e.index x86.e.term x86.e.kind lg x86.hard x86.e.data hlg; rw [hR111] at this; exact this)), (show Spec.takeA z26 0 0 [] z71 = Spec.takeA z26 z113 z114 z115 (z71.drop (i + 1)) from (by rw [hT]; exact Spec.takeA_step hx87 hR111 hc116)), (show My H64 H104 A106 c107 4 (z115.map Entry.cells) from hm108), (show H104.blk b1 = some ⟨[.pointer (some ⟨d, 0, none⟩), .int .i64 z113, .int .i64 z114, .int .i64 z26, .int .i64 z27, .string z28, .string z29, .slice A106 z115.length c107, .int .i64 0], 0, false, false⟩ from hB109), (show Fr (fun q => q = b1) H64 H104 from (Fr.transG (Fr.transG (Fr.trans (Fr.transG (Fr.refl (fun q => q = b1) H64) hxl80 (fun q hq hE e => (e))) (hx93.fr fun _ => False) (fun q hq (e : False) => e.elim)) hf99 (fun q hq hE e => absurd hq (by omega))) hx105 (fun q hq hE e => Or.elim e (fun e => (e)) (fun e => absurd hq (by omega)))))⟩ (by simp only; omega)
   ·
    rw [Bool.not_eq_true] at hc82; refine aw_condF hc82 rfl ?_
    try show aw _ _ _ _ _ _
    have hc82 := of_decide_eq_false hc82
    refine aw_exit ?_
    try show aw _ _ _ _ _ _
    refine aw_seq ?_
    refine aw_reg ?_
    iterate 3 refine st_op (ev_move rfl) rfl rfl rfl ?_
    refine st_op (ev_int64 (c := z30 + z72) rfl rfl rfl (by omega) (by omega)) rfl rfl rfl ?_
    refine st_op (ev_nilCheck rfl) rfl rfl rfl ?_
    refine st_op (ev_fieldAddr rfl fa88_2 (o' := 8) rfl) rfl rfl rfl ?_
    obtain ⟨H117, he118, H117n_, hB119, f120⟩ := mem_store (v := .int .i64 (z30 + z72)) (o := 8) (cs' := [.pointer (some ⟨d, 0, none⟩), .int .i64 hq, .int .i64 vq, .int .i64 z26, .int .i64 z27, .string z28, .string z29, .slice A lg.length cp, .int .i64 (z30 + z72)]) 1 rfl rfl size3 hB79 rfl rfl rfl
    refine st_op0 (he118 _ _ _ _ _ _ _ _ _ rfl rfl) rfl rfl ?_
    have hf121 : Fr (fun q => q = b1) Hl75 H117 := Fr.write H117n_ f120
    have H117n : Hl75.next ≤ H117.next := hf121.1
    try show aw _ _ _ _ _ _
    iterate 2 refine aw_seq ?_
    refine aw_reg ?_
    refine st_op (ev_move rfl) rfl rfl rfl ?_
    refine st_op (ev_nilCheck rfl) rfl rfl rfl ?_
    refine st_op (ev_fieldAddr rfl fa88_2 (o' := 8) rfl) rfl rfl rfl ?_
    refine st_op (ev_load rfl (lvar_one one3 hB119 rfl)) rfl rfl rfl ?_
    refine st_op (ev_move rfl) rfl rfl rfl ?_
    refine st_op (ev_lenSl rfl Try.underlying26) rfl rfl rfl ?_
    refine st_op (ev_int rfl rfl rfl) rfl rfl rfl ?_
    try show aw _ _ _ _ _ _
    by_cases hc122 : (decide (z30 + z72 < (f.b.length : Int))) = true
    ·
     refine aw_condT hc122 rfl ?_
     try show aw _ _ _ _ _ _
     have hc122 := of_decide_eq_true hc122
     refine aw_seq ?_
     refine aw_reg ?_
     iterate 3 refine st_op (ev_move rfl) rfl rfl rfl ?_
     refine st_op (ev_nilCheck rfl) rfl rfl rfl ?_
     refine st_op (ev_fieldAddr rfl fa88_2 (o' := 8) rfl) rfl rfl rfl ?_
     refine st_op (ev_load rfl (lvar_one one3 hB119 rfl)) rfl rfl rfl ?_
     have h131 := My.ext h62 hx65
     have h132 := My.frS h131 hxl80 (fun q hq e => ⟨_, e ▸ h76, show (0 : Nat) ≠ 1 by decide⟩)
     have h133 := My.frS h132 hf121 (fun q hq e => ⟨_, e ▸ hB79, show (0 : Nat) ≠ 1 by decide⟩)
     obtain ⟨A123, c124, L125, hL126, hl127, hs128, hr129⟩ := sliceA_my u8c el26 (by decide) h133 (by omega) (lo := none) (hi := some (.int .i64 (z30 + z72))) (p := 0) (q := ((z30 + z72)).toNat) (by rw [Option.isSome_some, if_pos rfl]; exact bound_int (by omega) (by omega) (by first | rfl | omega)) rfl (by omega) (by omega) (.inr ⟨_, _, rfl⟩)
     refine st_op (ev_slice rfl rfl rfl rfl hs128) rfl rfl rfl ?_
     have hL126b : Spec.Bytes L125 := by rw [hL126]; exact Spec.Bytes.take (Spec.Bytes.drop hb16 _) _
     refine st_call rfl rfl rfl ent13 rfl rfl rfl ?_
     have hx135 : Ext H H117 := (Ext.then (Ext.then (Ext.trans (Ext.then (Ext.then (Ext.trans (Ext.trans (Ext.trans hx6 hx12) hx20) hx37) hf43 (fun q hq e => by omega)) hf51 (fun q hq e => by omega)) hx65) hxl80 (fun q hq e => by omega)) hf121 (fun q hq e => by omega))
     have h134 := DiskR.ext rd hx135
     have hS136 := disk_Swap_spec H117 d dD dl dk ⟨_, _, h134⟩ (by omega) (⟨#[115, 116, 97, 116, 101]⟩) (by first | omega | decide | assumption) A123 L125 c124 (My.row hr129) (My.capF hr129 (by omega)) (by omega) (by assumption)
     rw [Spec.swap_ok (F := ⟨#[115, 116, 97, 116, 101]⟩) (b := L125) (l := dl) (by decide) (by omega)] at hS136; try dsimp only at hS136
     obtain ⟨_, H137, hs138, rfl, D140, ⟨mb141, ps142, hr143⟩, hb144, hx139⟩ := hS136
     refine ⟨_, H137, hs138, ?_⟩
     have H137n : H117.next ≤ H137.next := hx139.1
     have hno145 : ¬ D140 b1 := fun e => (hb144 _ e).elim hno7 (fun e => by omega)
     have hno146 : ¬ D140 b32 := fun e => (hb144 _ e).elim hno38 (fun e => by omega)
     have hD147 := fun q e => (hb144 q e).imp (rd.below q) id
     have hS148 : ∀ q, D140 q → dD q ∨ (H.next ≤ q ∧ q < H137.next) := fun q e => (hb144 q e).elim (fun e => (sub_d q e).imp id (fun e => by omega)) (fun e => .inr (by omega))
     refine st_op (ev_assign rfl) rfl rfl rfl ?_
     try show aw _ _ _ _ _ _
     refine aw_seq ?_
     refine aw_reg ?_
     refine st_op (ev_move rfl) rfl rfl rfl ?_
     refine st_op (ev_int rfl rfl rfl) rfl rfl rfl ?_
     try show aw _ _ _ _ _ _
     refine aw_cond (t := false) rfl ?_
     try show aw _ _ _ _ _ _
     refine aw_skip ?_
     try show aw _ _ _ _ _ _
     refine aw_seq ?_
     refine aw_reg ?_
     refine st_op (ev_move rfl) rfl rfl rfl ?_
     iterate 2 refine st_op (ev_assign rfl) rfl rfl rfl ?_
     try show aw _ _ _ _ _ _
     refine aw_ret ?_
     have h149 := Fr.blk hx139 (by omega) (fun e => (hno7 e.1)) hB119
     have h150 := My.frS hm78 hf121 (fun q hq e => ⟨_, e ▸ hB79, show (0 : Nat) ≠ 4 by decide⟩)
     have h151 := My.frS h150 hx139 (fun q hq e => (Z01.ne e.2 (show (4 : Nat) ≠ 0 by decide) (show (4 : Nat) ≠ 1 by decide)))
     have hop := Spec.openR_is (ht := hq) (hv := vq) (lg := lg) hR25 ((congrArg Spec.scanW hLd.symm).trans hR70) (by rw [hT, List.drop_eq_nil_of_le (by omega)]; rfl) (by omega) hc74
     have hres : ((Spec.openR f.b).2.1, (Spec.openR f.b).2.2.1, (Spec.openR f.b).2.2.2.1, (Spec.openR f.b).2.2.2.2.1, (Spec.openR f.b).2.2.2.2.2.1, (Spec.openR f.b).2.2.2.2.2.2.1, (Spec.openR f.b).2.2.2.2.2.2.2.1, (Spec.openR f.b).2.2.2.2.2.2.2.2, (Spec.openL dl f.b (Spec.openR f.b).2.2.2.2.2.2.2.2)) = (hq, vq, z26, z27, z28, z29, lg, z30 + z72, (Spec.fput ⟨#[115, 116, 97, 116, 101]⟩ ⟨L125, (L125.length : Int), true⟩ dl)) := by rw [hop]; simp only [Spec.openL]; rw [if_pos (by omega), show f.b.take (z30 + z72).toNat = _ from (by rw [hL126]; simp : f.b.take (z30 + z72).toNat = L125)]
     have he0 : (Spec.openR f.b).2.1 = hq := congrArg (fun p => p.1) hres
     have he1 : (Spec.openR f.b).2.2.1 = vq := congrArg (fun p => p.2.1) hres
     have he2 : (Spec.openR f.b).2.2.2.1 = z26 := congrArg (fun p => p.2.2.1) hres
     have he3 : (Spec.openR f.b).2.2.2.2.1 = z27 := congrArg (fun p => p.2.2.2.1) hres
     have he4 : (Spec.openR f.b).2.2.2.2.2.1 = z28 := congrArg (fun p => p.2.2.2.2.1) hres
     have he5 : (Spec.openR f.b).2.2.2.2.2.2.1 = z29 := congrArg (fun p => p.2.2.2.2.2.1) hres
     have he6 : (Spec.openR f.b).2.2.2.2.2.2.2.1 = lg := congrArg (fun p => p.2.2.2.2.2.2.1) hres
     have he7 : (Spec.openR f.b).2.2.2.2.2.2.2.2 = z30 + z72 := congrArg (fun p => p.2.2.2.2.2.2.2.1) hres
     have he8 : (Spec.openL dl f.b (Spec.openR f.b).2.2.2.2.2.2.2.2) = (Spec.fput ⟨#[115, 116, 97, 116, 101]⟩ ⟨L125, (L125.length : Int), true⟩ dl) := congrArg (fun p => p.2.2.2.2.2.2.2.2) hres
     exact ⟨.tuple #[.pointer (some ⟨b1, 0, none⟩), .int .i64 0], rfl, A, cp, b1, rfl, (by first | exact (My.older h151 (by omega)) | (rw [he0]; exact (My.older h151 (by omega))) | (rw [he1]; exact (My.older h151 (by omega))) | (rw [he2]; exact (My.older h151 (by omega))) | (rw [he3]; exact (My.older h151 (by omega))) | (rw [he4]; exact (My.older h151 (by omega))) | (rw [he5]; exact (My.older h151 (by omega))) | (rw [he6]; exact (My.older h151 (by omega))) | (rw [he7]; exact (My.older h151 (by omega))) | (rw [he8]; exact (My.older h151 (by omega))) | (rw [he0, he1]; exact (My.older h151 (by omega))) | (simp only [he0, he1, he2, he3, he4, he5, he6, he7, he8]; exact (My.older h151 (by omega)))), (by first | exact (by omega) | (rw [he0]; exact (by omega)) | (rw [he1]; exact (by omega)) | (rw [he2]; exact (by omega)) | (rw [he3]; exact (by omega)) | (rw [he4]; exact (by omega)) | (rw [he5]; exact (by omega)) | (rw [he6]; exact (by omega)) | (rw [he7]; exact (by omega)) | (rw [he8]; exact (by omega)) | (rw [he0, he1]; exact (by omega)) | (simp only [he0, he1, he2, he3, he4, he5, he6, he7, he8]; exact (by omega))), (by first | exact (by omega) | (rw [he0]; exact (by omega)) | (rw [he1]; exact (by omega)) | (rw [he2]; exact (by omega)) | (rw [he3]; exact (by omega)) | (rw [he4]; exact (by omega)) | (rw [he5]; exact (by omega)) | (rw [he6]; exact (by omega)) | (rw [he7]; exact (by omega)) | (rw [he8]; exact (by omega)) | (rw [he0, he1]; exact (by omega)) | (simp only [he0, he1, he2, he3, he4, he5, he6, he7, he8]; exact (by omega))), (by first | exact h149 | (rw [he0]; exact h149) | (rw [he1]; exact h149) | (rw [he2]; exact h149) | (rw [he3]; exact h149) | (rw [he4]; exact h149) | (rw [he5]; exact h149) | (rw [he6]; exact h149) | (rw [he7]; exact h149) | (rw [he8]; exact h149) | (rw [he0, he1]; exact h149) | (simp only [he0, he1, he2, he3, he4, he5, he6, he7, he8]; exact h149)), (by first | exact ⟨D140, (dk + 1), ⟨_, _, hr143⟩, by omega, (fun q e => (hS148 q e).imp id (fun e => by omega)), hno145⟩ | (rw [he0]; exact ⟨D140, (dk + 1), ⟨_, _, hr143⟩, by omega, (fun q e => (hS148 q e).imp id (fun e => by omega)), hno145⟩) | (rw [he1]; exact ⟨D140, (dk + 1), ⟨_, _, hr143⟩, by omega, (fun q e => (hS148 q e).imp id (fun e => by omega)), hno145⟩) | (rw [he2]; exact ⟨D140, (dk + 1), ⟨_, _, hr143⟩, by omega, (fun q e => (hS148 q e).imp id (fun e => by omega)), hno145⟩) | (rw [he3]; exact ⟨D140, (dk + 1), ⟨_, _, hr143⟩, by omega, (fun q e => (hS148 q e).imp id (fun e => by omega)), hno145⟩) | (rw [he4]; exact ⟨D140, (dk + 1), ⟨_, _, hr143⟩, by omega, (fun q e => (hS148 q e).imp id (fun e => by omega)), hno145⟩) | (rw [he5]; exact ⟨D140, (dk + 1), ⟨_, _, hr143⟩, by omega, (fun q e => (hS148 q e).imp id (fun e => by omega)), hno145⟩) | (rw [he6]; exact ⟨D140, (dk + 1), ⟨_, _, hr143⟩, by omega, (fun q e => (hS148 q e).imp id (fun e => by omega)), hno145⟩) | (rw [he7]; exact ⟨D140, (dk + 1), ⟨_, _, hr143⟩, by omega, (fun q e => (hS148 q e).imp id (fun e => by omega)), hno145⟩) | (rw [he8]; exact ⟨D140, (dk + 1), ⟨_, _, hr143⟩, by omega, (fun q e => (hS148 q e).imp id (fun e => by omega)), hno145⟩) | (rw [he0, he1]; exact ⟨D140, (dk + 1), ⟨_, _, hr143⟩, by omega, (fun q e => (hS148 q e).imp id (fun e => by omega)), hno145⟩) | (simp only [he0, he1, he2, he3, he4, he5, he6, he7, he8]; exact ⟨D140, (dk + 1), ⟨_, _, hr143⟩, by omega, (fun q e => (hS148 q e).imp id (fun e => by omega)), hno145⟩)), (Fr.transG (Fr.transG (Fr.transG (Fr.trans (Fr.transG (Fr.transG (Fr.trans (Fr.trans (Fr.trans (Fr.trans (Fr.refl (fun q => (dD q ∧ Z01 H q)) H) (hx6.fr fun _ => False) (fun q hq (e : False) => e.elim)) (hx12.fr fun _ => False) (fun q hq (e : False) => e.elim)) (hx20.fr fun _ => False) (fun q hq (e : False) => e.elim)) (hx37.fr fun _ => False) (fun q hq (e : False) => e.elim)) hf43 (fun q hq hE e => absurd hq (by omega))) hf51 (fun q hq hE e => absurd hq (by omega))) (hx65.fr fun _ => False) (fun q hq (e : False) => e.elim)) hxl80 (fun q hq hE e => absurd hq (by omega))) hf121 (fun q hq hE e => absurd hq (by omega))) hx139 (fun q hq hE e => (⟨e.1, Z01.back hE e.2⟩)))⟩
    ·
     rw [Bool.not_eq_true] at hc122; refine aw_condF hc122 rfl ?_
     try show aw _ _ _ _ _ _
     have hc122 := of_decide_eq_false hc122
     refine aw_skip ?_
     try show aw _ _ _ _ _ _
     refine aw_seq ?_
     refine aw_reg ?_
     refine st_op (ev_move rfl) rfl rfl rfl ?_
     iterate 2 refine st_op (ev_assign rfl) rfl rfl rfl ?_
     try show aw _ _ _ _ _ _
     refine aw_ret ?_
     have h152 := My.frS hm78 hf121 (fun q hq e => ⟨_, e ▸ hB79, show (0 : Nat) ≠ 4 by decide⟩)
     have hx154 : Ext H H117 := (Ext.then (Ext.then (Ext.trans (Ext.then (Ext.then (Ext.trans (Ext.trans (Ext.trans hx6 hx12) hx20) hx37) hf43 (fun q hq e => by omega)) hf51 (fun q hq e => by omega)) hx65) hxl80 (fun q hq e => by omega)) hf121 (fun q hq e => by omega))
     have h153 := DiskR.ext rd hx154
     have hop := Spec.openR_is (ht := hq) (hv := vq) (lg := lg) hR25 ((congrArg Spec.scanW hLd.symm).trans hR70) (by rw [hT, List.drop_eq_nil_of_le (by omega)]; rfl) (by omega) hc74
     have hres : ((Spec.openR f.b).2.1, (Spec.openR f.b).2.2.1, (Spec.openR f.b).2.2.2.1, (Spec.openR f.b).2.2.2.2.1, (Spec.openR f.b).2.2.2.2.2.1, (Spec.openR f.b).2.2.2.2.2.2.1, (Spec.openR f.b).2.2.2.2.2.2.2.1, (Spec.openR f.b).2.2.2.2.2.2.2.2, (Spec.openL dl f.b (Spec.openR f.b).2.2.2.2.2.2.2.2)) = (hq, vq, z26, z27, z28, z29, lg, z30 + z72, dl) := by rw [hop]; simp only [Spec.openL]; rw [if_neg (by omega)]
     have he0 : (Spec.openR f.b).2.1 = hq := congrArg (fun p => p.1) hres
     have he1 : (Spec.openR f.b).2.2.1 = vq := congrArg (fun p => p.2.1) hres
     have he2 : (Spec.openR f.b).2.2.2.1 = z26 := congrArg (fun p => p.2.2.1) hres
     have he3 : (Spec.openR f.b).2.2.2.2.1 = z27 := congrArg (fun p => p.2.2.2.1) hres
     have he4 : (Spec.openR f.b).2.2.2.2.2.1 = z28 := congrArg (fun p => p.2.2.2.2.1) hres
     have he5 : (Spec.openR f.b).2.2.2.2.2.2.1 = z29 := congrArg (fun p => p.2.2.2.2.2.1) hres
     have he6 : (Spec.openR f.b).2.2.2.2.2.2.2.1 = lg := congrArg (fun p => p.2.2.2.2.2.2.1) hres
     have he7 : (Spec.openR f.b).2.2.2.2.2.2.2.2 = z30 + z72 := congrArg (fun p => p.2.2.2.2.2.2.2.1) hres
     have he8 : (Spec.openL dl f.b (Spec.openR f.b).2.2.2.2.2.2.2.2) = dl := congrArg (fun p => p.2.2.2.2.2.2.2.2) hres
     exact ⟨.tuple #[.pointer (some ⟨b1, 0, none⟩), .int .i64 0], rfl, A, cp, b1, rfl, (by first | exact (My.older h152 (by omega)) | (rw [he0]; exact (My.older h152 (by omega))) | (rw [he1]; exact (My.older h152 (by omega))) | (rw [he2]; exact (My.older h152 (by omega))) | (rw [he3]; exact (My.older h152 (by omega))) | (rw [he4]; exact (My.older h152 (by omega))) | (rw [he5]; exact (My.older h152 (by omega))) | (rw [he6]; exact (My.older h152 (by omega))) | (rw [he7]; exact (My.older h152 (by omega))) | (rw [he8]; exact (My.older h152 (by omega))) | (rw [he0, he1]; exact (My.older h152 (by omega))) | (simp only [he0, he1, he2, he3, he4, he5, he6, he7, he8]; exact (My.older h152 (by omega)))), (by first | exact (by omega) | (rw [he0]; exact (by omega)) | (rw [he1]; exact (by omega)) | (rw [he2]; exact (by omega)) | (rw [he3]; exact (by omega)) | (rw [he4]; exact (by omega)) | (rw [he5]; exact (by omega)) | (rw [he6]; exact (by omega)) | (rw [he7]; exact (by omega)) | (rw [he8]; exact (by omega)) | (rw [he0, he1]; exact (by omega)) | (simp only [he0, he1, he2, he3, he4, he5, he6, he7, he8]; exact (by omega))), (by first | exact (by omega) | (rw [he0]; exact (by omega)) | (rw [he1]; exact (by omega)) | (rw [he2]; exact (by omega)) | (rw [he3]; exact (by omega)) | (rw [he4]; exact (by omega)) | (rw [he5]; exact (by omega)) | (rw [he6]; exact (by omega)) | (rw [he7]; exact (by omega)) | (rw [he8]; exact (by omega)) | (rw [he0, he1]; exact (by omega)) | (simp only [he0, he1, he2, he3, he4, he5, he6, he7, he8]; exact (by omega))), (by first | exact hB119 | (rw [he0]; exact hB119) | (rw [he1]; exact hB119) | (rw [he2]; exact hB119) | (rw [he3]; exact hB119) | (rw [he4]; exact hB119) | (rw [he5]; exact hB119) | (rw [he6]; exact hB119) | (rw [he7]; exact hB119) | (rw [he8]; exact hB119) | (rw [he0, he1]; exact hB119) | (simp only [he0, he1, he2, he3, he4, he5, he6, he7, he8]; exact hB119)), (by first | exact ⟨dD, dk, ⟨_, _, h153⟩, by omega, (fun q e => (sub_d q e).imp id (fun e => by omega)), hno7⟩ | (rw [he0]; exact ⟨dD, dk, ⟨_, _, h153⟩, by omega, (fun q e => (sub_d q e).imp id (fun e => by omega)), hno7⟩) | (rw [he1]; exact ⟨dD, dk, ⟨_, _, h153⟩, by omega, (fun q e => (sub_d q e).imp id (fun e => by omega)), hno7⟩) | (rw [he2]; exact ⟨dD, dk, ⟨_, _, h153⟩, by omega, (fun q e => (sub_d q e).imp id (fun e => by omega)), hno7⟩) | (rw [he3]; exact ⟨dD, dk, ⟨_, _, h153⟩, by omega, (fun q e => (sub_d q e).imp id (fun e => by omega)), hno7⟩) | (rw [he4]; exact ⟨dD, dk, ⟨_, _, h153⟩, by omega, (fun q e => (sub_d q e).imp id (fun e => by omega)), hno7⟩) | (rw [he5]; exact ⟨dD, dk, ⟨_, _, h153⟩, by omega, (fun q e => (sub_d q e).imp id (fun e => by omega)), hno7⟩) | (rw [he6]; exact ⟨dD, dk, ⟨_, _, h153⟩, by omega, (fun q e => (sub_d q e).imp id (fun e => by omega)), hno7⟩) | (rw [he7]; exact ⟨dD, dk, ⟨_, _, h153⟩, by omega, (fun q e => (sub_d q e).imp id (fun e => by omega)), hno7⟩) | (rw [he8]; exact ⟨dD, dk, ⟨_, _, h153⟩, by omega, (fun q e => (sub_d q e).imp id (fun e => by omega)), hno7⟩) | (rw [he0, he1]; exact ⟨dD, dk, ⟨_, _, h153⟩, by omega, (fun q e => (sub_d q e).imp id (fun e => by omega)), hno7⟩) | (simp only [he0, he1, he2, he3, he4, he5, he6, he7, he8]; exact ⟨dD, dk, ⟨_, _, h153⟩, by omega, (fun q e => (sub_d q e).imp id (fun e => by omega)), hno7⟩)), (Fr.transG (Fr.transG (Fr.trans (Fr.transG (Fr.transG (Fr.trans (Fr.trans (Fr.trans (Fr.trans (Fr.refl (fun q => (dD q ∧ Z01 H q)) H) (hx6.fr fun _ => False) (fun q hq (e : False) => e.elim)) (hx12.fr fun _ => False) (fun q hq (e : False) => e.elim)) (hx20.fr fun _ => False) (fun q hq (e : False) => e.elim)) (hx37.fr fun _ => False) (fun q hq (e : False) => e.elim)) hf43 (fun q hq hE e => absurd hq (by omega))) hf51 (fun q hq hE e => absurd hq (by omega))) (hx65.fr fun _ => False) (fun q hq (e : False) => e.elim)) hxl80 (fun q hq hE e => absurd hq (by omega))) hf121 (fun q hq hE e => absurd hq (by omega)))⟩
section
open Spec
variable {K D : Nat → Prop} {S : KSt} {o : Option FileS} {kc : Int}
theorem keepw_State_spec (H : Heap) (k d : Nat) (K : Nat → Prop) (S : KSt) (o : Option FileS) (kc : Int) (h : KeepR K H k d S o kc) (hk : kc ≤ 1099511627000) :
  ∃ v H', Spec Try.prog 26 [.pointer (some ⟨k, 0, none⟩)] H v H' ∧ (∃ A' c', v = .agg #[.int .i64 S.ht, .int .i64 S.hv, .int .i64 S.si, .int .i64 S.st, .string S.sc, .string S.sd, .slice A' S.l.length c'] ∧ My H H' A' c' 4 (S.l.map Entry.cells) ∧ Ext H H') := by
 obtain ⟨D, A, c, ⟨mb, ps, r⟩, hDK, nk, hB, hmy, hA⟩ := h.ex
 obtain ⟨v', H', s1, A', c', rfl, e1, e6⟩ := keep_State_spec H d mb D _ ps kc r hk S.ht S.hv S.si h.si S.st S.sc S.sd A S.l c (My.row hmy) (My.capF hmy (by have := h.lenl; omega)) h.lenl (sizeO o) (DiskH.szO ⟨mb, ps, r⟩) k (h.below k h.kk) hB nk
 exact ⟨_, H', s1, A', c', rfl, e1, e6⟩
theorem keepw_HardOk_spec (H : Heap) (k d : Nat) (K : Nat → Prop) (S : KSt) (o : Option FileS) (kc : Int) (h : KeepR K H k d S o kc) (hk : kc ≤ 1099511627000) (t v : Int) (hm : mayF true t v 0 0 0 (⟨#[]⟩ : ByteArray) = true) (hs : S.sd.size ≤ 200) :
  ∃ w H', Spec Try.prog 23 [.pointer (some ⟨k, 0, none⟩), .agg #[.int .i64 t, .int .i64 v]] H w H' ∧ (w = .int .i64 0 ∧ ∃ K' kc', KeepR K' H' k d (hardS S t v) (some (addO o (wholeS S) (encH t v))) kc' ∧ kc' ≤ kc + 2 ∧ (∀ q, K' q → K q ∨ (H.next ≤ q ∧ q < H'.next)) ∧ Fr (fun q => K q ∧ Z01 H q) H H') := by
 obtain ⟨D, A, c, ⟨mb, ps, r⟩, hDK, nk, hB, hmy, hA⟩ := h.ex
 have hw := whole_small hs h.lenl
 have hl := encodeF_len true t v 0 0 0 (⟨#[]⟩ : ByteArray)
 have hg : (wholeF S.ht S.hv S.si S.st S.sc S.sd S.l).length + (encodeF true t v 0 0 0 (⟨#[]⟩ : ByteArray)).length ≤ 1048576 := by unfold wholeS at hw; omega
 obtain ⟨v', H', s1, A', c', rfl, e1, e2, ⟨D', k', e3, e4, e5⟩, e6⟩ := keep_HardOk_spec H d mb D _ ps kc r hk S.ht S.hv S.si h.si S.st S.sc S.sd A S.l c (My.row hmy) (My.capF hmy (by have := h.lenl; omega)) h.lenl (sizeO o) (DiskH.szO ⟨mb, ps, r⟩) k (h.below k h.kk) hB nk t v hm hg (fileOk_O o)
 rw [addF_O hg] at e2 e3
 exact ⟨_, H', s1, rfl, grow K H H', k', h.next (S' := hardS S t v) e6.1 e3 e5 hDK nk e2 (My.older e1 (Nat.zero_le _)) (fun q hq => .inr ⟨e1.inNew q hq, inA.lt e1 q hq⟩) h.lenl h.si, e4, fun q e => e, h.frame hB hDK e6⟩
theorem keepw_Write_spec (H : Heap) (k d : Nat) (K : Nat → Prop) (S : KSt) (o : Option FileS) (kc : Int) (h : KeepR K H k d S o kc) (hk : kc ≤ 1099511627000) (wA : Option Addr) (w : List Entry) (wc : Nat) (hw : Row H wA wc 4 (w.map Entry.cells)) (cw : w.length ≤ wc) (lw : w.length ≤ 100) (bw : EntsI w) (hs : S.sd.size ≤ 200) :
  ∃ v H', Spec Try.prog 22 [.pointer (some ⟨k, 0, none⟩), .slice wA w.length wc] H v H' ∧ (v = .int .i64 (writeE S.si S.l w) ∧ ∃ K' kc', KeepR K' H' k d (writeS S w) (writeO S o w) kc' ∧ kc' ≤ kc + 2 ∧ (∀ q, K' q → K q ∨ (H.next ≤ q ∧ q < H'.next)) ∧ Fr (fun q => K q ∧ Z01 H q) H H') := by
 obtain ⟨D, A, c, ⟨mb, ps, r⟩, hDK, nk, hB, hmy, hA⟩ := h.ex
 by_cases hx : writeE S.si S.l w = 0 ∧ w ≠ []
 ·
  have hws := whole_small hs h.lenl
  have hl := encKs_len w
  have hg : (wholeF S.ht S.hv S.si S.st S.sc S.sd S.l).length + (encKs w).length ≤ 1048576 := by unfold wholeS at hws; omega
  obtain ⟨v', H', s1, A', c', rfl, e1, e2, ⟨D', k', e3, e4, e5⟩, e6⟩ := keep_WriteOk_spec H d mb D _ ps kc r hk S.ht S.hv S.si h.si S.st S.sc S.sd A S.l c (My.row hmy) (My.capF hmy (by have := h.lenl; omega)) h.lenl (sizeO o) (DiskH.szO ⟨mb, ps, r⟩) k (h.below k h.kk) hB nk wA w wc hw cw (by omega) bw hx.1 hx.2 hg (fileOk_O o)
  rw [addF_O hg] at e2 e3
  rw [hx.1, show writeS S w = { S with l := writeL S.si S.l w } from if_pos hx.1, show writeO S o w = some (addO o (wholeS S) (encKs w)) from if_pos hx]
  exact ⟨_, H', s1, rfl, grow K H H', k', h.next (S' := { S with l := writeL S.si S.l w }) e6.1 e3 e5 hDK nk e2 (My.older e1 (Nat.zero_le _)) (fun q hq => .inr ⟨e1.inNew q hq, inA.lt e1 q hq⟩) (writeL_len hx.1 h.lenl) h.si, e4, fun q e => e, h.frame hB hDK e6⟩
 ·
  have hx' : writeE S.si S.l w ≠ 0 ∨ w = [] := by
   by_cases hy : writeE S.si S.l w = 0
   ·
    exact .inr (Decidable.byContradiction fun c => hx ⟨hy, c⟩)
   ·
    exact .inl hy
  obtain ⟨v', H', s1, rfl, e6⟩ := keep_WriteErr_spec H d mb D _ ps kc r hk S.ht S.hv S.si h.si S.st S.sc S.sd A S.l c (My.row hmy) (My.capF hmy (by have := h.lenl; omega)) h.lenl (sizeO o) (DiskH.szO ⟨mb, ps, r⟩) k (h.below k h.kk) hB nk wA w wc hw cw (by omega) bw hx'
  rw [writeS_no hx', show writeO S o w = o from if_neg hx]
  exact ⟨_, H', s1, rfl, K, kc, h.ext e6, by omega, fun q e => .inl e, e6.frAny _⟩
theorem keepw_Sync_spec (H : Heap) (k d : Nat) (K : Nat → Prop) (S : KSt) (o : Option FileS) (kc : Int) (h : KeepR K H k d S o kc) (hk : kc ≤ 1099511627000) :
  ∃ v H', Spec Try.prog 27 [.pointer (some ⟨k, 0, none⟩)] H v H' ∧ (v = .int .i64 0 ∧ ∃ K' kc', KeepR K' H' k d S (syncK o) kc' ∧ kc' ≤ kc + 2 ∧ (∀ q, K' q → K q ∨ (H.next ≤ q ∧ q < H'.next)) ∧ Fr (fun q => K q ∧ Z01 H q) H H') := by
 obtain ⟨D, A, c, ⟨mb, ps, r⟩, hDK, nk, hB, hmy, hA⟩ := h.ex
 by_cases hz : sizeO o = 0
 ·
  obtain ⟨v', H', s1, rfl, e6⟩ := keep_SyncZero_spec H d mb D _ ps kc r hk S.ht S.hv S.si h.si S.st S.sc S.sd A S.l c (My.row hmy) (My.capF hmy (by have := h.lenl; omega)) h.lenl (sizeO o) (DiskH.szO ⟨mb, ps, r⟩) k (h.below k h.kk) hB nk hz
  rw [show syncK o = o from if_pos hz]
  exact ⟨_, H', s1, rfl, K, kc, h.ext e6, by omega, fun q e => .inl e, e6.frAny _⟩
 ·
  cases o with
  | none => exact absurd rfl hz
  | some f =>
   obtain ⟨v', H', s1, rfl, e2, ⟨D', k', e3, e4, e5⟩, e6⟩ := keep_SyncOk_spec H d mb D _ ps kc r hk S.ht S.hv S.si h.si S.st S.sc S.sd A S.l c (My.row hmy) (My.capF hmy (by have := h.lenl; omega)) h.lenl (sizeO (some f)) (DiskH.szO ⟨mb, ps, r⟩) k (h.below k h.kk) hB nk f (filesO_get _) hz
   rw [show syncK (some f) = some ⟨f.b, f.b.length, true⟩ from if_neg hz]
   have e3' : DiskH D' H' d (filesO (some ⟨f.b, f.b.length, true⟩)) k' := filesO_put (some f) ⟨f.b, f.b.length, true⟩ ▸ e3
   have hm' := My.frS hmy e6 (fun q hq e => e.elim (fun e => ⟨_, e ▸ hB, show (0 : Nat) ≠ 4 by decide⟩) (fun e => Z01.ne e.2 (show (4 : Nat) ≠ 0 by decide) (show (4 : Nat) ≠ 1 by decide)))
   exact ⟨_, H', s1, rfl, grow K H H', k', h.next (S' := S) e6.1 e3' e5 hDK nk e2 hm' (fun q hq => .inl (hA q hq)) h.lenl h.si, by omega, fun q e => e, h.frame hB hDK e6⟩
theorem keepw_OpenN_spec (H : Heap) (d : Nat) (D : Nat → Prop) (kc : Int) (h : DiskH D H d (filesO none) kc) (hk : kc ≤ 1099511627000) :
  ∃ v H', Spec Try.prog 19 [.pointer (some ⟨d, 0, none⟩)] H v H' ∧ (∃ k K', v = .tuple #[.pointer (some ⟨k, 0, none⟩), .int .i64 0] ∧ KeepR K' H' k d KSt0 none kc ∧ (∀ q, K' q → D q ∨ (H.next ≤ q ∧ q < H'.next)) ∧ Ext H H') := by
 obtain ⟨mb, ps, r⟩ := h
 obtain ⟨v', H', s1, k, rfl, e1, e2, e3, e6⟩ := keep_OpenNone_spec H d mb D _ ps kc r hk (filesO_get none)
 exact ⟨_, H', s1, k, grow D H H', rfl, ⟨.inr ⟨e1, e2⟩, ⟨D, none, 0, ⟨mb, ps, DiskR.ext r e6⟩, fun q e => .inl e, fun e => by have := r.below k e; omega, e3, .nil, fun q e => absurd rfl e.1⟩, Nat.zero_le _, ⟨Int.le_refl _, by decide⟩, fun q e => e.elim (fun e => Nat.lt_of_lt_of_le (r.below q e) e6.1) fun e => e.2⟩, fun q e => e, e6⟩
theorem keepw_OpenY_spec (H : Heap) (d : Nat) (D : Nat → Prop) (f : FileS) (kc : Int) (h : DiskH D H d (filesO (some f)) kc) (hk : kc ≤ 1099511627000) (ho : (openR f.b).1 = true) :
  ∃ v H', Spec Try.prog 19 [.pointer (some ⟨d, 0, none⟩)] H v H' ∧ (∃ k K' kc', v = .tuple #[.pointer (some ⟨k, 0, none⟩), .int .i64 0] ∧ KeepR K' H' k d (stateO f.b) (some (openO f)) kc' ∧ kc' ≤ kc + 1 ∧ (∀ q, K' q → D q ∨ (H.next ≤ q ∧ q < H'.next)) ∧ Fr (fun q => D q ∧ Z01 H q) H H') := by
 obtain ⟨mb, ps, r⟩ := h
 obtain ⟨v', H', s1, A', c', k, rfl, e1, e2, e3, e4, ⟨D', k', e5, e7, e8, e9⟩, e6⟩ := keep_OpenOk_spec H d mb D _ ps kc r hk f (filesO_get _) ho
 have e5' : DiskH D' H' d (filesO (some (openO f))) k' := openL_O (f := f) ▸ e5
 have e4' := e4
 rw [show (openR f.b).2.2.2.2.2.2.2.2 = sizeO (some (openO f)) from (openO_len r.fileO.1 ho).symm] at e4'
 exact ⟨_, H', s1, k, grow D H H', k', rfl, ⟨.inr ⟨e2, e3⟩, ⟨D', A', c', e5', fun q e => e8 q e, e9, e4', My.older e1 (Nat.zero_le _), fun q hq => .inr ⟨e1.inNew q hq, inA.lt e1 q hq⟩⟩, stateO_len _, stateO_si ho, fun q e => e.elim (fun e => Nat.lt_of_lt_of_le (r.below q e) e6.1) fun e => e.2⟩, e7, fun q e => e, e6⟩
end


theorem maps_KeysR_spec (H : Heap) (mb : Nat) : ∃ v H', Spec Try.prog 35 [.map (some mb)] H v H' ∧ (∃ b1, (v = .func (.func 54) #[] #[.pointer (some ⟨b1, 0, none⟩)]) ∧ (H.next ≤ b1 ∧ b1 < H'.next) ∧ (H'.blk b1 = some ⟨[.map (some mb)], 0, false, false⟩) ∧ (Ext H H')) := by
 refine spec_go1 E0_ok 4 (f := 35) Try.func35 rfl rfl rfl ?_
 refine aw_seq ?_
 refine aw_reg ?_
 obtain ⟨b1, H2, he3, b1e, H2n_, hB5, f4⟩ := mem_box (P := Try.prog) H (v := .map (some mb)) (cs := [.map (some mb)]) rfl rfl
 refine st_op (he3 _ _ _ _ _ _ _ _ _ rfl) rfl rfl rfl ?_
 have hx6 : Ext H H2 := Ext.new (by omega) H2n_ f4
 have H2n : H.next ≤ H2.next := hx6.1
 refine st_op (ev_assign rfl) rfl rfl rfl ?_
 try show aw _ _ _ _ _ _
 refine aw_seq ?_
 refine aw_reg ?_
 refine st_op (ev_makeFunc rfl) rfl rfl rfl ?_
 refine st_op (ev_assign rfl) rfl rfl rfl ?_
 try show aw _ _ _ _ _ _
 refine aw_ret ?_
 exact ⟨.func (.func 54) #[] #[.pointer (some ⟨b1, 0, none⟩)], rfl, b1, rfl, ⟨by omega, by omega⟩, hB5, hx6⟩

end Go.AM
namespace Go.Proofs
open Go.Shelf Go.RowKit Go.Maps Go.Sort
def Try.keys35_ren : Go.Shelf.Ren := ⟨fun | 7 => 35 | 10 => 54 | n => n, fun | 23 => 75 | 26 => 9 | 3 => 79 | 28 => 85 | 0 => 0 | 27 => 84 | 33 => 78 | 4 => 4 | n => n, fun | n => n⟩
theorem Try.keys35 : Go.Proofs.SlLaysZ.n7 Try.prog Try.keys35_ren := {
 mixed := by kernel_rfl
 f7 := ⟨Try.f35.name, by decide, Try.func35.trans (congrArg some (by kernel_rfl))⟩
 f10 := ⟨Try.f54.name, by decide, Try.func54.trans (congrArg some (by kernel_rfl))⟩
 t0 := Try.underlying0
 a0 := Try.isAgg0
 z0 := Try.sizeOf0
 v0 := Try.zeroValue0
 t4 := Try.underlying4
 a4 := Try.isAgg4
 z4 := Try.sizeOf4
 v4 := Try.zeroValue4
 t23 := Try.underlying75
 a23 := Try.isAgg75
 z23 := Try.sizeOf75
 v23 := Try.zeroValue75
 t26 := Try.underlying9
 a26 := Try.isAgg9
 z26 := Try.sizeOf9
 v26 := Try.zeroValue9
 t27 := Try.underlying84
 a27 := Try.isAgg84
 z27 := Try.sizeOf84
 v27 := Try.zeroValue84
 t28 := Try.underlying85
 a28 := Try.isAgg85
 z28 := Try.sizeOf85
 v28 := Try.zeroValue85
 t33 := Try.underlying78
 a33 := Try.isAgg78
 z33 := Try.sizeOf78
 v33 := Try.zeroValue78 }
def Try.sorted34_ren : Go.Shelf.Ren := ⟨fun | 6 => 34 | 8 => 52 | 9 => 53 | 11 => 67 | 13 => 69 | 12 => 68 | 23 => 85 | 24 => 86 | 14 => 76 | 15 => 77 | 16 => 78 | 17 => 79 | 18 => 80 | 19 => 81 | 20 => 82 | 21 => 83 | 22 => 84 | 25 => 87 | 26 => 88 | 27 => 89 | 28 => 90 | 29 => 91 | 30 => 92 | 31 => 93 | n => n, fun | 26 => 9 | 28 => 85 | 24 => 33 | 0 => 0 | 3 => 3 | 37 => 129 | 48 => 133 | 50 => 139 | 4 => 4 | 40 => 143 | 39 => 142 | 45 => 148 | 5 => 5 | 9 => 9 | 51 => 152 | 55 => 156 | 57 => 158 | 58 => 159 | 33 => 78 | n => n, fun | n => n⟩
theorem Try.sorted34 : Go.Proofs.SlLaysZ.n6 Try.prog Try.sorted34_ren := {
 mixed := by kernel_rfl
 f6 := ⟨Try.f34.name, by decide, Try.func34.trans (congrArg some (by kernel_rfl))⟩
 f8 := ⟨Try.f52.name, by decide, Try.func52.trans (congrArg some (by kernel_rfl))⟩
 f11 := ⟨Try.f67.name, by decide, Try.func67.trans (congrArg some (by kernel_rfl))⟩
 t0 := Try.underlying0
 a0 := Try.isAgg0
 z0 := Try.sizeOf0
 v0 := Try.zeroValue0
 t24 := Try.underlying33
 a24 := Try.isAgg33
 z24 := Try.sizeOf33
 v24 := Try.zeroValue33
 t26 := Try.underlying9
 a26 := Try.isAgg9
 z26 := Try.sizeOf9
 v26 := Try.zeroValue9
 t28 := Try.underlying85
 a28 := Try.isAgg85
 z28 := Try.sizeOf85
 v28 := Try.zeroValue85
 i26 := by kernel_rfl }
def Try.sort53_ren : Go.Shelf.Ren := ⟨fun | 6 => 53 | 8 => 69 | 9 => 68 | 19 => 85 | 20 => 86 | 21 => 76 | 22 => 77 | 23 => 78 | 24 => 79 | 25 => 80 | 26 => 81 | 27 => 82 | 28 => 83 | 29 => 84 | 36 => 87 | 31 => 88 | 32 => 89 | 37 => 90 | 38 => 91 | 39 => 92 | 41 => 93 | n => n, fun | 27 => 33 | 29 => 9 | 3 => 3 | 32 => 129 | 26 => 33 | 0 => 0 | 44 => 133 | 46 => 139 | 4 => 4 | 36 => 143 | 35 => 142 | 41 => 148 | 5 => 5 | 9 => 9 | 53 => 152 | 57 => 156 | 63 => 158 | 64 => 159 | n => n, fun | n => n⟩
theorem Try.sort53 : Go.Proofs.SlLaysM.n6 Try.prog Try.sort53_ren := {
 mixed := by kernel_rfl
 f6 := ⟨Try.f53.name, by decide, Try.func53.trans (congrArg some (by kernel_rfl))⟩
 f8 := Try.func69.trans (congrArg some (by kernel_rfl))
 f9 := ⟨Try.f68.name, by decide, Try.func68.trans (congrArg some (by kernel_rfl))⟩
 f19 := Try.func85.trans (congrArg some (by kernel_rfl))
 f20 := Try.func86.trans (congrArg some (by kernel_rfl))
 f21 := ⟨Try.f76.name, by decide, Try.func76.trans (congrArg some (by kernel_rfl))⟩
 f22 := ⟨Try.f77.name, by decide, Try.func77.trans (congrArg some (by kernel_rfl))⟩
 f23 := ⟨Try.f78.name, by decide, Try.func78.trans (congrArg some (by kernel_rfl))⟩
 f24 := ⟨Try.f79.name, by decide, Try.func79.trans (congrArg some (by kernel_rfl))⟩
 f25 := ⟨Try.f80.name, by decide, Try.func80.trans (congrArg some (by kernel_rfl))⟩
 f26 := ⟨Try.f81.name, by decide, Try.func81.trans (congrArg some (by kernel_rfl))⟩
 f27 := ⟨Try.f82.name, by decide, Try.func82.trans (congrArg some (by kernel_rfl))⟩
 f28 := ⟨Try.f83.name, by decide, Try.func83.trans (congrArg some (by kernel_rfl))⟩
 f29 := ⟨Try.f84.name, by decide, Try.func84.trans (congrArg some (by kernel_rfl))⟩
 f31 := Try.func88.trans (congrArg some (by kernel_rfl))
 f32 := Try.func89.trans (congrArg some (by kernel_rfl))
 f36 := ⟨Try.f87.name, by decide, Try.func87.trans (congrArg some (by kernel_rfl))⟩
 f37 := ⟨Try.f90.name, by decide, Try.func90.trans (congrArg some (by kernel_rfl))⟩
 f38 := ⟨Try.f91.name, by decide, Try.func91.trans (congrArg some (by kernel_rfl))⟩
 f39 := ⟨Try.f92.name, by decide, Try.func92.trans (congrArg some (by kernel_rfl))⟩
 f41 := ⟨Try.f93.name, by decide, Try.func93.trans (congrArg some (by kernel_rfl))⟩
 t0 := Try.underlying0
 a0 := Try.isAgg0
 z0 := Try.sizeOf0
 v0 := Try.zeroValue0
 t3 := Try.underlying3
 a3 := Try.isAgg3
 z3 := Try.sizeOf3
 v3 := Try.zeroValue3
 t4 := Try.underlying4
 a4 := Try.isAgg4
 z4 := Try.sizeOf4
 v4 := Try.zeroValue4
 t5 := Try.underlying5
 a5 := Try.isAgg5
 z5 := Try.sizeOf5
 v5 := Try.zeroValue5
 t9 := Try.underlying9
 a9 := Try.isAgg9
 z9 := Try.sizeOf9
 v9 := Try.zeroValue9
 t26 := Try.underlying33
 a26 := Try.isAgg33
 z26 := Try.sizeOf33
 v26 := Try.zeroValue33
 t27 := Try.underlying33
 a27 := Try.isAgg33
 z27 := Try.sizeOf33
 v27 := Try.zeroValue33
 t29 := Try.underlying9
 a29 := Try.isAgg9
 z29 := Try.sizeOf9
 v29 := Try.zeroValue9
 t32 := Try.underlying129
 a32 := Try.isAgg129
 z32 := Try.sizeOf129
 v32 := Try.zeroValue129
 t35 := Try.underlying142
 a35 := Try.isAgg142
 z35 := Try.sizeOf142
 v35 := Try.zeroValue142
 t36 := Try.underlying143
 a36 := Try.isAgg143
 z36 := Try.sizeOf143
 v36 := Try.zeroValue143
 t41 := Try.underlying148
 a41 := Try.isAgg148
 z41 := Try.sizeOf148
 v41 := Try.zeroValue148
 t44 := Try.underlying133
 a44 := Try.isAgg133
 z44 := Try.sizeOf133
 v44 := Try.zeroValue133
 t46 := Try.underlying139
 a46 := Try.isAgg139
 z46 := Try.sizeOf139
 v46 := Try.zeroValue139
 t53 := Try.underlying152
 a53 := Try.isAgg152
 z53 := Try.sizeOf152
 v53 := Try.zeroValue152
 t57 := Try.underlying156
 a57 := Try.isAgg156
 z57 := Try.sizeOf156
 v57 := Try.zeroValue156
 t63 := Try.underlying158
 a63 := Try.isAgg158
 z63 := Try.sizeOf158
 v63 := Try.zeroValue158
 t64 := Try.underlying159
 a64 := Try.isAgg159
 z64 := Try.sizeOf159
 v64 := Try.zeroValue159 }

theorem Try.sortsK (m : Nat) : AnyZ.SortsIn Try.prog Try.sorted34_ren Fence.wide m :=
 ⟨fun blk off cap ss W hH hblk hsz => callsIn_wide.2 (AnyM.slices_Sort_string Try.sort53 blk off cap ss W hH hblk hsz),
   fun p cap W => callsIn_wide.2 (AnyM.slices_Sort_string_none Try.sort53 p cap W)⟩
set_option maxHeartbeats 1000000 in
theorem Try.sortedK : Go.AM.SortedK Try.prog 34 54 9 := by
 refine ⟨Try.underlying9, fun Bm b nn D0 R w hBm hm hown hmax hbytes => ?_⟩
 have hseq : SeqGives Fence.wide 2 Try.prog 54 #[.pointer (some ⟨Bm, 0, none⟩)] encStr (fun ss => ss.Perm (strKeys D0)) (Maps.size D0) w :=
  AnyZ.keys_gives (ρ := Try.keys35_ren) { Try.keys35 with } Fence.wide _ trivial rfl (by omega) Bm b nn D0 _ hBm hm hown
 exact (callsIn_wide (n := 5)).1 (AnyZ.sorted_in Try.sorted34 Fence.wide 5 trivial trivial trivial trivial rfl (by omega) (Try.sortsK _) (enters_of Try.func53 (by kernel_rfl) rfl) 54 #[.pointer (some ⟨Bm, 0, none⟩)] trivial (enters_of Try.func54 (by kernel_rfl) rfl) _ _ hmax hbytes _ hseq)
end Go.Proofs
namespace Go.AM
open Go Go.Proofs

theorem disk_NamesR_spec (H : Heap) (d dm : Nat) (dD : Nat → Prop) (dl : Files) (dp : List Place) (dk : Int) (rd : DiskR dD H d dm dl dp dk) (kd : dk ≤ 1099511627776) (ld : dl.length ≤ 1099511627776) : ∃ v H', Spec Try.prog 15 [.pointer (some ⟨d, 0, none⟩)] H v H' ∧ (∃ A7 c8, (v = .slice A7 ((Spec.namesF dl).length) c8) ∧ (My H H' A7 c8 1 ((Spec.namesF dl).map strC)) ∧ (Ext H H')) := by
 have bd := rd.below _ rd.dp; have bdm := rd.below _ rd.dm; have zd := rd.kb
 refine spec_go1 E0_ok 11 (f := 15) Try.func15 rfl rfl rfl ?_
 refine aw_seq ?_
 refine aw_reg ?_
 refine st_op (ev_assign rfl) rfl rfl rfl ?_
 try show aw _ _ _ _ _ _
 iterate 2 refine aw_seq ?_
 refine aw_reg ?_
 refine st_op (ev_move rfl) rfl rfl rfl ?_
 refine st_op (ev_nilEq rfl rfl Try.underlying24) rfl rfl rfl ?_
 try show aw _ _ _ _ _ _
 refine aw_cond (t := false) rfl ?_
 try show aw _ _ _ _ _ _
 refine aw_skip ?_
 try show aw _ _ _ _ _ _
 refine aw_seq ?_
 refine aw_reg ?_
 refine st_op (ev_move rfl) rfl rfl rfl ?_
 refine st_op (ev_nilCheck rfl) rfl rfl rfl ?_
 refine st_op (ev_fieldAddr rfl fa77_0 (o' := 0) rfl) rfl rfl rfl ?_
 refine st_op (ev_load rfl (lvar_one one75 rd.blk rfl)) rfl rfl rfl ?_
 refine st_call rfl rfl rfl ent35 rfl rfl rfl ?_
 obtain ⟨_, H1, hs2, b3, rfl, b3l, b3B, hx4⟩ := maps_KeysR_spec H dm
 refine ⟨_, H1, hs2, ?_⟩
 have H1n : H.next ≤ H1.next := hx4.1
 refine st_call rfl rfl rfl ent34 rfl rfl rfl ?_
 have h11 := DiskR.ext rd hx4
 obtain ⟨_, H5, hs6, A7, c8, rfl, hm9, hx10⟩ := names_am Try.sortedK h11.len b3B h11.mblk (by omega)
 refine ⟨_, H5, hs6, ?_⟩
 have H5n : H1.next ≤ H5.next := hx10.1
 have A7n := Spec.names_length dl
 refine st_op (ev_assign rfl) rfl rfl rfl ?_
 try show aw _ _ _ _ _ _
 refine aw_ret ?_
 have hx12 : Ext H H5 := (Ext.trans hx4 hx10)
 exact ⟨.slice A7 ((Spec.namesF dl).length) c8, rfl, A7, c8, rfl, (My.older hm9 (by omega)), hx12⟩


theorem disk_CrashR_spec (H : Heap) (d dm : Nat) (dD : Nat → Prop) (dl : Files) (dp : List Place) (dk : Int) (rd : DiskR dD H d dm dl dp dk) (kd : dk ≤ 1099511627776) (ld : dl.length ≤ 1099511627776) (n : Int) : ∃ v H', Spec Try.prog 14 [.pointer (some ⟨d, 0, none⟩), .int .i64 n] H v H' ∧ (∃ p D', v = .pointer (some ⟨p, 0, none⟩) ∧ DiskH D' H' p (Spec.crashF dl n) 0 ∧ (∀ q, D' q → H.next ≤ q ∧ q < H'.next) ∧ Ext H H') := by
 have bd := rd.below _ rd.dp; have bdm := rd.below _ rd.dm; have zd := rd.kb
 refine spec_go2 E0_ok 65 (f := 14) Try.func14 rfl rfl rfl ?_
 refine aw_seq ?_
 refine aw_reg ?_
 refine st_op (ev_assign rfl) rfl rfl rfl ?_
 try show aw _ _ _ _ _ _
 iterate 2 refine aw_seq ?_
 refine aw_reg ?_
 refine st_op (ev_move rfl) rfl rfl rfl ?_
 refine st_op (ev_nilEq rfl rfl Try.underlying24) rfl rfl rfl ?_
 try show aw _ _ _ _ _ _
 refine aw_cond (t := false) rfl ?_
 try show aw _ _ _ _ _ _
 refine aw_skip ?_
 try show aw _ _ _ _ _ _
 refine aw_seq ?_
 refine aw_reg ?_
 refine st_call rfl rfl rfl ent10 rfl rfl rfl ?_
 obtain ⟨_, H1, hs2, d3, D4, rfl, ⟨mb8, ps9, hr10⟩, hD6, hx7⟩ := disk_New_spec H
 refine ⟨_, H1, hs2, ?_⟩
 have H1n : H.next ≤ H1.next := hx7.1
 have bd3 := hD6 _ hr10.dp; have bmb8 := hD6 _ hr10.dm
 refine st_op (ev_assign rfl) rfl rfl rfl ?_
 try show aw _ _ _ _ _ _
 iterate 2 refine aw_seq ?_
 refine aw_reg ?_
 refine st_op (ev_move rfl) rfl rfl rfl ?_
 refine st_call rfl rfl rfl ent15 rfl rfl rfl ?_
 have h17 := DiskR.ext rd hx7
 obtain ⟨_, H11, hs12, A13, c14, rfl, hm15, hx16⟩ := disk_NamesR_spec H1 d dm dD dl dp dk h17 (by omega) (by omega)
 refine ⟨_, H11, hs12, ?_⟩
 have H11n : H1.next ≤ H11.next := hx16.1
 have A13n := Spec.names_length dl
 refine st_op (ev_lenSl rfl Try.underlying33) rfl rfl rfl ?_
 refine st_op (ev_move rfl) rfl rfl rfl ?_
 try show aw _ _ _ _ _ _
 refine aw_block ?_
 have h19 := DiskR.ext hr10 hx16
 refine aw_keep [0, 1, 5, 14, 15, 16] (l' := (.cons 0 (.pointer (some ⟨d, 0, none⟩)) (.cons 1 (.int .i64 n) (.cons 5 (.pointer (some ⟨d3, 0, none⟩)) (.cons 14 (.slice A13 ((Spec.namesF dl).length) c14) (.cons 15 (.int .i64 ((Spec.namesF dl).length : Int)) (.cons 16 (.int .i64 0) .nil))))))) (by repeat (first | exact Up.done | refine Up.then ?_ | refine Up.inBlock ?_)) rfl ?_
 refine aw_iter (α := Nat × List Place × (Nat → Prop) × Heap) (fun a => (Spec.namesF dl).length - a.1) (fun a => (.cons 0 (.pointer (some ⟨d, 0, none⟩)) (.cons 1 (.int .i64 n) (.cons 5 (.pointer (some ⟨d3, 0, none⟩)) (.cons 14 (.slice A13 ((Spec.namesF dl).length) c14) (.cons 15 (.int .i64 ((Spec.namesF dl).length : Int)) (.cons 16 (.int .i64 (a.1 : Int)) .nil))))))) (fun a => a.2.2.2) (fun a => (a.1 ≤ (Spec.namesF dl).length) ∧ (DiskR a.2.2.1 a.2.2.2 d3 mb8 (((Spec.namesF dl).take a.1).filterMap (Spec.crash1 dl n)) a.2.1 0) ∧ (∀ q, a.2.2.1 q → D4 q ∨ (H11.next ≤ q ∧ q < a.2.2.2.next)) ∧ (Fr (fun q => (D4 q ∧ Z01 H11 q)) H11 a.2.2.2)) (0, ps9, D4, H11) ⟨(show 0 ≤ (Spec.namesF dl).length from Nat.zero_le _), (show DiskR D4 H11 d3 mb8 (((Spec.namesF dl).take 0).filterMap (Spec.crash1 dl n)) ps9 0 from h19), (show ∀ q, D4 q → D4 q ∨ (H11.next ≤ q ∧ q < H11.next) from (fun q e => .inl e)), (show Fr (fun q => (D4 q ∧ Z01 H11 q)) H11 H11 from (Fr.refl _ H11))⟩ ?_
 rintro ⟨i, ps2, D2, Hl18⟩ ⟨hi, hr20, hD21, hxl22⟩ ih23
 replace hi : i ≤ (Spec.namesF dl).length := hi
 replace hr20 : DiskR D2 Hl18 d3 mb8 (((Spec.namesF dl).take i).filterMap (Spec.crash1 dl n)) ps2 0 := hr20
 replace hD21 : ∀ q, D2 q → D4 q ∨ (H11.next ≤ q ∧ q < Hl18.next) := hD21
 replace hxl22 : Fr (fun q => (D4 q ∧ Z01 H11 q)) H11 Hl18 := hxl22
 show aw _ _ _ (RL _ (.cons 0 (.pointer (some ⟨d, 0, none⟩)) (.cons 1 (.int .i64 n) (.cons 5 (.pointer (some ⟨d3, 0, none⟩)) (.cons 14 (.slice A13 ((Spec.namesF dl).length) c14) (.cons 15 (.int .i64 ((Spec.namesF dl).length : Int)) (.cons 16 (.int .i64 (i : Int)) .nil))))))) Hl18 _
 have Hl18n : H11.next ≤ Hl18.next := hxl22.1
 have hD24 := fun q e => (hD21 q e).imp (hD6 q) id
 refine aw_seq ?_
 refine aw_reg ?_
 refine st_op (ev_int rfl rfl rfl) rfl rfl rfl ?_
 try show aw _ _ _ _ _ _
 refine aw_seq ?_
 by_cases hc25 : (decide ((i : Int) < ((Spec.namesF dl).length : Int))) = true
 ·
  refine aw_condT hc25 rfl ?_
  try show aw _ _ _ _ _ _
  have hc25 := of_decide_eq_true hc25
  refine aw_skip ?_
  try show aw _ _ _ _ _ _
  refine aw_seq ?_
  refine aw_block ?_
  refine aw_seq ?_
  refine aw_reg ?_
  have h26 := My.fr hm15 hxl22 (fun q h1 h2 e => by (first | omega | (replace e := hD6 _ e.1; omega)))
  have hi27 : 0 ≤ ((i : Int) : Int) := by omega
  have hi28 : ((i : Int) : Int) < (((Spec.namesF dl).length : Nat) : Int) := by first | omega | (simp only [List.length_append, List.length_cons, List.length_nil, List.length_map, List.length_set, List.length_replicate, Spec.bytesOf_length]; omega) | (simp; omega)
  obtain ⟨x29, hx30⟩ : ∃ e, (Spec.namesF dl)[i]? = some e := ⟨_, List.getElem?_eq_getElem (by first | omega | (simp only [List.length_append, List.length_cons, List.length_nil, List.length_map, List.length_set, List.length_replicate, Spec.bytesOf_length]; omega) | (simp; omega))⟩
  refine st_op (ev_at rfl rfl (My.row h26) (getMap strC hx30) (by first | rfl | omega | simp) hi27 hi28 el33) rfl rfl rfl ?_
  refine st_op (ev_atL rfl (My.row h26) (getMap strC hx30) one9 rfl) rfl rfl rfl ?_
  refine st_op (ev_assign rfl) rfl rfl rfl ?_
  try show aw _ _ _ _ _ _
  refine aw_seq ?_
  refine aw_reg ?_
  refine st_op (ev_move rfl) rfl rfl rfl ?_
  refine st_op (ev_nilCheck rfl) rfl rfl rfl ?_
  refine st_op (ev_fieldAddr rfl fa77_0 (o' := 0) rfl) rfl rfl rfl ?_
  have hx32 : Ext H Hl18 := (Ext.then (Ext.trans hx7 hx16) hxl22 (fun q hq e => by (first | omega | (replace e := hD6 _ e.1; omega))))
  have h31 := DiskR.ext rd hx32
  refine st_op (ev_load rfl (lvar_one one75 h31.blk rfl)) rfl rfl rfl ?_
  refine st_op (ev_move rfl) rfl rfl rfl ?_
  obtain ⟨fi33, hf34⟩ := Spec.names_get (l := dl) hx30
  obtain ⟨⟨b35, A36, c37⟩, hg38, z39⟩ := DiskR.found h31 hf34
  have b35l := rd.below _ z39.dom
  dsimp only at b35l hg38
  have z39n := z39.len; have z39lo := z39.lo; have z39hi := z39.hi; have z39b := z39.bytes; have z39B := z39.blk; have z39r := My.row z39.row; have z39c := My.capF z39.row (by omega)
  have z39s := name_size (DiskR.name_of h31 hx30)
  dsimp only at z39B z39r z39c
  refine st_op (ev_lookup ptrMap75 rfl rfl h31.mblk hg38) rfl rfl rfl ?_
  refine st_op (ev_assign rfl) rfl rfl rfl ?_
  try show aw _ _ _ _ _ _
  refine aw_seq ?_
  refine aw_reg ?_
  refine st_op (ev_move rfl) rfl rfl rfl ?_
  refine st_op (ev_nilCheck rfl) rfl rfl rfl ?_
  refine st_op (ev_fieldAddr rfl fa81_1 (o' := 1) rfl) rfl rfl rfl ?_
  refine st_op (ev_load rfl (lvar_one one3 z39B rfl)) rfl rfl rfl ?_
  refine st_op (ev_assign rfl) rfl rfl rfl ?_
  try show aw _ _ _ _ _ _
  iterate 2 refine aw_seq ?_
  refine aw_reg ?_
  refine st_op (ev_move rfl) rfl rfl rfl ?_
  refine st_op (ev_int rfl rfl rfl) rfl rfl rfl ?_
  try show aw _ _ _ _ _ _
  by_cases hc40 : (decide (n ≥ 0)) = true
  ·
   refine aw_condT hc40 rfl ?_
   try show aw _ _ _ _ _ _
   have hc40 := of_decide_eq_true hc40
   refine aw_reg ?_
   iterate 4 refine st_op (ev_move rfl) rfl rfl rfl ?_
   refine st_call rfl rfl rfl ent17 rfl rfl rfl ?_
   obtain ⟨_, H41, hs42, rfl, hq43, hq44, hx45⟩ := disk_Loose_spec Hl18 d dD dl dk ⟨_, _, h31⟩ (by omega) x29 (by omega)
   refine ⟨_, H41, hs42, ?_⟩
   have H41n : Hl18.next ≤ H41.next := hx45.1
   refine st_op (ev_int64 (c := (Spec.looseF dl x29) + 1) rfl rfl rfl (by omega) (by omega)) rfl rfl rfl ?_
   refine st_op (ev_rem (b := (Spec.looseF dl x29) + 1) rfl rfl (by omega)) rfl rfl rfl ?_
   generalize hr47 : (Int.tmod n ((Spec.looseF dl x29) + 1)) = rm46
   have hr47b := Spec.rem_bounds (by omega) hf34 z39hi hr47
   refine st_op (ev_int64 (c := fi33.lasts + rm46) rfl rfl rfl (by omega) (by omega)) rfl rfl rfl ?_
   refine st_op (ev_assign rfl) rfl rfl rfl ?_
   try show aw _ _ _ _ _ _
   refine aw_seq ?_
   refine aw_reg ?_
   refine st_op (ev_move rfl) rfl rfl rfl ?_
   refine st_op (ev_int rfl rfl rfl) rfl rfl rfl ?_
   refine st_op (ev_move rfl) rfl rfl rfl ?_
   refine st_bool 42 rfl (fun hb48 => ?_) (fun hb48 => ?_)
   ·
    have hb48 := of_decide_eq_true hb48
    iterate 4 refine st_skip rfl rfl rfl ?_
    refine st_op (ev_pickT rfl rfl) rfl rfl rfl ?_
    try show aw _ _ _ _ _ _
    refine aw_cond (t := true) rfl ?_
    try show aw _ _ _ _ _ _
    refine aw_marks (fun b => b < H41.next) [(false, false), (false, false), (false, false), (true, false), (false, false), (false, false), (false, false), (false, false), (false, false), (false, false), (false, false), (false, true), (false, false), (false, false), (false, true), (false, false)] mixed (by kernel_rfl) (by kernel_rfl) ?_
    refine sm_op (ev_move rfl) rfl rfl rfl ?_
    refine sm_op (ev_nilCheck rfl) rfl rfl rfl ?_
    refine sm_op (ev_fieldAddr rfl fa77_0 (o' := 0) rfl) rfl rfl rfl ?_
    have h49 := DiskR.ext hr20 hx45
    refine sm_read (ev_load rfl (lvar_one one75 h49.blk rfl)) rfl rfl rfl (fun b hb => by cases hb; dsimp only <;> omega) ?_
    iterate 2 refine sm_op (ev_move rfl) rfl rfl rfl ?_
    refine sm_op (ev_nilCheck rfl) rfl rfl rfl ?_
    refine sm_op (ev_fieldAddr rfl fa81_0 (o' := 0) rfl) rfl rfl rfl ?_
    have h50 := Ext.blk hx45 (by omega) z39B
    refine sm_op (ev_load rfl (lvar_one one26 h50 rfl)) rfl rfl rfl ?_
    refine sm_op (ev_move rfl) rfl rfl rfl ?_
    have h59 := Row.ext z39r hx45
    obtain ⟨A51, c52, L53, hL54, hl55, hs56, hr57, hc58⟩ := sliceA_typed u8c el26 (by decide) h59 z39c (lo := none) (hi := some (.int .i64 (fi33.lasts + rm46))) (l := 0) (h := ((fi33.lasts + rm46)).toNat) (by rw [Option.isSome_some, if_pos rfl]; exact bound_int (by first | omega | (simp only [List.length_append, List.length_cons, List.length_nil, List.length_map, List.length_set, List.length_replicate, Spec.bytesOf_length]; omega) | (simp; omega)) (by first | omega | (simp only [List.length_append, List.length_cons, List.length_nil, List.length_map, List.length_set, List.length_replicate, Spec.bytesOf_length]; omega) | (simp; omega)) (by first | rfl | omega)) rfl (by first | omega | (simp only [List.length_append, List.length_cons, List.length_nil, List.length_map, List.length_set, List.length_replicate, Spec.bytesOf_length]; omega) | (simp; omega)) (by first | omega | (simp only [List.length_append, List.length_cons, List.length_nil, List.length_map, List.length_set, List.length_replicate, Spec.bytesOf_length]; omega) | (simp; omega))
    refine sm_op (ev_slice rfl rfl rfl rfl hs56) rfl rfl rfl ?_
    have hL54b : Spec.Bytes L53 := by rw [hL54]; exact Spec.Bytes.take (Spec.Bytes.drop z39b _) _
    refine sm_call rfl rfl rfl ent33 rfl rfl rfl ?_
    obtain ⟨_, H61, hs60, A63, c64, hs60v, hm65, hx62⟩ := bytes_Clone_spec H41 A51 L53 c52 hr57 hc58 (by first | omega | (simp only [List.length_append, List.length_cons, List.length_nil, List.length_map, List.length_set, List.length_replicate, Spec.bytesOf_length]; omega) | (simp; omega))
    rw [hs60v] at hs60; clear hs60v
    refine ⟨_, H61, hs60, (fun _ b hb => hx62.2 b (by omega)), ?_⟩
    have H61n : H41.next ≤ H61.next := hx62.1
    refine sm_op (ev_move rfl) rfl rfl rfl ?_
    refine sm_op (ev_build zero81 pl81 (parts := [(0, .slice A63 L53.length c64), (1, .int .i64 (fi33.lasts + rm46)), (2, .bool true)]) rfl (cs := [.slice A63 L53.length c64, .int .i64 (fi33.lasts + rm46), .bool true]) rfl) rfl rfl rfl ?_
    obtain ⟨b66, H67, he68, b66e, H67n_, hB70, f69⟩ := mem_box (P := Try.prog) H61 (v := .agg #[.slice A63 L53.length c64, .int .i64 (fi33.lasts + rm46), .bool true]) (cs := [.slice A63 L53.length c64, .int .i64 (fi33.lasts + rm46), .bool true]) rfl rfl
    refine sm_act (he68 _ _ _ _ _ _ _ _ _ rfl) rfl rfl rfl (fun q hq => f69 q (by omega)) ?_
    have hx71 : Ext H61 H67 := Ext.new (by omega) H67n_ f69
    have H67n : H61.next ≤ H67.next := hx71.1
    have hx73 : Ext H41 H67 := (Ext.trans hx62 hx71)
    have h72 := DiskR.ext h49 hx73
    obtain ⟨H74, he75, H74n_, hB76, f77⟩ := mem_mapUpd (v := .pointer (some ⟨b66, 0, none⟩)) (s := x29) ptrMap75 h72.mblk (by omega)
    refine sm_op0 (he75 _ _ _ _ _ _ _ _ _ _ rfl rfl rfl) rfl rfl ?_
    have hf78 : Fr (fun q => q = mb8) H67 H74 := Fr.write H74n_ f77
    have H74n : H67.next ≤ H74.next := hf78.1
    have h79 := Fr.blk hf78 (by omega) (fun e => (by omega)) hB70
    have h80 := My.ext hm65 hx71
    have h81 := My.frS h80 hf78 (fun q hq e => ⟨_, e ▸ h72.mblk, show (0 : Nat) ≠ 1 by decide⟩)
    have hx83 : Ext H H74 := (Ext.then (Ext.trans (Ext.trans (Ext.trans hx32 hx45) hx62) hx71) hf78 (fun q hq e => by omega))
    have h82 := DiskR.ext rd hx83
    have hr84 := DiskR.put_new (f' := ⟨L53, fi33.lasts + rm46, true⟩) hr20 (Fr.transG (Fr.trans (Fr.trans (Fr.trans (Fr.refl (fun q => q = mb8) Hl18) (hx45.fr fun _ => False) (fun q hq (e : False) => e.elim)) (hx62.fr fun _ => False) (fun q hq (e : False) => e.elim)) (hx71.fr fun _ => False) (fun q hq (e : False) => e.elim)) hf78 (fun q hq hE e => (e))) hB76 ⟨by omega, by omega⟩ h79 h81 (by omega) (by assumption) (by dsimp only; omega) (by dsimp only; omega) (Spec.crash_new (DiskR.names_nodup h82) hx30) (DiskR.name_of h82 hx30)
    have hD85 : ∀ q, (grow D2 Hl18 H74) q → _ := fun q e => Or.imp (hD24 q) id e
    have hS86 : ∀ q, (grow D2 Hl18 H74) q → D4 q ∨ (H11.next ≤ q ∧ q < H74.next) := fun q e => e.elim (fun e => (hD21 q e).imp id (fun e => by omega)) (fun e => .inr (by omega))
    try show aw _ _ _ _ _ _
    refine aw_reg ?_
    refine st_op (ev_int64 (c := (i : Int) + 1) rfl rfl rfl (by omega) (by omega)) rfl rfl rfl ?_
    refine st_op (ev_move rfl) rfl rfl rfl ?_
    try show aw _ _ _ _ _ _
    refine aw_keep [0, 1, 5, 14, 15, 16] (l' := (.cons 0 (.pointer (some ⟨d, 0, none⟩)) (.cons 1 (.int .i64 n) (.cons 5 (.pointer (some ⟨d3, 0, none⟩)) (.cons 14 (.slice A13 ((Spec.namesF dl).length) c14) (.cons 15 (.int .i64 ((Spec.namesF dl).length : Int)) (.cons 16 (.int .i64 ((i : Int) + 1)) .nil))))))) (by repeat (first | exact Up.done | refine Up.then ?_ | refine Up.inBlock ?_)) rfl ?_
    have hkk : Spec.keepN fi33 n = fi33.lasts + rm46 := by first | exact Spec.keep_neg (by omega) | exact Spec.keep_eq (by omega) hf34 hr47
    exact ih23 (i + 1, (ps2 ++ [(b66, A63, c64)]), (grow D2 Hl18 H74), H74) ⟨(show (i + 1) ≤ (Spec.namesF dl).length from (by omega)), (show DiskR (grow D2 Hl18 H74) H74 d3 mb8 (((Spec.namesF dl).take (i + 1)).filterMap (Spec.crash1 dl n)) (ps2 ++ [(b66, A63, c64)]) 0 from (by rw [Spec.crash_step hx30, Spec.crash1_yes hf34 (by rw [hkk]; exact .inl (by omega)), hkk]; have h9 := hr84; rw [hL54] at h9; simpa using h9)), (show ∀ q, (grow D2 Hl18 H74) q → D4 q ∨ (H11.next ≤ q ∧ q < H74.next) from (fun q e => (hS86 q e).imp id (fun e => by omega))), (show Fr (fun q => (D4 q ∧ Z01 H11 q)) H11 H74 from (Fr.transG (Fr.trans (Fr.trans (Fr.trans (Fr.transG (Fr.refl (fun q => (D4 q ∧ Z01 H11 q)) H11) hxl22 (fun q hq hE e => (⟨e.1, Z01.back hE e.2⟩))) (hx45.fr fun _ => False) (fun q hq (e : False) => e.elim)) (hx62.fr fun _ => False) (fun q hq (e : False) => e.elim)) (hx71.fr fun _ => False) (fun q hq (e : False) => e.elim)) hf78 (fun q hq hE e => (e ▸ (DiskR.zm h19)))))⟩ (by simp only; omega)
   ·
    have hb48 := of_decide_eq_false hb48
    refine st_op (ev_move rfl) rfl rfl rfl ?_
    refine st_op (ev_nilCheck rfl) rfl rfl rfl ?_
    refine st_op (ev_fieldAddr rfl fa81_2 (o' := 2) rfl) rfl rfl rfl ?_
    have h87 := Ext.blk hx45 (by omega) z39B
    refine st_op (ev_load rfl (lvar_one one4 h87 rfl)) rfl rfl rfl ?_
    refine st_op (ev_pickF rfl rfl) rfl rfl rfl ?_
    try show aw _ _ _ _ _ _
    by_cases hc88 : fi33.there = true
    ·
     refine aw_condT hc88 rfl ?_
     try show aw _ _ _ _ _ _
     refine aw_marks (fun b => b < H41.next) [(false, false), (false, false), (false, false), (true, false), (false, false), (false, false), (false, false), (false, false), (false, false), (false, false), (false, false), (false, true), (false, false), (false, false), (false, true), (false, false)] mixed (by kernel_rfl) (by kernel_rfl) ?_
     refine sm_op (ev_move rfl) rfl rfl rfl ?_
     refine sm_op (ev_nilCheck rfl) rfl rfl rfl ?_
     refine sm_op (ev_fieldAddr rfl fa77_0 (o' := 0) rfl) rfl rfl rfl ?_
     have h89 := DiskR.ext hr20 hx45
     refine sm_read (ev_load rfl (lvar_one one75 h89.blk rfl)) rfl rfl rfl (fun b hb => by cases hb; dsimp only <;> omega) ?_
     iterate 2 refine sm_op (ev_move rfl) rfl rfl rfl ?_
     refine sm_op (ev_nilCheck rfl) rfl rfl rfl ?_
     refine sm_op (ev_fieldAddr rfl fa81_0 (o' := 0) rfl) rfl rfl rfl ?_
     refine sm_op (ev_load rfl (lvar_one one26 h87 rfl)) rfl rfl rfl ?_
     refine sm_op (ev_move rfl) rfl rfl rfl ?_
     have h98 := Row.ext z39r hx45
     obtain ⟨A90, c91, L92, hL93, hl94, hs95, hr96, hc97⟩ := sliceA_typed u8c el26 (by decide) h98 z39c (lo := none) (hi := some (.int .i64 (fi33.lasts + rm46))) (l := 0) (h := ((fi33.lasts + rm46)).toNat) (by rw [Option.isSome_some, if_pos rfl]; exact bound_int (by first | omega | (simp only [List.length_append, List.length_cons, List.length_nil, List.length_map, List.length_set, List.length_replicate, Spec.bytesOf_length]; omega) | (simp; omega)) (by first | omega | (simp only [List.length_append, List.length_cons, List.length_nil, List.length_map, List.length_set, List.length_replicate, Spec.bytesOf_length]; omega) | (simp; omega)) (by first | rfl | omega)) rfl (by first | omega | (simp only [List.length_append, List.length_cons, List.length_nil, List.length_map, List.length_set, List.length_replicate, Spec.bytesOf_length]; omega) | (simp; omega)) (by first | omega | (simp only [List.length_append, List.length_cons, List.length_nil, List.length_map, List.length_set, List.length_replicate, Spec.bytesOf_length]; omega) | (simp; omega))
     refine sm_op (ev_slice rfl rfl rfl rfl hs95) rfl rfl rfl ?_
     have hL93b : Spec.Bytes L92 := by rw [hL93]; exact Spec.Bytes.take (Spec.Bytes.drop z39b _) _
     refine sm_call rfl rfl rfl ent33 rfl rfl rfl ?_
     obtain ⟨_, H100, hs99, A102, c103, hs99v, hm104, hx101⟩ := bytes_Clone_spec H41 A90 L92 c91 hr96 hc97 (by first | omega | (simp only [List.length_append, List.length_cons, List.length_nil, List.length_map, List.length_set, List.length_replicate, Spec.bytesOf_length]; omega) | (simp; omega))
     rw [hs99v] at hs99; clear hs99v
     refine ⟨_, H100, hs99, (fun _ b hb => hx101.2 b (by omega)), ?_⟩
     have H100n : H41.next ≤ H100.next := hx101.1
     refine sm_op (ev_move rfl) rfl rfl rfl ?_
     refine sm_op (ev_build zero81 pl81 (parts := [(0, .slice A102 L92.length c103), (1, .int .i64 (fi33.lasts + rm46)), (2, .bool true)]) rfl (cs := [.slice A102 L92.length c103, .int .i64 (fi33.lasts + rm46), .bool true]) rfl) rfl rfl rfl ?_
     obtain ⟨b105, H106, he107, b105e, H106n_, hB109, f108⟩ := mem_box (P := Try.prog) H100 (v := .agg #[.slice A102 L92.length c103, .int .i64 (fi33.lasts + rm46), .bool true]) (cs := [.slice A102 L92.length c103, .int .i64 (fi33.lasts + rm46), .bool true]) rfl rfl
     refine sm_act (he107 _ _ _ _ _ _ _ _ _ rfl) rfl rfl rfl (fun q hq => f108 q (by omega)) ?_
     have hx110 : Ext H100 H106 := Ext.new (by omega) H106n_ f108
     have H106n : H100.next ≤ H106.next := hx110.1
     have hx112 : Ext H41 H106 := (Ext.trans hx101 hx110)
     have h111 := DiskR.ext h89 hx112
     obtain ⟨H113, he114, H113n_, hB115, f116⟩ := mem_mapUpd (v := .pointer (some ⟨b105, 0, none⟩)) (s := x29) ptrMap75 h111.mblk (by omega)
     refine sm_op0 (he114 _ _ _ _ _ _ _ _ _ _ rfl rfl rfl) rfl rfl ?_
     have hf117 : Fr (fun q => q = mb8) H106 H113 := Fr.write H113n_ f116
     have H113n : H106.next ≤ H113.next := hf117.1
     have h118 := Fr.blk hf117 (by omega) (fun e => (by omega)) hB109
     have h119 := My.ext hm104 hx110
     have h120 := My.frS h119 hf117 (fun q hq e => ⟨_, e ▸ h111.mblk, show (0 : Nat) ≠ 1 by decide⟩)
     have hx122 : Ext H H113 := (Ext.then (Ext.trans (Ext.trans (Ext.trans hx32 hx45) hx101) hx110) hf117 (fun q hq e => by omega))
     have h121 := DiskR.ext rd hx122
     have hr123 := DiskR.put_new (f' := ⟨L92, fi33.lasts + rm46, true⟩) hr20 (Fr.transG (Fr.trans (Fr.trans (Fr.trans (Fr.refl (fun q => q = mb8) Hl18) (hx45.fr fun _ => False) (fun q hq (e : False) => e.elim)) (hx101.fr fun _ => False) (fun q hq (e : False) => e.elim)) (hx110.fr fun _ => False) (fun q hq (e : False) => e.elim)) hf117 (fun q hq hE e => (e))) hB115 ⟨by omega, by omega⟩ h118 h120 (by omega) (by assumption) (by dsimp only; omega) (by dsimp only; omega) (Spec.crash_new (DiskR.names_nodup h121) hx30) (DiskR.name_of h121 hx30)
     have hD124 : ∀ q, (grow D2 Hl18 H113) q → _ := fun q e => Or.imp (hD24 q) id e
     have hS125 : ∀ q, (grow D2 Hl18 H113) q → D4 q ∨ (H11.next ≤ q ∧ q < H113.next) := fun q e => e.elim (fun e => (hD21 q e).imp id (fun e => by omega)) (fun e => .inr (by omega))
     try show aw _ _ _ _ _ _
     refine aw_reg ?_
     refine st_op (ev_int64 (c := (i : Int) + 1) rfl rfl rfl (by omega) (by omega)) rfl rfl rfl ?_
     refine st_op (ev_move rfl) rfl rfl rfl ?_
     try show aw _ _ _ _ _ _
     refine aw_keep [0, 1, 5, 14, 15, 16] (l' := (.cons 0 (.pointer (some ⟨d, 0, none⟩)) (.cons 1 (.int .i64 n) (.cons 5 (.pointer (some ⟨d3, 0, none⟩)) (.cons 14 (.slice A13 ((Spec.namesF dl).length) c14) (.cons 15 (.int .i64 ((Spec.namesF dl).length : Int)) (.cons 16 (.int .i64 ((i : Int) + 1)) .nil))))))) (by repeat (first | exact Up.done | refine Up.then ?_ | refine Up.inBlock ?_)) rfl ?_
     have hkk : Spec.keepN fi33 n = fi33.lasts + rm46 := by first | exact Spec.keep_neg (by omega) | exact Spec.keep_eq (by omega) hf34 hr47
     exact ih23 (i + 1, (ps2 ++ [(b105, A102, c103)]), (grow D2 Hl18 H113), H113) ⟨(show (i + 1) ≤ (Spec.namesF dl).length from (by omega)), (show DiskR (grow D2 Hl18 H113) H113 d3 mb8 (((Spec.namesF dl).take (i + 1)).filterMap (Spec.crash1 dl n)) (ps2 ++ [(b105, A102, c103)]) 0 from (by rw [Spec.crash_step hx30, Spec.crash1_yes hf34 (by rw [hkk]; exact .inr hc88), hkk]; have h9 := hr123; rw [hL93] at h9; simpa using h9)), (show ∀ q, (grow D2 Hl18 H113) q → D4 q ∨ (H11.next ≤ q ∧ q < H113.next) from (fun q e => (hS125 q e).imp id (fun e => by omega))), (show Fr (fun q => (D4 q ∧ Z01 H11 q)) H11 H113 from (Fr.transG (Fr.trans (Fr.trans (Fr.trans (Fr.transG (Fr.refl (fun q => (D4 q ∧ Z01 H11 q)) H11) hxl22 (fun q hq hE e => (⟨e.1, Z01.back hE e.2⟩))) (hx45.fr fun _ => False) (fun q hq (e : False) => e.elim)) (hx101.fr fun _ => False) (fun q hq (e : False) => e.elim)) (hx110.fr fun _ => False) (fun q hq (e : False) => e.elim)) hf117 (fun q hq hE e => (e ▸ (DiskR.zm h19)))))⟩ (by simp only; omega)
    ·
     rw [Bool.not_eq_true] at hc88; refine aw_condF hc88 rfl ?_
     try show aw _ _ _ _ _ _
     refine aw_skip ?_
     try show aw _ _ _ _ _ _
     refine aw_reg ?_
     refine st_op (ev_int64 (c := (i : Int) + 1) rfl rfl rfl (by omega) (by omega)) rfl rfl rfl ?_
     refine st_op (ev_move rfl) rfl rfl rfl ?_
     try show aw _ _ _ _ _ _
     have h126 := DiskR.ext hr20 hx45
     refine aw_keep [0, 1, 5, 14, 15, 16] (l' := (.cons 0 (.pointer (some ⟨d, 0, none⟩)) (.cons 1 (.int .i64 n) (.cons 5 (.pointer (some ⟨d3, 0, none⟩)) (.cons 14 (.slice A13 ((Spec.namesF dl).length) c14) (.cons 15 (.int .i64 ((Spec.namesF dl).length : Int)) (.cons 16 (.int .i64 ((i : Int) + 1)) .nil))))))) (by repeat (first | exact Up.done | refine Up.then ?_ | refine Up.inBlock ?_)) rfl ?_
     have hkk : Spec.keepN fi33 n = fi33.lasts + rm46 := by first | exact Spec.keep_neg (by omega) | exact Spec.keep_eq (by omega) hf34 hr47
     exact ih23 (i + 1, ps2, D2, H41) ⟨(show (i + 1) ≤ (Spec.namesF dl).length from (by omega)), (show DiskR D2 H41 d3 mb8 (((Spec.namesF dl).take (i + 1)).filterMap (Spec.crash1 dl n)) ps2 0 from (by rw [Spec.crash_step hx30, Spec.crash1_no hf34 (by rw [hkk]; rintro (h | h) <;> first | omega | simp_all)]; simpa using h126)), (show ∀ q, D2 q → D4 q ∨ (H11.next ≤ q ∧ q < H41.next) from (fun q e => (hD21 q e).imp id (fun e => by omega))), (show Fr (fun q => (D4 q ∧ Z01 H11 q)) H11 H41 from (Fr.trans (Fr.transG (Fr.refl (fun q => (D4 q ∧ Z01 H11 q)) H11) hxl22 (fun q hq hE e => (⟨e.1, Z01.back hE e.2⟩))) (hx45.fr fun _ => False) (fun q hq (e : False) => e.elim)))⟩ (by simp only; omega)
  ·
   rw [Bool.not_eq_true] at hc40; refine aw_condF hc40 rfl ?_
   try show aw _ _ _ _ _ _
   have hc40 := of_decide_eq_false hc40
   refine aw_skip ?_
   try show aw _ _ _ _ _ _
   refine aw_seq ?_
   refine aw_reg ?_
   refine st_op (ev_move rfl) rfl rfl rfl ?_
   refine st_op (ev_int rfl rfl rfl) rfl rfl rfl ?_
   refine st_op (ev_move rfl) rfl rfl rfl ?_
   refine st_bool 42 rfl (fun hb127 => ?_) (fun hb127 => ?_)
   ·
    have hb127 := of_decide_eq_true hb127
    iterate 4 refine st_skip rfl rfl rfl ?_
    refine st_op (ev_pickT rfl rfl) rfl rfl rfl ?_
    try show aw _ _ _ _ _ _
    refine aw_cond (t := true) rfl ?_
    try show aw _ _ _ _ _ _
    refine aw_marks (fun b => b < Hl18.next) [(false, false), (false, false), (false, false), (true, false), (false, false), (false, false), (false, false), (false, false), (false, false), (false, false), (false, false), (false, true), (false, false), (false, false), (false, true), (false, false)] mixed (by kernel_rfl) (by kernel_rfl) ?_
    refine sm_op (ev_move rfl) rfl rfl rfl ?_
    refine sm_op (ev_nilCheck rfl) rfl rfl rfl ?_
    refine sm_op (ev_fieldAddr rfl fa77_0 (o' := 0) rfl) rfl rfl rfl ?_
    refine sm_read (ev_load rfl (lvar_one one75 hr20.blk rfl)) rfl rfl rfl (fun b hb => by cases hb; dsimp only <;> omega) ?_
    iterate 2 refine sm_op (ev_move rfl) rfl rfl rfl ?_
    refine sm_op (ev_nilCheck rfl) rfl rfl rfl ?_
    refine sm_op (ev_fieldAddr rfl fa81_0 (o' := 0) rfl) rfl rfl rfl ?_
    refine sm_op (ev_load rfl (lvar_one one26 z39B rfl)) rfl rfl rfl ?_
    refine sm_op (ev_move rfl) rfl rfl rfl ?_
    obtain ⟨A128, c129, L130, hL131, hl132, hs133, hr134, hc135⟩ := sliceA_typed u8c el26 (by decide) z39r z39c (lo := none) (hi := some (.int .i64 fi33.lasts)) (l := 0) (h := (fi33.lasts).toNat) (by rw [Option.isSome_some, if_pos rfl]; exact bound_int (by first | omega | (simp only [List.length_append, List.length_cons, List.length_nil, List.length_map, List.length_set, List.length_replicate, Spec.bytesOf_length]; omega) | (simp; omega)) (by first | omega | (simp only [List.length_append, List.length_cons, List.length_nil, List.length_map, List.length_set, List.length_replicate, Spec.bytesOf_length]; omega) | (simp; omega)) (by first | rfl | omega)) rfl (by first | omega | (simp only [List.length_append, List.length_cons, List.length_nil, List.length_map, List.length_set, List.length_replicate, Spec.bytesOf_length]; omega) | (simp; omega)) (by first | omega | (simp only [List.length_append, List.length_cons, List.length_nil, List.length_map, List.length_set, List.length_replicate, Spec.bytesOf_length]; omega) | (simp; omega))
    refine sm_op (ev_slice rfl rfl rfl rfl hs133) rfl rfl rfl ?_
    have hL131b : Spec.Bytes L130 := by rw [hL131]; exact Spec.Bytes.take (Spec.Bytes.drop z39b _) _
    refine sm_call rfl rfl rfl ent33 rfl rfl rfl ?_
    obtain ⟨_, H137, hs136, A139, c140, hs136v, hm141, hx138⟩ := bytes_Clone_spec Hl18 A128 L130 c129 hr134 hc135 (by first | omega | (simp only [List.length_append, List.length_cons, List.length_nil, List.length_map, List.length_set, List.length_replicate, Spec.bytesOf_length]; omega) | (simp; omega))
    rw [hs136v] at hs136; clear hs136v
    refine ⟨_, H137, hs136, (fun _ b hb => hx138.2 b (by omega)), ?_⟩
    have H137n : Hl18.next ≤ H137.next := hx138.1
    refine sm_op (ev_move rfl) rfl rfl rfl ?_
    refine sm_op (ev_build zero81 pl81 (parts := [(0, .slice A139 L130.length c140), (1, .int .i64 fi33.lasts), (2, .bool true)]) rfl (cs := [.slice A139 L130.length c140, .int .i64 fi33.lasts, .bool true]) rfl) rfl rfl rfl ?_
    obtain ⟨b142, H143, he144, b142e, H143n_, hB146, f145⟩ := mem_box (P := Try.prog) H137 (v := .agg #[.slice A139 L130.length c140, .int .i64 fi33.lasts, .bool true]) (cs := [.slice A139 L130.length c140, .int .i64 fi33.lasts, .bool true]) rfl rfl
    refine sm_act (he144 _ _ _ _ _ _ _ _ _ rfl) rfl rfl rfl (fun q hq => f145 q (by omega)) ?_
    have hx147 : Ext H137 H143 := Ext.new (by omega) H143n_ f145
    have H143n : H137.next ≤ H143.next := hx147.1
    have hx149 : Ext Hl18 H143 := (Ext.trans hx138 hx147)
    have h148 := DiskR.ext hr20 hx149
    obtain ⟨H150, he151, H150n_, hB152, f153⟩ := mem_mapUpd (v := .pointer (some ⟨b142, 0, none⟩)) (s := x29) ptrMap75 h148.mblk (by omega)
    refine sm_op0 (he151 _ _ _ _ _ _ _ _ _ _ rfl rfl rfl) rfl rfl ?_
    have hf154 : Fr (fun q => q = mb8) H143 H150 := Fr.write H150n_ f153
    have H150n : H143.next ≤ H150.next := hf154.1
    have h155 := Fr.blk hf154 (by omega) (fun e => (by omega)) hB146
    have h156 := My.ext hm141 hx147
    have h157 := My.frS h156 hf154 (fun q hq e => ⟨_, e ▸ h148.mblk, show (0 : Nat) ≠ 1 by decide⟩)
    have hx159 : Ext H H150 := (Ext.then (Ext.trans (Ext.trans hx32 hx138) hx147) hf154 (fun q hq e => by omega))
    have h158 := DiskR.ext rd hx159
    have hr160 := DiskR.put_new (f' := ⟨L130, fi33.lasts, true⟩) hr20 (Fr.transG (Fr.trans (Fr.trans (Fr.refl (fun q => q = mb8) Hl18) (hx138.fr fun _ => False) (fun q hq (e : False) => e.elim)) (hx147.fr fun _ => False) (fun q hq (e : False) => e.elim)) hf154 (fun q hq hE e => (e))) hB152 ⟨by omega, by omega⟩ h155 h157 (by omega) (by assumption) (by dsimp only; omega) (by dsimp only; omega) (Spec.crash_new (DiskR.names_nodup h158) hx30) (DiskR.name_of h158 hx30)
    have hD161 : ∀ q, (grow D2 Hl18 H150) q → _ := fun q e => Or.imp (hD24 q) id e
    have hS162 : ∀ q, (grow D2 Hl18 H150) q → D4 q ∨ (H11.next ≤ q ∧ q < H150.next) := fun q e => e.elim (fun e => (hD21 q e).imp id (fun e => by omega)) (fun e => .inr (by omega))
    try show aw _ _ _ _ _ _
    refine aw_reg ?_
    refine st_op (ev_int64 (c := (i : Int) + 1) rfl rfl rfl (by omega) (by omega)) rfl rfl rfl ?_
    refine st_op (ev_move rfl) rfl rfl rfl ?_
    try show aw _ _ _ _ _ _
    refine aw_keep [0, 1, 5, 14, 15, 16] (l' := (.cons 0 (.pointer (some ⟨d, 0, none⟩)) (.cons 1 (.int .i64 n) (.cons 5 (.pointer (some ⟨d3, 0, none⟩)) (.cons 14 (.slice A13 ((Spec.namesF dl).length) c14) (.cons 15 (.int .i64 ((Spec.namesF dl).length : Int)) (.cons 16 (.int .i64 ((i : Int) + 1)) .nil))))))) (by repeat (first | exact Up.done | refine Up.then ?_ | refine Up.inBlock ?_)) rfl ?_
    have hkk : Spec.keepN fi33 n = fi33.lasts := by first | exact Spec.keep_neg (by omega) | exact Spec.keep_eq (by omega) hf34 rfl
    exact ih23 (i + 1, (ps2 ++ [(b142, A139, c140)]), (grow D2 Hl18 H150), H150) ⟨(show (i + 1) ≤ (Spec.namesF dl).length from (by omega)), (show DiskR (grow D2 Hl18 H150) H150 d3 mb8 (((Spec.namesF dl).take (i + 1)).filterMap (Spec.crash1 dl n)) (ps2 ++ [(b142, A139, c140)]) 0 from (by rw [Spec.crash_step hx30, Spec.crash1_yes hf34 (by rw [hkk]; exact .inl (by omega)), hkk]; have h9 := hr160; rw [hL131] at h9; simpa using h9)), (show ∀ q, (grow D2 Hl18 H150) q → D4 q ∨ (H11.next ≤ q ∧ q < H150.next) from (fun q e => (hS162 q e).imp id (fun e => by omega))), (show Fr (fun q => (D4 q ∧ Z01 H11 q)) H11 H150 from (Fr.transG (Fr.trans (Fr.trans (Fr.transG (Fr.refl (fun q => (D4 q ∧ Z01 H11 q)) H11) hxl22 (fun q hq hE e => (⟨e.1, Z01.back hE e.2⟩))) (hx138.fr fun _ => False) (fun q hq (e : False) => e.elim)) (hx147.fr fun _ => False) (fun q hq (e : False) => e.elim)) hf154 (fun q hq hE e => (e ▸ (DiskR.zm h19)))))⟩ (by simp only; omega)
   ·
    have hb127 := of_decide_eq_false hb127
    refine st_op (ev_move rfl) rfl rfl rfl ?_
    refine st_op (ev_nilCheck rfl) rfl rfl rfl ?_
    refine st_op (ev_fieldAddr rfl fa81_2 (o' := 2) rfl) rfl rfl rfl ?_
    refine st_op (ev_load rfl (lvar_one one4 z39B rfl)) rfl rfl rfl ?_
    refine st_op (ev_pickF rfl rfl) rfl rfl rfl ?_
    try show aw _ _ _ _ _ _
    by_cases hc163 : fi33.there = true
    ·
     refine aw_condT hc163 rfl ?_
     try show aw _ _ _ _ _ _
     refine aw_marks (fun b => b < Hl18.next) [(false, false), (false, false), (false, false), (true, false), (false, false), (false, false), (false, false), (false, false), (false, false), (false, false), (false, false), (false, true), (false, false), (false, false), (false, true), (false, false)] mixed (by kernel_rfl) (by kernel_rfl) ?_
     refine sm_op (ev_move rfl) rfl rfl rfl ?_
     refine sm_op (ev_nilCheck rfl) rfl rfl rfl ?_
     refine sm_op (ev_fieldAddr rfl fa77_0 (o' := 0) rfl) rfl rfl rfl ?_
     refine sm_read (ev_load rfl (lvar_one one75 hr20.blk rfl)) rfl rfl rfl (fun b hb => by cases hb; dsimp only <;> omega) ?_
     iterate 2 refine sm_op (ev_move rfl) rfl rfl rfl ?_
     refine sm_op (ev_nilCheck rfl) rfl rfl rfl ?_
     refine sm_op (ev_fieldAddr rfl fa81_0 (o' := 0) rfl) rfl rfl rfl ?_
     refine sm_op (ev_load rfl (lvar_one one26 z39B rfl)) rfl rfl rfl ?_
     refine sm_op (ev_move rfl) rfl rfl rfl ?_
     obtain ⟨A164, c165, L166, hL167, hl168, hs169, hr170, hc171⟩ := sliceA_typed u8c el26 (by decide) z39r z39c (lo := none) (hi := some (.int .i64 fi33.lasts)) (l := 0) (h := (fi33.lasts).toNat) (by rw [Option.isSome_some, if_pos rfl]; exact bound_int (by first | omega | (simp only [List.length_append, List.length_cons, List.length_nil, List.length_map, List.length_set, List.length_replicate, Spec.bytesOf_length]; omega) | (simp; omega)) (by first | omega | (simp only [List.length_append, List.length_cons, List.length_nil, List.length_map, List.length_set, List.length_replicate, Spec.bytesOf_length]; omega) | (simp; omega)) (by first | rfl | omega)) rfl (by first | omega | (simp only [List.length_append, List.length_cons, List.length_nil, List.length_map, List.length_set, List.length_replicate, Spec.bytesOf_length]; omega) | (simp; omega)) (by first | omega | (simp only [List.length_append, List.length_cons, List.length_nil, List.length_map, List.length_set, List.length_replicate, Spec.bytesOf_length]; omega) | (simp; omega))
     refine sm_op (ev_slice rfl rfl rfl rfl hs169) rfl rfl rfl ?_
     have hL167b : Spec.Bytes L166 := by rw [hL167]; exact Spec.Bytes.take (Spec.Bytes.drop z39b _) _
     refine sm_call rfl rfl rfl ent33 rfl rfl rfl ?_
     obtain ⟨_, H173, hs172, A175, c176, hs172v, hm177, hx174⟩ := bytes_Clone_spec Hl18 A164 L166 c165 hr170 hc171 (by first | omega | (simp only [List.length_append, List.length_cons, List.length_nil, List.length_map, List.length_set, List.length_replicate, Spec.bytesOf_length]; omega) | (simp; omega))
     rw [hs172v] at hs172; clear hs172v
     refine ⟨_, H173, hs172, (fun _ b hb => hx174.2 b (by omega)), ?_⟩
     have H173n : Hl18.next ≤ H173.next := hx174.1
     refine sm_op (ev_move rfl) rfl rfl rfl ?_
     refine sm_op (ev_build zero81 pl81 (parts := [(0, .slice A175 L166.length c176), (1, .int .i64 fi33.lasts), (2, .bool true)]) rfl (cs := [.slice A175 L166.length c176, .int .i64 fi33.lasts, .bool true]) rfl) rfl rfl rfl ?_
     obtain ⟨b178, H179, he180, b178e, H179n_, hB182, f181⟩ := mem_box (P := Try.prog) H173 (v := .agg #[.slice A175 L166.length c176, .int .i64 fi33.lasts, .bool true]) (cs := [.slice A175 L166.length c176, .int .i64 fi33.lasts, .bool true]) rfl rfl
     refine sm_act (he180 _ _ _ _ _ _ _ _ _ rfl) rfl rfl rfl (fun q hq => f181 q (by omega)) ?_
     have hx183 : Ext H173 H179 := Ext.new (by omega) H179n_ f181
     have H179n : H173.next ≤ H179.next := hx183.1
     have hx185 : Ext Hl18 H179 := (Ext.trans hx174 hx183)
     have h184 := DiskR.ext hr20 hx185
     obtain ⟨H186, he187, H186n_, hB188, f189⟩ := mem_mapUpd (v := .pointer (some ⟨b178, 0, none⟩)) (s := x29) ptrMap75 h184.mblk (by omega)
     refine sm_op0 (he187 _ _ _ _ _ _ _ _ _ _ rfl rfl rfl) rfl rfl ?_
     have hf190 : Fr (fun q => q = mb8) H179 H186 := Fr.write H186n_ f189
     have H186n : H179.next ≤ H186.next := hf190.1
     have h191 := Fr.blk hf190 (by omega) (fun e => (by omega)) hB182
     have h192 := My.ext hm177 hx183
     have h193 := My.frS h192 hf190 (fun q hq e => ⟨_, e ▸ h184.mblk, show (0 : Nat) ≠ 1 by decide⟩)
     have hx195 : Ext H H186 := (Ext.then (Ext.trans (Ext.trans hx32 hx174) hx183) hf190 (fun q hq e => by omega))
     have h194 := DiskR.ext rd hx195
     have hr196 := DiskR.put_new (f' := ⟨L166, fi33.lasts, true⟩) hr20 (Fr.transG (Fr.trans (Fr.trans (Fr.refl (fun q => q = mb8) Hl18) (hx174.fr fun _ => False) (fun q hq (e : False) => e.elim)) (hx183.fr fun _ => False) (fun q hq (e : False) => e.elim)) hf190 (fun q hq hE e => (e))) hB188 ⟨by omega, by omega⟩ h191 h193 (by omega) (by assumption) (by dsimp only; omega) (by dsimp only; omega) (Spec.crash_new (DiskR.names_nodup h194) hx30) (DiskR.name_of h194 hx30)
     have hD197 : ∀ q, (grow D2 Hl18 H186) q → _ := fun q e => Or.imp (hD24 q) id e
     have hS198 : ∀ q, (grow D2 Hl18 H186) q → D4 q ∨ (H11.next ≤ q ∧ q < H186.next) := fun q e => e.elim (fun e => (hD21 q e).imp id (fun e => by omega)) (fun e => .inr (by omega))
     try show aw _ _ _ _ _ _
     refine aw_reg ?_
     refine st_op (ev_int64 (c := (i : Int) + 1) rfl rfl rfl (by omega) (by omega)) rfl rfl rfl ?_
     refine st_op (ev_move rfl) rfl rfl rfl ?_
     try show aw _ _ _ _ _ _
     refine aw_keep [0, 1, 5, 14, 15, 16] (l' := (.cons 0 (.pointer (some ⟨d, 0, none⟩)) (.cons 1 (.int .i64 n) (.cons 5 (.pointer (some ⟨d3, 0, none⟩)) (.cons 14 (.slice A13 ((Spec.namesF dl).length) c14) (.cons 15 (.int .i64 ((Spec.namesF dl).length : Int)) (.cons 16 (.int .i64 ((i : Int) + 1)) .nil))))))) (by repeat (first | exact Up.done | refine Up.then ?_ | refine Up.inBlock ?_)) rfl ?_
     have hkk : Spec.keepN fi33 n = fi33.lasts := by first | exact Spec.keep_neg (by omega) | exact Spec.keep_eq (by omega) hf34 rfl
     exact ih23 (i + 1, (ps2 ++ [(b178, A175, c176)]), (grow D2 Hl18 H186), H186) ⟨(show (i + 1) ≤ (Spec.namesF dl).length from (by omega)), (show DiskR (grow D2 Hl18 H186) H186 d3 mb8 (((Spec.namesF dl).take (i + 1)).filterMap (Spec.crash1 dl n)) (ps2 ++ [(b178, A175, c176)]) 0 from (by rw [Spec.crash_step hx30, Spec.crash1_yes hf34 (by rw [hkk]; exact .inr hc163), hkk]; have h9 := hr196; rw [hL167] at h9; simpa using h9)), (show ∀ q, (grow D2 Hl18 H186) q → D4 q ∨ (H11.next ≤ q ∧ q < H186.next) from (fun q e => (hS198 q e).imp id (fun e => by omega))), (show Fr (fun q => (D4 q ∧ Z01 H11 q)) H11 H186 from (Fr.transG (Fr.trans (Fr.trans (Fr.transG (Fr.refl (fun q => (D4 q ∧ Z01 H11 q)) H11) hxl22 (fun q hq hE e => (⟨e.1, Z01.back hE e.2⟩))) (hx174.fr fun _ => False) (fun q hq (e : False) => e.elim)) (hx183.fr fun _ => False) (fun q hq (e : False) => e.elim)) hf190 (fun q hq hE e => (e ▸ (DiskR.zm h19)))))⟩ (by simp only; omega)
    ·
     rw [Bool.not_eq_true] at hc163; refine aw_condF hc163 rfl ?_
     try show aw _ _ _ _ _ _
     refine aw_skip ?_
     try show aw _ _ _ _ _ _
     refine aw_reg ?_
     refine st_op (ev_int64 (c := (i : Int) + 1) rfl rfl rfl (by omega) (by omega)) rfl rfl rfl ?_
     refine st_op (ev_move rfl) rfl rfl rfl ?_
     try show aw _ _ _ _ _ _
     refine aw_keep [0, 1, 5, 14, 15, 16] (l' := (.cons 0 (.pointer (some ⟨d, 0, none⟩)) (.cons 1 (.int .i64 n) (.cons 5 (.pointer (some ⟨d3, 0, none⟩)) (.cons 14 (.slice A13 ((Spec.namesF dl).length) c14) (.cons 15 (.int .i64 ((Spec.namesF dl).length : Int)) (.cons 16 (.int .i64 ((i : Int) + 1)) .nil))))))) (by repeat (first | exact Up.done | refine Up.then ?_ | refine Up.inBlock ?_)) rfl ?_
     have hkk : Spec.keepN fi33 n = fi33.lasts := by first | exact Spec.keep_neg (by omega) | exact Spec.keep_eq (by omega) hf34 rfl
     exact ih23 (i + 1, ps2, D2, Hl18) ⟨(show (i + 1) ≤ (Spec.namesF dl).length from (by omega)), (show DiskR D2 Hl18 d3 mb8 (((Spec.namesF dl).take (i + 1)).filterMap (Spec.crash1 dl n)) ps2 0 from (by rw [Spec.crash_step hx30, Spec.crash1_no hf34 (by rw [hkk]; rintro (h | h) <;> first | omega | simp_all)]; simpa using hr20)), (show ∀ q, D2 q → D4 q ∨ (H11.next ≤ q ∧ q < Hl18.next) from (fun q e => (hD21 q e).imp id (fun e => by omega))), (show Fr (fun q => (D4 q ∧ Z01 H11 q)) H11 Hl18 from (Fr.transG (Fr.refl (fun q => (D4 q ∧ Z01 H11 q)) H11) hxl22 (fun q hq hE e => (⟨e.1, Z01.back hE e.2⟩))))⟩ (by simp only; omega)
 ·
  rw [Bool.not_eq_true] at hc25; refine aw_condF hc25 rfl ?_
  try show aw _ _ _ _ _ _
  have hc25 := of_decide_eq_false hc25
  refine aw_exit ?_
  try show aw _ _ _ _ _ _
  refine aw_seq ?_
  refine aw_reg ?_
  refine st_op (ev_move rfl) rfl rfl rfl ?_
  refine st_op (ev_assign rfl) rfl rfl rfl ?_
  try show aw _ _ _ _ _ _
  refine aw_ret ?_
  have hres : ((Spec.namesF dl).take i).filterMap (Spec.crash1 dl n) = Spec.crashF dl n := by unfold Spec.crashF; rw [List.take_of_length_le (by omega)]
  rw [hres] at hr20
  have hx199 : Ext H Hl18 := (Ext.then (Ext.trans hx7 hx16) hxl22 (fun q hq e => by (first | omega | (replace e := hD6 _ e.1; omega))))
  exact ⟨_, rfl, d3, D2, rfl, ⟨_, _, hr20⟩, (fun q e => by have e := hD24 q e; omega), hx199⟩






end Go.AM
